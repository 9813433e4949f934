/- Joined texts. -/
import Derived.Test.YtgaicbodpneeoaaSkBigP5
import Derived.Test.YtgaicbodpneeoaaSkBigP7
import Derived.Test.YtgaicbodpneeoaaSkPRasterImagesx0
import Derived.Test.YtgaicbodpneeoaaSkZFr
import Derived.Test.YtgaicbodpneeoaaJA
import Derived.RowKit
import Derived.RowKit3
import Derived.WideLaws
import Derived.WalkLawsBesides
import Derived.WalkSpells
import Derived.Lib.Hide
import Derived.Outline
import Derived.WalkKit
/- What is used of BigV. -/
namespace Go.Proofs.Ytgaicbodpneeoaa.Big
def val : List Int → Int
  | [] => 0
  | d :: l => d + 65536 * val l
def Dig (l : List Int) : Prop := ∀ d ∈ l, 0 ≤ d ∧ d < 65536
theorem Dig.tail {d : Int} {l : List Int} (h : Dig (d :: l)) : Dig l := fun x hx => h x (List.mem_cons_of_mem _ hx)
theorem Dig.head {d : Int} {l : List Int} (h : Dig (d :: l)) : 0 ≤ d ∧ d < 65536 := h d (List.mem_cons_self ..)
theorem Dig.append {a b : List Int} (h : Dig a) (k : Dig b) : Dig (a ++ b) := fun x hx => by rcases List.mem_append.1 hx with hx | hx; exact h x hx; exact k x hx
theorem Dig.one {d : Int} (h : 0 ≤ d ∧ d < 65536) : Dig [d] := fun x hx => by simp at hx; subst hx; exact h
theorem Dig.cons {d : Int} {l : List Int} (h : 0 ≤ d ∧ d < 65536) (k : Dig l) : Dig (d :: l) := fun x hx => by rcases List.mem_cons.1 hx with rfl | hx; exact h; exact k x hx
theorem Dig.nil : Dig [] := fun x hx => by simp at hx
theorem Dig.take {l : List Int} (h : Dig l) (n : Nat) : Dig (l.take n) := fun x hx => h x (List.mem_of_mem_take hx)
theorem Dig.get {l : List Int} (h : Dig l) {i : Nat} (hi : i < l.length) : 0 ≤ l[i] ∧ l[i] < 65536 := h _ (List.getElem_mem hi)
theorem val_nonneg : ∀ {l : List Int}, Dig l → 0 ≤ val l
  | [], _ => by simp [val]
  | d :: l, h => by have := val_nonneg h.tail; have := h.head; simp only [val]; omega
theorem val_append (a b : List Int) : val (a ++ b) = val a + 65536 ^ a.length * val b := by
  induction a with
  | nil => simp [val]
  | cons d l ih => simp only [List.cons_append, val, ih, List.length_cons, Int.pow_succ]; rw [Int.mul_add, ← Int.mul_assoc, Int.mul_comm 65536 (65536 ^ _), Int.add_assoc]
theorem val_snoc (a : List Int) (d : Int) : val (a ++ [d]) = val a + 65536 ^ a.length * d := by rw [val_append]; simp [val]
theorem pow_pos (n : Nat) : (0 : Int) < 65536 ^ n := Int.pow_pos (by omega)
theorem val_lt : ∀ {l : List Int}, Dig l → val l < 65536 ^ l.length
  | [], _ => by simp [val]
  | d :: l, h => by
    have := val_lt h.tail; have := h.head; simp only [val, List.length_cons, Int.pow_succ]
    rw [Int.mul_comm (65536 ^ _)]
    omega
/-- No nought at the end. -/
def Nrm (l : List Int) : Prop := Dig l ∧ ∀ d, l.getLast? = some d → d ≠ 0
theorem Nrm.nil : Nrm [] := ⟨Dig.nil, by simp⟩
theorem nrm_pos : ∀ {l : List Int}, Nrm l → l ≠ [] → 65536 ^ (l.length - 1) ≤ val l
  | [], _, h => absurd rfl h
  | [d], h, _ => by
    have := h.1.head; have := h.2 d rfl; simp [val]; omega
  | d :: e :: l, h, _ => by
    have hh : Nrm (e :: l) := ⟨h.1.tail, fun x hx => h.2 x (by simpa using hx)⟩
    have := nrm_pos hh (by simp)
    have := h.1.head
    simp only [val, List.length_cons, Nat.add_sub_cancel, Int.pow_succ] at *
    rw [Int.mul_comm (65536 ^ _)]
    omega
theorem pow_le {a b : Nat} (h : a ≤ b) : (65536 : Int) ^ a ≤ 65536 ^ b := by
  obtain ⟨k, rfl⟩ := Nat.exists_eq_add_of_le h
  rw [Int.pow_add]
  have h1 := pow_pos a
  have h2 := pow_pos k
  have : (65536 : Int) ^ a * 1 ≤ 65536 ^ a * 65536 ^ k := Int.mul_le_mul_of_nonneg_left (by omega) (by omega)
  omega
theorem lt_of_len {a b : List Int} (ha : Dig a) (hb : Nrm b) (h : a.length < b.length) : val a < val b := by
  have h1 := val_lt ha
  have h2 := nrm_pos hb (by intro e; rw [e] at h; simp at h)
  have h3 : (65536 : Int) ^ a.length ≤ 65536 ^ (b.length - 1) := pow_le (by omega)
  omega
theorem inj_len : ∀ {a b : List Int}, Dig a → Dig b → a.length = b.length → val a = val b → a = b
  | [], [], _, _, _, _ => rfl
  | [], _ :: _, _, _, h, _ => by simp at h
  | _ :: _, [], _, _, h, _ => by simp at h
  | d :: a, e :: b, ha, hb, hl, hv => by
    have h1 := ha.head; have h2 := hb.head
    simp only [val] at hv
    have : d = e := by omega
    subst this
    rw [inj_len ha.tail hb.tail (by simpa using hl) (by omega)]
theorem nrm_inj {a b : List Int} (ha : Nrm a) (hb : Nrm b) (h : val a = val b) : a = b := by
  rcases Nat.lt_trichotomy a.length b.length with hl | hl | hl
  · have := lt_of_len ha.1 hb hl; omega
  · exact inj_len ha.1 hb.1 hl h
  · have := lt_of_len hb.1 ha hl; omega
/-- The digits of a number. -/
def dg (n : Nat) : List Int := if h : n = 0 then [] else ((n % 65536 : Nat) : Int) :: dg (n / 65536)
theorem dg_zero : dg 0 = [] := by rw [dg]; simp
theorem dg_dig (n : Nat) : Dig (dg n) := by
  induction n using Nat.strongRecOn with
  | ind n ih =>
    rw [dg]
    split
    · exact Dig.nil
    · exact Dig.cons (by omega) (ih _ (by omega))
theorem dg_val (n : Nat) : val (dg n) = n := by
  induction n using Nat.strongRecOn with
  | ind n ih =>
    rw [dg]
    split
    · subst_vars; rfl
    · simp only [val, ih (n / 65536) (by omega)]; omega
theorem dg_nil {n : Nat} (h : dg n = []) : n = 0 := by have := dg_val n; rw [h] at this; simp [val] at this; omega
theorem dg_nrm (n : Nat) : Nrm (dg n) := by
  refine ⟨dg_dig n, ?_⟩
  induction n using Nat.strongRecOn with
  | ind n ih =>
    intro d hd
    rw [dg] at hd
    split at hd
    · simp at hd
    · by_cases h0 : n / 65536 = 0
      · rw [h0, dg_zero] at hd; simp at hd; omega
      · refine ih (n / 65536) (by omega) d ?_
        cases hq : dg (n / 65536) with
        | nil => exact absurd (dg_nil hq) h0
        | cons e l => rw [hq] at hd; simpa using hd
theorem dg_of {l : List Int} (h : Nrm l) {n : Nat} (hv : val l = n) : l = dg n := nrm_inj h (dg_nrm n) (hv.trans (dg_val n).symm)
/-- Cutting noughts off. -/
theorem trim_of {l : List Int} (h : Dig l) {n : Nat} (hn : n ≤ l.length) (hz : ∀ i (hi : i < l.length), n ≤ i → l[i] = 0) (hl : ∀ (h0 : 0 < n), l[n - 1]'(by omega) ≠ 0) : Nrm (l.take n) ∧ val (l.take n) = val l := by
  refine ⟨⟨h.take n, fun d hd => ?_⟩, ?_⟩
  · by_cases h0 : n = 0
    · subst h0; simp at hd
    · rw [List.getLast?_eq_getElem?, List.length_take, Nat.min_eq_left hn, List.getElem?_take, if_pos (by omega), List.getElem?_eq_getElem (by omega)] at hd
      have := hl (by omega)
      simp at hd
      rw [← hd]; exact this
  · have hv : ∀ l : List Int, (∀ x ∈ l, x = 0) → val l = 0 := by
      intro l; induction l with
      | nil => intro _; rfl
      | cons x l ih => intro h; simp only [val]; rw [h x (List.mem_cons_self ..), ih (fun y hy => h y (List.mem_cons_of_mem _ hy))]; rfl
    have e := val_append (l.take n) (l.drop n)
    rw [List.take_append_drop, hv (l.drop n) (fun x hx => by obtain ⟨i, hi, rfl⟩ := List.mem_iff_getElem.1 hx; rw [List.getElem_drop]; exact hz _ (by simp at hi; omega) (by omega))] at e
    omega
end Go.Proofs.Ytgaicbodpneeoaa.Big


/- What is used of BigF. -/
namespace Go.Proofs.Ytgaicbodpneeoaa.Big
open Go.RowKit Go.Proofs.Ytgaicbodpneeoaa.PRasterImages Go.Proofs.YtgaicbodpneeoaaW.PrintWords

theorem w64 {n : Int} (h1 : -9223372036854775808 ≤ n) (h2 : n < 9223372036854775808) : wrap64 n = n := by unfold wrap64; omega
theorem rd_eq (x : List Int) (i : Nat) : rd x (i : Int) = x.getD i 0 := by simp [rd]
theorem getD_get {x : List Int} {i : Nat} (h : i < x.length) : x.getD i 0 = x[i] := by simp [List.getD, h]
theorem getD_none {x : List Int} {i : Nat} (h : x.length ≤ i) : x.getD i 0 = 0 := by simp [List.getD, h]
theorem Dig.getD {x : List Int} (h : Dig x) (i : Nat) : 0 ≤ x.getD i 0 ∧ x.getD i 0 < 65536 := by
  by_cases hi : i < x.length
  · rw [getD_get hi]; exact h.get hi
  · rw [getD_none (by omega)]; omega

theorem trim_go (x : List Int) (hd : Dig x) (hl : x.length < 2199023255552) : ∀ n k, n ≤ x.length → (∀ i (hi : i < x.length), n ≤ i → x[i] = 0) → n < k → zelligeref03_Trim.l0 k x (n : Int) = some (dg (val x).toNat) := by
  have fin : ∀ n, n ≤ x.length → (∀ i (hi : i < x.length), n ≤ i → x[i] = 0) → (∀ (h0 : 0 < n) (h1 : n - 1 < x.length), x[n - 1] ≠ 0) → x.take n = dg (val x).toNat := by
    intro n hn hz hl
    obtain ⟨h1, h2⟩ := trim_of hd hn hz (fun h0 => hl h0 (by omega))
    refine dg_of h1 ?_
    have := val_nonneg hd
    omega
  intro n
  induction n with
  | zero =>
    intro k hn hz hk
    obtain ⟨k, rfl⟩ : ∃ k', k = k' + 1 := ⟨k - 1, by omega⟩
    rw [zelligeref03_Trim.l0, if_neg (by omega), if_pos (by omega), if_pos (by omega)]
    exact congrArg some (fin 0 hn hz (fun h => absurd h (by omega)))
  | succ n ih =>
    intro k hn hz hk
    obtain ⟨k, rfl⟩ : ∃ k', k = k' + 1 := ⟨k - 1, by omega⟩
    have e : wrap64 (((n + 1 : Nat) : Int) - 1) = (n : Int) := by rw [w64 (n := ((n + 1 : Nat) : Int) - 1) (by omega) (by omega)]; omega
    rw [zelligeref03_Trim.l0, e, rd_eq, if_pos (by omega), if_pos (by omega), if_pos (by omega)]
    by_cases h0 : x.getD n 0 = 0
    · rw [if_pos h0]
      refine ih k (by omega) (fun i hi hni => ?_) (by omega)
      by_cases hin : i = n
      · subst hin; rw [← getD_get hi]; exact h0
      · exact hz i hi (by omega)
    · rw [if_neg h0, if_pos (by omega), if_pos (by omega)]
      refine congrArg some (fin (n + 1) hn hz (fun _ h1 => ?_))
      simp only [Nat.add_sub_cancel] at h1 ⊢
      rw [← getD_get h1]; exact h0
theorem trim_f (k : Nat) {x : List Int} (hd : Dig x) (hl : x.length < 2199023255552) (hk : x.length < k) {v : Nat} (hv : val x = v) : zelligeref03_Trim.f k x = some (dg v) := by
  have := trim_go x hd hl x.length k (Nat.le_refl _) (fun i hi h => absurd hi (by omega)) hk
  rw [hv] at this
  exact this

theorem drop_at (a : List Int) (i : Nat) : val (a.drop i) = a.getD i 0 + 65536 * val (a.drop (i + 1)) := by
  by_cases hi : i < a.length
  · rw [List.drop_eq_getElem_cons hi, getD_get hi]; rfl
  · rw [List.drop_eq_nil_of_le (by omega), List.drop_eq_nil_of_le (by omega), getD_none (by omega)]; rfl

theorem add_step (k : Nat) (a b x : List Int) (c : Int) (i : Nat) (ha : Dig a) (hb : Dig b) (hla : a.length < 1099511627776) (hlb : b.length < 1099511627776) (hx : x.length < 17592186044416) (hc : 0 ≤ c ∧ c ≤ 1) (hi : i < a.length ∨ i < b.length) :
    zelligeref03_Add.l0 (k + 2) a b x c (i : Int) = zelligeref03_Add.l0 k a b (x ++ [(c + a.getD i 0 + b.getD i 0) % 65536]) ((c + a.getD i 0 + b.getD i 0) / 65536) ((i + 1 : Nat) : Int) := by
  have h1 := ha.getD i
  have h2 := hb.getD i
  have e1 : wrap64 ((i : Int) + 1) = ((i + 1 : Nat) : Int) := by rw [w64 (n := (i : Int) + 1) (by omega) (by omega)]; omega
  have key : zelligeref03_Add.j1 (k + 1) a b x c (i : Int) true = zelligeref03_Add.l0 k a b (x ++ [(c + a.getD i 0 + b.getD i 0) % 65536]) ((c + a.getD i 0 + b.getD i 0) / 65536) ((i + 1 : Nat) : Int) := by
    have h3 : ¬ i < a.length → a.getD i 0 = 0 := fun h => getD_none (by omega)
    have h4 : ¬ i < b.length → b.getD i 0 = 0 := fun h => getD_none (by omega)
    rw [zelligeref03_Add.j1, if_pos rfl, e1, rd_eq, rd_eq]
    generalize a.getD i 0 = p at *
    generalize b.getD i 0 = q at *
    have w1 : wrap64 (c + p) = c + p := w64 (by omega) (by omega)
    have w2 : wrap64 (c + q) = c + q := w64 (by omega) (by omega)
    have w3 : wrap64 (c + p + q) = c + p + q := w64 (by omega) (by omega)
    rw [w1, w2, w3]
    by_cases ia : i < a.length
    · rw [if_pos (by omega), if_pos (by omega)]
      by_cases ib : i < b.length
      · rw [if_pos (by omega), if_pos hx, Int.tmod_eq_emod_of_nonneg (by omega), Int.tdiv_eq_ediv_of_nonneg (by omega), w64 (n := (c + p + q) / 65536) (by omega) (by omega)]
      · rw [if_neg (by omega), if_pos hx, h4 ib, Int.tmod_eq_emod_of_nonneg (by omega), Int.tdiv_eq_ediv_of_nonneg (by omega), w64 (n := (c + p) / 65536) (by omega) (by omega), Int.add_zero]
    · rw [if_neg (by omega), if_pos (by omega), if_pos (by omega), if_pos hx, h3 ia, Int.tmod_eq_emod_of_nonneg (by omega), Int.tdiv_eq_ediv_of_nonneg (by omega), w64 (n := (c + q) / 65536) (by omega) (by omega), Int.add_zero]
  rw [zelligeref03_Add.l0]
  by_cases ia : i < a.length
  · rw [if_pos (by omega)]; exact key
  · rw [if_neg (by omega), decide_eq_true (by omega : (i : Int) < b.length)]; exact key
theorem add_go (a b : List Int) (ha : Dig a) (hb : Dig b) (hla : a.length < 1099511627776) (hlb : b.length < 1099511627776) : ∀ n k i x c, n + i = max a.length b.length → x.length = i → Dig x → 0 ≤ c ∧ c ≤ 1 → val x + 65536 ^ i * (c + val (a.drop i) + val (b.drop i)) = val a + val b → 2 * n + max a.length b.length + 4 ≤ k → zelligeref03_Add.l0 k a b x c (i : Int) = some (dg (val a + val b).toNat) := by
  intro n
  induction n with
  | zero =>
    intro k i x c hn hx hd hc hv hk
    obtain ⟨k, rfl⟩ : ∃ k', k = k' + 2 := ⟨k - 2, by omega⟩
    rw [List.drop_eq_nil_of_le (by omega), List.drop_eq_nil_of_le (by omega)] at hv
    simp only [val, Int.add_zero] at hv
    rw [zelligeref03_Add.l0, if_neg (by omega), decide_eq_false (by omega), zelligeref03_Add.j1, if_neg (by decide), if_pos (by omega)]
    have hv' : val (x ++ [c]) = val a + val b := by rw [val_snoc, hx]; exact hv
    rw [trim_f k (hd.append (Dig.one (by omega))) (by simp; omega) (by simp; omega) (v := (val a + val b).toNat) (by have := val_nonneg ha; have := val_nonneg hb; omega)]
    rfl
  | succ n ih =>
    intro k i x c hn hx hd hc hv hk
    obtain ⟨k, rfl⟩ : ∃ k', k = k' + 2 := ⟨k - 2, by omega⟩
    rw [add_step k a b x c i ha hb hla hlb (by omega) hc (by omega)]
    have h1 := ha.getD i
    have h2 := hb.getD i
    refine ih k (i + 1) _ _ (by omega) (by simp; omega) (hd.append (Dig.one (by omega))) (by omega) ?_ (by omega)
    rw [drop_at a i, drop_at b i] at hv
    rw [val_snoc, hx, ← hv, Int.pow_succ, Int.add_assoc, Int.mul_assoc, ← Int.mul_add]
    congr 2
    omega
theorem add_f (k : Nat) (m n : Nat) (hm : (dg m).length < 1099511627776) (hn : (dg n).length < 1099511627776) (hk : 3 * max (dg m).length (dg n).length + 4 ≤ k) : zelligeref03_Add.f k (dg m) (dg n) = some (dg (m + n)) := by
  have := add_go (dg m) (dg n) (dg_dig m) (dg_dig n) hm hn (max (dg m).length (dg n).length) k 0 [] 0 rfl rfl Dig.nil (by omega) (by simp [val]) (by omega)
  rw [dg_val, dg_val, show ((m : Int) + n).toNat = m + n from by omega] at this
  exact this
theorem sub_step (k : Nat) (a b x : List Int) (c : Int) (i : Nat) (ha : Dig a) (hb : Dig b) (hla : a.length < 1099511627776) (hx : x.length < 17592186044416) (hc : 0 ≤ c ∧ c ≤ 1) (hi : i < a.length) :
    zelligeref03_Sub.l0 (k + 1) a b x c (i : Int) = zelligeref03_Sub.l0 k a b (x ++ [(a.getD i 0 - c - b.getD i 0) % 65536]) (if a.getD i 0 - c - b.getD i 0 < 0 then 1 else 0) ((i + 1 : Nat) : Int) := by
  have h1 := ha.getD i
  have h2 := hb.getD i
  have e1 : wrap64 ((i : Int) + 1) = ((i + 1 : Nat) : Int) := by rw [w64 (n := (i : Int) + 1) (by omega) (by omega)]; omega
  have h4 : ¬ i < b.length → b.getD i 0 = 0 := fun h => getD_none (by omega)
  rw [zelligeref03_Sub.l0, e1, rd_eq, rd_eq, if_pos (by omega), if_pos (by omega)]
  generalize a.getD i 0 = p at *
  generalize b.getD i 0 = q at *
  have w1 : wrap64 (p - c) = p - c := w64 (by omega) (by omega)
  have w3 : wrap64 (p - c - q) = p - c - q := w64 (by omega) (by omega)
  rw [w1, w3]
  have fin : ∀ q, 0 ≤ q ∧ q < 65536 → (if p - c - q < 0 then (if x.length < 17592186044416 then (zelligeref03_Sub.l0 k a b (x ++ [wrap64 (p - c - q + 65536)]) 1 ((i + 1 : Nat) : Int)) else none) else (if x.length < 17592186044416 then (zelligeref03_Sub.l0 k a b (x ++ [p - c - q]) 0 ((i + 1 : Nat) : Int)) else none)) = zelligeref03_Sub.l0 k a b (x ++ [(p - c - q) % 65536]) (if p - c - q < 0 then 1 else 0) ((i + 1 : Nat) : Int) := by
    intro q hq
    by_cases hn : p - c - q < 0
    · rw [if_pos hn, if_pos hn, if_pos hx, w64 (n := p - c - q + 65536) (by omega) (by omega)]
      congr 3
      omega
    · rw [if_neg hn, if_neg hn, if_pos hx]
      congr 3
      omega
  by_cases ib : i < b.length
  · rw [if_pos (by omega)]; exact fin q h2
  · rw [if_neg (by omega), h4 ib]
    have := fin 0 (by omega)
    rw [Int.sub_zero] at this
    rw [Int.sub_zero]
    exact this
theorem sub_go (a b : List Int) (ha : Dig a) (hb : Dig b) (hla : a.length < 1099511627776) (hle : val b ≤ val a) : ∀ n k i x c, n + i = a.length → x.length = i → Dig x → 0 ≤ c ∧ c ≤ 1 → val x + 65536 ^ i * (val (a.drop i) - val (b.drop i) - c) = val a - val b → n + a.length + 4 ≤ k → zelligeref03_Sub.l0 k a b x c (i : Int) = some (dg (val a - val b).toNat) := by
  intro n
  induction n with
  | zero =>
    intro k i x c hn hx hd hc hv hk
    obtain ⟨k, rfl⟩ : ∃ k', k = k' + 1 := ⟨k - 1, by omega⟩
    have h1 : 0 ≤ val (b.drop i) := val_nonneg (fun x hx => hb x (List.mem_of_mem_drop hx))
    rw [List.drop_eq_nil_of_le (by omega : a.length ≤ i)] at hv
    have hx2 := val_lt hd
    rw [hx] at hx2
    have h0 : val (b.drop i) + c = 0 := by
      by_cases hz : val (b.drop i) + c = 0
      · exact hz
      · have h3 : (65536 : Int) ^ i * (val [] - val (b.drop i) - c) ≤ 65536 ^ i * (-1) := Int.mul_le_mul_of_nonneg_left (by simp only [val]; omega) (Int.le_of_lt (pow_pos i))
        omega
    have hv' : val x = val a - val b := by
      rw [show val ([] : List Int) - val (b.drop i) - c = 0 from by simp only [val]; omega] at hv
      omega
    rw [zelligeref03_Sub.l0, if_neg (by omega), trim_f k hd (by omega) (by omega) (v := (val a - val b).toNat) (by omega)]
    rfl
  | succ n ih =>
    intro k i x c hn hx hd hc hv hk
    obtain ⟨k, rfl⟩ : ∃ k', k = k' + 1 := ⟨k - 1, by omega⟩
    rw [sub_step k a b x c i ha hb hla (by omega) hc (by omega)]
    have h1 := ha.getD i
    have h2 := hb.getD i
    refine ih k (i + 1) _ _ (by omega) (by simp; omega) (hd.append (Dig.one (by omega))) (by split <;> omega) ?_ (by omega)
    rw [drop_at a i, drop_at b i] at hv
    rw [val_snoc, hx, ← hv, Int.pow_succ, Int.add_assoc, Int.mul_assoc, ← Int.mul_add]
    congr 2
    split <;> omega
theorem sub_f (k : Nat) (m n : Nat) (hm : (dg m).length < 1099511627776) (hle : n ≤ m) (hk : 2 * (dg m).length + 4 ≤ k) : zelligeref03_Sub.f k (dg m) (dg n) = some (dg (m - n)) := by
  have := sub_go (dg m) (dg n) (dg_dig m) (dg_dig n) hm (by rw [dg_val, dg_val]; omega) (dg m).length k 0 [] 0 rfl rfl Dig.nil (by omega) (by simp [val]) (by omega)
  rw [dg_val, dg_val, show ((m : Int) - n).toNat = m - n from by omega] at this
  exact this
def cmp3 (a b : Int) : Int := if a < b then -1 else if a > b then 1 else 0
theorem take_at (a : List Int) (i : Nat) (h : i < a.length) : val (a.take (i + 1)) = val (a.take i) + 65536 ^ i * a.getD i 0 := by
  rw [List.take_succ_eq_append_getElem h, val_snoc, List.length_take, Nat.min_eq_left (by omega), getD_get h]
theorem cmp_go (a b : List Int) (ha : Dig a) (hb : Dig b) (hl : a.length = b.length) (hla : a.length < 1099511627776) : ∀ i k, i ≤ a.length → i < k → zelligeref03_Cmp.l0 k a b ((i : Int) - 1) = some (cmp3 (val (a.take i)) (val (b.take i))) := by
  intro i
  induction i with
  | zero =>
    intro k _ hk
    obtain ⟨k, rfl⟩ : ∃ k', k = k' + 1 := ⟨k - 1, by omega⟩
    rw [zelligeref03_Cmp.l0, if_neg (by omega)]
    rfl
  | succ i ih =>
    intro k hi hk
    obtain ⟨k, rfl⟩ : ∃ k', k = k' + 1 := ⟨k - 1, by omega⟩
    rw [show ((i + 1 : Nat) : Int) - 1 = (i : Int) from by omega, zelligeref03_Cmp.l0, rd_eq, rd_eq, if_pos (by omega), if_pos (by omega), if_pos (by omega), if_pos (by omega), take_at a i (by omega), take_at b i (by omega), w64 (n := (i : Int) - 1) (by omega) (by omega)]
    have h1 := val_lt (ha.take i)
    have h2 := val_lt (hb.take i)
    rw [List.length_take, Nat.min_eq_left (by omega)] at h1 h2
    have h3 := val_nonneg (ha.take i)
    have h4 := val_nonneg (hb.take i)
    have hp := pow_pos i
    have e := ih k (by omega) (by omega)
    generalize a.getD i 0 = p at *
    generalize b.getD i 0 = q at *
    by_cases hlt : p < q
    · have : (65536 : Int) ^ i * (p + 1) ≤ 65536 ^ i * q := Int.mul_le_mul_of_nonneg_left (by omega) (by omega)
      rw [Int.mul_add] at this
      rw [if_pos hlt, cmp3, if_pos (by omega)]
    · rw [if_neg hlt]
      by_cases hgt : p > q
      · have : (65536 : Int) ^ i * (q + 1) ≤ 65536 ^ i * p := Int.mul_le_mul_of_nonneg_left (by omega) (by omega)
        rw [Int.mul_add] at this
        rw [if_pos hgt, cmp3, if_neg (by omega), if_pos (by omega)]
      · obtain rfl : p = q := by omega
        rw [if_neg hgt, e]
        congr 1
        generalize 65536 ^ i * p = z
        unfold cmp3
        simp only [Int.add_lt_add_iff_right, gt_iff_lt]
theorem cmp_f (k : Nat) (m n : Nat) (hm : (dg m).length < 1099511627776) (hk : (dg m).length < k) : zelligeref03_Cmp.f k (dg m) (dg n) = some (cmp3 m n) := by
  unfold zelligeref03_Cmp.f
  have vm := dg_val m
  have vn := dg_val n
  by_cases h1 : (dg m).length < (dg n).length
  · have := lt_of_len (dg_dig m) (dg_nrm n) h1
    rw [if_pos (by omega), cmp3, if_pos (by omega)]
  · by_cases h2 : (dg m).length > (dg n).length
    · have := lt_of_len (dg_dig n) (dg_nrm m) h2
      rw [if_neg (by omega), if_pos (by omega), cmp3, if_neg (by omega), if_pos (by omega)]
    · rw [if_neg (by omega), if_neg (by omega), w64 (n := ((dg m).length : Int) - 1) (by omega) (by omega), cmp_go (dg m) (dg n) (dg_dig m) (dg_dig n) (by omega) hm (dg m).length k (Nat.le_refl _) hk, List.take_length, List.take_of_length_le (by omega), vm, vn]
end Go.Proofs.Ytgaicbodpneeoaa.Big


/- What is used of BigG. -/
namespace Go.Proofs.Ytgaicbodpneeoaa.Big
open Go.RowKit Go.Proofs.Ytgaicbodpneeoaa.PRasterImages Go.Proofs.YtgaicbodpneeoaaW.PrintWords

theorem rd2 (a b : Int) : rd [a, b] 0 = a ∧ rd [a, b] 1 = b := ⟨rfl, rfl⟩
theorem of_f (k : Nat) (a b : Int) (ha : 0 ≤ a ∧ a < 4294967296) (hb : 0 ≤ b ∧ b < 4294967296) (hk : 10 ≤ k) : zelligeref03_Of.f k [a, b] = some (dg (a + 4294967296 * b).toNat) := by
  obtain ⟨k, rfl⟩ : ∃ k', k = k' + 3 := ⟨k - 3, by omega⟩
  unfold zelligeref03_Of.f
  have m : ∀ n : Int, 0 ≤ n → Int.tmod n 65536 = n % 65536 := fun n h => Int.tmod_eq_emod_of_nonneg h
  have d : ∀ n : Int, 0 ≤ n → Int.tdiv n 65536 = n / 65536 := fun n h => Int.tdiv_eq_ediv_of_nonneg h
  rw [zelligeref03_Of.l0, if_pos (by simp), if_pos (by omega), Option.bind_some, if_pos (by simp), (rd2 a b).1, zelligeref03_Of.l0, show wrap64 (0 + 1) = 1 from by rw [w64 (n := 0 + 1) (by omega) (by omega)]; rfl, if_pos (by simp), if_pos (by omega), Option.bind_some, if_pos (by simp), (rd2 a b).2, show wrap64 (1 + 1) = 2 from by rw [w64 (n := 1 + 1) (by omega) (by omega)]; rfl, zelligeref03_Of.l0, if_neg (by simp), m a ha.1, m b hb.1, d a ha.1, d b hb.1, w64 (n := a % 65536) (by omega) (by omega), w64 (n := b % 65536) (by omega) (by omega), Int.emod_eq_of_lt (a := a / 65536) (by omega) (by omega), Int.emod_eq_of_lt (a := b / 65536) (by omega) (by omega)]
  rw [trim_f k (x := ([] ++ [a % 65536, a / 65536]) ++ [b % 65536, b / 65536]) (fun x hx => by simp at hx; rcases hx with rfl | rfl | rfl | rfl <;> omega) (by simp) (by simp; omega) (v := (a + 4294967296 * b).toNat) (by simp [val]; omega)]
  rfl
def sg (n : Int) : Int := if n = 0 then 0 else if n < 0 then -1 else 1
theorem long_f (k : Nat) (n : Int) (h0 : -9223372036854775808 ≤ n) (h1 : n < 9223372036854775808) (hk : 10 ≤ k) : zelligeref04_Long.f k n = some (sg n, dg n.natAbs) := by
  have u : ∀ n, IntKind.u64.wrap n = n % 18446744073709551616 := fun _ => rfl
  unfold zelligeref04_Long.f sg
  simp only [u]
  by_cases hz : n = 0
  · subst hz; rw [if_pos rfl, if_pos rfl, show (0 : Int).natAbs = 0 from rfl, dg_zero]
  · rw [if_neg hz, if_neg hz]
    by_cases hn : n < 0
    · rw [if_pos hn, if_pos hn, of_f k _ _ (by omega) (by omega) hk, Option.bind_some]
      congr 3
      congr 1
      omega
    · rw [if_neg hn, if_neg hn, of_f k _ _ (by omega) (by omega) hk, Option.bind_some]
      congr 3
      congr 1
      omega
theorem val_set : ∀ (l : List Int) (j : Nat) (v : Int), j < l.length → val (l.set j v) = val l + 65536 ^ j * (v - l.getD j 0)
  | [], j, v, h => by simp at h
  | d :: l, 0, v, h => by simp [val]; omega
  | d :: l, j + 1, v, h => by
    simp only [List.set_cons_succ, val, List.getD_cons_succ]
    rw [val_set l j v (by simpa using h), Int.mul_add, Int.pow_succ, Int.mul_comm (65536 ^ j) 65536, Int.mul_assoc]
    omega
theorem Dig.set {l : List Int} (h : Dig l) (j : Nat) {v : Int} (hv : 0 ≤ v ∧ v < 65536) : Dig (l.set j v) := fun x hx => by
  rcases List.mem_or_eq_of_mem_set hx with hx | rfl
  · exact h x hx
  · exact hv
theorem getD_set_ne {l : List Int} {i j : Nat} {v : Int} (h : i ≠ j) : (l.set i v).getD j 0 = l.getD j 0 := by
  simp only [List.getD, List.getElem?_set_ne h]
theorem wj {j m : Nat} (h : j < 4398046511104) (hm : m = j + 1) : wrap64 ((j : Int) + 1) = (m : Int) := by rw [w64 (n := (j : Int) + 1) (by omega) (by omega)]; omega
theorem wj2 {i j m : Nat} (h : i + j < 4398046511104) (hm : m = i + j) : wrap64 ((i : Int) + j) = (m : Int) := by rw [w64 (n := (i : Int) + j) (by omega) (by omega)]; omega
theorem mul_step (k : Nat) (a b x : List Int) (i j : Nat) (c : Int) (ha : Dig a) (hb : Dig b) (hd : Dig x) (hla : a.length < 1099511627776) (hlb : b.length < 1099511627776) (hx : x.length = a.length + b.length) (hc : 0 ≤ c ∧ c < 65536) (hi : i < a.length) (hj : j < b.length) :
    ∃ s : Int, s = c + x.getD (i + j) 0 + a.getD i 0 * b.getD j 0 ∧ 0 ≤ s ∧ s < 4294967296 ∧ zelligeref03_Mul.l1 (k + 1) a b x (i : Int) c (j : Int) = zelligeref03_Mul.l1 k a b (x.set (i + j) (s % 65536)) (i : Int) (s / 65536) ((j + 1 : Nat) : Int) := by
  have h1 := ha.getD i
  have h2 := hb.getD j
  have h3 := hd.getD (i + j)
  have c1 : (j : Int) < b.length := by omega
  have c2 : (0 : Int) ≤ ((i + j : Nat) : Int) := by omega
  have c3 : ((i + j : Nat) : Int) < x.length := by omega
  have c4 : (0 : Int) ≤ (i : Int) := by omega
  have c5 : (i : Int) < a.length := by omega
  have c6 : (0 : Int) ≤ (j : Int) := by omega
  refine ⟨_, rfl, ?_⟩
  rw [zelligeref03_Mul.l1, wj (by omega) rfl, wj2 (by omega) rfl, rd_eq, rd_eq, rd_eq, if_pos c1, if_pos c2, if_pos c3, if_pos c4, if_pos c5, if_pos c6]
  clear c1 c2 c3 c4 c5 c6
  generalize a.getD i 0 = p at *
  generalize b.getD j 0 = q at *
  generalize x.getD (i + j) 0 = o at *
  have p0 : 0 ≤ p * q := Int.mul_nonneg h1.1 h2.1
  have p1 : p * q ≤ 65535 * 65535 := Int.mul_le_mul (by omega) (by omega) h2.1 (by omega)
  generalize p * q = m at *
  rw [w64 (n := m) (by omega) (by omega), w64 (n := c + o) (by omega) (by omega), w64 (n := c + o + m) (by omega) (by omega), Int.tmod_eq_emod_of_nonneg (by omega), Int.tdiv_eq_ediv_of_nonneg (by omega), w64 (n := (c + o + m) / 65536) (by omega) (by omega)]
  exact ⟨by omega, by omega, rfl⟩
theorem mul_in (a b : List Int) (ha : Dig a) (hb : Dig b) (hla : a.length < 1099511627776) (hlb : b.length < 1099511627776) (i : Nat) (hi : i < a.length) (V : Int) : ∀ n k j x c, n + j = b.length → x.length = a.length + b.length → Dig x → 0 ≤ c ∧ c < 65536 → (∀ q, i + b.length ≤ q → x.getD q 0 = 0) → val x + 65536 ^ (i + j) * c = V + 65536 ^ i * (a.getD i 0 * val (b.take j)) → n + 1 ≤ k →
    ∃ x', zelligeref03_Mul.l1 k a b x (i : Int) c (j : Int) = zelligeref03_Mul.l0 (k - n - 1) a b x' ((i + 1 : Nat) : Int) ∧ x'.length = a.length + b.length ∧ Dig x' ∧ (∀ q, i + 1 + b.length ≤ q → x'.getD q 0 = 0) ∧ val x' = V + 65536 ^ i * (a.getD i 0 * val b) := by
  intro n
  induction n with
  | zero =>
    intro k j x c hn hx hd hc hz hv hk
    obtain ⟨k, rfl⟩ : ∃ k', k = k' + 1 := ⟨k - 1, by omega⟩
    refine ⟨x.set (i + b.length) c, ?_, by simp [hx], hd.set _ hc, fun q hq => ?_, ?_⟩
    · have c1 : ¬ (j : Int) < b.length := by omega
      have c2 : (0 : Int) ≤ ((i + b.length : Nat) : Int) := by omega
      have c3 : ((i + b.length : Nat) : Int) < x.length := by omega
      rw [zelligeref03_Mul.l1, if_neg c1, wj2 (i := i) (j := b.length) (by omega) rfl, wj (j := i) (by omega) rfl, if_pos c2, if_pos c3]
      rfl
    · rw [getD_set_ne (by omega)]; exact hz q (by omega)
    · rw [val_set _ _ _ (by omega), hz _ (Nat.le_refl _), Int.sub_zero]
      have hj : j = b.length := by omega
      subst hj
      rw [List.take_length] at hv
      exact hv
  | succ n ih =>
    intro k j x c hn hx hd hc hz hv hk
    obtain ⟨k, rfl⟩ : ∃ k', k = k' + 1 := ⟨k - 1, by omega⟩
    obtain ⟨s, hs, s0, s1, e⟩ := mul_step k a b x i j c ha hb hd hla hlb hx hc hi (by omega)
    rw [e, show k + 1 - (n + 1) - 1 = k - n - 1 from by omega]
    refine ih k (j + 1) _ _ (by omega) (by simp [hx]) (hd.set _ (by omega)) (by omega) (fun q hq => ?_) ?_ (by omega)
    · rw [getD_set_ne (by omega)]; exact hz q hq
    · rw [val_set _ _ _ (by omega), take_at b j (by omega), Int.mul_add, Int.mul_add, ← Int.add_assoc, ← hv, ← Nat.add_assoc, Int.pow_succ]
      have e3 : (65536 : Int) ^ i * (a.getD i 0 * (65536 ^ j * b.getD j 0)) = 65536 ^ (i + j) * (a.getD i 0 * b.getD j 0) := by
        rw [Int.pow_add, ← Int.mul_assoc (a.getD i 0), Int.mul_comm (a.getD i 0), Int.mul_assoc (65536 ^ j), Int.mul_assoc]
      rw [e3, Int.add_assoc, Int.add_assoc, Int.mul_assoc, ← Int.mul_add, ← Int.mul_add]
      congr 2
      omega
theorem mul_go (a b : List Int) (ha : Dig a) (hb : Dig b) (hla : a.length < 1099511627776) (hlb : b.length < 1099511627776) : ∀ n k i x, n + i = a.length → x.length = a.length + b.length → Dig x → (∀ q, i + b.length ≤ q → x.getD q 0 = 0) → val x = val (a.take i) * val b → n * (b.length + 2) + a.length + b.length + 4 ≤ k →
    zelligeref03_Mul.l0 k a b x (i : Int) = some (dg (val a * val b).toNat) := by
  intro n
  induction n with
  | zero =>
    intro k i x hn hx hd hz hv hk
    obtain ⟨k, rfl⟩ : ∃ k', k = k' + 1 := ⟨k - 1, by omega⟩
    rw [List.take_of_length_le (by omega)] at hv
    have := Int.mul_nonneg (val_nonneg ha) (val_nonneg hb)
    rw [zelligeref03_Mul.l0, if_neg (by omega), trim_f k hd (by omega) (by omega) (v := (val a * val b).toNat) (by omega)]
    rfl
  | succ n ih =>
    intro k i x hn hx hd hz hv hk
    obtain ⟨k, rfl⟩ : ∃ k', k = k' + 1 := ⟨k - 1, by omega⟩
    have hk' : n * (b.length + 2) + (b.length + 2) + a.length + b.length + 4 ≤ k + 1 := by rw [← Nat.succ_mul]; exact hk
    obtain ⟨x', e, h1, h2, h3, h4⟩ := mul_in a b ha hb hla hlb i (by omega) (val x) b.length k 0 x 0 (by omega) hx hd (by omega) hz (by simp [val]) (by omega)
    rw [zelligeref03_Mul.l0, if_pos (by omega)]
    refine e.trans (ih _ (i + 1) x' (by omega) h1 h2 h3 ?_ (by omega))
    rw [h4, hv, take_at a i (by omega), Int.add_mul, Int.mul_assoc]
theorem mul_f (k : Nat) (m n : Nat) (hm : (dg m).length < 1000) (hn : (dg n).length < 1000) (hk : 2000000 ≤ k) : zelligeref03_Mul.f k (dg m) (dg n) = some (dg (m * n)) := by
  have vr : ∀ n, val (List.replicate n 0) = 0 := fun n => by induction n with
    | zero => rfl
    | succ n ih => rw [List.replicate_succ, val, ih]; rfl
  have hmul : (dg m).length * ((dg n).length + 2) ≤ 1000 * 1002 := Nat.mul_le_mul (by omega) (by omega)
  have := mul_go (dg m) (dg n) (dg_dig m) (dg_dig n) (by omega) (by omega) (dg m).length k 0 (List.replicate ((dg m).length + (dg n).length) 0) (by omega) (by simp) (fun x hx => by rw [(List.mem_replicate.1 hx).2]; omega) (fun q _ => by simp [List.getD, List.getElem?_replicate]; split <;> rfl) (by rw [vr]; simp [val]) (by omega)
  rw [dg_val, dg_val, show ((m : Int) * n).toNat = m * n from by rw [← Int.natCast_mul]; rfl] at this
  unfold zelligeref03_Mul.f
  rw [w64 (n := ((dg m).length : Int) + (dg n).length) (by omega) (by omega), if_pos (by omega), if_pos (by omega), show (((dg m).length : Int) + (dg n).length).toNat = (dg m).length + (dg n).length from by omega]
  exact this
end Go.Proofs.Ytgaicbodpneeoaa.Big


/- What is used of BigW. -/
namespace Go.Proofs.Ytgaicbodpneeoaa.Big
open Go.RowKit Go.Proofs.ZFr Go.Proofs.Ytgaicbodpneeoaa.PRasterImages Go.Proofs.YtgaicbodpneeoaaW.PrintWords

/-- Digits of a number in memory, off the blocks of S. -/
def Dgs (w : World) (S : Nat → Prop) (v : Value) (n : Nat) : Prop :=
  ∃ A c, v = .slice A (dg n).length c ∧ Kd.C (Kd.int .i64) w A (dg n).length (dg n) ∧ (dg n).length ≤ c ∧ ∀ ad, A = some ad → 0 < (dg n).length → ¬ S ad.block
theorem Dgs.fr {w w' : World} {S T : Nat → Prop} {v : Value} {n : Nat} (h : Dgs w S v n) (hf : Fr T w w') (hT : ∀ k, T k → S k) : Dgs w' S v n := by
  obtain ⟨A, c, rfl, hC, hc, hs⟩ := h
  exact ⟨A, c, rfl, Go.Proofs.YtgaicbodpneeoaaW.PrintWords.Kd.C_foot_neS (S := S) (fun h => h) hC hs w' ⟨hf.size, fun i hi hn => hf.block i hi (fun h => hn (hT i h))⟩, hc, hs⟩
theorem Dgs.mono {w : World} {S T : Nat → Prop} {v : Value} {n : Nat} (h : Dgs w S v n) (hT : ∀ k, T k → S k) : Dgs w T v n := by
  obtain ⟨A, c, rfl, hC, hc, hs⟩ := h
  exact ⟨A, c, rfl, hC, hc, fun ad he hl ht => hs ad he hl (hT _ ht)⟩
def Whole (w : World) (S : Nat → Prop) (v : Value) (n : Int) : Prop := ∃ s, v = .agg #[.int .i64 (sg n), s] ∧ Dgs w S s n.natAbs

/-- What S holds and what has been laid since. -/
def Up (S : Nat → Prop) (w w' : World) (k : Nat) : Prop := S k ∨ (w.heap.size ≤ k ∧ k < w'.heap.size)
theorem Up.lt {S : Nat → Prop} {w w' : World} (hS : ∀ k, S k → k < w.heap.size) (h : w.heap.size ≤ w'.heap.size) : ∀ k, Up S w w' k → k < w'.heap.size := fun k hk => by
  rcases hk with hk | hk
  · exact Nat.lt_of_lt_of_le (hS k hk) h
  · exact hk.2
theorem Dgs.up {w w' W : World} {S : Nat → Prop} {v : Value} {n : Nat} (h : Dgs w S v n) (hf : Fr (fun _ => False) w W) : Dgs W (Up S w w') v n := by
  refine Dgs.fr (S := Up S w w') ?_ hf (fun _ h => h.elim)
  obtain ⟨A, c, rfl, hC, hc, hs⟩ := h
  refine ⟨A, c, rfl, hC, hc, fun ad he hl hu => ?_⟩
  rcases hu with hu | hu
  · exact hs ad he hl hu
  · subst he
    have := Kd.C_lt hC hl (by decide)
    omega
theorem Dgs.slice {w : World} {S : Nat → Prop} {v : Value} {n : Nat} (h : Dgs w S v n) : ∃ A c, v = .slice A (dg n).length c := by
  obtain ⟨A, c, rfl, _⟩ := h
  exact ⟨A, c, rfl⟩
theorem Whole.fr {w w' : World} {S T : Nat → Prop} {v : Value} {n : Int} (h : Whole w S v n) (hf : Fr T w w') (hT : ∀ k, T k → S k) : Whole w' S v n := by
  obtain ⟨s, rfl, hd⟩ := h
  exact ⟨s, rfl, hd.fr hf hT⟩
theorem Whole.mono {w : World} {S T : Nat → Prop} {v : Value} {n : Int} (h : Whole w S v n) (hT : ∀ k, T k → S k) : Whole w T v n := by
  obtain ⟨s, rfl, hd⟩ := h
  exact ⟨s, rfl, hd.mono hT⟩
theorem sg_neg (n : Int) : wrap64 (-sg n) = sg (-n) := by
  have e : wrap64 0 = 0 ∧ wrap64 1 = 1 ∧ wrap64 (-1) = -1 := by unfold wrap64; omega
  unfold sg
  by_cases h : n = 0
  · subst h; exact e.1
  · by_cases h2 : n < 0
    · rw [if_neg h, if_pos h2, if_neg (by omega), if_neg (by omega)]; exact e.2.1
    · rw [if_neg h, if_neg h2, if_neg (by omega), if_pos (by omega)]; exact e.2.2
theorem second (W : World) (o o' : Obj) : ((W.alloc o).alloc o').heap[W.heap.size + 1]? = some o' := by
  have h := heap_alloc_new (W.alloc o) o'
  rw [show (W.alloc o).heap.size = W.heap.size + 1 from Array.size_push ..] at h
  exact h
set_option maxRecDepth 100000 in
theorem neg_walk (a : Int) (v : Value) (S : Nat → Prop) (w : World) (hv : Whole w S v a) : Calls Try.prog 66 #[v] w fun e w' => ∃ v', e = .returned v' ∧ Whole w' S v' (-a) ∧ Fr (fun _ => False) w w' := by
  obtain ⟨s, rfl, hd⟩ := hv
  obtain ⟨A, c, rfl⟩ := hd.slice
  have hH := Lib.hid hd
  have hs := sg_neg a
  clear hd
  go_enter Try.func66, Try.ntmps66
  go_wp2_with fail
  have f := ((Fr.refl (fun _ => False) w).alloc (Obj.cells #[Value.int IntKind.i64 (sg a), .slice A (dg a.natAbs).length c] 82)).alloc (Obj.cells #[Value.int IntKind.i64 (sg (-a)), .slice A (dg a.natAbs).length c] 82)
  refine bodyPost_ret (results_cell_row rfl _ _ (w.heap.size + 1) 82 #[.int .i64 (sg (-a)), .slice A (dg a.natAbs).length c] (0, 0) _ rfl (second _ _ _) Try.underlying82 rfl (by kernel_rfl)) rfl ?_
  exact ⟨_, rfl, ⟨_, rfl, by rw [Int.natAbs_neg]; exact hH.out.fr f (fun _ h => h.elim)⟩, f⟩
theorem dgs_of_R {w : World} {S : Nat → Prop} {ok : Nat → Prop} {base : Nat} {v : Value} {n : Nat} (h : Kd.R (Kd.int .i64) 3 w base ok v (dg n)) (hS : ∀ k, S k → k < base) : Dgs w S v n := by
  have ho := Kd.own_of_R h
  rcases ho.2 with ⟨rfl, h0⟩ | ⟨g, cap, cur, rfl, hb, _⟩
  · obtain ⟨h1, h2, h3⟩ := Kd.R_reads' h
    exact ⟨none, 0, by rw [← h1], h3, by omega, fun ad he => by cases he⟩
  · obtain ⟨h1, h2, h3⟩ := Kd.R_reads' h
    exact ⟨_, _, rfl, h3, h2, fun ad he hl hs => by cases he; have := hS _ hs; simp at this; omega⟩
theorem nadd_c (m n : Nat) (va vb : Value) (S : Nat → Prop) (w : World) (hS : ∀ k, S k → k < w.heap.size) (hm : (dg m).length < 900) (hn : (dg n).length < 900) (ha : Dgs w S va m) (hb : Dgs w S vb n) : Calls Try.prog 82 #[va, vb] w fun e w' => ∃ v', e = .returned v' ∧ Dgs w' S v' (m + n) ∧ Fr (fun _ => False) w w' := by
  obtain ⟨A, c, rfl, h1, h2, _⟩ := ha
  obtain ⟨A', c', rfl, h1', h2', _⟩ := hb
  refine (zelligeref03_Add.calls 4000 A c (dg m) A' c' (dg n) _ w h1 h2 h1' h2' (add_f 4000 m n (by omega) (by omega) (by omega))).mono ?_
  rintro e w' ⟨v, rfl, hR, hb⟩
  exact ⟨v, rfl, dgs_of_R hR hS, Fr.of_below hb⟩
theorem nsub_c (m n : Nat) (va vb : Value) (S : Nat → Prop) (w : World) (hS : ∀ k, S k → k < w.heap.size) (hm : (dg m).length < 900) (hle : n ≤ m) (ha : Dgs w S va m) (hb : Dgs w S vb n) : Calls Try.prog 84 #[va, vb] w fun e w' => ∃ v', e = .returned v' ∧ Dgs w' S v' (m - n) ∧ Fr (fun _ => False) w w' := by
  obtain ⟨A, c, rfl, h1, h2, _⟩ := ha
  obtain ⟨A', c', rfl, h1', h2', _⟩ := hb
  refine (zelligeref03_Sub.calls 4000 A c (dg m) A' c' (dg n) _ w h1 h2 h1' h2' (sub_f 4000 m n (by omega) hle (by omega))).mono ?_
  rintro e w' ⟨v, rfl, hR, hb⟩
  exact ⟨v, rfl, dgs_of_R hR hS, Fr.of_below hb⟩
theorem nmul_c (m n : Nat) (va vb : Value) (S : Nat → Prop) (w : World) (hS : ∀ k, S k → k < w.heap.size) (hm : (dg m).length < 900) (hn : (dg n).length < 900) (ha : Dgs w S va m) (hb : Dgs w S vb n) : Calls Try.prog 86 #[va, vb] w fun e w' => ∃ v', e = .returned v' ∧ Dgs w' S v' (m * n) ∧ Fr (fun _ => False) w w' := by
  obtain ⟨A, c, rfl, h1, h2, _⟩ := ha
  obtain ⟨A', c', rfl, h1', h2', _⟩ := hb
  refine (zelligeref03_Mul.calls 2000000 A c (dg m) A' c' (dg n) _ w h1 h2 h1' h2' (mul_f 2000000 m n (by omega) (by omega) (by omega))).mono ?_
  rintro e w' ⟨v, rfl, hR, hb⟩
  exact ⟨v, rfl, dgs_of_R hR hS, Fr.of_below hb⟩
theorem ncmp_c (m n : Nat) (va vb : Value) (S : Nat → Prop) (w : World) (hm : (dg m).length < 900) (ha : Dgs w S va m) (hb : Dgs w S vb n) : Calls Try.prog 83 #[va, vb] w fun e w' => e = .returned (.int .i64 (cmp3 m n)) ∧ Fr (fun _ => False) w w' := by
  obtain ⟨A, c, rfl, h1, h2, _⟩ := ha
  obtain ⟨A', c', rfl, h1', h2', _⟩ := hb
  refine (zelligeref03_Cmp.calls 4000 A c (dg m) A' c' (dg n) _ w h1 h2 h1' h2' (cmp_f 4000 m n (by omega) (by omega))).mono ?_
  rintro e w' ⟨rfl, nd, rfl⟩
  exact ⟨rfl, (Fr.refl _ w).drewN nd⟩
theorem dg_len_le : ∀ (k n : Nat), n < 65536 ^ k → (dg n).length ≤ k
  | 0, n, h => by
    have h' : n < 1 := h
    have : n = 0 := by omega
    rw [this, dg_zero]; simp
  | k + 1, n, h => by
    rw [dg]
    split
    · simp
    · have := dg_len_le k (n / 65536) (by rw [Nat.pow_succ] at h; omega)
      simp; exact this
theorem long_c (n : Int) (h0 : -9223372036854775808 ≤ n) (h1 : n < 9223372036854775808) (S : Nat → Prop) (w : World) (hS : ∀ k, S k → k < w.heap.size) : Calls Try.prog 46 #[.int .i64 n] w fun e w' => ∃ v', e = .returned v' ∧ Whole w' S v' n ∧ Fr (fun _ => False) w w' := by
  refine (zelligeref04_Long.calls 10 n _ _ w (long_f 10 n h0 h1 (by omega))).mono ?_
  rintro e w' ⟨v, rfl, hR, hb⟩
  exact ⟨_, rfl, ⟨v, rfl, dgs_of_R hR hS⟩, Fr.of_below hb⟩
set_option maxRecDepth 100000 in
theorem make1_walk (a : Int) (n : Nat) (v : Value) (S : Nat → Prop) (w : World) (hd : Dgs w S v n) : Calls Try.prog 62 #[.int .i64 (sg a), v] w fun e w' => ∃ v', e = .returned v' ∧ (∀ b, b.natAbs = n → (n ≠ 0 → sg a = sg b) → Whole w' S v' b) ∧ Fr (fun _ => False) w w' := by
  obtain ⟨A, c, rfl⟩ := hd.slice
  have hH := Lib.hid hd
  clear hd
  by_cases h0 : n = 0
  · subst h0
    rw [dg_zero]
    go_enter Try.func62, Try.ntmps62
    go_wp2_with fail
    have f := (Fr.refl (fun _ => False) w).alloc (Obj.cells #[Value.int IntKind.i64 0, Value.slice none 0 0] 82)
    refine bodyPost_ret (results_cell_row rfl _ _ w.heap.size 82 #[.int .i64 0, .slice none 0 0] (0, 0) _ rfl (heap_alloc_new w _) Try.underlying82 rfl (by kernel_rfl)) rfl ?_
    refine ⟨_, rfl, fun b hb _ => ?_, f⟩
    obtain rfl : b = 0 := by omega
    exact ⟨_, rfl, none, 0, by rw [show (0 : Int).natAbs = 0 from rfl, dg_zero]; rfl, by rw [show (0 : Int).natAbs = 0 from rfl, dg_zero]; exact Kd.C_nil _ _, by rw [show (0 : Int).natAbs = 0 from rfl, dg_zero]; simp, fun _ h => by cases h⟩
  · have hl : ¬ ((dg n).length : Int) = 0 := fun h => h0 (dg_nil (by simpa using h))
    go_enter Try.func62, Try.ntmps62
    go_wp2_with fail
    have f : Fr (fun _ => False) w (w.alloc (Obj.cells #[Value.int IntKind.i64 (sg a), Value.slice A (dg n).length c] 82)) := (Fr.refl (fun _ => False) w).alloc _
    refine bodyPost_ret (results_cell_row rfl _ _ w.heap.size 82 #[.int .i64 (sg a), .slice A (dg n).length c] (0, 0) _ rfl (heap_alloc_new w _) Try.underlying82 rfl (by kernel_rfl)) rfl ?_
    refine ⟨_, rfl, fun b hb hs => ?_, f⟩
    exact ⟨_, by rw [hs h0], by rw [hb]; exact hH.out.fr f (fun _ h => h.elim)⟩
theorem tri (w : World) (o1 o2 o3 : Obj) : (((w.alloc o1).alloc o2).alloc o3).heap[w.heap.size]? = some o1 ∧ (((w.alloc o1).alloc o2).alloc o3).heap[w.heap.size + 1]? = some o2 ∧ (((w.alloc o1).alloc o2).alloc o3).heap[w.heap.size + 1 + 1]? = some o3 ∧ Fr (fun _ => False) w (((w.alloc o1).alloc o2).alloc o3) := by
  have h1 := heap_alloc_new w o1
  have h2 := second w o1 o2
  have h3 := second (w.alloc o1) o2 o3
  rw [show (w.alloc o1).heap.size = w.heap.size + 1 from Array.size_push ..] at h3
  exact ⟨ZFr.blk_alloc (ZFr.blk_alloc h1 _) _, ZFr.blk_alloc h2 _, h3, (((Fr.refl _ w).alloc _).alloc _).alloc _⟩
theorem sg0 {n : Int} (h : sg n = 0) : n = 0 := by unfold sg at h; split at h; assumption; split at h <;> omega
theorem whole_cells {w : World} {b : Nat} {s : Int} {v : Value} (h : w.heap[b]? = some (.cells #[.int .i64 s, v] 82 (0, 0))) : w.cell? ⟨b, 0, none⟩ = some (.int .i64 s) ∧ w.cell? ⟨b, 1, none⟩ = some v := ⟨ZFr.blk_cell h 0, ZFr.blk_cell h 1⟩
theorem cell_far {w : World} {p q : Addr} {u v : Value} (h : w.cell? q = some v) (hb : q.block ≠ p.block) : (w.setCell p u).cell? q = some v := by
  have := Below.heap_setCell w p u q.block hb
  unfold World.cell? at *
  rw [this]; exact h
theorem whole_store {w : World} {b : Nat} {s : Int} {v : Value} (h : w.heap[b]? = some (.cells #[.int .i64 s, v] 82 (0, 0))) : w.cell? ⟨b, 0, none⟩ = some (.int .i64 s) ∧ w.cell? ⟨b, 1, none⟩ = some v ∧ w.frozen? ⟨b, 0, none⟩ = false ∧ w.frozen? ⟨b, 1, none⟩ = false := ⟨ZFr.blk_cell h 0, ZFr.blk_cell h 1, ZFr.blk_free h 0, ZFr.blk_free h 1⟩
set_option maxRecDepth 100000 in
set_option maxHeartbeats 4000000 in
theorem add_same (a b : Int) (va vb : Value) (S : Nat → Prop) (w : World) (hd : sg a = 0 ∨ sg b = 0 ∨ sg a = sg b) (hS : ∀ k, S k → k < w.heap.size) (ha : Whole w S va a) (hb : Whole w S vb b) (la : (dg a.natAbs).length < 900) (lb : (dg b.natAbs).length < 900) : Calls Try.prog 65 #[va, vb] w fun e w' => ∃ v', e = .returned v' ∧ Whole w' S v' (a + b) ∧ Fr (fun _ => False) w w' := by
  obtain ⟨sa, rfl, hda⟩ := ha
  obtain ⟨A, c, rfl⟩ := hda.slice
  obtain ⟨sb, rfl, hdb⟩ := hb
  obtain ⟨A', c', rfl⟩ := hdb.slice
  have hA := Lib.hid hda
  have hB := Lib.hid hdb
  clear hda hdb
  by_cases h0 : sg a = 0
  · rw [show a + b = b from by have := sg0 h0; omega]
    have hs := h0
    generalize sg a = s at hs
    subst hs
    go_enter Try.func65, Try.ntmps65
    go_wp2_with fail
    obtain ⟨_, _, h3, f⟩ := tri w (Obj.cells #[Value.int IntKind.i64 0, Value.slice A (dg a.natAbs).length c] 82) (Obj.cells #[Value.int IntKind.i64 (sg b), Value.slice A' (dg b.natAbs).length c'] 82) (Obj.cells #[Value.int IntKind.i64 (sg b), Value.slice A' (dg b.natAbs).length c'] 82)
    refine bodyPost_ret (results_cell_row rfl _ _ (w.heap.size + 1 + 1) 82 #[.int .i64 (sg b), .slice A' (dg b.natAbs).length c'] (0, 0) _ rfl h3 Try.underlying82 rfl (by kernel_rfl)) rfl ?_
    exact ⟨_, rfl, ⟨_, rfl, hB.out.fr f (fun _ h => h.elim)⟩, f⟩
  · by_cases h1 : sg b = 0
    · rw [show a + b = a from by have := sg0 h1; omega]
      have hs := h1
      generalize sg b = s at hs
      subst hs
      go_enter Try.func65, Try.ntmps65
      go_wp2_with fail
      obtain ⟨_, _, h3, f⟩ := tri w (Obj.cells #[Value.int IntKind.i64 (sg a), Value.slice A (dg a.natAbs).length c] 82) (Obj.cells #[Value.int IntKind.i64 0, Value.slice A' (dg b.natAbs).length c'] 82) (Obj.cells #[Value.int IntKind.i64 (sg a), Value.slice A (dg a.natAbs).length c] 82)
      refine bodyPost_ret (results_cell_row rfl _ _ (w.heap.size + 1 + 1) 82 #[.int .i64 (sg a), .slice A (dg a.natAbs).length c] (0, 0) _ rfl h3 Try.underlying82 rfl (by kernel_rfl)) rfl ?_
      exact ⟨_, rfl, ⟨_, rfl, hA.out.fr f (fun _ h => h.elim)⟩, f⟩
    · by_cases h2 : sg a = sg b
      · have hs : sg (a + b) = sg b ∧ (a + b).natAbs = a.natAbs + b.natAbs := by
          revert h0 h1 h2
          unfold sg
          repeat' split
          all_goals (intros; first | omega | (constructor <;> omega))
        have h1' := h1
        revert hs
        generalize sg a = s at h2
        subst h2
        intro hs
        obtain ⟨t1, t2, t3, f⟩ := tri w (Obj.cells #[Value.int IntKind.i64 (sg b), Value.slice A (dg a.natAbs).length c] 82) (Obj.cells #[Value.int IntKind.i64 (sg b), Value.slice A' (dg b.natAbs).length c'] 82) (Obj.cells #[Value.int IntKind.i64 0, Value.slice none 0 0] 82)
        go_enter Try.func65, Try.ntmps65
        go_wp2_with fail
        generalize ((w.alloc (Obj.cells #[Value.int IntKind.i64 (sg b), Value.slice A (dg a.natAbs).length c] 82)).alloc (Obj.cells #[Value.int IntKind.i64 (sg b), Value.slice A' (dg b.natAbs).length c'] 82)).alloc (Obj.cells #[Value.int IntKind.i64 0, Value.slice none 0 0] 82) = w3 at *
        obtain ⟨c0, c1⟩ := whole_cells (w := w3.drew) t1
        obtain ⟨c2, c3⟩ := whole_cells (w := w3.drew) t2
        have F := Lib.hid f
        have T1 := Lib.hid t1
        have T2 := Lib.hid t2
        have T3 := Lib.hid t3
        clear t1 t2 t3 f
        go_region_held3 (fun w' => w'.cell? ⟨w.heap.size, 0, none⟩ = some (.int .i64 (sg b)) ∧ w'.cell? ⟨w.heap.size, 1, none⟩ = some (Value.slice A (dg a.natAbs).length c) ∧ w'.cell? ⟨w.heap.size + 1, 0, none⟩ = some (.int .i64 (sg b)) ∧ w'.cell? ⟨w.heap.size + 1, 1, none⟩ = some (Value.slice A' (dg b.natAbs).length c'))
          (exact ⟨by first | assumption | exact cell_far (by assumption) (by dsimp only; omega) | exact cell_far (cell_far (by assumption) (by dsimp only; omega)) (by dsimp only; omega), by first | assumption | exact cell_far (by assumption) (by dsimp only; omega) | exact cell_far (cell_far (by assumption) (by dsimp only; omega)) (by dsimp only; omega), by first | assumption | exact cell_far (by assumption) (by dsimp only; omega) | exact cell_far (cell_far (by assumption) (by dsimp only; omega)) (by dsimp only; omega), by first | assumption | exact cell_far (by assumption) (by dsimp only; omega) | exact cell_far (cell_far (by assumption) (by dsimp only; omega)) (by dsimp only; omega)⟩)
          ((go_at_call 82; refine (nadd_c a.natAbs b.natAbs _ _ (Up S w w3.drew) _ (Up.lt hS F.out.drew.size) la lb (hA.out.up F.out.drew) (hB.out.up F.out.drew)).mono ?_; rintro e w4 ⟨v4, rfl, h4, f4⟩; obtain ⟨A4, c4, rfl⟩ := h4.slice; obtain ⟨d0, d1⟩ := whole_cells (ZFr.blk_fr (w := w3.drew) T1.out f4 (fun h => h)); obtain ⟨d2, d3⟩ := whole_cells (ZFr.blk_fr (w := w3.drew) T2.out f4 (fun h => h)); obtain ⟨d4, d5, d6, d7⟩ := whole_store (ZFr.blk_fr (w := w3.drew) T3.out f4 (fun h => h)); have T4 := Lib.hid (ZFr.blk_fr (w := w3.drew) T3.out f4 (fun h => h)); have H4 := Lib.hid h4; have F4 := Lib.hid f4; clear h4 f4))
        all_goals
          go_wp2_with fail
          have f5 := (((F.out.drew.trans F4.out (fun _ h _ => h)).set ⟨w.heap.size + 1 + 1, 0, none⟩ (.int .i64 (sg b)) (.inr (by dsimp only; omega))).set ⟨w.heap.size + 1 + 1, 1, none⟩ (Value.slice A4 (dg (a.natAbs + b.natAbs)).length c4) (.inr (by dsimp only; omega)))
          refine bodyPost_ret (results_cell_row rfl _ _ (w.heap.size + 1 + 1) 82 #[.int .i64 (sg b), .slice A4 (dg (a.natAbs + b.natAbs)).length c4] (0, 0) _ rfl (ZFr.blk_set (ZFr.blk_set T4.out 0 _) 1 _) Try.underlying82 rfl (by kernel_rfl)) rfl ?_
          refine ⟨_, rfl, ⟨_, by rw [hs.1], ?_⟩, f5⟩
          rw [hs.2]
          have hup : Up S w w3.drew (w.heap.size + 1 + 1) := .inr ⟨by omega, ZFr.blk_lt (w := w3.drew) T3.out⟩
          exact (H4.out.fr (((Fr.refl (Up S w w3.drew) w4).set ⟨w.heap.size + 1 + 1, 0, none⟩ _ (.inl hup)).set ⟨w.heap.size + 1 + 1, 1, none⟩ _ (.inl hup)) (fun _ h => h)).mono (fun _ h => .inl h)
      · exact absurd hd (by rintro (h | h | h); exact h0 h; exact h1 h; exact h2 h)
end Go.Proofs.Ytgaicbodpneeoaa.Big

