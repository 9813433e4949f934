/- The document's whole numbers of any length: what the printed functions on digits answer. -/
import Derived.Test.YtngmkjgklonfmaaBigV
import Derived.Test.YtngmkjgklonfmaaBigP5
import Derived.Test.YtngmkjgklonfmaaBigP7
import Derived.Test.YtngmkjgklonfmaaBigP1
namespace Go.Proofs.Ytngmkjgklonfmaa.Big
open Go.RowKit Go.Proofs.Ytngmkjgklonfmaa.PNearNearest Go.Proofs.YtngmkjgklonfmaaW.PrintWords

theorem w64 {n : Int} (h1 : -9223372036854775808 ≤ n) (h2 : n < 9223372036854775808) : wrap64 n = n := by unfold wrap64; omega
theorem rd_eq (x : List Int) (i : Nat) : rd x (i : Int) = x.getD i 0 := by simp [rd]
theorem getD_get {x : List Int} {i : Nat} (h : i < x.length) : x.getD i 0 = x[i] := by simp [List.getD, h]
theorem getD_none {x : List Int} {i : Nat} (h : x.length ≤ i) : x.getD i 0 = 0 := by simp [List.getD, h]
theorem Dig.getD {x : List Int} (h : Dig x) (i : Nat) : 0 ≤ x.getD i 0 ∧ x.getD i 0 < 65536 := by
  by_cases hi : i < x.length
  · rw [getD_get hi]; exact h.get hi
  · rw [getD_none (by omega)]; omega

theorem trim_go (x : List Int) (hd : Dig x) (hl : x.length < 2199023255552) : ∀ n k, n ≤ x.length → (∀ i (hi : i < x.length), n ≤ i → x[i] = 0) → n < k → zelligeref03_Trim.l0 k x (n : Int) = some (dg (val x).toNat) := by
  have fin : ∀ n, n ≤ x.length → (∀ i (hi : i < x.length), n ≤ i → x[i] = 0) → (∀ (h0 : 0 < n) (h1 : n - 1 < x.length), x[n - 1] ≠ 0) → x.take n = dg (val x).toNat := by
    intro n hn hz hl
    obtain ⟨h1, h2⟩ := trim_of hd hn hz (fun h0 => hl h0 (by omega))
    refine dg_of h1 ?_
    have := val_nonneg hd
    omega
  intro n
  induction n with
  | zero =>
    intro k hn hz hk
    obtain ⟨k, rfl⟩ : ∃ k', k = k' + 1 := ⟨k - 1, by omega⟩
    rw [zelligeref03_Trim.l0, if_neg (by omega), if_pos (by omega), if_pos (by omega)]
    exact congrArg some (fin 0 hn hz (fun h => absurd h (by omega)))
  | succ n ih =>
    intro k hn hz hk
    obtain ⟨k, rfl⟩ : ∃ k', k = k' + 1 := ⟨k - 1, by omega⟩
    have e : wrap64 (((n + 1 : Nat) : Int) - 1) = (n : Int) := by rw [w64 (n := ((n + 1 : Nat) : Int) - 1) (by omega) (by omega)]; omega
    rw [zelligeref03_Trim.l0, e, rd_eq, if_pos (by omega), if_pos (by omega), if_pos (by omega)]
    by_cases h0 : x.getD n 0 = 0
    · rw [if_pos h0]
      refine ih k (by omega) (fun i hi hni => ?_) (by omega)
      by_cases hin : i = n
      · subst hin; rw [← getD_get hi]; exact h0
      · exact hz i hi (by omega)
    · rw [if_neg h0, if_pos (by omega), if_pos (by omega)]
      refine congrArg some (fin (n + 1) hn hz (fun _ h1 => ?_))
      simp only [Nat.add_sub_cancel] at h1 ⊢
      rw [← getD_get h1]; exact h0
theorem trim_f (k : Nat) {x : List Int} (hd : Dig x) (hl : x.length < 2199023255552) (hk : x.length < k) {v : Nat} (hv : val x = v) : zelligeref03_Trim.f k x = some (dg v) := by
  have := trim_go x hd hl x.length k (Nat.le_refl _) (fun i hi h => absurd hi (by omega)) hk
  rw [hv] at this
  exact this

theorem drop_at (a : List Int) (i : Nat) : val (a.drop i) = a.getD i 0 + 65536 * val (a.drop (i + 1)) := by
  by_cases hi : i < a.length
  · rw [List.drop_eq_getElem_cons hi, getD_get hi]; rfl
  · rw [List.drop_eq_nil_of_le (by omega), List.drop_eq_nil_of_le (by omega), getD_none (by omega)]; rfl

theorem add_step (k : Nat) (a b x : List Int) (c : Int) (i : Nat) (ha : Dig a) (hb : Dig b) (hla : a.length < 1099511627776) (hlb : b.length < 1099511627776) (hx : x.length < 17592186044416) (hc : 0 ≤ c ∧ c ≤ 1) (hi : i < a.length ∨ i < b.length) :
    zelligeref03_Add.l0 (k + 2) a b x c (i : Int) = zelligeref03_Add.l0 k a b (x ++ [(c + a.getD i 0 + b.getD i 0) % 65536]) ((c + a.getD i 0 + b.getD i 0) / 65536) ((i + 1 : Nat) : Int) := by
  have h1 := ha.getD i
  have h2 := hb.getD i
  have e1 : wrap64 ((i : Int) + 1) = ((i + 1 : Nat) : Int) := by rw [w64 (n := (i : Int) + 1) (by omega) (by omega)]; omega
  have key : zelligeref03_Add.j1 (k + 1) a b x c (i : Int) true = zelligeref03_Add.l0 k a b (x ++ [(c + a.getD i 0 + b.getD i 0) % 65536]) ((c + a.getD i 0 + b.getD i 0) / 65536) ((i + 1 : Nat) : Int) := by
    have h3 : ¬ i < a.length → a.getD i 0 = 0 := fun h => getD_none (by omega)
    have h4 : ¬ i < b.length → b.getD i 0 = 0 := fun h => getD_none (by omega)
    rw [zelligeref03_Add.j1, if_pos rfl, e1, rd_eq, rd_eq]
    generalize a.getD i 0 = p at *
    generalize b.getD i 0 = q at *
    have w1 : wrap64 (c + p) = c + p := w64 (by omega) (by omega)
    have w2 : wrap64 (c + q) = c + q := w64 (by omega) (by omega)
    have w3 : wrap64 (c + p + q) = c + p + q := w64 (by omega) (by omega)
    rw [w1, w2, w3]
    by_cases ia : i < a.length
    · rw [if_pos (by omega), if_pos (by omega)]
      by_cases ib : i < b.length
      · rw [if_pos (by omega), if_pos hx, Int.tmod_eq_emod_of_nonneg (by omega), Int.tdiv_eq_ediv_of_nonneg (by omega), w64 (n := (c + p + q) / 65536) (by omega) (by omega)]
      · rw [if_neg (by omega), if_pos hx, h4 ib, Int.tmod_eq_emod_of_nonneg (by omega), Int.tdiv_eq_ediv_of_nonneg (by omega), w64 (n := (c + p) / 65536) (by omega) (by omega), Int.add_zero]
    · rw [if_neg (by omega), if_pos (by omega), if_pos (by omega), if_pos hx, h3 ia, Int.tmod_eq_emod_of_nonneg (by omega), Int.tdiv_eq_ediv_of_nonneg (by omega), w64 (n := (c + q) / 65536) (by omega) (by omega), Int.add_zero]
  rw [zelligeref03_Add.l0]
  by_cases ia : i < a.length
  · rw [if_pos (by omega)]; exact key
  · rw [if_neg (by omega), decide_eq_true (by omega : (i : Int) < b.length)]; exact key
theorem add_go (a b : List Int) (ha : Dig a) (hb : Dig b) (hla : a.length < 1099511627776) (hlb : b.length < 1099511627776) : ∀ n k i x c, n + i = max a.length b.length → x.length = i → Dig x → 0 ≤ c ∧ c ≤ 1 → val x + 65536 ^ i * (c + val (a.drop i) + val (b.drop i)) = val a + val b → 2 * n + max a.length b.length + 4 ≤ k → zelligeref03_Add.l0 k a b x c (i : Int) = some (dg (val a + val b).toNat) := by
  intro n
  induction n with
  | zero =>
    intro k i x c hn hx hd hc hv hk
    obtain ⟨k, rfl⟩ : ∃ k', k = k' + 2 := ⟨k - 2, by omega⟩
    rw [List.drop_eq_nil_of_le (by omega), List.drop_eq_nil_of_le (by omega)] at hv
    simp only [val, Int.add_zero] at hv
    rw [zelligeref03_Add.l0, if_neg (by omega), decide_eq_false (by omega), zelligeref03_Add.j1, if_neg (by decide), if_pos (by omega)]
    have hv' : val (x ++ [c]) = val a + val b := by rw [val_snoc, hx]; exact hv
    rw [trim_f k (hd.append (Dig.one (by omega))) (by simp; omega) (by simp; omega) (v := (val a + val b).toNat) (by have := val_nonneg ha; have := val_nonneg hb; omega)]
    rfl
  | succ n ih =>
    intro k i x c hn hx hd hc hv hk
    obtain ⟨k, rfl⟩ : ∃ k', k = k' + 2 := ⟨k - 2, by omega⟩
    rw [add_step k a b x c i ha hb hla hlb (by omega) hc (by omega)]
    have h1 := ha.getD i
    have h2 := hb.getD i
    refine ih k (i + 1) _ _ (by omega) (by simp; omega) (hd.append (Dig.one (by omega))) (by omega) ?_ (by omega)
    rw [drop_at a i, drop_at b i] at hv
    rw [val_snoc, hx, ← hv, Int.pow_succ, Int.add_assoc, Int.mul_assoc, ← Int.mul_add]
    congr 2
    omega
theorem add_f (k : Nat) (m n : Nat) (hm : (dg m).length < 1099511627776) (hn : (dg n).length < 1099511627776) (hk : 3 * max (dg m).length (dg n).length + 4 ≤ k) : zelligeref03_Add.f k (dg m) (dg n) = some (dg (m + n)) := by
  have := add_go (dg m) (dg n) (dg_dig m) (dg_dig n) hm hn (max (dg m).length (dg n).length) k 0 [] 0 rfl rfl Dig.nil (by omega) (by simp [val]) (by omega)
  rw [dg_val, dg_val, show ((m : Int) + n).toNat = m + n from by omega] at this
  exact this
theorem sub_step (k : Nat) (a b x : List Int) (c : Int) (i : Nat) (ha : Dig a) (hb : Dig b) (hla : a.length < 1099511627776) (hx : x.length < 17592186044416) (hc : 0 ≤ c ∧ c ≤ 1) (hi : i < a.length) :
    zelligeref03_Sub.l0 (k + 1) a b x c (i : Int) = zelligeref03_Sub.l0 k a b (x ++ [(a.getD i 0 - c - b.getD i 0) % 65536]) (if a.getD i 0 - c - b.getD i 0 < 0 then 1 else 0) ((i + 1 : Nat) : Int) := by
  have h1 := ha.getD i
  have h2 := hb.getD i
  have e1 : wrap64 ((i : Int) + 1) = ((i + 1 : Nat) : Int) := by rw [w64 (n := (i : Int) + 1) (by omega) (by omega)]; omega
  have h4 : ¬ i < b.length → b.getD i 0 = 0 := fun h => getD_none (by omega)
  rw [zelligeref03_Sub.l0, e1, rd_eq, rd_eq, if_pos (by omega), if_pos (by omega)]
  generalize a.getD i 0 = p at *
  generalize b.getD i 0 = q at *
  have w1 : wrap64 (p - c) = p - c := w64 (by omega) (by omega)
  have w3 : wrap64 (p - c - q) = p - c - q := w64 (by omega) (by omega)
  rw [w1, w3]
  have fin : ∀ q, 0 ≤ q ∧ q < 65536 → (if p - c - q < 0 then (if x.length < 17592186044416 then (zelligeref03_Sub.l0 k a b (x ++ [wrap64 (p - c - q + 65536)]) 1 ((i + 1 : Nat) : Int)) else none) else (if x.length < 17592186044416 then (zelligeref03_Sub.l0 k a b (x ++ [p - c - q]) 0 ((i + 1 : Nat) : Int)) else none)) = zelligeref03_Sub.l0 k a b (x ++ [(p - c - q) % 65536]) (if p - c - q < 0 then 1 else 0) ((i + 1 : Nat) : Int) := by
    intro q hq
    by_cases hn : p - c - q < 0
    · rw [if_pos hn, if_pos hn, if_pos hx, w64 (n := p - c - q + 65536) (by omega) (by omega)]
      congr 3
      omega
    · rw [if_neg hn, if_neg hn, if_pos hx]
      congr 3
      omega
  by_cases ib : i < b.length
  · rw [if_pos (by omega)]; exact fin q h2
  · rw [if_neg (by omega), h4 ib]
    have := fin 0 (by omega)
    rw [Int.sub_zero] at this
    rw [Int.sub_zero]
    exact this
theorem sub_go (a b : List Int) (ha : Dig a) (hb : Dig b) (hla : a.length < 1099511627776) (hle : val b ≤ val a) : ∀ n k i x c, n + i = a.length → x.length = i → Dig x → 0 ≤ c ∧ c ≤ 1 → val x + 65536 ^ i * (val (a.drop i) - val (b.drop i) - c) = val a - val b → n + a.length + 4 ≤ k → zelligeref03_Sub.l0 k a b x c (i : Int) = some (dg (val a - val b).toNat) := by
  intro n
  induction n with
  | zero =>
    intro k i x c hn hx hd hc hv hk
    obtain ⟨k, rfl⟩ : ∃ k', k = k' + 1 := ⟨k - 1, by omega⟩
    have h1 : 0 ≤ val (b.drop i) := val_nonneg (fun x hx => hb x (List.mem_of_mem_drop hx))
    rw [List.drop_eq_nil_of_le (by omega : a.length ≤ i)] at hv
    have hx2 := val_lt hd
    rw [hx] at hx2
    have h0 : val (b.drop i) + c = 0 := by
      by_cases hz : val (b.drop i) + c = 0
      · exact hz
      · have h3 : (65536 : Int) ^ i * (val [] - val (b.drop i) - c) ≤ 65536 ^ i * (-1) := Int.mul_le_mul_of_nonneg_left (by simp only [val]; omega) (Int.le_of_lt (pow_pos i))
        omega
    have hv' : val x = val a - val b := by
      rw [show val ([] : List Int) - val (b.drop i) - c = 0 from by simp only [val]; omega] at hv
      omega
    rw [zelligeref03_Sub.l0, if_neg (by omega), trim_f k hd (by omega) (by omega) (v := (val a - val b).toNat) (by omega)]
    rfl
  | succ n ih =>
    intro k i x c hn hx hd hc hv hk
    obtain ⟨k, rfl⟩ : ∃ k', k = k' + 1 := ⟨k - 1, by omega⟩
    rw [sub_step k a b x c i ha hb hla (by omega) hc (by omega)]
    have h1 := ha.getD i
    have h2 := hb.getD i
    refine ih k (i + 1) _ _ (by omega) (by simp; omega) (hd.append (Dig.one (by omega))) (by split <;> omega) ?_ (by omega)
    rw [drop_at a i, drop_at b i] at hv
    rw [val_snoc, hx, ← hv, Int.pow_succ, Int.add_assoc, Int.mul_assoc, ← Int.mul_add]
    congr 2
    split <;> omega
theorem sub_f (k : Nat) (m n : Nat) (hm : (dg m).length < 1099511627776) (hle : n ≤ m) (hk : 2 * (dg m).length + 4 ≤ k) : zelligeref03_Sub.f k (dg m) (dg n) = some (dg (m - n)) := by
  have := sub_go (dg m) (dg n) (dg_dig m) (dg_dig n) hm (by rw [dg_val, dg_val]; omega) (dg m).length k 0 [] 0 rfl rfl Dig.nil (by omega) (by simp [val]) (by omega)
  rw [dg_val, dg_val, show ((m : Int) - n).toNat = m - n from by omega] at this
  exact this
def cmp3 (a b : Int) : Int := if a < b then -1 else if a > b then 1 else 0
theorem take_at (a : List Int) (i : Nat) (h : i < a.length) : val (a.take (i + 1)) = val (a.take i) + 65536 ^ i * a.getD i 0 := by
  rw [List.take_succ_eq_append_getElem h, val_snoc, List.length_take, Nat.min_eq_left (by omega), getD_get h]
theorem cmp_go (a b : List Int) (ha : Dig a) (hb : Dig b) (hl : a.length = b.length) (hla : a.length < 1099511627776) : ∀ i k, i ≤ a.length → i < k → zelligeref03_Cmp.l0 k a b ((i : Int) - 1) = some (cmp3 (val (a.take i)) (val (b.take i))) := by
  intro i
  induction i with
  | zero =>
    intro k _ hk
    obtain ⟨k, rfl⟩ : ∃ k', k = k' + 1 := ⟨k - 1, by omega⟩
    rw [zelligeref03_Cmp.l0, if_neg (by omega)]
    rfl
  | succ i ih =>
    intro k hi hk
    obtain ⟨k, rfl⟩ : ∃ k', k = k' + 1 := ⟨k - 1, by omega⟩
    rw [show ((i + 1 : Nat) : Int) - 1 = (i : Int) from by omega, zelligeref03_Cmp.l0, rd_eq, rd_eq, if_pos (by omega), if_pos (by omega), if_pos (by omega), if_pos (by omega), take_at a i (by omega), take_at b i (by omega), w64 (n := (i : Int) - 1) (by omega) (by omega)]
    have h1 := val_lt (ha.take i)
    have h2 := val_lt (hb.take i)
    rw [List.length_take, Nat.min_eq_left (by omega)] at h1 h2
    have h3 := val_nonneg (ha.take i)
    have h4 := val_nonneg (hb.take i)
    have hp := pow_pos i
    have e := ih k (by omega) (by omega)
    generalize a.getD i 0 = p at *
    generalize b.getD i 0 = q at *
    by_cases hlt : p < q
    · have : (65536 : Int) ^ i * (p + 1) ≤ 65536 ^ i * q := Int.mul_le_mul_of_nonneg_left (by omega) (by omega)
      rw [Int.mul_add] at this
      rw [if_pos hlt, cmp3, if_pos (by omega)]
    · rw [if_neg hlt]
      by_cases hgt : p > q
      · have : (65536 : Int) ^ i * (q + 1) ≤ 65536 ^ i * p := Int.mul_le_mul_of_nonneg_left (by omega) (by omega)
        rw [Int.mul_add] at this
        rw [if_pos hgt, cmp3, if_neg (by omega), if_pos (by omega)]
      · obtain rfl : p = q := by omega
        rw [if_neg hgt, e]
        congr 1
        generalize 65536 ^ i * p = z
        unfold cmp3
        simp only [Int.add_lt_add_iff_right, gt_iff_lt]
theorem cmp_f (k : Nat) (m n : Nat) (hm : (dg m).length < 1099511627776) (hk : (dg m).length < k) : zelligeref03_Cmp.f k (dg m) (dg n) = some (cmp3 m n) := by
  unfold zelligeref03_Cmp.f
  have vm := dg_val m
  have vn := dg_val n
  by_cases h1 : (dg m).length < (dg n).length
  · have := lt_of_len (dg_dig m) (dg_nrm n) h1
    rw [if_pos (by omega), cmp3, if_pos (by omega)]
  · by_cases h2 : (dg m).length > (dg n).length
    · have := lt_of_len (dg_dig n) (dg_nrm m) h2
      rw [if_neg (by omega), if_pos (by omega), cmp3, if_neg (by omega), if_pos (by omega)]
    · rw [if_neg (by omega), if_neg (by omega), w64 (n := ((dg m).length : Int) - 1) (by omega) (by omega), cmp_go (dg m) (dg n) (dg_dig m) (dg_dig n) (by omega) hm (dg m).length k (Nat.le_refl _) hk, List.take_length, List.take_of_length_le (by omega), vm, vn]
end Go.Proofs.Ytngmkjgklonfmaa.Big
