/- The document's whole numbers of any length: products, numbers of 64 bits. -/
import Derived.Test.YtngmkjgklonfmaaBigF
namespace Go.Proofs.Ytngmkjgklonfmaa.Big
open Go.RowKit Go.Proofs.Ytngmkjgklonfmaa.PNearNearest Go.Proofs.YtngmkjgklonfmaaW.PrintWords

theorem rd2 (a b : Int) : rd [a, b] 0 = a ∧ rd [a, b] 1 = b := ⟨rfl, rfl⟩
theorem of_f (k : Nat) (a b : Int) (ha : 0 ≤ a ∧ a < 4294967296) (hb : 0 ≤ b ∧ b < 4294967296) (hk : 10 ≤ k) : zelligeref03_Of.f k [a, b] = some (dg (a + 4294967296 * b).toNat) := by
  obtain ⟨k, rfl⟩ : ∃ k', k = k' + 3 := ⟨k - 3, by omega⟩
  unfold zelligeref03_Of.f
  have m : ∀ n : Int, 0 ≤ n → Int.tmod n 65536 = n % 65536 := fun n h => Int.tmod_eq_emod_of_nonneg h
  have d : ∀ n : Int, 0 ≤ n → Int.tdiv n 65536 = n / 65536 := fun n h => Int.tdiv_eq_ediv_of_nonneg h
  rw [zelligeref03_Of.l0, if_pos (by simp), if_pos (by omega), Option.bind_some, if_pos (by simp), (rd2 a b).1, zelligeref03_Of.l0, show wrap64 (0 + 1) = 1 from by rw [w64 (n := 0 + 1) (by omega) (by omega)]; rfl, if_pos (by simp), if_pos (by omega), Option.bind_some, if_pos (by simp), (rd2 a b).2, show wrap64 (1 + 1) = 2 from by rw [w64 (n := 1 + 1) (by omega) (by omega)]; rfl, zelligeref03_Of.l0, if_neg (by simp), m a ha.1, m b hb.1, d a ha.1, d b hb.1, w64 (n := a % 65536) (by omega) (by omega), w64 (n := b % 65536) (by omega) (by omega), Int.emod_eq_of_lt (a := a / 65536) (by omega) (by omega), Int.emod_eq_of_lt (a := b / 65536) (by omega) (by omega)]
  rw [trim_f k (x := ([] ++ [a % 65536, a / 65536]) ++ [b % 65536, b / 65536]) (fun x hx => by simp at hx; rcases hx with rfl | rfl | rfl | rfl <;> omega) (by simp) (by simp; omega) (v := (a + 4294967296 * b).toNat) (by simp [val]; omega)]
  rfl
def sg (n : Int) : Int := if n = 0 then 0 else if n < 0 then -1 else 1
theorem long_f (k : Nat) (n : Int) (h0 : -9223372036854775808 ≤ n) (h1 : n < 9223372036854775808) (hk : 10 ≤ k) : zelligeref04_Long.f k n = some (sg n, dg n.natAbs) := by
  have u : ∀ n, IntKind.u64.wrap n = n % 18446744073709551616 := fun _ => rfl
  unfold zelligeref04_Long.f sg
  simp only [u]
  by_cases hz : n = 0
  · subst hz; rw [if_pos rfl, if_pos rfl, show (0 : Int).natAbs = 0 from rfl, dg_zero]
  · rw [if_neg hz, if_neg hz]
    by_cases hn : n < 0
    · rw [if_pos hn, if_pos hn, of_f k _ _ (by omega) (by omega) hk, Option.bind_some]
      congr 3
      congr 1
      omega
    · rw [if_neg hn, if_neg hn, of_f k _ _ (by omega) (by omega) hk, Option.bind_some]
      congr 3
      congr 1
      omega
theorem val_set : ∀ (l : List Int) (j : Nat) (v : Int), j < l.length → val (l.set j v) = val l + 65536 ^ j * (v - l.getD j 0)
  | [], j, v, h => by simp at h
  | d :: l, 0, v, h => by simp [val]; omega
  | d :: l, j + 1, v, h => by
    simp only [List.set_cons_succ, val, List.getD_cons_succ]
    rw [val_set l j v (by simpa using h), Int.mul_add, Int.pow_succ, Int.mul_comm (65536 ^ j) 65536, Int.mul_assoc]
    omega
theorem Dig.set {l : List Int} (h : Dig l) (j : Nat) {v : Int} (hv : 0 ≤ v ∧ v < 65536) : Dig (l.set j v) := fun x hx => by
  rcases List.mem_or_eq_of_mem_set hx with hx | rfl
  · exact h x hx
  · exact hv
theorem getD_set_ne {l : List Int} {i j : Nat} {v : Int} (h : i ≠ j) : (l.set i v).getD j 0 = l.getD j 0 := by
  simp only [List.getD, List.getElem?_set_ne h]
theorem wj {j m : Nat} (h : j < 4398046511104) (hm : m = j + 1) : wrap64 ((j : Int) + 1) = (m : Int) := by rw [w64 (n := (j : Int) + 1) (by omega) (by omega)]; omega
theorem wj2 {i j m : Nat} (h : i + j < 4398046511104) (hm : m = i + j) : wrap64 ((i : Int) + j) = (m : Int) := by rw [w64 (n := (i : Int) + j) (by omega) (by omega)]; omega
theorem mul_step (k : Nat) (a b x : List Int) (i j : Nat) (c : Int) (ha : Dig a) (hb : Dig b) (hd : Dig x) (hla : a.length < 1099511627776) (hlb : b.length < 1099511627776) (hx : x.length = a.length + b.length) (hc : 0 ≤ c ∧ c < 65536) (hi : i < a.length) (hj : j < b.length) :
    ∃ s : Int, s = c + x.getD (i + j) 0 + a.getD i 0 * b.getD j 0 ∧ 0 ≤ s ∧ s < 4294967296 ∧ zelligeref03_Mul.l1 (k + 1) a b x (i : Int) c (j : Int) = zelligeref03_Mul.l1 k a b (x.set (i + j) (s % 65536)) (i : Int) (s / 65536) ((j + 1 : Nat) : Int) := by
  have h1 := ha.getD i
  have h2 := hb.getD j
  have h3 := hd.getD (i + j)
  have c1 : (j : Int) < b.length := by omega
  have c2 : (0 : Int) ≤ ((i + j : Nat) : Int) := by omega
  have c3 : ((i + j : Nat) : Int) < x.length := by omega
  have c4 : (0 : Int) ≤ (i : Int) := by omega
  have c5 : (i : Int) < a.length := by omega
  have c6 : (0 : Int) ≤ (j : Int) := by omega
  refine ⟨_, rfl, ?_⟩
  rw [zelligeref03_Mul.l1, wj (by omega) rfl, wj2 (by omega) rfl, rd_eq, rd_eq, rd_eq, if_pos c1, if_pos c2, if_pos c3, if_pos c4, if_pos c5, if_pos c6]
  clear c1 c2 c3 c4 c5 c6
  generalize a.getD i 0 = p at *
  generalize b.getD j 0 = q at *
  generalize x.getD (i + j) 0 = o at *
  have p0 : 0 ≤ p * q := Int.mul_nonneg h1.1 h2.1
  have p1 : p * q ≤ 65535 * 65535 := Int.mul_le_mul (by omega) (by omega) h2.1 (by omega)
  generalize p * q = m at *
  rw [w64 (n := m) (by omega) (by omega), w64 (n := c + o) (by omega) (by omega), w64 (n := c + o + m) (by omega) (by omega), Int.tmod_eq_emod_of_nonneg (by omega), Int.tdiv_eq_ediv_of_nonneg (by omega), w64 (n := (c + o + m) / 65536) (by omega) (by omega)]
  exact ⟨by omega, by omega, rfl⟩
theorem mul_in (a b : List Int) (ha : Dig a) (hb : Dig b) (hla : a.length < 1099511627776) (hlb : b.length < 1099511627776) (i : Nat) (hi : i < a.length) (V : Int) : ∀ n k j x c, n + j = b.length → x.length = a.length + b.length → Dig x → 0 ≤ c ∧ c < 65536 → (∀ q, i + b.length ≤ q → x.getD q 0 = 0) → val x + 65536 ^ (i + j) * c = V + 65536 ^ i * (a.getD i 0 * val (b.take j)) → n + 1 ≤ k →
    ∃ x', zelligeref03_Mul.l1 k a b x (i : Int) c (j : Int) = zelligeref03_Mul.l0 (k - n - 1) a b x' ((i + 1 : Nat) : Int) ∧ x'.length = a.length + b.length ∧ Dig x' ∧ (∀ q, i + 1 + b.length ≤ q → x'.getD q 0 = 0) ∧ val x' = V + 65536 ^ i * (a.getD i 0 * val b) := by
  intro n
  induction n with
  | zero =>
    intro k j x c hn hx hd hc hz hv hk
    obtain ⟨k, rfl⟩ : ∃ k', k = k' + 1 := ⟨k - 1, by omega⟩
    refine ⟨x.set (i + b.length) c, ?_, by simp [hx], hd.set _ hc, fun q hq => ?_, ?_⟩
    · have c1 : ¬ (j : Int) < b.length := by omega
      have c2 : (0 : Int) ≤ ((i + b.length : Nat) : Int) := by omega
      have c3 : ((i + b.length : Nat) : Int) < x.length := by omega
      rw [zelligeref03_Mul.l1, if_neg c1, wj2 (i := i) (j := b.length) (by omega) rfl, wj (j := i) (by omega) rfl, if_pos c2, if_pos c3]
      rfl
    · rw [getD_set_ne (by omega)]; exact hz q (by omega)
    · rw [val_set _ _ _ (by omega), hz _ (Nat.le_refl _), Int.sub_zero]
      have hj : j = b.length := by omega
      subst hj
      rw [List.take_length] at hv
      exact hv
  | succ n ih =>
    intro k j x c hn hx hd hc hz hv hk
    obtain ⟨k, rfl⟩ : ∃ k', k = k' + 1 := ⟨k - 1, by omega⟩
    obtain ⟨s, hs, s0, s1, e⟩ := mul_step k a b x i j c ha hb hd hla hlb hx hc hi (by omega)
    rw [e, show k + 1 - (n + 1) - 1 = k - n - 1 from by omega]
    refine ih k (j + 1) _ _ (by omega) (by simp [hx]) (hd.set _ (by omega)) (by omega) (fun q hq => ?_) ?_ (by omega)
    · rw [getD_set_ne (by omega)]; exact hz q hq
    · rw [val_set _ _ _ (by omega), take_at b j (by omega), Int.mul_add, Int.mul_add, ← Int.add_assoc, ← hv, ← Nat.add_assoc, Int.pow_succ]
      have e3 : (65536 : Int) ^ i * (a.getD i 0 * (65536 ^ j * b.getD j 0)) = 65536 ^ (i + j) * (a.getD i 0 * b.getD j 0) := by
        rw [Int.pow_add, ← Int.mul_assoc (a.getD i 0), Int.mul_comm (a.getD i 0), Int.mul_assoc (65536 ^ j), Int.mul_assoc]
      rw [e3, Int.add_assoc, Int.add_assoc, Int.mul_assoc, ← Int.mul_add, ← Int.mul_add]
      congr 2
      omega
theorem mul_go (a b : List Int) (ha : Dig a) (hb : Dig b) (hla : a.length < 1099511627776) (hlb : b.length < 1099511627776) : ∀ n k i x, n + i = a.length → x.length = a.length + b.length → Dig x → (∀ q, i + b.length ≤ q → x.getD q 0 = 0) → val x = val (a.take i) * val b → n * (b.length + 2) + a.length + b.length + 4 ≤ k →
    zelligeref03_Mul.l0 k a b x (i : Int) = some (dg (val a * val b).toNat) := by
  intro n
  induction n with
  | zero =>
    intro k i x hn hx hd hz hv hk
    obtain ⟨k, rfl⟩ : ∃ k', k = k' + 1 := ⟨k - 1, by omega⟩
    rw [List.take_of_length_le (by omega)] at hv
    have := Int.mul_nonneg (val_nonneg ha) (val_nonneg hb)
    rw [zelligeref03_Mul.l0, if_neg (by omega), trim_f k hd (by omega) (by omega) (v := (val a * val b).toNat) (by omega)]
    rfl
  | succ n ih =>
    intro k i x hn hx hd hz hv hk
    obtain ⟨k, rfl⟩ : ∃ k', k = k' + 1 := ⟨k - 1, by omega⟩
    have hk' : n * (b.length + 2) + (b.length + 2) + a.length + b.length + 4 ≤ k + 1 := by rw [← Nat.succ_mul]; exact hk
    obtain ⟨x', e, h1, h2, h3, h4⟩ := mul_in a b ha hb hla hlb i (by omega) (val x) b.length k 0 x 0 (by omega) hx hd (by omega) hz (by simp [val]) (by omega)
    rw [zelligeref03_Mul.l0, if_pos (by omega)]
    refine e.trans (ih _ (i + 1) x' (by omega) h1 h2 h3 ?_ (by omega))
    rw [h4, hv, take_at a i (by omega), Int.add_mul, Int.mul_assoc]
theorem mul_f (k : Nat) (m n : Nat) (hm : (dg m).length < 1000) (hn : (dg n).length < 1000) (hk : 2000000 ≤ k) : zelligeref03_Mul.f k (dg m) (dg n) = some (dg (m * n)) := by
  have vr : ∀ n, val (List.replicate n 0) = 0 := fun n => by induction n with
    | zero => rfl
    | succ n ih => rw [List.replicate_succ, val, ih]; rfl
  have hmul : (dg m).length * ((dg n).length + 2) ≤ 1000 * 1002 := Nat.mul_le_mul (by omega) (by omega)
  have := mul_go (dg m) (dg n) (dg_dig m) (dg_dig n) (by omega) (by omega) (dg m).length k 0 (List.replicate ((dg m).length + (dg n).length) 0) (by omega) (by simp) (fun x hx => by rw [(List.mem_replicate.1 hx).2]; omega) (fun q _ => by simp [List.getD, List.getElem?_replicate]; split <;> rfl) (by rw [vr]; simp [val]) (by omega)
  rw [dg_val, dg_val, show ((m : Int) * n).toNat = m * n from by rw [← Int.natCast_mul]; rfl] at this
  unfold zelligeref03_Mul.f
  rw [w64 (n := ((dg m).length : Int) + (dg n).length) (by omega) (by omega), if_pos (by omega), if_pos (by omega), show (((dg m).length : Int) + (dg n).length).toNat = (dg m).length + (dg n).length from by omega]
  exact this
end Go.Proofs.Ytngmkjgklonfmaa.Big
