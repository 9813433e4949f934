/- What is used of RsT. -/
import Derived.Test.YtgaicbodpneeoaaSkRsQ
namespace Go.Proofs.Ytgaicbodpneeoaa.Rs
open Go.RowKit Go.Proofs.ZFr Go.Proofs.Ytgaicbodpneeoaa.PRasterImages Go.Proofs.Ytgaicbodpneeoaa.Wd Go.Proofs.YtgaicbodpneeoaaW.PrintWords
def inQ (a : Int) : Prop := -1099511627776 ≤ a ∧ a ≤ 1099511627776
instance (a : Int) : Decidable (inQ a) := inferInstanceAs (Decidable (_ ∧ _))
def i64Q (a : Int) : Prop := -9223372036854775808 ≤ a ∧ a < 9223372036854775808
theorem w64 {n : Int} (h1 : -9223372036854775808 ≤ n) (h2 : n < 9223372036854775808) : wrap64 n = n := by unfold wrap64; omega
theorem div_in {x n : Int} (hx : inQ x) (hn : 1 ≤ n) : i64Q (x / n) := by
  obtain ⟨h0, h1⟩ := hx
  have a1 : -1099511627776 * n ≤ -1099511627776 * 1 := Int.mul_le_mul_of_nonpos_left (by omega) hn
  have a2 : (1099511627776 + 1) * 1 ≤ (1099511627776 + 1) * n := Int.mul_le_mul_of_nonneg_left hn (by omega)
  have h2 : -1099511627776 ≤ x / n := Int.le_ediv_of_mul_le (by omega) (by omega)
  have h3 : x / n < 1099511627776 + 1 := Int.ediv_lt_of_lt_mul (by omega) (by omega)
  exact ⟨by omega, by omega⟩
theorem part_f (x n : Int) (hx : inQ x) (hn : 1 ≤ n ∧ n ≤ 1073741824) : lift_part.f x n = some (x % n, x / n) := by
  have hd := div_in hx hn.1
  have e := Int.mul_tdiv_add_tmod x n
  have hx1 := hx.1
  have hx2 := hx.2
  have a2 : (1099511627776 + 1) * 1 ≤ (1099511627776 + 1) * n := Int.mul_le_mul_of_nonneg_left hn.1 (by omega)
  have hd3 : x / n < 1099511627776 + 1 := Int.ediv_lt_of_lt_mul (by omega) (by omega)
  clear a2
  have hb : -n < Int.tmod x n ∧ Int.tmod x n < n := by
    by_cases h0 : 0 ≤ x
    · have h1 := Int.tmod_nonneg n h0
      have h2 := Int.tmod_lt_of_pos x (show 0 < n by omega)
      omega
    · have h1 := Int.tmod_nonneg (a := -x) n (by omega)
      have h2 := Int.tmod_lt_of_pos (-x) (show 0 < n by omega)
      rw [Int.neg_tmod] at h1 h2
      omega
  unfold lift_part.f
  rw [if_neg (by omega)]
  generalize Int.tmod x n = r at *
  generalize Int.tdiv x n = q at *
  by_cases hr : r < 0
  · have h9 : n * (q - 1) = n * q - n := by rw [Int.mul_sub, Int.mul_one]
    have h := (Int.ediv_emod_unique (a := x) (r := r + n) (q := q - 1) (show 0 < n by omega)).2 ⟨by omega, by omega, by omega⟩
    rw [if_pos hr, h.1, h.2]
    rw [h.1] at hd hd3
    have hd1 := hd.1
    have hd2 := hd.2
    rw [w64 (n := r + n) (by omega) (by omega), w64 (n := q) (by omega) (by omega), w64 (n := q - 1) (by omega) (by omega)]
  · have h := (Int.ediv_emod_unique (a := x) (r := r) (q := q) (show 0 < n by omega)).2 ⟨by omega, by omega, by omega⟩
    rw [if_neg hr, h.1, h.2]
    rw [h.1] at hd hd3
    have hd1 := hd.1
    have hd2 := hd.2
    rw [w64 (n := q) (by omega) (by omega)]
theorem within_f (x : Int) : lift_within.f x = some (decide (inQ x)) := by
  unfold lift_within.f
  by_cases h : x ≥ -1099511627776
  · rw [if_pos h]; congr 1; rw [decide_eq_decide]; unfold inQ; omega
  · rw [if_neg h]; congr 1; symm; rw [decide_eq_false_iff_not]; unfold inQ; omega
theorem can_f (x y : Int) : lift_can.f x y = some (decide (inQ x ∧ inQ y)) := by
  unfold lift_can.f
  rw [within_f, within_f]
  by_cases h : inQ x
  · simp [h]
  · simp [h]
theorem home_f (k : Nat) (x y n : Int) (hn : 1 ≤ n ∧ n ≤ 1073741824) : lift_Home.f (k + 1) x y n = if inQ x ∧ inQ y then some (x % n, y % n, x / n, y / n, true) else some (0, 0, 0, 0, false) := by
  have ht : lift_torus.f n = some true := by unfold lift_torus.f; rw [if_pos hn.1, decide_eq_true (by omega)]
  unfold lift_Home.f
  rw [ht, Option.bind_some, if_pos rfl, can_f, Option.bind_some, lift_Home.j0]
  by_cases h : inQ x ∧ inQ y
  · rw [decide_eq_true h, if_neg (by decide), part_f x n h.1 hn, Option.bind_some, part_f y n h.2 hn, Option.bind_some, if_pos h]
  · rw [decide_eq_false h, if_pos (by decide), if_neg h]
theorem can_c (x y : Int) (w : World) : Calls Try.prog 12 #[.agg #[.int .i64 x, .int .i64 y]] w fun e w' => e = .returned (.bool (decide (inQ x ∧ inQ y))) ∧ Fr (fun _ => False) w w' := by
  refine (lift_Can.calls x y _ w (by unfold lift_Can.f; rw [can_f]; rfl)).mono ?_
  rintro e w' ⟨rfl, hb⟩
  exact ⟨rfl, Fr.of_below hb⟩
theorem home_c (x y n : Int) (hn : 1 ≤ n ∧ n ≤ 1073741824) (hx : inQ x) (hy : inQ y) (w : World) : Calls Try.prog 13 #[.agg #[.int .i64 x, .int .i64 y], .int .i64 n] w fun e w' => e = .returned (.tuple #[.agg #[.int .i64 (x % n), .int .i64 (y % n)], .agg #[.int .i64 (x / n), .int .i64 (y / n)], .bool true]) ∧ Fr (fun _ => False) w w' := by
  refine (lift_Home.calls 1 x y n _ _ _ _ _ w (by rw [home_f 0 x y n hn, if_pos ⟨hx, hy⟩])).mono ?_
  rintro e w' ⟨rfl, hb⟩
  exact ⟨rfl, Fr.of_below hb⟩
end Go.Proofs.Ytgaicbodpneeoaa.Rs

