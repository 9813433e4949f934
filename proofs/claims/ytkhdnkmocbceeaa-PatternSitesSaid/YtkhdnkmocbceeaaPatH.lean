/- The walks of pattern.Grid and pattern.Skew. -/
import Derived.Test.YtkhdnkmocbceeaaPatG
namespace Go.Proofs.Ytkhdnkmocbceeaa.Pat
open Go.RowKit Go.Proofs.ZFr
open Go.Joins (below_alloc1 below_alloc2 below_draws)

set_option maxRecDepth 100000 in
set_option maxHeartbeats 800000 in
theorem Grid_yes (w : World) (n : Int) (K : Nat) (hn0 : 1 ≤ n) (hn1 : n ≤ 1073741824) (hk0 : 1 ≤ K) (hk1 : K ≤ 64) (hkn : (K : Int) ≤ n) :
    Calls Try.prog 14 #[.int .i64 n, .int .i64 (K : Int)] w fun e w' => ∃ v, e = .returned v ∧ w'.ownsRow w.heap.size 61 3 v (K * K) (flat (gr n K (K * K))) ∧ Below w.heap.size w w' := by
  have k1 : ((K : Int) < 1) = False := by simp; omega
  have k2 : (64 < (K : Int)) = False := by simp; omega
  have k3 : (n < (K : Int)) = False := by simp; omega
  go_enter Try.func14, Try.ntmps14
  go_wp2_with (go_at_call 43; refine (side_yes _ n hn0 hn1).mono ?_; rintro e w' ⟨rfl, rfl⟩)
  refine (grid_45 _ w.heap.size (w.heap.size + 1) n K (by go_simp) (by go_simp) hn0 hn1 hk0 hk1).mono ?_
  rintro e w1 ⟨v, rfl, ho, hb⟩
  have HO := Lib.hid ho
  have HB := Lib.hid hb
  clear ho hb
  go_wp2_with fail
  go_ret
  have h1 := row_low HO.out (show w.heap.size ≤ _ by simp; omega)
  exact ⟨_, rfl, h1, (below_alloc2 w _ _).trans (HB.out.mono (by simp; omega))⟩

set_option maxRecDepth 100000 in
set_option maxHeartbeats 800000 in
theorem Skew_yes (w : World) (n : Int) (K : Nat) (hn0 : 1 ≤ n) (hn1 : n ≤ 1073741824) (hk0 : 1 ≤ K) (hk1 : K ≤ 64) (hkn : 2 * (K : Int) ≤ n) :
    Calls Try.prog 16 #[.int .i64 n, .int .i64 (K : Int)] w fun e w' => ∃ v, e = .returned v ∧ w'.ownsRow w.heap.size 61 3 v (K * K) (flat (sk n K (K * K))) ∧ Below w.heap.size w w' := by
  have k1 : ((K : Int) < 1) = False := by simp; omega
  have k2 : (64 < (K : Int)) = False := by simp; omega
  have k3 : (n < 2 * (K : Int)) = False := by simp; omega
  go_enter Try.func16, Try.ntmps16
  go_wp2_with (go_at_call 43; refine (side_yes _ n hn0 hn1).mono ?_; rintro e w' ⟨rfl, rfl⟩)
  refine (grid_47 _ w.heap.size (w.heap.size + 1) n K (by go_simp) (by go_simp) hn0 hn1 hk0 hk1).mono ?_
  rintro e w1 ⟨v, rfl, ho, hb⟩
  have HO := Lib.hid ho
  have HB := Lib.hid hb
  clear ho hb
  go_wp2_with fail
  go_ret
  have h1 := row_low HO.out (show w.heap.size ≤ _ by simp; omega)
  exact ⟨_, rfl, h1, (below_alloc2 w _ _).trans (HB.out.mono (by simp; omega))⟩

set_option maxHeartbeats 800000 in
theorem Grid_no (w : World) (n k : Int) (hk : -9223372036854775808 ≤ k ∧ k ≤ 9223372036854775807) (h : ¬ ((1 ≤ n ∧ n ≤ 1073741824) ∧ 1 ≤ k ∧ k ≤ 64 ∧ k ≤ n)) :
    Calls Try.prog 14 #[.int .i64 n, .int .i64 k] w fun e w' => e = .returned (.slice none 0 0) ∧ Below w.heap.size w w' := by
  by_cases hs : 1 ≤ n ∧ n ≤ 1073741824
  · obtain ⟨hn0, hn1⟩ := hs
    have h' : k < 1 ∨ 64 < k ∨ n < k := by omega
    go_enter Try.func14, Try.ntmps14
    go_wp2_with (go_at_call 43; refine (side_yes _ n hn0 hn1).mono ?_; rintro e w' ⟨rfl, rfl⟩)
    all_goals first | (exfalso; omega) | skip
    all_goals (go_ret; exact ⟨rfl, below_alloc2 w _ _⟩)
  · have HS := Lib.hid hs
    go_enter Try.func14, Try.ntmps14
    go_wp2_with (go_at_call 43; refine (side_no _ n HS.out).mono ?_; rintro e w' ⟨rfl, rfl⟩)
    go_ret
    exact ⟨rfl, below_alloc2 w _ _⟩

set_option maxHeartbeats 800000 in
theorem Skew_no (w : World) (n k : Int) (hk : -9223372036854775808 ≤ k ∧ k ≤ 9223372036854775807) (h : ¬ ((1 ≤ n ∧ n ≤ 1073741824) ∧ 1 ≤ k ∧ k ≤ 64 ∧ 2 * k ≤ n)) :
    Calls Try.prog 16 #[.int .i64 n, .int .i64 k] w fun e w' => e = .returned (.slice none 0 0) ∧ Below w.heap.size w w' := by
  by_cases hs : 1 ≤ n ∧ n ≤ 1073741824
  · obtain ⟨hn0, hn1⟩ := hs
    have h' : k < 1 ∨ 64 < k ∨ n < 2 * k := by omega
    go_enter Try.func16, Try.ntmps16
    go_wp2_with (go_at_call 43; refine (side_yes _ n hn0 hn1).mono ?_; rintro e w' ⟨rfl, rfl⟩)
    all_goals first | (exfalso; omega) | skip
    all_goals (go_ret; exact ⟨rfl, below_alloc2 w _ _⟩)
  · have HS := Lib.hid hs
    go_enter Try.func16, Try.ntmps16
    go_wp2_with (go_at_call 43; refine (side_no _ n HS.out).mono ?_; rintro e w' ⟨rfl, rfl⟩)
    go_ret
    exact ⟨rfl, below_alloc2 w _ _⟩

end Go.Proofs.Ytkhdnkmocbceeaa.Pat
