/- The walk of zelligelaw43.lives. -/
import Derived.Test.YtkhdnkmocbceeaaPatS
namespace Go.Proofs.Ytkhdnkmocbceeaa.Pat
open Go.RowKit Go.Proofs.ZFr Go.Proofs.ZMap
open Go.Joins (below_alloc1 below_alloc2 below_draws)

theorem scat_live : (scat 10 3 28 7 []).length = 3 := by decide +kernel
theorem gr_live : flat (gr 10 2 4) = [.int .i64 0, .int .i64 0, .int .i64 0, .int .i64 1, .int .i64 0, .int .i64 5, .int .i64 2, .int .i64 5, .int .i64 0, .int .i64 3, .int .i64 5, .int .i64 5] := rfl

set_option maxHeartbeats 800000 in
theorem Scatter_no (w : World) (n k seed : Int) (hk : -9223372036854775808 ≤ k ∧ k ≤ 9223372036854775807) (h : ¬ ((1 ≤ n ∧ n ≤ 1073741824) ∧ 0 ≤ k ∧ k ≤ 1000)) :
    Calls Try.prog 38 #[.int .i64 n, .int .i64 k, .int .u64 seed] w fun e w' => e = .returned (.slice none 0 0) ∧ Below w.heap.size w w' := by
  by_cases hs : 1 ≤ n ∧ n ≤ 1073741824
  · obtain ⟨hn0, hn1⟩ := hs
    have h' : k < 0 ∨ 1000 < k := by omega
    have hmm := @run_makeMap Try.prog
    go_enter Try.func38, Try.ntmps38
    rcases h' with h' | h'
    · go_wp2_with (go_at_call 43; refine (side_yes _ n hn0 hn1).mono ?_; rintro e w' ⟨rfl, rfl⟩)
      go_ret
      exact ⟨rfl, Below.refl _ _⟩
    · go_wp2_with (go_at_call 43; refine (side_yes _ n hn0 hn1).mono ?_; rintro e w' ⟨rfl, rfl⟩)
      go_ret
      exact ⟨rfl, Below.refl _ _⟩
  · have HS := Lib.hid hs
    have hmm := @run_makeMap Try.prog
    go_enter Try.func38, Try.ntmps38
    go_wp2_with (go_at_call 43; refine (side_no _ n HS.out).mono ?_; rintro e w' ⟨rfl, rfl⟩)
    go_ret
    exact ⟨rfl, Below.refl _ _⟩

set_option maxRecDepth 100000 in
set_option maxHeartbeats 800000 in
theorem lives (w : World) : Calls Try.prog 17 #[] w fun e w' => e = .returned (.bool true) ∧ Below w.heap.size w w' := by
  go_enter Try.func17, Try.ntmps17
  go_wp2_with fail
  refine (Grid_yes w 10 2 (by decide) (by decide) (by decide) (by decide) (by decide)).mono ?_
  rintro e w1 ⟨v, rfl, ho, hb⟩
  rw [show flat (gr 10 2 (2 * 2)) = _ from gr_live] at ho
  obtain ⟨g, c, rfl⟩ := row_some ho (by decide)
  have c4 := ho.cellAt 4 (by decide)
  have c5 := ho.cellAt 5 (by decide)
  simp at c4 c5
  have HO := Lib.hid ho
  have HB := Lib.hid hb
  clear ho hb
  go_wp2_with fail
  refine (Scatter_yes w1 10 3 7 (by decide) (by decide) (by decide)).mono ?_
  rintro e w2 ⟨v2, rfl, ho2, hb2⟩
  rw [show (scat 10 3 (4 * 3 + 16) 7 []).length = 3 from scat_live] at ho2
  obtain ⟨p2, c2, rfl⟩ := row_slice ho2
  have HB2 := Lib.hid hb2
  clear ho2 hb2
  go_wp2_with fail
  go_ret
  exact ⟨rfl, HB.out.trans (HB2.out.mono HB.out.size)⟩

end Go.Proofs.Ytkhdnkmocbceeaa.Pat
