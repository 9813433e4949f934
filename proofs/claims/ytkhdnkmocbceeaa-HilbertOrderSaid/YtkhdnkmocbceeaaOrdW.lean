/- hilbert.Order: the seats' order, and the sort. -/
import Derived.Test.YtkhdnkmocbceeaaOrdLay
import Derived.Test.YtkhdnkmocbceeaaOrdP
import Derived.Test.YtkhdnkmocbceeaaZFr
import Derived.Deep.QuietTactic
import Derived.BigQuiet
import Derived.Deep.RegionHeld3
import Derived.Deep.RegionLaw
import Derived.Deep.AppendLies
import Derived.RowKit
import Derived.RowKit3
import Derived.WideLaws
import Derived.WalkLawsBesides
import Derived.WalkSpells
import Derived.Lib.Hide
import Derived.Outline
import Derived.StillTailTactics
namespace Go.Proofs.Ytkhdnkmocbceeaa.Ord
open Go.Shelf Go.RowKit Go.Lib Go.Sort Go.Proofs.YtkhdnkmocbceeaaW.PrintWords Go.Proofs.ZFr

def cmp3 (x y : Int) : Int := if x < y then -1 else if y < x then 1 else 0
theorem cmp3_u (x y : Int) : PHilbertOrder.cmp_Compare_uint64.f x y = some (cmp3 x y) := by
  simp [PHilbertOrder.cmp_Compare_uint64.f, PHilbertOrder.cmp_isNaN_uint64.f, cmp3]
  repeat (first | rfl | split)
theorem cmp3_i (x y : Int) : PHilbertOrder.cmp_Compare_int.f x y = some (cmp3 x y) := by
  simp [PHilbertOrder.cmp_Compare_int.f, PHilbertOrder.cmp_isNaN_int.f, cmp3]
  repeat (first | rfl | split)
def or2 (x y : Int) : Int := if x = 0 then y else x
abbrev Seat := Int × Int × Bool
def enc (x : Seat) : List Value := [.int .i64 x.1, .int .u64 x.2.1, .bool x.2.2]
def cf (a b : Seat) : Int := if a.2.2 = true ∧ b.2.2 = false then 1 else if b.2.2 = true ∧ a.2.2 = false then -1 else or2 (cmp3 a.2.1 b.2.1) (cmp3 a.1 b.1)

theorem nan_u (x : Int) (W : World) : Calls Try.prog 76 #[.int .u64 x] W fun e w' => e = .returned (.bool false) ∧ w' = W := by
  go_enter Try.func76, Try.ntmps76
  go_wp2_with fail
  all_goals go_ret
  all_goals simp
theorem nan_i (x : Int) (W : World) : Calls Try.prog 77 #[.int .i64 x] W fun e w' => e = .returned (.bool false) ∧ w' = W := by
  go_enter Try.func77, Try.ntmps77
  go_wp2_with fail
  all_goals go_ret
  all_goals simp
theorem cmp_u (x y : Int) (W : World) : Calls Try.prog 64 #[.int .u64 x, .int .u64 y] W fun e w' => e = .returned (.int .i64 (cmp3 x y)) ∧ w' = W := by
  go_enter Try.func64, Try.ntmps64
  go_wp2_with (go_at_call 76; refine (nan_u _ _).mono ?_; rintro e w' ⟨rfl, rfl⟩)
  all_goals go_ret
  all_goals simp_all [cmp3]
  all_goals omega
theorem cmp_i (x y : Int) (W : World) : Calls Try.prog 65 #[.int .i64 x, .int .i64 y] W fun e w' => e = .returned (.int .i64 (cmp3 x y)) ∧ w' = W := by
  go_enter Try.func65, Try.ntmps65
  go_wp2_with (go_at_call 77; refine (nan_i _ _).mono ?_; rintro e w' ⟨rfl, rfl⟩)
  all_goals go_ret
  all_goals simp_all [cmp3]
  all_goals omega

theorem or_walk (c1 c2 : Int) (b : Nat) (W : World) (h0 : W.cell? ⟨b, 0, none⟩ = some (.int .i64 c1)) (h1 : W.cell? ⟨b, 1, none⟩ = some (.int .i64 c2)) :
    Calls Try.prog 63 #[.slice (some ⟨b, 0, none⟩) 2 2] W fun e w' => e = .returned (.int .i64 (or2 c1 c2)) ∧ ∃ q, w' = W.drewN q := by
  go_enter Try.func63, Try.ntmps63
  go_wp2
  go_loopw [8] (fun v8 w' => ∃ k : Nat, k ≤ 2 ∧ v8 = .int .i64 k ∧ w' = W ∧ (1 ≤ k → c1 = 0) ∧ (2 ≤ k → c2 = 0)) (fun v8 _ => (3 - intOf v8).toNat)
  case atStart => exact ⟨0, by omega, rfl, rfl, by omega, by omega⟩
  case round =>
    obtain ⟨k, hk, rfl, rfl, e1, e2⟩ := hrel
    obtain rfl | rfl | rfl : k = 0 ∨ k = 1 ∨ k = 2 := by omega
    · by_cases hz : c1 = 0
      · subst hz
        go_wp2_with fail
        go_roundw
        case rel => exact ⟨1, by simp⟩
        case measure => simp [intOf]
      · have hzb : (c1 == 0) = false := by simpa using hz
        go_wp2_with fail
        go_ret
        first | exact ⟨by simp [or2, hz], 0, rfl⟩ | exact ⟨0, rfl⟩
    · obtain rfl := e1 (by omega)
      by_cases hz : c2 = 0
      · subst hz
        go_wp2_with fail
        go_roundw
        case rel => exact ⟨2, by simp⟩
        case measure => simp [intOf]
      · have hzb : (c2 == 0) = false := by simpa using hz
        go_wp2_with fail
        go_ret
        exact ⟨by simp [or2], 0, rfl⟩
    · obtain rfl := e1 (by omega)
      obtain rfl := e2 (by omega)
      go_wp2_with fail
      go_ret
      exact ⟨by simp [or2], 0, rfl⟩
theorem two0 (W : World) (xs ys : Array Value) (j : Nat) : ((W.alloc (.cells xs 83)).alloc (.cells ys 83)).cell? ⟨W.heap.size, j, none⟩ = xs[j]? :=
  ZFr.blk_cell (ZFr.blk_alloc (heap_alloc_new W _) _) j
theorem two1 (W : World) (xs ys : Array Value) (j : Nat) : ((W.alloc (.cells xs 83)).alloc (.cells ys 83)).cell? ⟨W.heap.size + 1, j, none⟩ = ys[j]? := by
  have h := ZFr.blk_cell (heap_alloc_new (W.alloc (.cells xs 83)) (.cells ys 83)) j
  rw [show (W.alloc (.cells xs 83)).heap.size = W.heap.size + 1 from Array.size_push ..] at h
  exact h
theorem two_grow (W : World) (o o' : Obj) : ∃ os, (W.alloc o).alloc o' = grow W os := ⟨_, by rw [alloc_eq_grow, alloc_eq_grow, grow_grow]⟩

theorem fin_world (W W2 : World) (os2 : Array Obj) (h : W2 = grow W os2) (o : Obj) (q : Nat) : ∃ q' os', (W2.alloc o).drewN q = grow (W.drewN q') os' := by
  subst h
  refine ⟨q, os2 ++ #[o], ?_⟩
  rw [alloc_eq_grow, grow_grow]
  rfl
theorem two_facts (a0 a1 : Int) (a2 : Bool) (b0 b1 : Int) (b2 : Bool) (W : World) : ∃ W2, (W.alloc (.cells #[.int .i64 a0, .int .u64 a1, .bool a2] 83)).alloc (.cells #[.int .i64 b0, .int .u64 b1, .bool b2] 83) = W2
    ∧ W2.cell? ⟨W.heap.size, 0, none⟩ = some (.int .i64 a0) ∧ W2.cell? ⟨W.heap.size, 1, none⟩ = some (.int .u64 a1)
    ∧ W2.cell? ⟨W.heap.size + 1, 0, none⟩ = some (.int .i64 b0) ∧ W2.cell? ⟨W.heap.size + 1, 1, none⟩ = some (.int .u64 b1) ∧ ∃ os, W2 = grow W os :=
  ⟨_, rfl, by rw [two0]; rfl, by rw [two0]; rfl, by rw [two1]; rfl, by rw [two1]; rfl, two_grow _ _ _⟩

set_option maxRecDepth 100000 in
set_option maxHeartbeats 2000000 in
theorem cf_walk (a0 a1 : Int) (a2 : Bool) (b0 b1 : Int) (b2 : Bool) (W : World) : Calls Try.prog 58 #[.agg #[.int .i64 a0, .int .u64 a1, .bool a2], .agg #[.int .i64 b0, .int .u64 b1, .bool b2]] W fun e w' => e = .returned (.int .i64 (cf (a0, a1, a2) (b0, b1, b2))) ∧ ∃ q os', w' = grow (W.drewN q) os' := by
  have hu := fun W' => cmp_u a1 b1 W'
  have hi := fun W' => cmp_i a0 b0 W'
  generalize hc1 : cmp3 a1 b1 = c1 at hu
  generalize hc2 : cmp3 a0 b0 = c2 at hi
  have HH := Lib.hid (two_facts a0 a1 a2 b0 b1 b2 W)
  cases a2 <;> cases b2
  all_goals
    go_enter Try.func58, Try.ntmps58
    go_wp2_with fail
  all_goals first
    | (go_ret; refine ⟨by simp [cf], 0, _, by rw [alloc_eq_grow, alloc_eq_grow, grow_grow]; rfl⟩; done)
    | skip
  all_goals
    obtain ⟨W2, hW2, t00, t01, t10, t11, os2, hg2⟩ := HH.out
    rw [hW2]
    have HG := Lib.hid hg2
    clear hW2 HH hg2
    go_still_tail 10, (by kernel_rfl)
    refine wpStill_step (fun K hK => ?_)
    go_simp
    refine ⟨_, hu _, hK _ ?_⟩
    clear hK K
    repeat still_step
    refine wpStill_step (fun K hK => ?_)
    go_simp
    refine ⟨_, hi _, hK _ ?_⟩
    clear hK K
    repeat still_step
    try refine wpStill_nil ?_
    change wpList _ _ _ _ _ (World.drew _)
    go_wp2_with (go_at_call 63; refine (or_walk c1 c2 W2.heap.size _ ?_ ?_).mono ?_; rotate_right; rintro e w' ⟨rfl, q, rfl⟩)
    rotate_left
    · exact ZFr.blk_cell (heap_alloc_new W2 _) 0
    · exact ZFr.blk_cell (heap_alloc_new W2 _) 1
  all_goals
    go_wp2_with fail
    go_ret
    subst hc1 hc2
    exact ⟨by simp [cf], fin_world _ _ _ HG.out _ _⟩
end Go.Proofs.Ytkhdnkmocbceeaa.Ord
