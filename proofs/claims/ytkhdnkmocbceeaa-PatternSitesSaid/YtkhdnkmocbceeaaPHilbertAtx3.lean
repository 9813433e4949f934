-- PRINTED BY print.sh 35421559b90ae4d0a3588c463048766b98c2df88dd9212a6774a882060cdf62d: not written by this session
import Derived.Test.YtkhdnkmocbceeaaPHilbertAtx0
import Derived.Test.YtkhdnkmocbceeaaPHilbertAtx1
import Derived.Test.YtkhdnkmocbceeaaPHilbertAtx2
namespace Go.Proofs.Ytkhdnkmocbceeaa.PHilbertAt
open Go.RowKit Go.Proofs.YtkhdnkmocbceeaaW.PrintWords Go.Proofs.YtkhdnkmocbceeaaW.PrintLast Go.Proofs.YtkhdnkmocbceeaaW.PrintMore
attribute [local go_sem] max2_int min2_int max_two min_two max_three min_three max_four min_four   -- for this text's walks alone
set_option linter.unusedVariables false
set_option linter.unusedSimpArgs false

attribute [local go_sem high] eqA29
/-! ### hilbert_At: function 21 -/
mutual
def hilbert_At.j0 : Nat → Int → Int → Bool → Option (Int × Int × Bool)
  | 0, _, _, _ => none
  | k + 1, x0, x1, x23 => if x23 = true then (some (0, 0, false)) else (hilbert_At.l0 k x1 0 0 x0 0)
def hilbert_At.l0 : Nat → Int → Int → Int → Int → Int → Option (Int × Int × Bool)
  | 0, _, _, _, _, _ => none
  | k + 1, x1, x6, x7, x25, x26 => if x26 < x25 then (if 0 ≤ x26 then (if 0 ≤ (wrap64 (2 * x26)) then ((hilbert_turn.f (shl .i64 1 x26) x6 x7 (Go.bits .and .u64 (shr .u64 x1 (wrap64 (2 * x26))) 3)).bind fun bt109 => (if (Go.bits .and .u64 (shr .u64 x1 (wrap64 (2 * x26))) 3) = 2 then (hilbert_At.j2 k x1 bt109.1 bt109.2 (shl .i64 1 x26) (Go.bits .and .u64 (shr .u64 x1 (wrap64 (2 * x26))) 3) x25 x26 true) else (hilbert_At.j2 k x1 bt109.1 bt109.2 (shl .i64 1 x26) (Go.bits .and .u64 (shr .u64 x1 (wrap64 (2 * x26))) 3) x25 x26 ((Go.bits .and .u64 (shr .u64 x1 (wrap64 (2 * x26))) 3) == 3)))) else (none)) else (none)) else (some (x6, x7, true))
def hilbert_At.j2 : Nat → Int → Int → Int → Int → Int → Int → Int → Bool → Option (Int × Int × Bool)
  | 0, _, _, _, _, _, _, _, _ => none
  | k + 1, x1, x6, x7, x9, x10, x25, x26, x49 => if x49 = true then (if x10 = 1 then (hilbert_At.l0 k x1 (wrap64 (x6 + x9)) (wrap64 (x7 + x9)) x25 (wrap64 (x26 + 1))) else (if x10 = 2 then (hilbert_At.l0 k x1 (wrap64 (x6 + x9)) (wrap64 (x7 + x9)) x25 (wrap64 (x26 + 1))) else (hilbert_At.l0 k x1 (wrap64 (x6 + x9)) x7 x25 (wrap64 (x26 + 1))))) else (if x10 = 1 then (hilbert_At.l0 k x1 x6 (wrap64 (x7 + x9)) x25 (wrap64 (x26 + 1))) else (if x10 = 2 then (hilbert_At.l0 k x1 x6 (wrap64 (x7 + x9)) x25 (wrap64 (x26 + 1))) else (hilbert_At.l0 k x1 x6 x7 x25 (wrap64 (x26 + 1)))))
end
def hilbert_At.f (k : Nat) (a0 : Int) (a1 : Int) : Option (Int × Int × Bool) := if a0 < 0 then (hilbert_At.j0 k a0 a1 true) else (if a0 > 31 then (hilbert_At.j0 k a0 a1 true) else (if 0 ≤ (wrap64 (2 * a0)) then (hilbert_At.j0 k a0 a1 ((shr .u64 a1 (wrap64 (2 * a0))) != 0)) else (none)))
theorem hilbert_At.mono_l : ∀ k, (∀ y0 y1 y2, LeO (hilbert_At.j0 k y0 y1 y2) (hilbert_At.j0 (k + 1) y0 y1 y2)) ∧ (∀ y0 y1 y2 y3 y4, LeO (hilbert_At.l0 k y0 y1 y2 y3 y4) (hilbert_At.l0 (k + 1) y0 y1 y2 y3 y4)) ∧ (∀ y0 y1 y2 y3 y4 y5 y6 y7, LeO (hilbert_At.j2 k y0 y1 y2 y3 y4 y5 y6 y7) (hilbert_At.j2 (k + 1) y0 y1 y2 y3 y4 y5 y6 y7))
  | 0 => ⟨fun _ _ _ r h => by simp [hilbert_At.j0] at h, fun _ _ _ _ _ r h => by simp [hilbert_At.l0] at h, fun _ _ _ _ _ _ _ _ r h => by simp [hilbert_At.j2] at h⟩
  | k + 1 => by
    obtain ⟨ih0, ih1, ih2⟩ := hilbert_At.mono_l k
    refine ⟨?_, ?_, ?_⟩
    · intro y0 y1 y2
      unfold hilbert_At.j0
      repeat' first
      | (with_reducible exact ih0 _ _ _)
      | (with_reducible exact ih1 _ _ _ _ _)
      | (with_reducible exact ih2 _ _ _ _ _ _ _ _)
      | (with_reducible exact LeO.refl _)
      | (with_reducible exact LeO.none _)
      | (with_reducible refine LeO.ite ?_ ?_)
      | (with_reducible refine LeO.bind ?_ (fun _ => ?_))
      | exact ih0 _ _ _
      | exact ih1 _ _ _ _ _
      | exact ih2 _ _ _ _ _ _ _ _
      | exact LeO.none _
      | refine LeO.ite ?_ ?_
      | refine LeO.bind ?_ (fun _ => ?_)
    · intro y0 y1 y2 y3 y4
      unfold hilbert_At.l0
      repeat' first
      | (with_reducible exact ih0 _ _ _)
      | (with_reducible exact ih1 _ _ _ _ _)
      | (with_reducible exact ih2 _ _ _ _ _ _ _ _)
      | (with_reducible exact LeO.refl _)
      | (with_reducible exact LeO.none _)
      | (with_reducible refine LeO.ite ?_ ?_)
      | (with_reducible refine LeO.bind ?_ (fun _ => ?_))
      | exact ih0 _ _ _
      | exact ih1 _ _ _ _ _
      | exact ih2 _ _ _ _ _ _ _ _
      | exact LeO.none _
      | refine LeO.ite ?_ ?_
      | refine LeO.bind ?_ (fun _ => ?_)
    · intro y0 y1 y2 y3 y4 y5 y6 y7
      unfold hilbert_At.j2
      repeat' first
      | (with_reducible exact ih0 _ _ _)
      | (with_reducible exact ih1 _ _ _ _ _)
      | (with_reducible exact ih2 _ _ _ _ _ _ _ _)
      | (with_reducible exact LeO.refl _)
      | (with_reducible exact LeO.none _)
      | (with_reducible refine LeO.ite ?_ ?_)
      | (with_reducible refine LeO.bind ?_ (fun _ => ?_))
      | exact ih0 _ _ _
      | exact ih1 _ _ _ _ _
      | exact ih2 _ _ _ _ _ _ _ _
      | exact LeO.none _
      | refine LeO.ite ?_ ?_
      | refine LeO.bind ?_ (fun _ => ?_)
theorem hilbert_At.mono : ∀ a0 a1 k, LeO (hilbert_At.f k a0 a1) (hilbert_At.f (k + 1) a0 a1) := by
  intro a0 a1 k
  obtain ⟨ih0, ih1, ih2⟩ := hilbert_At.mono_l k
  unfold hilbert_At.f
  repeat' first
      | (with_reducible exact ih0 _ _ _)
      | (with_reducible exact ih1 _ _ _ _ _)
      | (with_reducible exact ih2 _ _ _ _ _ _ _ _)
      | (with_reducible exact LeO.refl _)
      | (with_reducible exact LeO.none _)
      | (with_reducible refine LeO.ite ?_ ?_)
      | (with_reducible refine LeO.bind ?_ (fun _ => ?_))
      | exact ih0 _ _ _
      | exact ih1 _ _ _ _ _
      | exact ih2 _ _ _ _ _ _ _ _
      | exact LeO.none _
      | refine LeO.ite ?_ ?_
      | refine LeO.bind ?_ (fun _ => ?_)
set_option maxHeartbeats 8000000 in
set_option maxRecDepth 100000 in
theorem hilbert_At.calls (k : Nat) (a0 : Int) (a1 : Int) (r1 : Int) (r2 : Int) (r3 : Bool) (w : World) (h : hilbert_At.f k a0 a1 = some (r1, r2, r3)) :
    Calls Try.prog 21 #[.int .i64 a0, .int .u64 a1] w fun e w' => e = .returned (.tuple #[.agg #[.int .i64 r1, .int .i64 r2], .bool r3]) ∧ Below w.heap.size w w' := by
  have hu29 := Try.underlying29
  have HB := Aside0.mk (Below.refl w.heap.size w)
  have H : (if a0 < 0 then (hilbert_At.j0 k a0 a1 true) else (if a0 > 31 then (hilbert_At.j0 k a0 a1 true) else (if 0 ≤ (wrap64 (2 * a0)) then (hilbert_At.j0 k a0 a1 ((shr .u64 a1 (wrap64 (2 * a0))) != 0)) else (none)))) = some (r1, r2, r3) := h
  clear h
  have HC3 := Aside0.mk H
  clear H
  go_enter Try.func21, Try.ntmps21
  go_upto_region 1 with (first | ((with_reducible refine gate_dst (N := 4) rfl ?_); refine box_event ?hg (N := 4) ?hd (cs := #[.int .i64 0, .int .i64 0]) (t := 29) ?hr ?_; (case hd => rfl); (case hg => rfl); (case hr => first | (go_simp; done) | (go_simp; rfl)); intro gb108 hg w4 hbox hb; have n0_ := Aside0.mk (below_step (by repeat (first | (with_reducible first | exact HB.out | apply below_alloc | apply pw_below_drewN | apply below_drew1) | exact HB.out)) hb); have n1_ := Aside0.mk (hbox); have n2_ := Aside0.mk ((by rw [hg]; exact (below_size (by repeat (first | (with_reducible first | exact HB.out | apply below_alloc | apply pw_below_drewN | apply below_drew1) | exact HB.out))) : w.heap.size ≤ gb108)); have n3_ := Aside0.mk ((by rw [hg]; exact (below_size (by repeat (first | (with_reducible first | exact HB.out | apply below_alloc | apply pw_below_drewN | apply below_drew1) | exact HB.out))) : w.heap.size ≤ gb108)); clear HB; have HB := n0_; have BK108 := n1_; have GW108 := n2_; have GE108 := n3_; clear n0_ n1_ n2_ n3_; clear hb hbox hg))
  (try simp only [Act.put, List.setIfInBounds_toArray, List.set_cons_zero, List.set_cons_succ])
  go_cut [23] (fun v23 wc => ∃ (kq : Nat) (x23_2 : Bool), v23 = .bool x23_2 ∧ Aside0 (hilbert_At.j0 kq a0 a1 x23_2 = some (r1, r2, r3)) ∧ Aside0 (kq ≤ k) ∧ Aside0 (wc.heap[gb108]? = some (.cells #[.int .i64 0, .int .i64 0] 29 (0, 0))) ∧ Aside0 (Below w.heap.size w wc))
  case first =>
    have H := HC3.out
    clear HC3
    by_cases c5 : a0 < 0
    · rw [if_pos c5] at H
      have c5b0 : decide (a0 < 0) = true := decide_eq_true c5
      clear c5
      (first | rw [c5b0] | (simp only [i64_w, i32_w]; rw [c5b0]) | skip)
      have H' := Aside0.mk H
      clear H
      go_wp2
      go_meet
      case rel => exact ⟨_, (true), (by first | rfl | (simp; done) | (simp [*]; done)), H', ⟨by first | omega | exact Nat.le_refl _⟩, ⟨by (with_reducible repeat (first | refine blk_drewN ?_ _ | refine blk_drew ?_ | refine blk_alloc ?_ _)); exact BK108.out⟩, ⟨by repeat (first | (with_reducible first | exact HB.out | apply below_alloc | apply pw_below_drewN | apply below_drew1 | refine below_set ?_ GE108.out) | exact HB.out)⟩⟩
    · rw [if_neg c5] at H
      have c5b0 : decide (a0 < 0) = false := decide_eq_false c5
      clear c5
      (first | rw [c5b0] | (simp only [i64_w, i32_w]; rw [c5b0]) | skip)
      by_cases c6 : a0 > 31
      · rw [if_pos c6] at H
        have c6b0 : decide (31 < a0) = true := decide_eq_true c6
        clear c6
        have H' := Aside0.mk H
        clear H
        go_wp2
        go_meet
        case rel => exact ⟨_, (true), (by first | rfl | (simp; done) | (simp [*]; done)), H', ⟨by first | omega | exact Nat.le_refl _⟩, ⟨by (with_reducible repeat (first | refine blk_drewN ?_ _ | refine blk_drew ?_ | refine blk_alloc ?_ _)); exact BK108.out⟩, ⟨by repeat (first | (with_reducible first | exact HB.out | apply below_alloc | apply pw_below_drewN | apply below_drew1 | refine below_set ?_ GE108.out) | exact HB.out)⟩⟩
      · rw [if_neg c6] at H
        have c6b0 : decide (31 < a0) = false := decide_eq_false c6
        clear c6
        obtain ⟨ji7, hji7⟩ : ∃ j_ : Int, (wrap64 (2 * a0)) = j_ := ⟨_, rfl⟩
        replace H : (if 0 ≤ (ji7) then (hilbert_At.j0 k a0 a1 ((shr .u64 a1 (ji7)) != 0)) else (none)) = some (r1, r2, r3) := by first | (rw [hji7] at H; exact H) | (simp only [hji7] at H ⊢; exact H)
        have hji7w : (IntKind.i64.wrap (2 * a0)) = ji7 := (i64_w _).trans hji7
        by_cases c8 : 0 ≤ (ji7)
        · rw [if_pos c8] at H
          have c8b0 := eq_true c8
          have c8b1 : decide (0 ≤ (ji7)) = true := decide_eq_true c8
          clear c8
          obtain ⟨ji9, hji9⟩ : ∃ j_ : Int, (shr .u64 a1 (ji7)) = j_ := ⟨_, rfl⟩
          replace H : (hilbert_At.j0 k a0 a1 ((ji9) != 0)) = some (r1, r2, r3) := by first | (rw [hji9] at H; exact H) | (simp only [hji9] at H ⊢; exact H)
          have hji9_ : (a1 / 2 ^ min (ji7).toNat 64) = ji9 := hji9
          have hji9z : (ji7) ≤ 64 → (a1 / 2 ^ (ji7).toNat) = ji9 := shr_small hji9
          have H' := Aside0.mk H
          clear H
          go_wp2
          go_meet
          case rel => exact ⟨_, (((ji9) != 0)), (by first | rfl | (simp; done) | (simp only [← hji9] <;> (first | rfl | simp)) | (simp [*]; done)), H', ⟨by first | omega | exact Nat.le_refl _⟩, ⟨by (with_reducible repeat (first | refine blk_drewN ?_ _ | refine blk_drew ?_ | refine blk_alloc ?_ _)); exact BK108.out⟩, ⟨by repeat (first | (with_reducible first | exact HB.out | apply below_alloc | apply pw_below_drewN | apply below_drew1 | refine below_set ?_ GE108.out) | exact HB.out)⟩⟩
        · rw [if_neg c8] at H
          exact absurd H (by simp)
  case rest =>
    clear HC3
    try clear c2
    try clear p2
    try clear c5
    try clear c5b0
    try clear c6
    try clear c6b0
    try clear p6
    try clear c8
    try clear c8b0
    try clear c8b1
    obtain ⟨kq, x23_2, rfl, HA, HJ2, BK108, HB⟩ := hcut
    cases kq with
    | zero => exact absurd HA.out (by simp [hilbert_At.j0])
    | succ kj2 =>
      have H := HA.out
      clear HA
      simp only [hilbert_At.j0] at H
      by_cases c10 : x23_2 = true
      · subst c10
        have H1 : (some (0, 0, false)) = some (r1, r2, r3) := by rw [if_pos rfl] at H; exact H
        clear H
        have H := H1
        clear H1
        simp only [Option.some.injEq, Prod.mk.injEq] at H
        obtain ⟨rfl, rfl, rfl⟩ := H
        have hcz11_0 : wc.cell? ⟨gb108, 0, none⟩ = some (.int .i64 0) := (blk_cell BK108.out 0).trans rfl
        have hcz11_1 : wc.cell? ⟨gb108, 1, none⟩ = some (.int .i64 0) := (blk_cell BK108.out 1).trans rfl
        have hfz11_0 := blk_frozen BK108.out 0
        have hfz11_1 := blk_frozen BK108.out 1
        go_wp2
        refine bodyPost_ret (results_ct rfl _ _ gb108 29 #[.int .i64 0, .int .i64 0] (0, 0) _ rfl (by (with_reducible repeat (first | refine blk_drewN ?_ _ | refine blk_drew ?_ | refine blk_alloc ?_ _)); refine blk_put (cs := #[.int .i64 0, .int .i64 0]) ?_ 1 _ rfl; (with_reducible repeat (first | refine blk_drewN ?_ _ | refine blk_drew ?_ | refine blk_alloc ?_ _)); refine blk_put (cs := #[.int .i64 0, .int .i64 0]) ?_ 0 _ rfl; (with_reducible repeat (first | refine blk_drewN ?_ _ | refine blk_drew ?_ | refine blk_alloc ?_ _)); exact BK108.out) Try.underlying29 rfl (by kernel_rfl)) rfl ?_
        exact ⟨by first | rfl | (simp [errW_none, errW_some] <;> rfl) | (simp [*, errW_none, errW_some] <;> rfl), by repeat (first | (with_reducible first | exact HB.out | apply below_alloc | apply pw_below_drewN | apply below_drew1 | refine below_set ?_ GE108.out) | exact HB.out)⟩
      · replace c10 := Bool.eq_false_iff.mpr c10
        subst c10
        have H1 : (hilbert_At.l0 kj2 a1 0 0 a0 0) = some (r1, r2, r3) := by rw [if_neg (show ¬ (false = true) by decide)] at H; exact H
        clear H
        have H := H1
        clear H1
        have H' := Aside0.mk H
        clear H
        go_wp2
        go_loopg [6, 7, 26] kj2 (fun kq v6 v7 v26 w' => ∃ (x6_2 : Int) (x7_2 : Int) (x26_2 : Int), v6 = .int .i64 x6_2 ∧ v7 = .int .i64 x7_2 ∧ v26 = .int .i64 x26_2 ∧ Aside0 (hilbert_At.l0 kq a1 x6_2 x7_2 a0 x26_2 = some (r1, r2, r3)) ∧ Aside0 (kq ≤ kj2) ∧ Aside0 (w'.heap[gb108]? = some (.cells #[.int .i64 0, .int .i64 0] 29 (0, 0))) ∧ Aside0 (Below w.heap.size w w'))
        case atStart => exact ⟨(0), (0), (0), (by first | rfl | (simp; done) | (simp [*]; done)), (by first | rfl | (simp; done) | (simp [*]; done)), (by first | rfl | (simp; done) | (simp [*]; done)), H', ⟨Nat.le_refl _⟩, ⟨by (with_reducible repeat (first | refine blk_drewN ?_ _ | refine blk_drew ?_ | refine blk_alloc ?_ _)); exact BK108.out⟩, ⟨by repeat (first | (with_reducible first | exact HB.out | apply below_alloc | apply pw_below_drewN | apply below_drew1 | refine below_set ?_ GE108.out) | exact HB.out)⟩⟩
        case round =>
          clear H'
          try clear c1
          try clear c2
          try clear p2
          try clear c5
          try clear c5b0
          try clear c6
          try clear c6b0
          try clear p6
          try clear c8
          try clear c8b0
          try clear c8b1
          try clear c10
          try clear hcz11_0
          try clear hcz11_1
          try clear hfz11_0
          try clear hfz11_1
          try clear p2
          try clear p6
          obtain ⟨x6_2, x7_2, x26_2, rfl, rfl, rfl, HA, HK2, BK108, HB⟩ := hrel
          cases gk with
          | zero => exact absurd HA.out (by simp [hilbert_At.l0])
          | succ k2 =>
            have H := HA.out
            clear HA
            simp only [hilbert_At.l0] at H
            by_cases c12 : x26_2 < a0
            · rw [if_pos c12] at H
              have c12b0 : decide (x26_2 < a0) = true := decide_eq_true c12
              clear c12
              by_cases c13 : 0 ≤ x26_2
              · rw [if_pos c13] at H
                have c13b0 := eq_true c13
                have c13b1 : decide (0 ≤ x26_2) = true := decide_eq_true c13
                clear c13
                obtain ⟨ji14, hji14⟩ : ∃ j_ : Int, (shl .i64 1 x26_2) = j_ := ⟨_, rfl⟩
                replace H : (if 0 ≤ (wrap64 (2 * x26_2)) then ((hilbert_turn.f (ji14) x6_2 x7_2 (Go.bits .and .u64 (shr .u64 a1 (wrap64 (2 * x26_2))) 3)).bind fun bt109 => (if (Go.bits .and .u64 (shr .u64 a1 (wrap64 (2 * x26_2))) 3) = 2 then (hilbert_At.j2 k2 a1 bt109.1 bt109.2 ji14 (Go.bits .and .u64 (shr .u64 a1 (wrap64 (2 * x26_2))) 3) a0 x26_2 true) else (hilbert_At.j2 k2 a1 bt109.1 bt109.2 ji14 (Go.bits .and .u64 (shr .u64 a1 (wrap64 (2 * x26_2))) 3) a0 x26_2 ((Go.bits .and .u64 (shr .u64 a1 (wrap64 (2 * x26_2))) 3) == 3)))) else (none)) = some (r1, r2, r3) := by first | (rw [hji14] at H; exact H) | (simp only [hji14] at H ⊢; exact H)
                have hji14_ : (IntKind.i64.wrap (1 * 2 ^ min x26_2.toNat 64)) = ji14 := hji14
                have hji14z : x26_2 ≤ 64 → (IntKind.i64.wrap (1 * 2 ^ x26_2.toNat)) = ji14 := shl_small hji14
                have hji14u : (IntKind.i64.wrap (2 ^ min x26_2.toNat 64)) = ji14 := by have h_ := hji14_; rw [Int.one_mul] at h_; exact h_
                have hji14v : x26_2 ≤ 64 → (IntKind.i64.wrap (2 ^ x26_2.toNat)) = ji14 := fun hle_ => by have h_ := hji14z hle_; rw [Int.one_mul] at h_; exact h_
                have hji14y : (wrap64 (1 * 2 ^ min x26_2.toNat 64)) = ji14 := (i64_w _).symm.trans hji14_
                have hji14x : x26_2 ≤ 64 → (wrap64 (1 * 2 ^ x26_2.toNat)) = ji14 := fun h_ => (i64_w _).symm.trans (hji14z h_)
                obtain ⟨ji15, hji15⟩ : ∃ j_ : Int, (wrap64 (2 * x26_2)) = j_ := ⟨_, rfl⟩
                replace H : (if 0 ≤ (ji15) then ((hilbert_turn.f (ji14) x6_2 x7_2 (Go.bits .and .u64 (shr .u64 a1 (ji15)) 3)).bind fun bt109 => (if (Go.bits .and .u64 (shr .u64 a1 (ji15)) 3) = 2 then (hilbert_At.j2 k2 a1 bt109.1 bt109.2 ji14 (Go.bits .and .u64 (shr .u64 a1 (ji15)) 3) a0 x26_2 true) else (hilbert_At.j2 k2 a1 bt109.1 bt109.2 ji14 (Go.bits .and .u64 (shr .u64 a1 (ji15)) 3) a0 x26_2 ((Go.bits .and .u64 (shr .u64 a1 (ji15)) 3) == 3)))) else (none)) = some (r1, r2, r3) := by first | (rw [hji15] at H; exact H) | (simp only [hji15] at H ⊢; exact H)
                have hji15w : (IntKind.i64.wrap (2 * x26_2)) = ji15 := (i64_w _).trans hji15
                by_cases c16 : 0 ≤ (ji15)
                · rw [if_pos c16] at H
                  have c16b0 := eq_true c16
                  have c16b1 : decide (0 ≤ (ji15)) = true := decide_eq_true c16
                  clear c16
                  obtain ⟨ji17, hji17⟩ : ∃ j_ : Int, (shr .u64 a1 (ji15)) = j_ := ⟨_, rfl⟩
                  replace H : ((hilbert_turn.f (ji14) x6_2 x7_2 (Go.bits .and .u64 (ji17) 3)).bind fun bt109 => (if (Go.bits .and .u64 (ji17) 3) = 2 then (hilbert_At.j2 k2 a1 bt109.1 bt109.2 ji14 (Go.bits .and .u64 (ji17) 3) a0 x26_2 true) else (hilbert_At.j2 k2 a1 bt109.1 bt109.2 ji14 (Go.bits .and .u64 (ji17) 3) a0 x26_2 ((Go.bits .and .u64 (ji17) 3) == 3)))) = some (r1, r2, r3) := by first | (rw [hji17] at H; exact H) | (simp only [hji17] at H ⊢; exact H)
                  have hji17_ : (a1 / 2 ^ min (ji15).toNat 64) = ji17 := hji17
                  have hji17z : (ji15) ≤ 64 → (a1 / 2 ^ (ji15).toNat) = ji17 := shr_small hji17
                  replace H := Option.bind_eq_some_iff.mp H
                  obtain ⟨⟨t109, t110⟩, A180, H⟩ := H
                  replace H : (if (Go.bits .and .u64 (ji17) 3) = 2 then (hilbert_At.j2 k2 a1 t109 t110 ji14 (Go.bits .and .u64 (ji17) 3) a0 x26_2 true) else (hilbert_At.j2 k2 a1 t109 t110 ji14 (Go.bits .and .u64 (ji17) 3) a0 x26_2 ((Go.bits .and .u64 (ji17) 3) == 3))) = some (r1, r2, r3) := H
                  have A18 := Aside0.mk A180
                  clear A180
                  have HC19 := Aside0.mk H
                  clear H
                  go_upto_region 10 with (first | ((with_reducible refine gate_callee (f := 50) rfl ?_); refine goesL_ (some 41) rfl rfl Try.func50 (by kernel_rfl) rfl #[.int .i64 ji14, .int .i64 x6_2, .int .i64 x7_2, .int .u64 (Go.bits .and .u64 (ji17) 3)] rfl (by (try simp only [List.map_toArray, List.map_cons, List.map_nil]); first | done | (simp only [hji14, hji17]; rfl) | rfl | (simp only [List.length_drop, List.length_take]; rfl)) ?_; (with_reducible refine (hilbert_turn.calls ji14 x6_2 x7_2 (Go.bits .and .u64 (ji17) 3) t109 t110 _ A18.out).mono ?_); rintro e w' ⟨rfl, ⟨nd, rfl⟩⟩; refine ⟨_, rfl, ?_⟩))
                  (try simp only [Act.put, List.setIfInBounds_toArray, List.set_cons_zero, List.set_cons_succ])
                  go_cut [49] (fun v49 wc => ∃ (kq : Nat) (x49_18 : Bool), v49 = .bool x49_18 ∧ Aside0 (hilbert_At.j2 kq a1 t109 t110 ji14 (Go.bits .and .u64 (ji17) 3) a0 x26_2 x49_18 = some (r1, r2, r3)) ∧ Aside0 (kq ≤ k2) ∧ Aside0 (wc.heap[gb108]? = some (.cells #[.int .i64 0, .int .i64 0] 29 (0, 0))) ∧ Aside0 (Below w.heap.size w wc))
                  case first =>
                    have H := HC19.out
                    clear HC19
                    by_cases c20 : (Go.bits .and .u64 (ji17) 3) = 2
                    · rw [if_pos c20] at H
                      have c20b0 : ((Go.bits .and .u64 (ji17) 3) == 2) = true := beq_iff_eq.mpr c20
                      have c20b1 : ((Go.bits .and .u64 (ji17) 3) != 2) = false := bne_eq_false_iff_eq.mpr c20
                      clear c20
                      (first | rw [c20b0] | (simp only [i64_w, i32_w]; rw [c20b0]) | skip)
                      have H' := Aside0.mk H
                      clear H
                      go_wp2
                      go_meet
                      case rel => exact ⟨_, (true), (by first | rfl | (simp; done) | (simp [*]; done)), H', ⟨by have := HJ2.out; have := HK2.out; first | omega | exact Nat.le_refl _⟩, ⟨by (with_reducible repeat (first | refine blk_drewN ?_ _ | refine blk_drew ?_ | refine blk_alloc ?_ _)); exact BK108.out⟩, ⟨by repeat (first | (with_reducible first | exact HB.out | apply below_alloc | apply pw_below_drewN | apply below_drew1 | refine below_set ?_ GE108.out) | exact HB.out)⟩⟩
                    · rw [if_neg c20] at H
                      have c20b0 : ((Go.bits .and .u64 (ji17) 3) == 2) = false := beq_eq_false_iff_ne.mpr c20
                      have c20b1 : ((Go.bits .and .u64 (ji17) 3) != 2) = true := bne_iff_ne.mpr c20
                      (first | rw [c20b0] | (simp only [i64_w, i32_w]; rw [c20b0]) | skip)
                      have H' := Aside0.mk H
                      clear H
                      go_wp2
                      go_meet
                      case rel => exact ⟨_, (((Go.bits .and .u64 (ji17) 3) == 3)), (by first | rfl | (simp; done) | (simp only [← hji17] <;> (first | rfl | simp)) | (simp [*]; done)), H', ⟨by have := HJ2.out; have := HK2.out; first | omega | exact Nat.le_refl _⟩, ⟨by (with_reducible repeat (first | refine blk_drewN ?_ _ | refine blk_drew ?_ | refine blk_alloc ?_ _)); exact BK108.out⟩, ⟨by repeat (first | (with_reducible first | exact HB.out | apply below_alloc | apply pw_below_drewN | apply below_drew1 | refine below_set ?_ GE108.out) | exact HB.out)⟩⟩
                  case rest =>
                    clear HC19
                    try clear c1
                    try clear c2
                    try clear p2
                    try clear c5
                    try clear c5b0
                    try clear c6
                    try clear c6b0
                    try clear p6
                    try clear c8
                    try clear c8b0
                    try clear c8b1
                    try clear c10
                    try clear c12
                    try clear c12b0
                    try clear c13
                    try clear c13b0
                    try clear c13b1
                    try clear c16
                    try clear c16b0
                    try clear c16b1
                    try clear c20
                    try clear c20b0
                    try clear c20b1
                    try clear hcz11_0
                    try clear hcz11_1
                    try clear hfz11_0
                    try clear hfz11_1
                    try clear p2
                    try clear p6
                    obtain ⟨kq, x49_18, rfl, HA, HJ18, BK108, HB⟩ := hcut
                    cases kq with
                    | zero => exact absurd HA.out (by simp [hilbert_At.j2])
                    | succ kj18 =>
                      have H := HA.out
                      clear HA
                      simp only [hilbert_At.j2] at H
                      by_cases c21 : x49_18 = true
                      · subst c21
                        have H1 : (if (Go.bits .and .u64 (ji17) 3) = 1 then (hilbert_At.l0 kj18 a1 (wrap64 (t109 + ji14)) (wrap64 (t110 + ji14)) a0 (wrap64 (x26_2 + 1))) else (if (Go.bits .and .u64 (ji17) 3) = 2 then (hilbert_At.l0 kj18 a1 (wrap64 (t109 + ji14)) (wrap64 (t110 + ji14)) a0 (wrap64 (x26_2 + 1))) else (hilbert_At.l0 kj18 a1 (wrap64 (t109 + ji14)) t110 a0 (wrap64 (x26_2 + 1))))) = some (r1, r2, r3) := by rw [if_pos rfl] at H; exact H
                        clear H
                        have H := H1
                        clear H1
                        by_cases c22 : (Go.bits .and .u64 (ji17) 3) = 1
                        · rw [if_pos c22] at H
                          have c22b0 : ((Go.bits .and .u64 (ji17) 3) == 1) = true := beq_iff_eq.mpr c22
                          have c22b1 : ((Go.bits .and .u64 (ji17) 3) != 1) = false := bne_eq_false_iff_eq.mpr c22
                          clear c22
                          have H' := Aside0.mk H
                          clear H
                          go_wp2
                          go_roundg kj18
                          case measure => have := HJ2.out; have := HK2.out; have := HJ18.out; omega
                          case rel => exact ⟨(wrap64 (t109 + ji14)), (wrap64 (t110 + ji14)), (wrap64 (x26_2 + 1)), (by first | rfl | (simp; done) | (simp only [← hji14] <;> (first | rfl | simp)) | (simp [*]; done)), (by first | rfl | (simp; done) | (simp only [← hji14] <;> (first | rfl | simp)) | (simp [*]; done)), (by first | rfl | (simp; done) | (simp [*]; done)), H', ⟨by have := HJ2.out; have := HK2.out; have := HJ18.out; omega⟩, ⟨by (with_reducible repeat (first | refine blk_drewN ?_ _ | refine blk_drew ?_ | refine blk_alloc ?_ _)); exact BK108.out⟩, ⟨by repeat (first | (with_reducible first | exact HB.out | apply below_alloc | apply pw_below_drewN | apply below_drew1 | refine below_set ?_ GE108.out) | exact HB.out)⟩⟩
                        · rw [if_neg c22] at H
                          have c22b0 : ((Go.bits .and .u64 (ji17) 3) == 1) = false := beq_eq_false_iff_ne.mpr c22
                          have c22b1 : ((Go.bits .and .u64 (ji17) 3) != 1) = true := bne_iff_ne.mpr c22
                          by_cases c23 : (Go.bits .and .u64 (ji17) 3) = 2
                          · rw [if_pos c23] at H
                            have c23b0 : ((Go.bits .and .u64 (ji17) 3) == 2) = true := beq_iff_eq.mpr c23
                            have c23b1 : ((Go.bits .and .u64 (ji17) 3) != 2) = false := bne_eq_false_iff_eq.mpr c23
                            clear c23
                            have H' := Aside0.mk H
                            clear H
                            go_wp2
                            go_roundg kj18
                            case measure => have := HJ2.out; have := HK2.out; have := HJ18.out; omega
                            case rel => exact ⟨(wrap64 (t109 + ji14)), (wrap64 (t110 + ji14)), (wrap64 (x26_2 + 1)), (by first | rfl | (simp; done) | (simp only [← hji14] <;> (first | rfl | simp)) | (simp [*]; done)), (by first | rfl | (simp; done) | (simp only [← hji14] <;> (first | rfl | simp)) | (simp [*]; done)), (by first | rfl | (simp; done) | (simp [*]; done)), H', ⟨by have := HJ2.out; have := HK2.out; have := HJ18.out; omega⟩, ⟨by (with_reducible repeat (first | refine blk_drewN ?_ _ | refine blk_drew ?_ | refine blk_alloc ?_ _)); exact BK108.out⟩, ⟨by repeat (first | (with_reducible first | exact HB.out | apply below_alloc | apply pw_below_drewN | apply below_drew1 | refine below_set ?_ GE108.out) | exact HB.out)⟩⟩
                          · rw [if_neg c23] at H
                            have c23b0 : ((Go.bits .and .u64 (ji17) 3) == 2) = false := beq_eq_false_iff_ne.mpr c23
                            have c23b1 : ((Go.bits .and .u64 (ji17) 3) != 2) = true := bne_iff_ne.mpr c23
                            have H' := Aside0.mk H
                            clear H
                            go_wp2
                            go_roundg kj18
                            case measure => have := HJ2.out; have := HK2.out; have := HJ18.out; omega
                            case rel => exact ⟨(wrap64 (t109 + ji14)), (t110), (wrap64 (x26_2 + 1)), (by first | rfl | (simp; done) | (simp only [← hji14] <;> (first | rfl | simp)) | (simp [*]; done)), (by first | rfl | (simp; done) | (simp [*]; done)), (by first | rfl | (simp; done) | (simp [*]; done)), H', ⟨by have := HJ2.out; have := HK2.out; have := HJ18.out; omega⟩, ⟨by (with_reducible repeat (first | refine blk_drewN ?_ _ | refine blk_drew ?_ | refine blk_alloc ?_ _)); exact BK108.out⟩, ⟨by repeat (first | (with_reducible first | exact HB.out | apply below_alloc | apply pw_below_drewN | apply below_drew1 | refine below_set ?_ GE108.out) | exact HB.out)⟩⟩
                      · replace c21 := Bool.eq_false_iff.mpr c21
                        subst c21
                        have H1 : (if (Go.bits .and .u64 (ji17) 3) = 1 then (hilbert_At.l0 kj18 a1 t109 (wrap64 (t110 + ji14)) a0 (wrap64 (x26_2 + 1))) else (if (Go.bits .and .u64 (ji17) 3) = 2 then (hilbert_At.l0 kj18 a1 t109 (wrap64 (t110 + ji14)) a0 (wrap64 (x26_2 + 1))) else (hilbert_At.l0 kj18 a1 t109 t110 a0 (wrap64 (x26_2 + 1))))) = some (r1, r2, r3) := by rw [if_neg (show ¬ (false = true) by decide)] at H; exact H
                        clear H
                        have H := H1
                        clear H1
                        by_cases c24 : (Go.bits .and .u64 (ji17) 3) = 1
                        · rw [if_pos c24] at H
                          have c24b0 : ((Go.bits .and .u64 (ji17) 3) == 1) = true := beq_iff_eq.mpr c24
                          have c24b1 : ((Go.bits .and .u64 (ji17) 3) != 1) = false := bne_eq_false_iff_eq.mpr c24
                          clear c24
                          have H' := Aside0.mk H
                          clear H
                          go_wp2
                          go_roundg kj18
                          case measure => have := HJ2.out; have := HK2.out; have := HJ18.out; omega
                          case rel => exact ⟨(t109), (wrap64 (t110 + ji14)), (wrap64 (x26_2 + 1)), (by first | rfl | (simp; done) | (simp [*]; done)), (by first | rfl | (simp; done) | (simp only [← hji14] <;> (first | rfl | simp)) | (simp [*]; done)), (by first | rfl | (simp; done) | (simp [*]; done)), H', ⟨by have := HJ2.out; have := HK2.out; have := HJ18.out; omega⟩, ⟨by (with_reducible repeat (first | refine blk_drewN ?_ _ | refine blk_drew ?_ | refine blk_alloc ?_ _)); exact BK108.out⟩, ⟨by repeat (first | (with_reducible first | exact HB.out | apply below_alloc | apply pw_below_drewN | apply below_drew1 | refine below_set ?_ GE108.out) | exact HB.out)⟩⟩
                        · rw [if_neg c24] at H
                          have c24b0 : ((Go.bits .and .u64 (ji17) 3) == 1) = false := beq_eq_false_iff_ne.mpr c24
                          have c24b1 : ((Go.bits .and .u64 (ji17) 3) != 1) = true := bne_iff_ne.mpr c24
                          by_cases c25 : (Go.bits .and .u64 (ji17) 3) = 2
                          · rw [if_pos c25] at H
                            have c25b0 : ((Go.bits .and .u64 (ji17) 3) == 2) = true := beq_iff_eq.mpr c25
                            have c25b1 : ((Go.bits .and .u64 (ji17) 3) != 2) = false := bne_eq_false_iff_eq.mpr c25
                            clear c25
                            have H' := Aside0.mk H
                            clear H
                            go_wp2
                            go_roundg kj18
                            case measure => have := HJ2.out; have := HK2.out; have := HJ18.out; omega
                            case rel => exact ⟨(t109), (wrap64 (t110 + ji14)), (wrap64 (x26_2 + 1)), (by first | rfl | (simp; done) | (simp [*]; done)), (by first | rfl | (simp; done) | (simp only [← hji14] <;> (first | rfl | simp)) | (simp [*]; done)), (by first | rfl | (simp; done) | (simp [*]; done)), H', ⟨by have := HJ2.out; have := HK2.out; have := HJ18.out; omega⟩, ⟨by (with_reducible repeat (first | refine blk_drewN ?_ _ | refine blk_drew ?_ | refine blk_alloc ?_ _)); exact BK108.out⟩, ⟨by repeat (first | (with_reducible first | exact HB.out | apply below_alloc | apply pw_below_drewN | apply below_drew1 | refine below_set ?_ GE108.out) | exact HB.out)⟩⟩
                          · rw [if_neg c25] at H
                            have c25b0 : ((Go.bits .and .u64 (ji17) 3) == 2) = false := beq_eq_false_iff_ne.mpr c25
                            have c25b1 : ((Go.bits .and .u64 (ji17) 3) != 2) = true := bne_iff_ne.mpr c25
                            have H' := Aside0.mk H
                            clear H
                            go_wp2
                            go_roundg kj18
                            case measure => have := HJ2.out; have := HK2.out; have := HJ18.out; omega
                            case rel => exact ⟨(t109), (t110), (wrap64 (x26_2 + 1)), (by first | rfl | (simp; done) | (simp [*]; done)), (by first | rfl | (simp; done) | (simp [*]; done)), (by first | rfl | (simp; done) | (simp [*]; done)), H', ⟨by have := HJ2.out; have := HK2.out; have := HJ18.out; omega⟩, ⟨by (with_reducible repeat (first | refine blk_drewN ?_ _ | refine blk_drew ?_ | refine blk_alloc ?_ _)); exact BK108.out⟩, ⟨by repeat (first | (with_reducible first | exact HB.out | apply below_alloc | apply pw_below_drewN | apply below_drew1 | refine below_set ?_ GE108.out) | exact HB.out)⟩⟩
                · rw [if_neg c16] at H
                  exact absurd H (by simp)
              · rw [if_neg c13] at H
                exact absurd H (by simp)
            · rw [if_neg c12] at H
              have c12b0 : decide (x26_2 < a0) = false := decide_eq_false c12
              clear c12
              simp only [Option.some.injEq, Prod.mk.injEq] at H
              obtain ⟨rfl, rfl, rfl⟩ := H
              have hcz26_0 : wr.cell? ⟨gb108, 0, none⟩ = some (.int .i64 0) := (blk_cell BK108.out 0).trans rfl
              have hcz26_1 : wr.cell? ⟨gb108, 1, none⟩ = some (.int .i64 0) := (blk_cell BK108.out 1).trans rfl
              have hfz26_0 := blk_frozen BK108.out 0
              have hfz26_1 := blk_frozen BK108.out 1
              go_wp2
              refine bodyPost_ret (results_ct rfl _ _ gb108 29 #[.int .i64 x6_2, .int .i64 x7_2] (0, 0) _ rfl (by (with_reducible repeat (first | refine blk_drewN ?_ _ | refine blk_drew ?_ | refine blk_alloc ?_ _)); refine blk_put (cs := #[.int .i64 x6_2, .int .i64 0]) ?_ 1 _ rfl; (with_reducible repeat (first | refine blk_drewN ?_ _ | refine blk_drew ?_ | refine blk_alloc ?_ _)); refine blk_put (cs := #[.int .i64 0, .int .i64 0]) ?_ 0 _ rfl; (with_reducible repeat (first | refine blk_drewN ?_ _ | refine blk_drew ?_ | refine blk_alloc ?_ _)); exact BK108.out) Try.underlying29 rfl (by kernel_rfl)) rfl ?_
              exact ⟨by first | rfl | (simp [errW_none, errW_some] <;> rfl) | (simp [*, errW_none, errW_some] <;> rfl), by repeat (first | (with_reducible first | exact HB.out | apply below_alloc | apply pw_below_drewN | apply below_drew1 | refine below_set ?_ GE108.out) | exact HB.out)⟩

/-! ### zelligelaw32_lives: function 20 -/
def zelligelaw32_lives.f (k : Nat)  : Option (Bool) := (hilbert_Index.f k 1 1 1).bind fun bt111 => ((hilbert_At.f k 1 3).bind fun bt113 => (if bt111.1 = 2 then (if bt111.2 = true then (if (bt113.1 == 1 && (bt113.2.1 == 0)) = true then (some bt113.2.2) else (some false)) else (some false)) else (some false)))
theorem zelligelaw32_lives.mono : ∀ k, LeO (zelligelaw32_lives.f k ) (zelligelaw32_lives.f (k + 1) ) := by
  intro  k
  unfold zelligelaw32_lives.f
  repeat' first
      | (with_reducible exact hilbert_At.mono _ _ _)
      | (with_reducible exact hilbert_Index.mono _ _ _ _)
      | (with_reducible exact LeO.refl _)
      | (with_reducible exact LeO.none _)
      | (with_reducible refine LeO.ite ?_ ?_)
      | (with_reducible refine LeO.bind ?_ (fun _ => ?_))
      | exact hilbert_At.mono _ _ _
      | exact hilbert_Index.mono _ _ _ _
      | exact LeO.none _
      | refine LeO.ite ?_ ?_
      | refine LeO.bind ?_ (fun _ => ?_)
set_option maxHeartbeats 8000000 in
set_option maxRecDepth 100000 in
theorem zelligelaw32_lives.calls (k : Nat)  (r : Bool) (w : World) (h : zelligelaw32_lives.f k  = some r) :
    Calls Try.prog 20 #[] w fun e w' => e = .returned (.bool r) ∧ Below w.heap.size w w' := by
  have hu29 := Try.underlying29
  have HB := Aside0.mk (Below.refl w.heap.size w)
  have H : ((hilbert_Index.f k 1 1 1).bind fun bt111 => ((hilbert_At.f k 1 3).bind fun bt113 => (if bt111.1 = 2 then (if bt111.2 = true then (if (bt113.1 == 1 && (bt113.2.1 == 0)) = true then (some bt113.2.2) else (some false)) else (some false)) else (some false)))) = some r := h
  clear h
  replace H := Option.bind_eq_some_iff.mp H
  obtain ⟨⟨t111, t112⟩, A10, H⟩ := H
  replace H : ((hilbert_At.f k 1 3).bind fun bt113 => (if t111 = 2 then (if t112 = true then (if (bt113.1 == 1 && (bt113.2.1 == 0)) = true then (some bt113.2.2) else (some false)) else (some false)) else (some false))) = some r := H
  have A1 := Aside0.mk A10
  clear A10
  replace H := Option.bind_eq_some_iff.mp H
  obtain ⟨⟨t113, t114, t115⟩, A20, H⟩ := H
  replace H : (if t111 = 2 then (if t112 = true then (if (t113 == 1 && (t114 == 0)) = true then (some t115) else (some false)) else (some false)) else (some false)) = some r := H
  have A2 := Aside0.mk A20
  clear A20
  by_cases c3 : t111 = 2
  · rw [if_pos c3] at H
    have c3b0 : (t111 == 2) = true := beq_iff_eq.mpr c3
    have c3b1 : (t111 != 2) = false := bne_eq_false_iff_eq.mpr c3
    clear c3
    by_cases c4 : t112 = true
    · subst c4
      have H1 : (if (t113 == 1 && (t114 == 0)) = true then (some t115) else (some false)) = some r := by rw [if_pos rfl] at H; exact H
      clear H
      have H := H1
      clear H1
      by_cases c5 : (t113 == 1 && (t114 == 0)) = true
      · rw [if_pos c5] at H
        have c5b0 : (t113 == 1 && (t114 == 0)) = true := c5
        (try (have c5b1 : decide (t113 = 1 && (t114 == 0)) = true := by simpa using c5))
        (try (have c5b2 : (t113 == 1 && (t114 == 0)) = true := by simpa using c5))
        clear c5
        obtain rfl := Option.some.inj H
        go_enter Try.func20, Try.ntmps20
        go_wp2_with (first | ((with_reducible refine gate_callee (f := 18) rfl ?_); refine goesL_ (some 7) rfl rfl Try.func18 (by kernel_rfl) rfl #[.int .i64 1, .agg #[.int .i64 1, .int .i64 1]] rfl (by (try simp only [List.map_toArray, List.map_cons, List.map_nil]); first | done | rfl | (simp only [List.length_drop, List.length_take]; rfl)) ?_; (with_reducible refine (hilbert_Index.calls k 1 1 1 t111 true _ A1.out).mono ?_); rintro e w6 ⟨rfl, hb⟩; refine ⟨_, rfl, ?_⟩; have n0_ := Aside0.mk (below_step (by repeat (first | (with_reducible first | exact HB.out | apply below_alloc | apply pw_below_drewN | apply below_drew1) | exact HB.out)) hb); clear HB; have HB := n0_; clear n0_; (try clear hb); (try clear hb2); (try clear hk); (try clear hi)) | ((with_reducible refine gate_callee (f := 21) rfl ?_); refine goesL_ (some 11) rfl rfl Try.func21 (by kernel_rfl) rfl #[.int .i64 1, .int .u64 3] rfl (by (try simp only [List.map_toArray, List.map_cons, List.map_nil]); first | done | rfl | (simp only [List.length_drop, List.length_take]; rfl)) ?_; (with_reducible refine (hilbert_At.calls k 1 3 t113 t114 t115 _ A2.out).mono ?_); rintro e w7 ⟨rfl, hb⟩; refine ⟨_, rfl, ?_⟩; have n0_ := Aside0.mk (below_step (by repeat (first | (with_reducible first | exact HB.out | apply below_alloc | apply pw_below_drewN | apply below_drew1) | exact HB.out)) hb); clear HB; have HB := n0_; clear n0_; (try clear hb); (try clear hb2); (try clear hk); (try clear hi)) | ((with_reducible refine gate_dst (N := 3) rfl ?_); refine box_event ?hg (N := 3) ?hd (cs := #[.int .i64 0, .int .i64 0]) (t := 29) ?hr ?_; (case hd => rfl); (case hg => rfl); (case hr => first | (go_simp; done) | (go_simp; rfl)); intro gb116 hg w8 hbox hb; have n0_ := Aside0.mk (below_step (by repeat (first | (with_reducible first | exact HB.out | apply below_alloc | apply pw_below_drewN | apply below_drew1) | exact HB.out)) hb); have n1_ := Aside0.mk (hbox); have n2_ := Aside0.mk ((by rw [hg]; exact (below_size (by repeat (first | (with_reducible first | exact HB.out | apply below_alloc | apply pw_below_drewN | apply below_drew1) | exact HB.out))) : w.heap.size ≤ gb116)); have n3_ := Aside0.mk ((by rw [hg]; exact (below_size (by repeat (first | (with_reducible first | exact HB.out | apply below_alloc | apply pw_below_drewN | apply below_drew1) | exact HB.out))) : w.heap.size ≤ gb116)); clear HB; have HB := n0_; have BK116 := n1_; have GW116 := n2_; have GE116 := n3_; clear n0_ n1_ n2_ n3_; clear hb hbox hg; have hcz9_0 : w8.cell? ⟨gb116, 0, none⟩ = some (.int .i64 0) := (blk_cell BK116.out 0).trans rfl; have hcz9_1 : w8.cell? ⟨gb116, 1, none⟩ = some (.int .i64 0) := (blk_cell BK116.out 1).trans rfl; have hfz9_0 := blk_frozen BK116.out 0; have hfz9_1 := blk_frozen BK116.out 1))
        go_ret
        exact ⟨by first | rfl | (simp [errW_none, errW_some] <;> rfl) | (simp [*, errW_none, errW_some] <;> rfl), by repeat (first | (with_reducible first | exact HB.out | apply below_alloc | apply pw_below_drewN | apply below_drew1 | refine below_set ?_ GE116.out) | exact HB.out)⟩
      · rw [if_neg c5] at H
        have c5b0 : (t113 == 1 && (t114 == 0)) = false := by simpa using c5
        (try (have c5b1 : decide (t113 = 1 && (t114 == 0)) = false := by simpa using c5))
        (try (have c5b2 : (t113 == 1 && (t114 == 0)) = false := by simpa using c5))
        (try (have c5b3 : ¬ (t113 = 1 && (t114 == 0)) := by simpa using c5))
        clear c5
        obtain rfl := Option.some.inj H
        go_enter Try.func20, Try.ntmps20
        go_wp2_with (first | ((with_reducible refine gate_callee (f := 18) rfl ?_); refine goesL_ (some 7) rfl rfl Try.func18 (by kernel_rfl) rfl #[.int .i64 1, .agg #[.int .i64 1, .int .i64 1]] rfl (by (try simp only [List.map_toArray, List.map_cons, List.map_nil]); first | done | rfl | (simp only [List.length_drop, List.length_take]; rfl)) ?_; (with_reducible refine (hilbert_Index.calls k 1 1 1 t111 true _ A1.out).mono ?_); rintro e w10 ⟨rfl, hb⟩; refine ⟨_, rfl, ?_⟩; have n0_ := Aside0.mk (below_step (by repeat (first | (with_reducible first | exact HB.out | apply below_alloc | apply pw_below_drewN | apply below_drew1) | exact HB.out)) hb); clear HB; have HB := n0_; clear n0_; (try clear hb); (try clear hb2); (try clear hk); (try clear hi)) | ((with_reducible refine gate_callee (f := 21) rfl ?_); refine goesL_ (some 11) rfl rfl Try.func21 (by kernel_rfl) rfl #[.int .i64 1, .int .u64 3] rfl (by (try simp only [List.map_toArray, List.map_cons, List.map_nil]); first | done | rfl | (simp only [List.length_drop, List.length_take]; rfl)) ?_; (with_reducible refine (hilbert_At.calls k 1 3 t113 t114 t115 _ A2.out).mono ?_); rintro e w11 ⟨rfl, hb⟩; refine ⟨_, rfl, ?_⟩; have n0_ := Aside0.mk (below_step (by repeat (first | (with_reducible first | exact HB.out | apply below_alloc | apply pw_below_drewN | apply below_drew1) | exact HB.out)) hb); clear HB; have HB := n0_; clear n0_; (try clear hb); (try clear hb2); (try clear hk); (try clear hi)) | ((with_reducible refine gate_dst (N := 3) rfl ?_); refine box_event ?hg (N := 3) ?hd (cs := #[.int .i64 0, .int .i64 0]) (t := 29) ?hr ?_; (case hd => rfl); (case hg => rfl); (case hr => first | (go_simp; done) | (go_simp; rfl)); intro gb116 hg w12 hbox hb; have n0_ := Aside0.mk (below_step (by repeat (first | (with_reducible first | exact HB.out | apply below_alloc | apply pw_below_drewN | apply below_drew1) | exact HB.out)) hb); have n1_ := Aside0.mk (hbox); have n2_ := Aside0.mk ((by rw [hg]; exact (below_size (by repeat (first | (with_reducible first | exact HB.out | apply below_alloc | apply pw_below_drewN | apply below_drew1) | exact HB.out))) : w.heap.size ≤ gb116)); have n3_ := Aside0.mk ((by rw [hg]; exact (below_size (by repeat (first | (with_reducible first | exact HB.out | apply below_alloc | apply pw_below_drewN | apply below_drew1) | exact HB.out))) : w.heap.size ≤ gb116)); clear HB; have HB := n0_; have BK116 := n1_; have GW116 := n2_; have GE116 := n3_; clear n0_ n1_ n2_ n3_; clear hb hbox hg; have hcz13_0 : w12.cell? ⟨gb116, 0, none⟩ = some (.int .i64 0) := (blk_cell BK116.out 0).trans rfl; have hcz13_1 : w12.cell? ⟨gb116, 1, none⟩ = some (.int .i64 0) := (blk_cell BK116.out 1).trans rfl; have hfz13_0 := blk_frozen BK116.out 0; have hfz13_1 := blk_frozen BK116.out 1))
        go_ret
        exact ⟨by first | rfl | (simp [errW_none, errW_some] <;> rfl) | (simp [*, errW_none, errW_some] <;> rfl), by repeat (first | (with_reducible first | exact HB.out | apply below_alloc | apply pw_below_drewN | apply below_drew1 | refine below_set ?_ GE116.out) | exact HB.out)⟩
    · replace c4 := Bool.eq_false_iff.mpr c4
      subst c4
      have H1 : (some false) = some r := by rw [if_neg (show ¬ (false = true) by decide)] at H; exact H
      clear H
      have H := H1
      clear H1
      obtain rfl := Option.some.inj H
      go_enter Try.func20, Try.ntmps20
      go_wp2_with (first | ((with_reducible refine gate_callee (f := 18) rfl ?_); refine goesL_ (some 7) rfl rfl Try.func18 (by kernel_rfl) rfl #[.int .i64 1, .agg #[.int .i64 1, .int .i64 1]] rfl (by (try simp only [List.map_toArray, List.map_cons, List.map_nil]); first | done | rfl | (simp only [List.length_drop, List.length_take]; rfl)) ?_; (with_reducible refine (hilbert_Index.calls k 1 1 1 t111 false _ A1.out).mono ?_); rintro e w14 ⟨rfl, hb⟩; refine ⟨_, rfl, ?_⟩; have n0_ := Aside0.mk (below_step (by repeat (first | (with_reducible first | exact HB.out | apply below_alloc | apply pw_below_drewN | apply below_drew1) | exact HB.out)) hb); clear HB; have HB := n0_; clear n0_; (try clear hb); (try clear hb2); (try clear hk); (try clear hi)) | ((with_reducible refine gate_callee (f := 21) rfl ?_); refine goesL_ (some 11) rfl rfl Try.func21 (by kernel_rfl) rfl #[.int .i64 1, .int .u64 3] rfl (by (try simp only [List.map_toArray, List.map_cons, List.map_nil]); first | done | rfl | (simp only [List.length_drop, List.length_take]; rfl)) ?_; (with_reducible refine (hilbert_At.calls k 1 3 t113 t114 t115 _ A2.out).mono ?_); rintro e w15 ⟨rfl, hb⟩; refine ⟨_, rfl, ?_⟩; have n0_ := Aside0.mk (below_step (by repeat (first | (with_reducible first | exact HB.out | apply below_alloc | apply pw_below_drewN | apply below_drew1) | exact HB.out)) hb); clear HB; have HB := n0_; clear n0_; (try clear hb); (try clear hb2); (try clear hk); (try clear hi)) | ((with_reducible refine gate_dst (N := 3) rfl ?_); refine box_event ?hg (N := 3) ?hd (cs := #[.int .i64 0, .int .i64 0]) (t := 29) ?hr ?_; (case hd => rfl); (case hg => rfl); (case hr => first | (go_simp; done) | (go_simp; rfl)); intro gb116 hg w16 hbox hb; have n0_ := Aside0.mk (below_step (by repeat (first | (with_reducible first | exact HB.out | apply below_alloc | apply pw_below_drewN | apply below_drew1) | exact HB.out)) hb); have n1_ := Aside0.mk (hbox); have n2_ := Aside0.mk ((by rw [hg]; exact (below_size (by repeat (first | (with_reducible first | exact HB.out | apply below_alloc | apply pw_below_drewN | apply below_drew1) | exact HB.out))) : w.heap.size ≤ gb116)); have n3_ := Aside0.mk ((by rw [hg]; exact (below_size (by repeat (first | (with_reducible first | exact HB.out | apply below_alloc | apply pw_below_drewN | apply below_drew1) | exact HB.out))) : w.heap.size ≤ gb116)); clear HB; have HB := n0_; have BK116 := n1_; have GW116 := n2_; have GE116 := n3_; clear n0_ n1_ n2_ n3_; clear hb hbox hg; have hcz17_0 : w16.cell? ⟨gb116, 0, none⟩ = some (.int .i64 0) := (blk_cell BK116.out 0).trans rfl; have hcz17_1 : w16.cell? ⟨gb116, 1, none⟩ = some (.int .i64 0) := (blk_cell BK116.out 1).trans rfl; have hfz17_0 := blk_frozen BK116.out 0; have hfz17_1 := blk_frozen BK116.out 1))
      go_ret
      exact ⟨by first | rfl | (simp [errW_none, errW_some] <;> rfl) | (simp [*, errW_none, errW_some] <;> rfl), by repeat (first | (with_reducible first | exact HB.out | apply below_alloc | apply pw_below_drewN | apply below_drew1 | refine below_set ?_ GE116.out) | exact HB.out)⟩
  · rw [if_neg c3] at H
    have c3b0 : (t111 == 2) = false := beq_eq_false_iff_ne.mpr c3
    have c3b1 : (t111 != 2) = true := bne_iff_ne.mpr c3
    obtain rfl := Option.some.inj H
    go_enter Try.func20, Try.ntmps20
    go_wp2_with (first | ((with_reducible refine gate_callee (f := 18) rfl ?_); refine goesL_ (some 7) rfl rfl Try.func18 (by kernel_rfl) rfl #[.int .i64 1, .agg #[.int .i64 1, .int .i64 1]] rfl (by (try simp only [List.map_toArray, List.map_cons, List.map_nil]); first | done | rfl | (simp only [List.length_drop, List.length_take]; rfl)) ?_; (with_reducible refine (hilbert_Index.calls k 1 1 1 t111 t112 _ A1.out).mono ?_); rintro e w18 ⟨rfl, hb⟩; refine ⟨_, rfl, ?_⟩; have n0_ := Aside0.mk (below_step (by repeat (first | (with_reducible first | exact HB.out | apply below_alloc | apply pw_below_drewN | apply below_drew1) | exact HB.out)) hb); clear HB; have HB := n0_; clear n0_; (try clear hb); (try clear hb2); (try clear hk); (try clear hi)) | ((with_reducible refine gate_callee (f := 21) rfl ?_); refine goesL_ (some 11) rfl rfl Try.func21 (by kernel_rfl) rfl #[.int .i64 1, .int .u64 3] rfl (by (try simp only [List.map_toArray, List.map_cons, List.map_nil]); first | done | rfl | (simp only [List.length_drop, List.length_take]; rfl)) ?_; (with_reducible refine (hilbert_At.calls k 1 3 t113 t114 t115 _ A2.out).mono ?_); rintro e w19 ⟨rfl, hb⟩; refine ⟨_, rfl, ?_⟩; have n0_ := Aside0.mk (below_step (by repeat (first | (with_reducible first | exact HB.out | apply below_alloc | apply pw_below_drewN | apply below_drew1) | exact HB.out)) hb); clear HB; have HB := n0_; clear n0_; (try clear hb); (try clear hb2); (try clear hk); (try clear hi)) | ((with_reducible refine gate_dst (N := 3) rfl ?_); refine box_event ?hg (N := 3) ?hd (cs := #[.int .i64 0, .int .i64 0]) (t := 29) ?hr ?_; (case hd => rfl); (case hg => rfl); (case hr => first | (go_simp; done) | (go_simp; rfl)); intro gb116 hg w20 hbox hb; have n0_ := Aside0.mk (below_step (by repeat (first | (with_reducible first | exact HB.out | apply below_alloc | apply pw_below_drewN | apply below_drew1) | exact HB.out)) hb); have n1_ := Aside0.mk (hbox); have n2_ := Aside0.mk ((by rw [hg]; exact (below_size (by repeat (first | (with_reducible first | exact HB.out | apply below_alloc | apply pw_below_drewN | apply below_drew1) | exact HB.out))) : w.heap.size ≤ gb116)); have n3_ := Aside0.mk ((by rw [hg]; exact (below_size (by repeat (first | (with_reducible first | exact HB.out | apply below_alloc | apply pw_below_drewN | apply below_drew1) | exact HB.out))) : w.heap.size ≤ gb116)); clear HB; have HB := n0_; have BK116 := n1_; have GW116 := n2_; have GE116 := n3_; clear n0_ n1_ n2_ n3_; clear hb hbox hg; have hcz21_0 : w20.cell? ⟨gb116, 0, none⟩ = some (.int .i64 0) := (blk_cell BK116.out 0).trans rfl; have hcz21_1 : w20.cell? ⟨gb116, 1, none⟩ = some (.int .i64 0) := (blk_cell BK116.out 1).trans rfl; have hfz21_0 := blk_frozen BK116.out 0; have hfz21_1 := blk_frozen BK116.out 1))
    go_ret
    exact ⟨by first | rfl | (simp [errW_none, errW_some] <;> rfl) | (simp [*, errW_none, errW_some] <;> rfl), by repeat (first | (with_reducible first | exact HB.out | apply below_alloc | apply pw_below_drewN | apply below_drew1 | refine below_set ?_ GE116.out) | exact HB.out)⟩

/-! ### zelligeref32_power: function 49 -/
def zelligeref32_power.l0 : Nat → Int → Int → Int → Option (Int)
  | 0, _, _, _ => none
  | k + 1, x0, x3, x4 => if x4 < x0 then (zelligeref32_power.l0 k x0 (wrap64 (2 * x3)) (wrap64 (x4 + 1))) else (some x3)
def zelligeref32_power.f (k : Nat) (a0 : Int) : Option (Int) := zelligeref32_power.l0 k a0 1 0
theorem zelligeref32_power.mono_l : ∀ k, (∀ y0 y1 y2, LeO (zelligeref32_power.l0 k y0 y1 y2) (zelligeref32_power.l0 (k + 1) y0 y1 y2))
  | 0 => fun _ _ _ r h => by simp [zelligeref32_power.l0] at h
  | k + 1 => by
    have ih0 := zelligeref32_power.mono_l k
    · intro y0 y1 y2
      unfold zelligeref32_power.l0
      repeat' first
      | (with_reducible exact ih0 _ _ _)
      | (with_reducible exact LeO.refl _)
      | (with_reducible exact LeO.none _)
      | (with_reducible refine LeO.ite ?_ ?_)
      | (with_reducible refine LeO.bind ?_ (fun _ => ?_))
      | exact ih0 _ _ _
      | exact LeO.none _
      | refine LeO.ite ?_ ?_
      | refine LeO.bind ?_ (fun _ => ?_)
theorem zelligeref32_power.mono : ∀ a0 k, LeO (zelligeref32_power.f k a0) (zelligeref32_power.f (k + 1) a0) := by
  intro a0 k
  have ih0 := zelligeref32_power.mono_l k
  unfold zelligeref32_power.f
  repeat' first
      | (with_reducible exact ih0 _ _ _)
      | (with_reducible exact LeO.refl _)
      | (with_reducible exact LeO.none _)
      | (with_reducible refine LeO.ite ?_ ?_)
      | (with_reducible refine LeO.bind ?_ (fun _ => ?_))
      | exact ih0 _ _ _
      | exact LeO.none _
      | refine LeO.ite ?_ ?_
      | refine LeO.bind ?_ (fun _ => ?_)
set_option maxHeartbeats 8000000 in
set_option maxRecDepth 100000 in
theorem zelligeref32_power.calls (k : Nat) (a0 : Int) (r : Int) (w : World) (h : zelligeref32_power.f k a0 = some r) :
    Calls Try.prog 49 #[.int .i64 a0] w fun e w' => e = .returned (.int .i64 r) ∧ Drawn0 w w' := by
  have H : (zelligeref32_power.l0 k a0 1 0) = some r := h
  clear h
  have H' := Aside0.mk H
  clear H
  go_enter Try.func49, Try.ntmps49
  go_wp2
  go_loopg [3, 4] k (fun kq v3 v4 w' => ∃ (x3_1 : Int) (x4_1 : Int), v3 = .int .i64 x3_1 ∧ v4 = .int .i64 x4_1 ∧ Aside0 (zelligeref32_power.l0 kq a0 x3_1 x4_1 = some r) ∧ Aside0 (kq ≤ k) ∧ Drawn0 w w')
  case atStart => exact ⟨(1), (0), (by first | rfl | (simp; done) | (simp [*]; done)), (by first | rfl | (simp; done) | (simp [*]; done)), H', ⟨Nat.le_refl _⟩, by repeat (first | exact Drawn0.refl _ | apply Drawn0.step)⟩
  case round =>
    clear H'
    obtain ⟨x3_1, x4_1, rfl, rfl, HA, HK1, ⟨m1, rfl⟩⟩ := hrel
    cases gk with
    | zero => exact absurd HA.out (by simp [zelligeref32_power.l0])
    | succ k1 =>
      have H := HA.out
      clear HA
      simp only [zelligeref32_power.l0] at H
      by_cases c2 : x4_1 < a0
      · rw [if_pos c2] at H
        have c2b0 : decide (x4_1 < a0) = true := decide_eq_true c2
        clear c2
        have H' := Aside0.mk H
        clear H
        go_wp2
        go_roundg k1
        case measure => have := HK1.out; omega
        case rel => exact ⟨(wrap64 (2 * x3_1)), (wrap64 (x4_1 + 1)), (by first | rfl | (simp; done) | (simp [*]; done)), (by first | rfl | (simp; done) | (simp [*]; done)), H', ⟨by have := HK1.out; omega⟩, by repeat (first | exact Drawn0.refl _ | apply Drawn0.step)⟩
      · rw [if_neg c2] at H
        have c2b0 : decide (x4_1 < a0) = false := decide_eq_false c2
        clear c2
        obtain rfl := Option.some.inj H
        go_wp2
        go_ret
        exact ⟨by first | rfl | (simp; done) | (simp [*]; done), by repeat (first | exact Drawn0.refl _ | apply Drawn0.step)⟩

/-! ### zelligeref32_At: function 23 -/
def zelligeref32_At.f : Nat → Int → Int → Option (Int × Int)
  | 0, _, _ => none
  | k + 1, a0, a1 => if a0 = 0 then (some (0, 0)) else ((zelligeref32_power.f k (wrap64 (a0 - 1))).bind fun t117 => (if (IntKind.u64.wrap ((IntKind.u64.wrap (t117)) * (IntKind.u64.wrap (t117)))) = 0 then (none) else ((zelligeref32_At.f k (wrap64 (a0 - 1)) (Int.tmod a1 (IntKind.u64.wrap ((IntKind.u64.wrap (t117)) * (IntKind.u64.wrap (t117)))))).bind fun bt118 => (if a1 < (IntKind.u64.wrap ((IntKind.u64.wrap (t117)) * (IntKind.u64.wrap (t117)))) then (some (bt118.2, bt118.1)) else (if a1 < (IntKind.u64.wrap (2 * (IntKind.u64.wrap ((IntKind.u64.wrap (t117)) * (IntKind.u64.wrap (t117)))))) then (some (bt118.1, wrap64 (bt118.2 + t117))) else (if a1 < (IntKind.u64.wrap (3 * (IntKind.u64.wrap ((IntKind.u64.wrap (t117)) * (IntKind.u64.wrap (t117)))))) then (some (wrap64 (bt118.1 + t117), wrap64 (bt118.2 + t117))) else (some (wrap64 ((wrap64 ((wrap64 (t117 - 1)) - bt118.2)) + t117), wrap64 ((wrap64 (t117 - 1)) - bt118.1)))))))))
theorem zelligeref32_At.mono_l : ∀ k, (∀ y0 y1, LeO (zelligeref32_At.f k y0 y1) (zelligeref32_At.f (k + 1) y0 y1))
  | 0 => fun _ _ r h => by simp [zelligeref32_At.f] at h
  | k + 1 => by
    have ih0 := zelligeref32_At.mono_l k
    · intro y0 y1
      unfold zelligeref32_At.f
      repeat' first
      | (with_reducible exact ih0 _ _)
      | (with_reducible exact zelligeref32_power.mono _ _)
      | (with_reducible exact LeO.refl _)
      | (with_reducible exact LeO.none _)
      | (with_reducible refine LeO.ite ?_ ?_)
      | (with_reducible refine LeO.bind ?_ (fun _ => ?_))
      | exact ih0 _ _
      | exact zelligeref32_power.mono _ _
      | exact LeO.none _
      | refine LeO.ite ?_ ?_
      | refine LeO.bind ?_ (fun _ => ?_)
theorem zelligeref32_At.mono : ∀ a0 a1 k, LeO (zelligeref32_At.f k a0 a1) (zelligeref32_At.f (k + 1) a0 a1) := by
  intro a0 a1 k
  have ih0 := zelligeref32_At.mono_l k
  exact ih0 a0 a1
set_option maxHeartbeats 8000000 in
set_option maxRecDepth 100000 in
theorem zelligeref32_At.calls (k : Nat) : ∀ (a0 : Int) (a1 : Int) (r1 : Int) (r2 : Int) (w : World) (h : zelligeref32_At.f k a0 a1 = some (r1, r2)),
    Calls Try.prog 23 #[.int .i64 a0, .int .u64 a1] w fun e w' => e = .returned (.tuple #[.int .i64 r1, .int .i64 r2]) ∧ Drawn0 w w' := by
  induction k using Nat.strongRecOn with
  | _ k ih =>
  intro a0 a1 r1 r2 w h
  cases k with
  | zero => exact absurd h (by simp [zelligeref32_At.f])
  | succ k =>
  simp only [zelligeref32_At.f] at h
  have H : (if a0 = 0 then (some (0, 0)) else ((zelligeref32_power.f k (wrap64 (a0 - 1))).bind fun t117 => (if (IntKind.u64.wrap ((IntKind.u64.wrap (t117)) * (IntKind.u64.wrap (t117)))) = 0 then (none) else ((zelligeref32_At.f k (wrap64 (a0 - 1)) (Int.tmod a1 (IntKind.u64.wrap ((IntKind.u64.wrap (t117)) * (IntKind.u64.wrap (t117)))))).bind fun bt118 => (if a1 < (IntKind.u64.wrap ((IntKind.u64.wrap (t117)) * (IntKind.u64.wrap (t117)))) then (some (bt118.2, bt118.1)) else (if a1 < (IntKind.u64.wrap (2 * (IntKind.u64.wrap ((IntKind.u64.wrap (t117)) * (IntKind.u64.wrap (t117)))))) then (some (bt118.1, wrap64 (bt118.2 + t117))) else (if a1 < (IntKind.u64.wrap (3 * (IntKind.u64.wrap ((IntKind.u64.wrap (t117)) * (IntKind.u64.wrap (t117)))))) then (some (wrap64 (bt118.1 + t117), wrap64 (bt118.2 + t117))) else (some (wrap64 ((wrap64 ((wrap64 (t117 - 1)) - bt118.2)) + t117), wrap64 ((wrap64 (t117 - 1)) - bt118.1)))))))))) = some (r1, r2) := h
  clear h
  by_cases c3 : a0 = 0
  · rw [if_pos c3] at H
    have c3b0 : (a0 == 0) = true := beq_iff_eq.mpr c3
    have c3b1 : (a0 != 0) = false := bne_eq_false_iff_eq.mpr c3
    clear c3
    simp only [Option.some.injEq, Prod.mk.injEq] at H
    obtain ⟨rfl, rfl⟩ := H
    go_enter Try.func23, Try.ntmps23
    go_wp2
    go_ret2
    exact ⟨by first | rfl | (simp; done) | (simp [*]; done), by repeat (first | exact Drawn0.refl _ | apply Drawn0.step)⟩
  · rw [if_neg c3] at H
    have c3b0 : (a0 == 0) = false := beq_eq_false_iff_ne.mpr c3
    have c3b1 : (a0 != 0) = true := bne_iff_ne.mpr c3
    replace H := Option.bind_eq_some_iff.mp H
    obtain ⟨t117, A40, H⟩ := H
    replace H : (if (IntKind.u64.wrap ((IntKind.u64.wrap (t117)) * (IntKind.u64.wrap (t117)))) = 0 then (none) else ((zelligeref32_At.f k (wrap64 (a0 - 1)) (Int.tmod a1 (IntKind.u64.wrap ((IntKind.u64.wrap (t117)) * (IntKind.u64.wrap (t117)))))).bind fun bt118 => (if a1 < (IntKind.u64.wrap ((IntKind.u64.wrap (t117)) * (IntKind.u64.wrap (t117)))) then (some (bt118.2, bt118.1)) else (if a1 < (IntKind.u64.wrap (2 * (IntKind.u64.wrap ((IntKind.u64.wrap (t117)) * (IntKind.u64.wrap (t117)))))) then (some (bt118.1, wrap64 (bt118.2 + t117))) else (if a1 < (IntKind.u64.wrap (3 * (IntKind.u64.wrap ((IntKind.u64.wrap (t117)) * (IntKind.u64.wrap (t117)))))) then (some (wrap64 (bt118.1 + t117), wrap64 (bt118.2 + t117))) else (some (wrap64 ((wrap64 ((wrap64 (t117 - 1)) - bt118.2)) + t117), wrap64 ((wrap64 (t117 - 1)) - bt118.1)))))))) = some (r1, r2) := H
    have A4 := Aside0.mk A40
    clear A40
    by_cases c5 : (IntKind.u64.wrap ((IntKind.u64.wrap (t117)) * (IntKind.u64.wrap (t117)))) = 0
    · rw [if_pos c5] at H
      exact absurd H (by simp)
    · rw [if_neg c5] at H
      have c5b0 : ((IntKind.u64.wrap ((IntKind.u64.wrap (t117)) * (IntKind.u64.wrap (t117)))) == 0) = false := beq_eq_false_iff_ne.mpr c5
      have c5b1 : ((IntKind.u64.wrap ((IntKind.u64.wrap (t117)) * (IntKind.u64.wrap (t117)))) != 0) = true := bne_iff_ne.mpr c5
      replace H := Option.bind_eq_some_iff.mp H
      obtain ⟨⟨t118, t119⟩, A60, H⟩ := H
      replace H : (if a1 < (IntKind.u64.wrap ((IntKind.u64.wrap (t117)) * (IntKind.u64.wrap (t117)))) then (some (t119, t118)) else (if a1 < (IntKind.u64.wrap (2 * (IntKind.u64.wrap ((IntKind.u64.wrap (t117)) * (IntKind.u64.wrap (t117)))))) then (some (t118, wrap64 (t119 + t117))) else (if a1 < (IntKind.u64.wrap (3 * (IntKind.u64.wrap ((IntKind.u64.wrap (t117)) * (IntKind.u64.wrap (t117)))))) then (some (wrap64 (t118 + t117), wrap64 (t119 + t117))) else (some (wrap64 ((wrap64 ((wrap64 (t117 - 1)) - t119)) + t117), wrap64 ((wrap64 (t117 - 1)) - t118)))))) = some (r1, r2) := H
      have A6 := Aside0.mk A60
      clear A60
      by_cases c7 : a1 < (IntKind.u64.wrap ((IntKind.u64.wrap (t117)) * (IntKind.u64.wrap (t117))))
      · rw [if_pos c7] at H
        have c7b0 : decide (a1 < (IntKind.u64.wrap ((IntKind.u64.wrap (t117)) * (IntKind.u64.wrap (t117))))) = true := decide_eq_true c7
        clear c7
        simp only [Option.some.injEq, Prod.mk.injEq] at H
        obtain ⟨rfl, rfl⟩ := H
        go_enter Try.func23, Try.ntmps23
        go_wp2_with (first | ((with_reducible refine gate_callee (f := 49) rfl ?_); refine goesL_ (some 14) rfl rfl Try.func49 (by kernel_rfl) rfl #[.int .i64 (wrap64 (a0 - 1))] rfl (by (try simp only [List.map_toArray, List.map_cons, List.map_nil]); first | done | rfl | (simp only [List.length_drop, List.length_take]; rfl)) ?_; (with_reducible refine (zelligeref32_power.calls k (wrap64 (a0 - 1)) t117 _ A4.out).mono ?_); rintro e w' ⟨rfl, ⟨nd, rfl⟩⟩; refine ⟨_, rfl, ?_⟩) | ((with_reducible refine gate_callee (f := 23) rfl ?_); refine goesL_ (some 26) rfl rfl Try.func23 (by kernel_rfl) rfl #[.int .i64 (wrap64 (a0 - 1)), .int .u64 (Int.tmod a1 (IntKind.u64.wrap ((IntKind.u64.wrap (t117)) * (IntKind.u64.wrap (t117)))))] rfl (by (try simp only [List.map_toArray, List.map_cons, List.map_nil]); first | done | rfl | (simp only [List.length_drop, List.length_take]; rfl)) ?_; (with_reducible refine (ih k (by omega) (wrap64 (a0 - 1)) (Int.tmod a1 (IntKind.u64.wrap ((IntKind.u64.wrap (t117)) * (IntKind.u64.wrap (t117))))) t118 t119 _ A6.out).mono ?_); rintro e w' ⟨rfl, ⟨nd, rfl⟩⟩; refine ⟨_, rfl, ?_⟩))
        go_ret2
        exact ⟨by first | rfl | (simp; done) | (simp [*]; done), by repeat (first | exact Drawn0.refl _ | apply Drawn0.step)⟩
      · rw [if_neg c7] at H
        have c7b0 : decide (a1 < (IntKind.u64.wrap ((IntKind.u64.wrap (t117)) * (IntKind.u64.wrap (t117))))) = false := decide_eq_false c7
        clear c7
        by_cases c8 : a1 < (IntKind.u64.wrap (2 * (IntKind.u64.wrap ((IntKind.u64.wrap (t117)) * (IntKind.u64.wrap (t117))))))
        · rw [if_pos c8] at H
          have c8b0 : decide (a1 < (IntKind.u64.wrap (2 * (IntKind.u64.wrap ((IntKind.u64.wrap (t117)) * (IntKind.u64.wrap (t117))))))) = true := decide_eq_true c8
          clear c8
          simp only [Option.some.injEq, Prod.mk.injEq] at H
          obtain ⟨rfl, rfl⟩ := H
          go_enter Try.func23, Try.ntmps23
          go_wp2_with (first | ((with_reducible refine gate_callee (f := 49) rfl ?_); refine goesL_ (some 14) rfl rfl Try.func49 (by kernel_rfl) rfl #[.int .i64 (wrap64 (a0 - 1))] rfl (by (try simp only [List.map_toArray, List.map_cons, List.map_nil]); first | done | rfl | (simp only [List.length_drop, List.length_take]; rfl)) ?_; (with_reducible refine (zelligeref32_power.calls k (wrap64 (a0 - 1)) t117 _ A4.out).mono ?_); rintro e w' ⟨rfl, ⟨nd, rfl⟩⟩; refine ⟨_, rfl, ?_⟩) | ((with_reducible refine gate_callee (f := 23) rfl ?_); refine goesL_ (some 26) rfl rfl Try.func23 (by kernel_rfl) rfl #[.int .i64 (wrap64 (a0 - 1)), .int .u64 (Int.tmod a1 (IntKind.u64.wrap ((IntKind.u64.wrap (t117)) * (IntKind.u64.wrap (t117)))))] rfl (by (try simp only [List.map_toArray, List.map_cons, List.map_nil]); first | done | rfl | (simp only [List.length_drop, List.length_take]; rfl)) ?_; (with_reducible refine (ih k (by omega) (wrap64 (a0 - 1)) (Int.tmod a1 (IntKind.u64.wrap ((IntKind.u64.wrap (t117)) * (IntKind.u64.wrap (t117))))) t118 t119 _ A6.out).mono ?_); rintro e w' ⟨rfl, ⟨nd, rfl⟩⟩; refine ⟨_, rfl, ?_⟩))
          go_ret2
          exact ⟨by first | rfl | (simp; done) | (simp [*]; done), by repeat (first | exact Drawn0.refl _ | apply Drawn0.step)⟩
        · rw [if_neg c8] at H
          have c8b0 : decide (a1 < (IntKind.u64.wrap (2 * (IntKind.u64.wrap ((IntKind.u64.wrap (t117)) * (IntKind.u64.wrap (t117))))))) = false := decide_eq_false c8
          clear c8
          by_cases c9 : a1 < (IntKind.u64.wrap (3 * (IntKind.u64.wrap ((IntKind.u64.wrap (t117)) * (IntKind.u64.wrap (t117))))))
          · rw [if_pos c9] at H
            have c9b0 : decide (a1 < (IntKind.u64.wrap (3 * (IntKind.u64.wrap ((IntKind.u64.wrap (t117)) * (IntKind.u64.wrap (t117))))))) = true := decide_eq_true c9
            clear c9
            simp only [Option.some.injEq, Prod.mk.injEq] at H
            obtain ⟨rfl, rfl⟩ := H
            go_enter Try.func23, Try.ntmps23
            go_wp2_with (first | ((with_reducible refine gate_callee (f := 49) rfl ?_); refine goesL_ (some 14) rfl rfl Try.func49 (by kernel_rfl) rfl #[.int .i64 (wrap64 (a0 - 1))] rfl (by (try simp only [List.map_toArray, List.map_cons, List.map_nil]); first | done | rfl | (simp only [List.length_drop, List.length_take]; rfl)) ?_; (with_reducible refine (zelligeref32_power.calls k (wrap64 (a0 - 1)) t117 _ A4.out).mono ?_); rintro e w' ⟨rfl, ⟨nd, rfl⟩⟩; refine ⟨_, rfl, ?_⟩) | ((with_reducible refine gate_callee (f := 23) rfl ?_); refine goesL_ (some 26) rfl rfl Try.func23 (by kernel_rfl) rfl #[.int .i64 (wrap64 (a0 - 1)), .int .u64 (Int.tmod a1 (IntKind.u64.wrap ((IntKind.u64.wrap (t117)) * (IntKind.u64.wrap (t117)))))] rfl (by (try simp only [List.map_toArray, List.map_cons, List.map_nil]); first | done | rfl | (simp only [List.length_drop, List.length_take]; rfl)) ?_; (with_reducible refine (ih k (by omega) (wrap64 (a0 - 1)) (Int.tmod a1 (IntKind.u64.wrap ((IntKind.u64.wrap (t117)) * (IntKind.u64.wrap (t117))))) t118 t119 _ A6.out).mono ?_); rintro e w' ⟨rfl, ⟨nd, rfl⟩⟩; refine ⟨_, rfl, ?_⟩))
            go_ret2
            exact ⟨by first | rfl | (simp; done) | (simp [*]; done), by repeat (first | exact Drawn0.refl _ | apply Drawn0.step)⟩
          · rw [if_neg c9] at H
            have c9b0 : decide (a1 < (IntKind.u64.wrap (3 * (IntKind.u64.wrap ((IntKind.u64.wrap (t117)) * (IntKind.u64.wrap (t117))))))) = false := decide_eq_false c9
            clear c9
            simp only [Option.some.injEq, Prod.mk.injEq] at H
            obtain ⟨rfl, rfl⟩ := H
            go_enter Try.func23, Try.ntmps23
            go_wp2_with (first | ((with_reducible refine gate_callee (f := 49) rfl ?_); refine goesL_ (some 14) rfl rfl Try.func49 (by kernel_rfl) rfl #[.int .i64 (wrap64 (a0 - 1))] rfl (by (try simp only [List.map_toArray, List.map_cons, List.map_nil]); first | done | rfl | (simp only [List.length_drop, List.length_take]; rfl)) ?_; (with_reducible refine (zelligeref32_power.calls k (wrap64 (a0 - 1)) t117 _ A4.out).mono ?_); rintro e w' ⟨rfl, ⟨nd, rfl⟩⟩; refine ⟨_, rfl, ?_⟩) | ((with_reducible refine gate_callee (f := 23) rfl ?_); refine goesL_ (some 26) rfl rfl Try.func23 (by kernel_rfl) rfl #[.int .i64 (wrap64 (a0 - 1)), .int .u64 (Int.tmod a1 (IntKind.u64.wrap ((IntKind.u64.wrap (t117)) * (IntKind.u64.wrap (t117)))))] rfl (by (try simp only [List.map_toArray, List.map_cons, List.map_nil]); first | done | rfl | (simp only [List.length_drop, List.length_take]; rfl)) ?_; (with_reducible refine (ih k (by omega) (wrap64 (a0 - 1)) (Int.tmod a1 (IntKind.u64.wrap ((IntKind.u64.wrap (t117)) * (IntKind.u64.wrap (t117))))) t118 t119 _ A6.out).mono ?_); rintro e w' ⟨rfl, ⟨nd, rfl⟩⟩; refine ⟨_, rfl, ?_⟩))
            go_ret2
            exact ⟨by first | rfl | (simp; done) | (simp [*]; done), by repeat (first | exact Drawn0.refl _ | apply Drawn0.step)⟩

end Go.Proofs.Ytkhdnkmocbceeaa.PHilbertAt
