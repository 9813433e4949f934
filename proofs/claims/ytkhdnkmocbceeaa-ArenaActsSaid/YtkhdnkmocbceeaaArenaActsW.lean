/- The walk of ArenaActs. -/
import Derived.Test.YtkhdnkmocbceeaaArenaS
import Derived.Deep.RegionHeld3
namespace Go.Proofs.Ytkhdnkmocbceeaa.Arena
open Go.RowKit Go.Proofs.ZFr
open Go.Joins (below_alloc1 below_draws)
open Go.Proofs.YtkhdnkmocbceeaaW.PrintWords (ReadsInt pw_cell_below)


set_option maxRecDepth 100000 in
set_option maxHeartbeats 4000000 in
theorem arenaActs (A : Option Addr) (cap : Nat) (l : List Int) (w : World) (hr : ReadsInt w .i64 A l.length l) (hm : l.length ≤ maxLen) :
    Calls Try.prog 9 #[.slice A l.length cap] w fun e w' => e = .returned (.bool true) ∧ Below w.heap.size w w' := by
  unfold maxLen at hm
  have HR := Lib.hid hr
  clear hr
  go_enter Try.func9, Try.ntmps9
  go_wp2_with fail
  refine (new_AC w w.heap.size (Nat.le_refl _)).mono ?_
  rintro e w1 ⟨rfl, h1, f1⟩
  have hsz := f1.size
  have hst : St w (w1.alloc (.cells #[.slice none 0 0, .slice none 0 0, .int .i64 0] 51)) w.heap.size w1.heap.size [] [] [] [] :=
    ⟨_, .slice none 0 0, .slice none 0 0, h1.fr ((Fr.refl (fun _ => False) w1).alloc _) (fun _ _ h => h),
      ⟨[], [], 0, ⟨heap_alloc_new w1 _, World.ownsRow_nil _ _ _ _, World.ownsRow_nil _ _ _ _, fun k hk => by simp [Value.ownBlock] at hk, hsz⟩, sim_nil⟩,
      (f1.below w.heap.size (Nat.le_refl _) (fun _ h => h.elim)).alloc hsz _⟩
  have HS := Lib.hid hst
  clear h1 f1 hst hsz
  go_wp2_with fail
  go_loopw [4, 5] (fun m i wr => ∃ (k rb : Nat) (L : List Int) (C : List Nat), k ≤ l.length ∧ k ≤ 80 ∧ i = .int .i64 k ∧ m = .pointer (some ⟨rb, 0, none⟩) ∧ L.length ≤ k ∧ Fits L C ∧ St w wr w.heap.size rb L C L C) (fun _ i _ => l.length - (intOf i).toNat)
  case atStart => exact ⟨0, _, [], [], Nat.zero_le _, by omega, rfl, rfl, Nat.le_refl _, fits_nil, HS.out⟩
  case round =>
    obtain ⟨k, rb, L, C, hk, hk80, rfl, rfl, hLk, hfit, hst⟩ := hrel
    have HST := Lib.hid hst
    have HF := Lib.hid hfit
    clear hst hfit
    by_cases hlt : k < l.length ∧ k < 80
    · obtain ⟨hlt, hlt80⟩ := hlt
      obtain ⟨ad, hA, hc⟩ := HR.out.2.2 (by omega)
      subst hA
      have hcw : w.cell? (ad.add k) = some (.int .i64 (l.getD k 0)) := hc k hlt
      clear hc
      generalize l.getD k 0 = x at hcw
      have hcell : wr.cell? (ad.add k) = some (.int .i64 x) := HST.out.cell hcw
      by_cases hx1 : x = 100
      · subst hx1
        go_wp2_with fail
        refine (st_clear HST.out).mono ?_
        rintro e w2 ⟨rfl, h2⟩
        have HS2 := Lib.hid (st_anew h2)
        clear h2
        go_wp2_with fail
        obtain ⟨L0, C0, hl5, hs5, hf5⟩ : ∃ (L0 : List Int) (C0 : List Nat), L0.length ≤ k + 1 ∧ St w _ w.heap.size (w2.heap.size) L0 C0 L0 C0 ∧ Fits L0 C0 := ⟨[], [], by simp, HS2.out, fits_nil⟩
        have HF5 := Lib.hid hf5
        obtain ⟨q0, c0, h20⟩ := hs5.two
        have hs2 := h20.fr (Fr.refl (fun _ => False) _).drew
        have hcc2 := hs2.cells
        obtain ⟨hca, hcb⟩ := hcc2
        have hcle := count_le L0
        clear h20 hs5 hf5
        go_region_held3 (fun w' => w'.cell? ⟨w2.heap.size, 0, none⟩ = some (.slice q0 (L0.count (-2)) c0) ∧ w'.cell? ⟨w2.heap.size, 2, none⟩ = some (.int .i64 L0.length)) (exact ⟨by assumption, by assumption⟩)
          (first
            | (go_at_call 26; refine (st2_all (W := w) (ab := w.heap.size) (rb := w2.heap.size) (L := L0) (C := C0) (p := q0) (c := c0) ?_ (by omega)).mono ?_; assumption; rintro e w' ⟨q1, d1, rfl, ho1, hs⟩; have hcca := hs.cells.1; have hccb := hs.cells.2)
            | (go_at_call 37; refine (st2_rall (W := w) (ab := w.heap.size) (rb := w2.heap.size) (L := L0) (C := C0) (p := q0) (c := c0) ?_ (by omega) ho1).mono ?_; assumption; rintro e w' ⟨q2, d2, rfl, ho2, ho3, hs⟩; have hcca := hs.cells.1; have hccb := hs.cells.2)
            | (go_at_call 36; refine (st2_ints (W := w) (ab := w.heap.size) (rb := w2.heap.size) (L := L0) (C := C0) (p := q0) (c := c0) ?_ (by omega) ho3 ho2).mono ?_; assumption; rintro e w' ⟨rfl, hs⟩; have hcca := hs.cells.1; have hccb := hs.cells.2)
            | (go_at_call 28; refine (st2_len (W := w) (ab := w.heap.size) (rb := w2.heap.size) (L := L0) (C := C0) (p := q0) (c := c0) ?_).mono ?_; assumption; rintro e w' ⟨rfl, hs⟩; have hcca := hs.cells.1; have hccb := hs.cells.2)
            | (go_at_call 29; refine (st2_top (W := w) (ab := w.heap.size) (rb := w2.heap.size) (L := L0) (C := C0) (p := q0) (c := c0) ?_).mono ?_; assumption; rintro e w' ⟨rfl, hs⟩; have hcca := hs.cells.1; have hccb := hs.cells.2))
        all_goals
          have hfin := hs.one
          have HFIN := Lib.hid hfin
          go_wp2_with fail
          go_roundw
          case rel => exact ⟨k + 1, _, _, _, by omega, by omega, by go_num, rfl, by omega, HF5.out, HFIN.out⟩
          case measure => simp [intOf]; omega
      · by_cases hx0 : x < 0
        · have hxb : (x == 100) = false := by rw [beq_eq_false_iff_ne]; exact hx1
          go_wp2_with fail
          refine (st_take HST.out (by omega)).mono ?_
          rintro e w2 ⟨rfl, h2⟩
          have HS2 := Lib.hid h2
          clear h2
          go_wp2_with fail
          refine (st_rtake HS2.out (by omega) HF.out).mono ?_
          rintro e w3 ⟨rfl, h3⟩
          have HS3 := Lib.hid h3
          clear h3
          go_wp2_with fail
          obtain ⟨L0, C0, hl5, hs5, hf5⟩ : ∃ (L0 : List Int) (C0 : List Nat), L0.length ≤ k + 1 ∧ St w _ w.heap.size (rb) L0 C0 L0 C0 ∧ Fits L0 C0 := ⟨takeL L C, C.tail, by (rw [takeL_len]; split <;> omega), HS3.out, (fits_take HF.out).1⟩
          have HF5 := Lib.hid hf5
          obtain ⟨q0, c0, h20⟩ := hs5.two
          have hs2 := h20.fr (Fr.refl (fun _ => False) _).drew
          have hcc2 := hs2.cells
          obtain ⟨hca, hcb⟩ := hcc2
          have hcle := count_le L0
          clear h20 hs5 hf5
          go_region_held3 (fun w' => w'.cell? ⟨rb, 0, none⟩ = some (.slice q0 (L0.count (-2)) c0) ∧ w'.cell? ⟨rb, 2, none⟩ = some (.int .i64 L0.length)) (exact ⟨by assumption, by assumption⟩)
            (first
              | (go_at_call 26; refine (st2_all (W := w) (ab := w.heap.size) (rb := rb) (L := L0) (C := C0) (p := q0) (c := c0) ?_ (by omega)).mono ?_; assumption; rintro e w' ⟨q1, d1, rfl, ho1, hs⟩; have hcca := hs.cells.1; have hccb := hs.cells.2)
              | (go_at_call 37; refine (st2_rall (W := w) (ab := w.heap.size) (rb := rb) (L := L0) (C := C0) (p := q0) (c := c0) ?_ (by omega) ho1).mono ?_; assumption; rintro e w' ⟨q2, d2, rfl, ho2, ho3, hs⟩; have hcca := hs.cells.1; have hccb := hs.cells.2)
              | (go_at_call 36; refine (st2_ints (W := w) (ab := w.heap.size) (rb := rb) (L := L0) (C := C0) (p := q0) (c := c0) ?_ (by omega) ho3 ho2).mono ?_; assumption; rintro e w' ⟨rfl, hs⟩; have hcca := hs.cells.1; have hccb := hs.cells.2)
              | (go_at_call 28; refine (st2_len (W := w) (ab := w.heap.size) (rb := rb) (L := L0) (C := C0) (p := q0) (c := c0) ?_).mono ?_; assumption; rintro e w' ⟨rfl, hs⟩; have hcca := hs.cells.1; have hccb := hs.cells.2)
              | (go_at_call 29; refine (st2_top (W := w) (ab := w.heap.size) (rb := rb) (L := L0) (C := C0) (p := q0) (c := c0) ?_).mono ?_; assumption; rintro e w' ⟨rfl, hs⟩; have hcca := hs.cells.1; have hccb := hs.cells.2))
          all_goals
            have hfin := hs.one
            have HFIN := Lib.hid hfin
            go_wp2_with fail
            go_roundw
            case rel => exact ⟨k + 1, _, _, _, by omega, by omega, by go_num, rfl, by omega, HF5.out, HFIN.out⟩
            case measure => simp [intOf]; omega
        · have hxb : (x == 100) = false := by rw [beq_eq_false_iff_ne]; exact hx1
          have hx0' : 0 ≤ x := by omega
          clear hx0 hx1
          have hs0 := HST.out.drew
          go_wp2_with fail
          go_region_held3 (fun w' => w'.cell? (ad.add k) = some (.int .i64 x)) (assumption)
            (first
              | (go_at_call 33; refine (st_live (W := w) (ab := w.heap.size) (rb := rb) (L := L) (C := C) (L2 := L) (C2 := C) x ?_).mono ?_; assumption; rintro e w' ⟨rfl, hs⟩; have hcc := hs.cell hcw)
              | (go_at_call 34; refine (st_rlive (W := w) (ab := w.heap.size) (rb := rb) (L := L) (C := C) (L2 := L) (C2 := C) x ?_ (by omega)).mono ?_; assumption; rintro e w' ⟨rfl, hs⟩; have hcc := hs.cell hcw)
              | (go_at_call 25; refine (st_free (W := w) (ab := w.heap.size) (rb := rb) (L := L) (C := C) (L2 := L) (C2 := C) x ?_ (by omega)).mono ?_; assumption; rintro e w' ⟨rfl, hs⟩; have hcc := hs.cell hcw)
              | (go_at_call 35; refine (st_rfree (W := w) (ab := w.heap.size) (rb := rb) (L := freeL L C x) (C := freeC L C x) (L2 := L) (C2 := C) x ?_ (by omega) HF.out).mono ?_; assumption; rintro e w' ⟨rfl, hs⟩; have hcc := hs.cell hcw))
          have hs7 := hs
          have HS7 := Lib.hid hs7
          clear hs7
          go_wp2_with fail
          obtain ⟨L0, C0, hl5, hs5, hf5⟩ : ∃ (L0 : List Int) (C0 : List Nat), L0.length ≤ k + 1 ∧ St w _ w.heap.size (rb) L0 C0 L0 C0 ∧ Fits L0 C0 := ⟨freeL L C x, freeC L C x, by exact freeL_le L C x k hLk, HS7.out, fits_free HF.out x⟩
          have HF5 := Lib.hid hf5
          obtain ⟨q0, c0, h20⟩ := hs5.two
          have hs2 := h20.fr (Fr.refl (fun _ => False) _).drew
          have hcc2 := hs2.cells
          obtain ⟨hca, hcb⟩ := hcc2
          have hcle := count_le L0
          clear h20 hs5 hf5
          go_region_held3 (fun w' => w'.cell? ⟨rb, 0, none⟩ = some (.slice q0 (L0.count (-2)) c0) ∧ w'.cell? ⟨rb, 2, none⟩ = some (.int .i64 L0.length)) (exact ⟨by assumption, by assumption⟩)
            (first
              | (go_at_call 26; refine (st2_all (W := w) (ab := w.heap.size) (rb := rb) (L := L0) (C := C0) (p := q0) (c := c0) ?_ (by omega)).mono ?_; assumption; rintro e w' ⟨q1, d1, rfl, ho1, hs⟩; have hcca := hs.cells.1; have hccb := hs.cells.2)
              | (go_at_call 37; refine (st2_rall (W := w) (ab := w.heap.size) (rb := rb) (L := L0) (C := C0) (p := q0) (c := c0) ?_ (by omega) ho1).mono ?_; assumption; rintro e w' ⟨q2, d2, rfl, ho2, ho3, hs⟩; have hcca := hs.cells.1; have hccb := hs.cells.2)
              | (go_at_call 36; refine (st2_ints (W := w) (ab := w.heap.size) (rb := rb) (L := L0) (C := C0) (p := q0) (c := c0) ?_ (by omega) ho3 ho2).mono ?_; assumption; rintro e w' ⟨rfl, hs⟩; have hcca := hs.cells.1; have hccb := hs.cells.2)
              | (go_at_call 28; refine (st2_len (W := w) (ab := w.heap.size) (rb := rb) (L := L0) (C := C0) (p := q0) (c := c0) ?_).mono ?_; assumption; rintro e w' ⟨rfl, hs⟩; have hcca := hs.cells.1; have hccb := hs.cells.2)
              | (go_at_call 29; refine (st2_top (W := w) (ab := w.heap.size) (rb := rb) (L := L0) (C := C0) (p := q0) (c := c0) ?_).mono ?_; assumption; rintro e w' ⟨rfl, hs⟩; have hcca := hs.cells.1; have hccb := hs.cells.2))
          all_goals
            have hfin := hs.one
            have HFIN := Lib.hid hfin
            go_wp2_with fail
            go_roundw
            case rel => exact ⟨k + 1, _, _, _, by omega, by omega, by go_num, rfl, by omega, HF5.out, HFIN.out⟩
            case measure => simp [intOf]; omega
    · go_wp2_with fail
      all_goals
        refine (lives _).mono ?_
        rintro e w2 ⟨rfl, b2⟩
        have B2 := Lib.hid b2
        clear b2
        go_wp2_with fail
        go_ret
        obtain ⟨_, _, _, _, _, hb⟩ := HST.out
        exact ⟨rfl, hb.trans (B2.out.mono hb.size)⟩

end Go.Proofs.Ytkhdnkmocbceeaa.Arena
