/- The document's whole numbers of any length: sums of numbers of two signs, and what rests on sums. -/
import Derived.Test.YtngmkjgklonfmaaBigW
namespace Go.Proofs.Ytngmkjgklonfmaa.Big
open Go.RowKit Go.Proofs.ZFr Go.Proofs.Ytngmkjgklonfmaa.PNearNearest Go.Proofs.YtngmkjgklonfmaaW.PrintWords

set_option maxRecDepth 100000 in
set_option maxHeartbeats 4000000 in
theorem add_diff (a b : Int) (va vb : Value) (S : Nat → Prop) (w : World) (h0 : ¬ sg a = 0) (h1 : ¬ sg b = 0) (h2 : ¬ sg a = sg b) (hS : ∀ k, S k → k < w.heap.size) (ha : Whole w S va a) (hb : Whole w S vb b) (la : (dg a.natAbs).length < 900) (lb : (dg b.natAbs).length < 900) : Calls Try.prog 60 #[va, vb] w fun e w' => ∃ v', e = .returned v' ∧ Whole w' S v' (a + b) ∧ Fr (fun _ => False) w w' := by
  obtain ⟨sa, rfl, hda⟩ := ha
  obtain ⟨A, c, rfl⟩ := hda.slice
  obtain ⟨sb, rfl, hdb⟩ := hb
  obtain ⟨A', c', rfl⟩ := hdb.slice
  have hA := Lib.hid hda
  have hB := Lib.hid hdb
  clear hda hdb
  have tt := tri w (Obj.cells #[Value.int IntKind.i64 (sg a), Value.slice A (dg a.natAbs).length c] 40) (Obj.cells #[Value.int IntKind.i64 (sg b), Value.slice A' (dg b.natAbs).length c'] 40) (Obj.cells #[Value.int IntKind.i64 0, Value.slice none 0 0] 40)
  have TT := Lib.hid tt
  clear tt
  by_cases hle : b.natAbs ≤ a.natAbs
  · obtain ⟨q, hq, hq0⟩ : ∃ q, cmp3 a.natAbs b.natAbs = q ∧ 0 ≤ q := ⟨_, rfl, by unfold cmp3; split; omega; split <;> omega⟩
    have HQ := Lib.hid hq
    clear hq
    go_enter Try.func60, Try.ntmps60
    go_wp2_with (go_at_call 89; refine (ncmp_c a.natAbs b.natAbs _ _ S _ la (hA.out.fr TT.out.2.2.2 (fun _ h => h.elim)) (hB.out.fr TT.out.2.2.2 (fun _ h => h.elim))).mono ?_; rintro e w4 ⟨rfl, f4⟩; rw [HQ.out]; have HF := Lib.hid (TT.out.2.2.2.trans f4 (fun _ h _ => h)); have T1 := Lib.hid (ZFr.blk_fr TT.out.1 f4 (fun h => h)); have T2 := Lib.hid (ZFr.blk_fr TT.out.2.1 f4 (fun h => h)); have T3 := Lib.hid (ZFr.blk_fr TT.out.2.2.1 f4 (fun h => h)); obtain ⟨c0, c1⟩ := whole_cells (w := w4.drew) T1.out; obtain ⟨c2, c3⟩ := whole_cells (w := w4.drew) T2.out; clear f4)
    clear TT
    have hs : (a + b).natAbs = a.natAbs - b.natAbs ∧ (a.natAbs - b.natAbs ≠ 0 → sg a = sg (a + b)) := by
      revert h0 h1 h2
      unfold sg
      repeat' split
      all_goals (intros; first | omega | (constructor <;> omega))
    have HS := Lib.hid hs
    clear hs
    go_region_held3 (fun w' => w'.cell? ⟨w.heap.size, 0, none⟩ = some (.int .i64 (sg a)) ∧ w'.cell? ⟨w.heap.size, 1, none⟩ = some (Value.slice A (dg a.natAbs).length c) ∧ w'.cell? ⟨w.heap.size + 1, 1, none⟩ = some (Value.slice A' (dg b.natAbs).length c'))
      (exact ⟨by first | assumption | exact cell_far (by assumption) (by dsimp only; omega) | exact cell_far (cell_far (by assumption) (by dsimp only; omega)) (by dsimp only; omega), by first | assumption | exact cell_far (by assumption) (by dsimp only; omega) | exact cell_far (cell_far (by assumption) (by dsimp only; omega)) (by dsimp only; omega), by first | assumption | exact cell_far (by assumption) (by dsimp only; omega) | exact cell_far (cell_far (by assumption) (by dsimp only; omega)) (by dsimp only; omega)⟩)
      (first
        | ((go_at_call 90; refine (nsub_c a.natAbs b.natAbs _ _ (Up S w w4.drew) _ (Up.lt hS HF.out.drew.size) la (by omega) (hA.out.up HF.out.drew) (hB.out.up HF.out.drew)).mono ?_; rintro e w5 ⟨v5, rfl, h5, f5⟩; have T4 := Lib.hid (ZFr.blk_fr (w := w4.drew) T1.out f5 (fun h => h)); have T5 := Lib.hid (ZFr.blk_fr (w := w4.drew) T2.out f5 (fun h => h)); have T6 := Lib.hid (ZFr.blk_fr (w := w4.drew) T3.out f5 (fun h => h)); obtain ⟨d0, d1⟩ := whole_cells T4.out; obtain ⟨d2, d3⟩ := whole_cells T5.out; have H5 := Lib.hid h5; have F5 := Lib.hid f5; clear h5 f5))
        | ((go_at_call 65; refine (make1_walk a (a.natAbs - b.natAbs) v5 _ w5 H5.out).mono ?_; rintro e w6 ⟨v6, rfl, h6, f6⟩; obtain ⟨s6, rfl, h7⟩ := h6 (a + b) HS.out.1 HS.out.2; obtain ⟨A6, c6, rfl⟩ := h7.slice; obtain ⟨d4, d5⟩ := whole_cells (ZFr.blk_fr T4.out f6 (fun h => h)); obtain ⟨d6, d7⟩ := whole_cells (ZFr.blk_fr T5.out f6 (fun h => h)); obtain ⟨d8, d9, d10, d11⟩ := whole_store (ZFr.blk_fr T6.out f6 (fun h => h)); have T7 := Lib.hid (ZFr.blk_fr T6.out f6 (fun h => h)); have H7 := Lib.hid h7; have F7 := Lib.hid f6; clear h6 h7 f6)))
    all_goals
      go_wp2_with fail
      have f8 := (((HF.out.drew.trans F5.out (fun _ h _ => h)).trans F7.out (fun _ h _ => h)).set ⟨w.heap.size + 1 + 1, 0, none⟩ (.int .i64 (sg (a + b))) (.inr (by dsimp only; omega))).set ⟨w.heap.size + 1 + 1, 1, none⟩ (Value.slice A6 (dg (a + b).natAbs).length c6) (.inr (by dsimp only; omega))
      refine bodyPost_ret (results_cell_row rfl _ _ (w.heap.size + 1 + 1) 40 #[.int .i64 (sg (a + b)), .slice A6 (dg (a + b).natAbs).length c6] (0, 0) _ rfl (ZFr.blk_set (ZFr.blk_set T7.out 0 _) 1 _) Try.underlying40 rfl (by kernel_rfl)) rfl ?_
      refine ⟨_, rfl, ⟨_, rfl, ?_⟩, f8⟩
      have hup : Up S w w4.drew (w.heap.size + 1 + 1) := .inr ⟨by omega, ZFr.blk_lt (w := w4.drew) T3.out⟩
      exact (H7.out.fr (((Fr.refl (Up S w w4.drew) w6).set ⟨w.heap.size + 1 + 1, 0, none⟩ _ (.inl hup)).set ⟨w.heap.size + 1 + 1, 1, none⟩ _ (.inl hup)) (fun _ h => h)).mono (fun _ h => .inl h)
  · obtain ⟨q, hq, hq0⟩ : ∃ q, cmp3 a.natAbs b.natAbs = q ∧ ¬ 0 ≤ q := ⟨_, rfl, by unfold cmp3; split; omega; split <;> omega⟩
    have HQ := Lib.hid hq
    clear hq
    go_enter Try.func60, Try.ntmps60
    go_wp2_with (go_at_call 89; refine (ncmp_c a.natAbs b.natAbs _ _ S _ la (hA.out.fr TT.out.2.2.2 (fun _ h => h.elim)) (hB.out.fr TT.out.2.2.2 (fun _ h => h.elim))).mono ?_; rintro e w4 ⟨rfl, f4⟩; rw [HQ.out]; have HF := Lib.hid (TT.out.2.2.2.trans f4 (fun _ h _ => h)); have T1 := Lib.hid (ZFr.blk_fr TT.out.1 f4 (fun h => h)); have T2 := Lib.hid (ZFr.blk_fr TT.out.2.1 f4 (fun h => h)); have T3 := Lib.hid (ZFr.blk_fr TT.out.2.2.1 f4 (fun h => h)); obtain ⟨c0, c1⟩ := whole_cells (w := w4.drew) T1.out; obtain ⟨c2, c3⟩ := whole_cells (w := w4.drew) T2.out; clear f4)
    clear TT
    have hs : (a + b).natAbs = b.natAbs - a.natAbs ∧ (b.natAbs - a.natAbs ≠ 0 → sg b = sg (a + b)) := by
      revert h0 h1 h2
      unfold sg
      repeat' split
      all_goals (intros; first | omega | (constructor <;> omega))
    have HS := Lib.hid hs
    clear hs
    go_region_held3 (fun w' => w'.cell? ⟨w.heap.size + 1, 0, none⟩ = some (.int .i64 (sg b)) ∧ w'.cell? ⟨w.heap.size + 1, 1, none⟩ = some (Value.slice A' (dg b.natAbs).length c') ∧ w'.cell? ⟨w.heap.size, 1, none⟩ = some (Value.slice A (dg a.natAbs).length c))
      (exact ⟨by first | assumption | exact cell_far (by assumption) (by dsimp only; omega) | exact cell_far (cell_far (by assumption) (by dsimp only; omega)) (by dsimp only; omega), by first | assumption | exact cell_far (by assumption) (by dsimp only; omega) | exact cell_far (cell_far (by assumption) (by dsimp only; omega)) (by dsimp only; omega), by first | assumption | exact cell_far (by assumption) (by dsimp only; omega) | exact cell_far (cell_far (by assumption) (by dsimp only; omega)) (by dsimp only; omega)⟩)
      (first
        | ((go_at_call 90; refine (nsub_c b.natAbs a.natAbs _ _ (Up S w w4.drew) _ (Up.lt hS HF.out.drew.size) lb (by omega) (hB.out.up HF.out.drew) (hA.out.up HF.out.drew)).mono ?_; rintro e w5 ⟨v5, rfl, h5, f5⟩; have T4 := Lib.hid (ZFr.blk_fr (w := w4.drew) T1.out f5 (fun h => h)); have T5 := Lib.hid (ZFr.blk_fr (w := w4.drew) T2.out f5 (fun h => h)); have T6 := Lib.hid (ZFr.blk_fr (w := w4.drew) T3.out f5 (fun h => h)); obtain ⟨d0, d1⟩ := whole_cells T4.out; obtain ⟨d2, d3⟩ := whole_cells T5.out; have H5 := Lib.hid h5; have F5 := Lib.hid f5; clear h5 f5))
        | ((go_at_call 65; refine (make1_walk b (b.natAbs - a.natAbs) v5 _ w5 H5.out).mono ?_; rintro e w6 ⟨v6, rfl, h6, f6⟩; obtain ⟨s6, rfl, h7⟩ := h6 (a + b) HS.out.1 HS.out.2; obtain ⟨A6, c6, rfl⟩ := h7.slice; obtain ⟨d4, d5⟩ := whole_cells (ZFr.blk_fr T4.out f6 (fun h => h)); obtain ⟨d6, d7⟩ := whole_cells (ZFr.blk_fr T5.out f6 (fun h => h)); obtain ⟨d8, d9, d10, d11⟩ := whole_store (ZFr.blk_fr T6.out f6 (fun h => h)); have T7 := Lib.hid (ZFr.blk_fr T6.out f6 (fun h => h)); have H7 := Lib.hid h7; have F7 := Lib.hid f6; clear h6 h7 f6)))
    all_goals
      go_wp2_with fail
      have f8 := (((HF.out.drew.trans F5.out (fun _ h _ => h)).trans F7.out (fun _ h _ => h)).set ⟨w.heap.size + 1 + 1, 0, none⟩ (.int .i64 (sg (a + b))) (.inr (by dsimp only; omega))).set ⟨w.heap.size + 1 + 1, 1, none⟩ (Value.slice A6 (dg (a + b).natAbs).length c6) (.inr (by dsimp only; omega))
      refine bodyPost_ret (results_cell_row rfl _ _ (w.heap.size + 1 + 1) 40 #[.int .i64 (sg (a + b)), .slice A6 (dg (a + b).natAbs).length c6] (0, 0) _ rfl (ZFr.blk_set (ZFr.blk_set T7.out 0 _) 1 _) Try.underlying40 rfl (by kernel_rfl)) rfl ?_
      refine ⟨_, rfl, ⟨_, rfl, ?_⟩, f8⟩
      have hup : Up S w w4.drew (w.heap.size + 1 + 1) := .inr ⟨by omega, ZFr.blk_lt (w := w4.drew) T3.out⟩
      exact (H7.out.fr (((Fr.refl (Up S w w4.drew) w6).set ⟨w.heap.size + 1 + 1, 0, none⟩ _ (.inl hup)).set ⟨w.heap.size + 1 + 1, 1, none⟩ _ (.inl hup)) (fun _ h => h)).mono (fun _ h => .inl h)
theorem add_walk (a b : Int) (va vb : Value) (S : Nat → Prop) (w : World) (hS : ∀ k, S k → k < w.heap.size) (ha : Whole w S va a) (hb : Whole w S vb b) (la : (dg a.natAbs).length < 900) (lb : (dg b.natAbs).length < 900) : Calls Try.prog 60 #[va, vb] w fun e w' => ∃ v', e = .returned v' ∧ Whole w' S v' (a + b) ∧ Fr (fun _ => False) w w' := by
  by_cases h0 : sg a = 0
  · exact add_same a b va vb S w (.inl h0) hS ha hb la lb
  · by_cases h1 : sg b = 0
    · exact add_same a b va vb S w (.inr (.inl h1)) hS ha hb la lb
    · by_cases h2 : sg a = sg b
      · exact add_same a b va vb S w (.inr (.inr h2)) hS ha hb la lb
      · exact add_diff a b va vb S w h0 h1 h2 hS ha hb la lb
end Go.Proofs.Ytngmkjgklonfmaa.Big
