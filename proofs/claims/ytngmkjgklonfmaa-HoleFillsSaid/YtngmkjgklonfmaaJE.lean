/- Joined texts. -/
import Derived.Test.YtngmkjgklonfmaaJD
import Derived.Deep.RegionLaw
import Derived.Test.YtngmkjgklonfmaaSkPNearNearestx0
import Derived.Deep.DeepCutAuto
/- What is used of BigX. -/
namespace Go.Proofs.Ytngmkjgklonfmaa.Big
open Go.RowKit Go.Proofs.ZFr Go.Proofs.Ytngmkjgklonfmaa.PNearNearest Go.Proofs.YtngmkjgklonfmaaW.PrintWords

set_option maxRecDepth 100000 in
set_option maxHeartbeats 4000000 in
theorem add_diff (a b : Int) (va vb : Value) (S : Nat → Prop) (w : World) (h0 : ¬ sg a = 0) (h1 : ¬ sg b = 0) (h2 : ¬ sg a = sg b) (hS : ∀ k, S k → k < w.heap.size) (ha : Whole w S va a) (hb : Whole w S vb b) (la : (dg a.natAbs).length < 900) (lb : (dg b.natAbs).length < 900) : Calls Try.prog 60 #[va, vb] w fun e w' => ∃ v', e = .returned v' ∧ Whole w' S v' (a + b) ∧ Fr (fun _ => False) w w' := by
  obtain ⟨sa, rfl, hda⟩ := ha
  obtain ⟨A, c, rfl⟩ := hda.slice
  obtain ⟨sb, rfl, hdb⟩ := hb
  obtain ⟨A', c', rfl⟩ := hdb.slice
  have hA := Lib.hid hda
  have hB := Lib.hid hdb
  clear hda hdb
  have tt := tri w (Obj.cells #[Value.int IntKind.i64 (sg a), Value.slice A (dg a.natAbs).length c] 40) (Obj.cells #[Value.int IntKind.i64 (sg b), Value.slice A' (dg b.natAbs).length c'] 40) (Obj.cells #[Value.int IntKind.i64 0, Value.slice none 0 0] 40)
  have TT := Lib.hid tt
  clear tt
  by_cases hle : b.natAbs ≤ a.natAbs
  · obtain ⟨q, hq, hq0⟩ : ∃ q, cmp3 a.natAbs b.natAbs = q ∧ 0 ≤ q := ⟨_, rfl, by unfold cmp3; split; omega; split <;> omega⟩
    have HQ := Lib.hid hq
    clear hq
    go_enter Try.func60, Try.ntmps60
    go_wp2_with (go_at_call 89; refine (ncmp_c a.natAbs b.natAbs _ _ S _ la (hA.out.fr TT.out.2.2.2 (fun _ h => h.elim)) (hB.out.fr TT.out.2.2.2 (fun _ h => h.elim))).mono ?_; rintro e w4 ⟨rfl, f4⟩; rw [HQ.out]; have HF := Lib.hid (TT.out.2.2.2.trans f4 (fun _ h _ => h)); have T1 := Lib.hid (ZFr.blk_fr TT.out.1 f4 (fun h => h)); have T2 := Lib.hid (ZFr.blk_fr TT.out.2.1 f4 (fun h => h)); have T3 := Lib.hid (ZFr.blk_fr TT.out.2.2.1 f4 (fun h => h)); obtain ⟨c0, c1⟩ := whole_cells (w := w4.drew) T1.out; obtain ⟨c2, c3⟩ := whole_cells (w := w4.drew) T2.out; clear f4)
    clear TT
    have hs : (a + b).natAbs = a.natAbs - b.natAbs ∧ (a.natAbs - b.natAbs ≠ 0 → sg a = sg (a + b)) := by
      revert h0 h1 h2
      unfold sg
      repeat' split
      all_goals (intros; first | omega | (constructor <;> omega))
    have HS := Lib.hid hs
    clear hs
    go_region_held3 (fun w' => w'.cell? ⟨w.heap.size, 0, none⟩ = some (.int .i64 (sg a)) ∧ w'.cell? ⟨w.heap.size, 1, none⟩ = some (Value.slice A (dg a.natAbs).length c) ∧ w'.cell? ⟨w.heap.size + 1, 1, none⟩ = some (Value.slice A' (dg b.natAbs).length c'))
      (exact ⟨by first | assumption | exact cell_far (by assumption) (by dsimp only; omega) | exact cell_far (cell_far (by assumption) (by dsimp only; omega)) (by dsimp only; omega), by first | assumption | exact cell_far (by assumption) (by dsimp only; omega) | exact cell_far (cell_far (by assumption) (by dsimp only; omega)) (by dsimp only; omega), by first | assumption | exact cell_far (by assumption) (by dsimp only; omega) | exact cell_far (cell_far (by assumption) (by dsimp only; omega)) (by dsimp only; omega)⟩)
      (first
        | ((go_at_call 90; refine (nsub_c a.natAbs b.natAbs _ _ (Up S w w4.drew) _ (Up.lt hS HF.out.drew.size) la (by omega) (hA.out.up HF.out.drew) (hB.out.up HF.out.drew)).mono ?_; rintro e w5 ⟨v5, rfl, h5, f5⟩; have T4 := Lib.hid (ZFr.blk_fr (w := w4.drew) T1.out f5 (fun h => h)); have T5 := Lib.hid (ZFr.blk_fr (w := w4.drew) T2.out f5 (fun h => h)); have T6 := Lib.hid (ZFr.blk_fr (w := w4.drew) T3.out f5 (fun h => h)); obtain ⟨d0, d1⟩ := whole_cells T4.out; obtain ⟨d2, d3⟩ := whole_cells T5.out; have H5 := Lib.hid h5; have F5 := Lib.hid f5; clear h5 f5))
        | ((go_at_call 65; refine (make1_walk a (a.natAbs - b.natAbs) v5 _ w5 H5.out).mono ?_; rintro e w6 ⟨v6, rfl, h6, f6⟩; obtain ⟨s6, rfl, h7⟩ := h6 (a + b) HS.out.1 HS.out.2; obtain ⟨A6, c6, rfl⟩ := h7.slice; obtain ⟨d4, d5⟩ := whole_cells (ZFr.blk_fr T4.out f6 (fun h => h)); obtain ⟨d6, d7⟩ := whole_cells (ZFr.blk_fr T5.out f6 (fun h => h)); obtain ⟨d8, d9, d10, d11⟩ := whole_store (ZFr.blk_fr T6.out f6 (fun h => h)); have T7 := Lib.hid (ZFr.blk_fr T6.out f6 (fun h => h)); have H7 := Lib.hid h7; have F7 := Lib.hid f6; clear h6 h7 f6)))
    all_goals
      go_wp2_with fail
      have f8 := (((HF.out.drew.trans F5.out (fun _ h _ => h)).trans F7.out (fun _ h _ => h)).set ⟨w.heap.size + 1 + 1, 0, none⟩ (.int .i64 (sg (a + b))) (.inr (by dsimp only; omega))).set ⟨w.heap.size + 1 + 1, 1, none⟩ (Value.slice A6 (dg (a + b).natAbs).length c6) (.inr (by dsimp only; omega))
      refine bodyPost_ret (results_cell_row rfl _ _ (w.heap.size + 1 + 1) 40 #[.int .i64 (sg (a + b)), .slice A6 (dg (a + b).natAbs).length c6] (0, 0) _ rfl (ZFr.blk_set (ZFr.blk_set T7.out 0 _) 1 _) Try.underlying40 rfl (by kernel_rfl)) rfl ?_
      refine ⟨_, rfl, ⟨_, rfl, ?_⟩, f8⟩
      have hup : Up S w w4.drew (w.heap.size + 1 + 1) := .inr ⟨by omega, ZFr.blk_lt (w := w4.drew) T3.out⟩
      exact (H7.out.fr (((Fr.refl (Up S w w4.drew) w6).set ⟨w.heap.size + 1 + 1, 0, none⟩ _ (.inl hup)).set ⟨w.heap.size + 1 + 1, 1, none⟩ _ (.inl hup)) (fun _ h => h)).mono (fun _ h => .inl h)
  · obtain ⟨q, hq, hq0⟩ : ∃ q, cmp3 a.natAbs b.natAbs = q ∧ ¬ 0 ≤ q := ⟨_, rfl, by unfold cmp3; split; omega; split <;> omega⟩
    have HQ := Lib.hid hq
    clear hq
    go_enter Try.func60, Try.ntmps60
    go_wp2_with (go_at_call 89; refine (ncmp_c a.natAbs b.natAbs _ _ S _ la (hA.out.fr TT.out.2.2.2 (fun _ h => h.elim)) (hB.out.fr TT.out.2.2.2 (fun _ h => h.elim))).mono ?_; rintro e w4 ⟨rfl, f4⟩; rw [HQ.out]; have HF := Lib.hid (TT.out.2.2.2.trans f4 (fun _ h _ => h)); have T1 := Lib.hid (ZFr.blk_fr TT.out.1 f4 (fun h => h)); have T2 := Lib.hid (ZFr.blk_fr TT.out.2.1 f4 (fun h => h)); have T3 := Lib.hid (ZFr.blk_fr TT.out.2.2.1 f4 (fun h => h)); obtain ⟨c0, c1⟩ := whole_cells (w := w4.drew) T1.out; obtain ⟨c2, c3⟩ := whole_cells (w := w4.drew) T2.out; clear f4)
    clear TT
    have hs : (a + b).natAbs = b.natAbs - a.natAbs ∧ (b.natAbs - a.natAbs ≠ 0 → sg b = sg (a + b)) := by
      revert h0 h1 h2
      unfold sg
      repeat' split
      all_goals (intros; first | omega | (constructor <;> omega))
    have HS := Lib.hid hs
    clear hs
    go_region_held3 (fun w' => w'.cell? ⟨w.heap.size + 1, 0, none⟩ = some (.int .i64 (sg b)) ∧ w'.cell? ⟨w.heap.size + 1, 1, none⟩ = some (Value.slice A' (dg b.natAbs).length c') ∧ w'.cell? ⟨w.heap.size, 1, none⟩ = some (Value.slice A (dg a.natAbs).length c))
      (exact ⟨by first | assumption | exact cell_far (by assumption) (by dsimp only; omega) | exact cell_far (cell_far (by assumption) (by dsimp only; omega)) (by dsimp only; omega), by first | assumption | exact cell_far (by assumption) (by dsimp only; omega) | exact cell_far (cell_far (by assumption) (by dsimp only; omega)) (by dsimp only; omega), by first | assumption | exact cell_far (by assumption) (by dsimp only; omega) | exact cell_far (cell_far (by assumption) (by dsimp only; omega)) (by dsimp only; omega)⟩)
      (first
        | ((go_at_call 90; refine (nsub_c b.natAbs a.natAbs _ _ (Up S w w4.drew) _ (Up.lt hS HF.out.drew.size) lb (by omega) (hB.out.up HF.out.drew) (hA.out.up HF.out.drew)).mono ?_; rintro e w5 ⟨v5, rfl, h5, f5⟩; have T4 := Lib.hid (ZFr.blk_fr (w := w4.drew) T1.out f5 (fun h => h)); have T5 := Lib.hid (ZFr.blk_fr (w := w4.drew) T2.out f5 (fun h => h)); have T6 := Lib.hid (ZFr.blk_fr (w := w4.drew) T3.out f5 (fun h => h)); obtain ⟨d0, d1⟩ := whole_cells T4.out; obtain ⟨d2, d3⟩ := whole_cells T5.out; have H5 := Lib.hid h5; have F5 := Lib.hid f5; clear h5 f5))
        | ((go_at_call 65; refine (make1_walk b (b.natAbs - a.natAbs) v5 _ w5 H5.out).mono ?_; rintro e w6 ⟨v6, rfl, h6, f6⟩; obtain ⟨s6, rfl, h7⟩ := h6 (a + b) HS.out.1 HS.out.2; obtain ⟨A6, c6, rfl⟩ := h7.slice; obtain ⟨d4, d5⟩ := whole_cells (ZFr.blk_fr T4.out f6 (fun h => h)); obtain ⟨d6, d7⟩ := whole_cells (ZFr.blk_fr T5.out f6 (fun h => h)); obtain ⟨d8, d9, d10, d11⟩ := whole_store (ZFr.blk_fr T6.out f6 (fun h => h)); have T7 := Lib.hid (ZFr.blk_fr T6.out f6 (fun h => h)); have H7 := Lib.hid h7; have F7 := Lib.hid f6; clear h6 h7 f6)))
    all_goals
      go_wp2_with fail
      have f8 := (((HF.out.drew.trans F5.out (fun _ h _ => h)).trans F7.out (fun _ h _ => h)).set ⟨w.heap.size + 1 + 1, 0, none⟩ (.int .i64 (sg (a + b))) (.inr (by dsimp only; omega))).set ⟨w.heap.size + 1 + 1, 1, none⟩ (Value.slice A6 (dg (a + b).natAbs).length c6) (.inr (by dsimp only; omega))
      refine bodyPost_ret (results_cell_row rfl _ _ (w.heap.size + 1 + 1) 40 #[.int .i64 (sg (a + b)), .slice A6 (dg (a + b).natAbs).length c6] (0, 0) _ rfl (ZFr.blk_set (ZFr.blk_set T7.out 0 _) 1 _) Try.underlying40 rfl (by kernel_rfl)) rfl ?_
      refine ⟨_, rfl, ⟨_, rfl, ?_⟩, f8⟩
      have hup : Up S w w4.drew (w.heap.size + 1 + 1) := .inr ⟨by omega, ZFr.blk_lt (w := w4.drew) T3.out⟩
      exact (H7.out.fr (((Fr.refl (Up S w w4.drew) w6).set ⟨w.heap.size + 1 + 1, 0, none⟩ _ (.inl hup)).set ⟨w.heap.size + 1 + 1, 1, none⟩ _ (.inl hup)) (fun _ h => h)).mono (fun _ h => .inl h)
theorem add_walk (a b : Int) (va vb : Value) (S : Nat → Prop) (w : World) (hS : ∀ k, S k → k < w.heap.size) (ha : Whole w S va a) (hb : Whole w S vb b) (la : (dg a.natAbs).length < 900) (lb : (dg b.natAbs).length < 900) : Calls Try.prog 60 #[va, vb] w fun e w' => ∃ v', e = .returned v' ∧ Whole w' S v' (a + b) ∧ Fr (fun _ => False) w w' := by
  by_cases h0 : sg a = 0
  · exact add_same a b va vb S w (.inl h0) hS ha hb la lb
  · by_cases h1 : sg b = 0
    · exact add_same a b va vb S w (.inr (.inl h1)) hS ha hb la lb
    · by_cases h2 : sg a = sg b
      · exact add_same a b va vb S w (.inr (.inr h2)) hS ha hb la lb
      · exact add_diff a b va vb S w h0 h1 h2 hS ha hb la lb
end Go.Proofs.Ytngmkjgklonfmaa.Big


/- What is used of BigY. -/
namespace Go.Proofs.Ytngmkjgklonfmaa.Big
open Go.RowKit Go.Proofs.ZFr Go.Proofs.Ytngmkjgklonfmaa.PNearNearest Go.Proofs.YtngmkjgklonfmaaW.PrintWords

theorem Whole.mk {w : World} {S : Nat → Prop} {s : Value} {n : Int} (h : Dgs w S s n.natAbs) : Whole w S (.agg #[.int .i64 (sg n), s]) n := ⟨s, rfl, h⟩
theorem sg_mul (a b : Int) : wrap64 (sg a * sg b) = sg (a * b) := by
  have e : wrap64 0 = 0 ∧ wrap64 1 = 1 ∧ wrap64 (-1) = -1 := by unfold wrap64; omega
  rcases Int.lt_trichotomy a 0 with ha | ha | ha
  · rcases Int.lt_trichotomy b 0 with hb | hb | hb
    · have := Int.mul_pos_of_neg_of_neg ha hb
      unfold sg
      rw [if_neg (by omega), if_pos ha, if_neg (by omega), if_pos hb, if_neg (by omega), if_neg (by omega)]; exact e.2.1
    · subst hb; rw [Int.mul_zero]; unfold sg; simp only [if_true, Int.mul_zero]; exact e.1
    · have := Int.mul_neg_of_neg_of_pos ha hb
      unfold sg
      rw [if_neg (by omega), if_pos ha, if_neg (by omega), if_neg (by omega), if_neg (by omega), if_pos this]; exact e.2.2
  · subst ha; rw [Int.zero_mul]; unfold sg; simp only [if_true, Int.zero_mul]; exact e.1
  · rcases Int.lt_trichotomy b 0 with hb | hb | hb
    · have := Int.mul_neg_of_pos_of_neg ha hb
      unfold sg
      rw [if_neg (by omega), if_neg (by omega), if_neg (by omega), if_pos hb, if_neg (by omega), if_pos this]; exact e.2.2
    · subst hb; rw [Int.mul_zero]; unfold sg; simp only [if_true, Int.mul_zero]; exact e.1
    · have := Int.mul_pos ha hb
      unfold sg
      rw [if_neg (by omega), if_neg (by omega), if_neg (by omega), if_neg (by omega), if_neg (by omega), if_neg (by omega)]; exact e.2.1
theorem field0 (s : Int) (A : Option Addr) (n c : Nat) (w : World) : (Instr.field 40 (Value.agg #[.int .i64 s, .slice A n c]) 0).run Try.prog w = .ok (.int .i64 s) w := by
  kernel_rfl
set_option maxRecDepth 100000 in
set_option maxHeartbeats 4000000 in
theorem sub_walk (a b : Int) (va vb : Value) (S : Nat → Prop) (w : World) (hS : ∀ k, S k → k < w.heap.size) (ha : Whole w S va a) (hb : Whole w S vb b) (la : (dg a.natAbs).length < 800) (lb : (dg b.natAbs).length < 800) : Calls Try.prog 34 #[va, vb] w fun e w' => ∃ v', e = .returned v' ∧ Whole w' S v' (a - b) ∧ Fr (fun _ => False) w w' := by
  have la9 : (dg a.natAbs).length < 900 := by omega
  have lb9 : (dg b.natAbs).length < 900 := by omega
  obtain ⟨nb, hnb⟩ : ∃ nb, -b = nb := ⟨_, rfl⟩
  have LNB : (dg nb.natAbs).length < 900 := by rw [← hnb, Int.natAbs_neg]; exact lb9
  obtain ⟨ab, hab⟩ : ∃ ab, a + nb = ab := ⟨_, rfl⟩
  rw [show a - b = ab from by omega]
  have HNB := Lib.hid hnb
  have HAB := Lib.hid hab
  clear hnb hab
  obtain ⟨sa, rfl, hda⟩ := ha
  obtain ⟨A, c, rfl⟩ := hda.slice
  obtain ⟨sb, rfl, hdb⟩ := hb
  obtain ⟨A', c', rfl⟩ := hdb.slice
  have hA := Lib.hid hda
  have hB := Lib.hid hdb
  clear hda hdb
  have tt := tri w (Obj.cells #[Value.int IntKind.i64 (sg a), Value.slice A (dg a.natAbs).length c] 40) (Obj.cells #[Value.int IntKind.i64 (sg b), Value.slice A' (dg b.natAbs).length c'] 40) (Obj.cells #[Value.int IntKind.i64 0, Value.slice none 0 0] 40)
  generalize htt : ((w.alloc (Obj.cells #[Value.int IntKind.i64 (sg a), Value.slice A (dg a.natAbs).length c] 40)).alloc (Obj.cells #[Value.int IntKind.i64 (sg b), Value.slice A' (dg b.natAbs).length c'] 40)).alloc (Obj.cells #[Value.int IntKind.i64 0, Value.slice none 0 0] 40) = w3 at tt
  go_enter Try.func34, Try.ntmps34
  go_wp2_with fail
  obtain ⟨t1, t2, t3, f3⟩ := tt
  clear htt
  have Ta3 := Lib.hid t1
  have Tb3 := Lib.hid t2
  have Tr3 := Lib.hid t3
  have F3 := Lib.hid f3.drew
  obtain ⟨xa3, ya3⟩ := whole_cells (w := w3.drew) t1
  obtain ⟨xb3, yb3⟩ := whole_cells (w := w3.drew) t2
  clear t1 t2 t3 f3
  go_region_held3 (fun w' => w'.cell? ⟨w.heap.size, 0, none⟩ = some (.int .i64 (sg a)) ∧ w'.cell? ⟨w.heap.size, 1, none⟩ = some (Value.slice A (dg a.natAbs).length c) ∧ w'.cell? ⟨w.heap.size + 1, 0, none⟩ = some (.int .i64 (sg b)) ∧ w'.cell? ⟨w.heap.size + 1, 1, none⟩ = some (Value.slice A' (dg b.natAbs).length c'))
    (exact ⟨by first | assumption | exact cell_far (by assumption) (by dsimp only; omega) | exact cell_far (cell_far (by assumption) (by dsimp only; omega)) (by dsimp only; omega), by first | assumption | exact cell_far (by assumption) (by dsimp only; omega) | exact cell_far (cell_far (by assumption) (by dsimp only; omega)) (by dsimp only; omega), by first | assumption | exact cell_far (by assumption) (by dsimp only; omega) | exact cell_far (cell_far (by assumption) (by dsimp only; omega)) (by dsimp only; omega), by first | assumption | exact cell_far (by assumption) (by dsimp only; omega) | exact cell_far (cell_far (by assumption) (by dsimp only; omega)) (by dsimp only; omega)⟩)
    (first
      | ((go_at_call 61; refine (neg_walk b _ (Up S w w3.drew) _ (Whole.mk (hB.out.up F3.out))).mono ?_; rintro e w4 ⟨v4, rfl, h4, f4⟩; rw [HNB.out] at h4; obtain ⟨s4, rfl, g4⟩ := h4; obtain ⟨A4, c4, rfl⟩ := g4.slice; have H4 := Lib.hid g4; clear g4; have Ta4 := Lib.hid (ZFr.blk_fr (w := w3.drew) Ta3.out f4 (fun h => h)); obtain ⟨xa4, ya4⟩ := whole_cells Ta4.out; have Tb4 := Lib.hid (ZFr.blk_fr (w := w3.drew) Tb3.out f4 (fun h => h)); obtain ⟨xb4, yb4⟩ := whole_cells Tb4.out; have Tr4 := Lib.hid (ZFr.blk_fr (w := w3.drew) Tr3.out f4 (fun h => h)); obtain ⟨xr4, yr4, pr4, qr4⟩ := whole_store Tr4.out; have F4 := Lib.hid (F3.out.trans f4 (fun _ h _ => h)); have TSZ := Lib.hid f4.size; clear f4))
      | ((go_at_call 60; refine (add_walk a nb _ _ (Up S w w3.drew) _ (fun k hk => Nat.lt_of_lt_of_le (Up.lt hS F3.out.size k hk) TSZ.out) (Whole.mk ((hA.out.up F4.out))) (Whole.mk H4.out) la9 LNB).mono ?_; rintro e w5 ⟨v5, rfl, h5, f5⟩; rw [HAB.out] at h5; obtain ⟨s5, rfl, g5⟩ := h5; obtain ⟨A5, c5, rfl⟩ := g5.slice; have H5 := Lib.hid g5; clear g5; have Ta5 := Lib.hid (ZFr.blk_fr (w := w4) Ta4.out f5 (fun h => h)); obtain ⟨xa5, ya5⟩ := whole_cells Ta5.out; have Tb5 := Lib.hid (ZFr.blk_fr (w := w4) Tb4.out f5 (fun h => h)); obtain ⟨xb5, yb5⟩ := whole_cells Tb5.out; have Tr5 := Lib.hid (ZFr.blk_fr (w := w4) Tr4.out f5 (fun h => h)); obtain ⟨xr5, yr5, pr5, qr5⟩ := whole_store Tr5.out; have F5 := Lib.hid (F4.out.trans f5 (fun _ h _ => h)); clear f5)))
  all_goals
    go_wp2_with fail
    have f9 := (F5.out.set ⟨w.heap.size + 1 + 1, 0, none⟩ (.int .i64 (sg (ab))) (.inr (by dsimp only; omega))).set ⟨w.heap.size + 1 + 1, 1, none⟩ (Value.slice A5 (dg (ab).natAbs).length c5) (.inr (by dsimp only; omega))
    refine bodyPost_ret (results_cell_row rfl _ _ (w.heap.size + 1 + 1) 40 #[.int .i64 (sg (ab)), .slice A5 (dg (ab).natAbs).length c5] (0, 0) _ rfl (ZFr.blk_set (ZFr.blk_set Tr5.out 0 _) 1 _) Try.underlying40 rfl (by kernel_rfl)) rfl ?_
    refine ⟨_, rfl, ⟨_, rfl, ?_⟩, f9⟩
    have hup : Up S w w3.drew (w.heap.size + 1 + 1) := .inr ⟨by omega, ZFr.blk_lt (w := w3.drew) Tr3.out⟩
    exact (H5.out.fr (((Fr.refl (Up S w w3.drew) w5).set ⟨w.heap.size + 1 + 1, 0, none⟩ _ (.inl hup)).set ⟨w.heap.size + 1 + 1, 1, none⟩ _ (.inl hup)) (fun _ h => h)).mono (fun _ h => .inl h)

set_option maxRecDepth 100000 in
set_option maxHeartbeats 4000000 in
theorem cmp_walk (a b : Int) (va vb : Value) (S : Nat → Prop) (w : World) (hS : ∀ k, S k → k < w.heap.size) (ha : Whole w S va a) (hb : Whole w S vb b) (la : (dg a.natAbs).length < 800) (lb : (dg b.natAbs).length < 800) : Calls Try.prog 13 #[va, vb] w fun e w' => e = .returned (.int .i64 (sg (a - b))) ∧ Fr (fun _ => False) w w' := by
  have la9 : (dg a.natAbs).length < 900 := by omega
  have lb9 : (dg b.natAbs).length < 900 := by omega
  obtain ⟨sa, rfl, hda⟩ := ha
  obtain ⟨A, c, rfl⟩ := hda.slice
  obtain ⟨sb, rfl, hdb⟩ := hb
  obtain ⟨A', c', rfl⟩ := hdb.slice
  have hA := Lib.hid hda
  have hB := Lib.hid hdb
  clear hda hdb
  have t1 := heap_alloc_new w (Obj.cells #[Value.int IntKind.i64 (sg a), Value.slice A (dg a.natAbs).length c] 40)
  have t2 := second w (Obj.cells #[Value.int IntKind.i64 (sg a), Value.slice A (dg a.natAbs).length c] 40) (Obj.cells #[Value.int IntKind.i64 (sg b), Value.slice A' (dg b.natAbs).length c'] 40)
  have t1' := ZFr.blk_alloc t1 (Obj.cells #[Value.int IntKind.i64 (sg b), Value.slice A' (dg b.natAbs).length c'] 40)
  have f2 := ((Fr.refl (fun _ => False) w).alloc (Obj.cells #[Value.int IntKind.i64 (sg a), Value.slice A (dg a.natAbs).length c] 40)).alloc (Obj.cells #[Value.int IntKind.i64 (sg b), Value.slice A' (dg b.natAbs).length c'] 40)
  clear t1
  have X := Lib.hid t1'
  have Y := Lib.hid t2
  have F2 := Lib.hid f2
  clear t1' t2 f2
  have hfld := field0
  go_enter Try.func13, Try.ntmps13
  go_wp2_with (first | (go_at_call 34; refine (sub_walk a b _ _ S _ (fun k hk => Nat.lt_of_lt_of_le (hS k hk) F2.out.size) (Whole.mk (hA.out.fr F2.out (fun _ h => h.elim))) (Whole.mk (hB.out.fr F2.out (fun _ h => h.elim))) la lb).mono ?_; rintro e w4 ⟨v4, rfl, h4, f4⟩; obtain ⟨s4, rfl, g4⟩ := h4; obtain ⟨A4, c4, rfl⟩ := g4.slice; have F4 := Lib.hid (F2.out.trans f4 (fun _ h _ => h)); clear f4 g4 X Y F2))
  go_ret
  exact ⟨rfl, F4.out⟩

set_option maxRecDepth 100000 in
set_option maxHeartbeats 4000000 in
theorem mul_walk (a b : Int) (va vb : Value) (S : Nat → Prop) (w : World) (hS : ∀ k, S k → k < w.heap.size) (ha : Whole w S va a) (hb : Whole w S vb b) (la : (dg a.natAbs).length < 800) (lb : (dg b.natAbs).length < 800) : Calls Try.prog 69 #[va, vb] w fun e w' => ∃ v', e = .returned v' ∧ Whole w' S v' (a * b) ∧ Fr (fun _ => False) w w' := by
  have la9 : (dg a.natAbs).length < 900 := by omega
  have lb9 : (dg b.natAbs).length < 900 := by omega
  have hw := Int.natAbs_mul a b
  have hsg := (Go.Proofs.YtngmkjgklonfmaaW.PrintLast.i64_w _).trans (sg_mul a b)
  obtain ⟨m, hm⟩ : ∃ m, a * b = m := ⟨_, rfl⟩
  rw [hm] at hw hsg ⊢
  have HW := Lib.hid hw
  clear hw hm
  obtain ⟨sa, rfl, hda⟩ := ha
  obtain ⟨A, c, rfl⟩ := hda.slice
  obtain ⟨sb, rfl, hdb⟩ := hb
  obtain ⟨A', c', rfl⟩ := hdb.slice
  have hA := Lib.hid hda
  have hB := Lib.hid hdb
  clear hda hdb
  have tt := tri w (Obj.cells #[Value.int IntKind.i64 (sg a), Value.slice A (dg a.natAbs).length c] 40) (Obj.cells #[Value.int IntKind.i64 (sg b), Value.slice A' (dg b.natAbs).length c'] 40) (Obj.cells #[Value.int IntKind.i64 0, Value.slice none 0 0] 40)
  generalize htt : ((w.alloc (Obj.cells #[Value.int IntKind.i64 (sg a), Value.slice A (dg a.natAbs).length c] 40)).alloc (Obj.cells #[Value.int IntKind.i64 (sg b), Value.slice A' (dg b.natAbs).length c'] 40)).alloc (Obj.cells #[Value.int IntKind.i64 0, Value.slice none 0 0] 40) = w3 at tt
  go_enter Try.func69, Try.ntmps69
  go_wp2_with fail
  obtain ⟨t1, t2, t3, f3⟩ := tt
  clear htt
  have Ta3 := Lib.hid t1
  have Tb3 := Lib.hid t2
  have Tr3 := Lib.hid t3
  have F3 := Lib.hid f3.drew
  obtain ⟨xa3, ya3⟩ := whole_cells (w := w3.drew) t1
  obtain ⟨xb3, yb3⟩ := whole_cells (w := w3.drew) t2
  clear t1 t2 t3 f3
  go_region_held3 (fun w' => w'.cell? ⟨w.heap.size, 0, none⟩ = some (.int .i64 (sg a)) ∧ w'.cell? ⟨w.heap.size, 1, none⟩ = some (Value.slice A (dg a.natAbs).length c) ∧ w'.cell? ⟨w.heap.size + 1, 0, none⟩ = some (.int .i64 (sg b)) ∧ w'.cell? ⟨w.heap.size + 1, 1, none⟩ = some (Value.slice A' (dg b.natAbs).length c'))
    (exact ⟨by first | assumption | exact cell_far (by assumption) (by dsimp only; omega) | exact cell_far (cell_far (by assumption) (by dsimp only; omega)) (by dsimp only; omega), by first | assumption | exact cell_far (by assumption) (by dsimp only; omega) | exact cell_far (cell_far (by assumption) (by dsimp only; omega)) (by dsimp only; omega), by first | assumption | exact cell_far (by assumption) (by dsimp only; omega) | exact cell_far (cell_far (by assumption) (by dsimp only; omega)) (by dsimp only; omega), by first | assumption | exact cell_far (by assumption) (by dsimp only; omega) | exact cell_far (cell_far (by assumption) (by dsimp only; omega)) (by dsimp only; omega)⟩)
    (first
      | ((go_at_call 92; refine (nmul_c a.natAbs b.natAbs _ _ (Up S w w3.drew) _ (Up.lt hS F3.out.size) la9 lb9 (hA.out.up F3.out) (hB.out.up F3.out)).mono ?_; rintro e w4 ⟨v4, rfl, h4, f4⟩; obtain ⟨A4, c4, rfl⟩ := h4.slice; have H4 := Lib.hid h4; clear h4; have Ta4 := Lib.hid (ZFr.blk_fr (w := w3.drew) Ta3.out f4 (fun h => h)); obtain ⟨xa4, ya4⟩ := whole_cells Ta4.out; have Tb4 := Lib.hid (ZFr.blk_fr (w := w3.drew) Tb3.out f4 (fun h => h)); obtain ⟨xb4, yb4⟩ := whole_cells Tb4.out; have Tr4 := Lib.hid (ZFr.blk_fr (w := w3.drew) Tr3.out f4 (fun h => h)); obtain ⟨xr4, yr4, pr4, qr4⟩ := whole_store Tr4.out; have F4 := Lib.hid (F3.out.trans f4 (fun _ h _ => h)); clear f4))
      | ((go_at_call 65; refine (make1_walk m (a.natAbs * b.natAbs) _ _ _ H4.out).mono ?_; rintro e w5 ⟨v5, rfl, h5, f5⟩; obtain ⟨s5, rfl, g5⟩ := h5 m HW.out (fun _ => rfl); obtain ⟨A5, c5, rfl⟩ := g5.slice; have H5 := Lib.hid g5; clear h5 g5; have Ta5 := Lib.hid (ZFr.blk_fr (w := w4) Ta4.out f5 (fun h => h)); obtain ⟨xa5, ya5⟩ := whole_cells Ta5.out; have Tb5 := Lib.hid (ZFr.blk_fr (w := w4) Tb4.out f5 (fun h => h)); obtain ⟨xb5, yb5⟩ := whole_cells Tb5.out; have Tr5 := Lib.hid (ZFr.blk_fr (w := w4) Tr4.out f5 (fun h => h)); obtain ⟨xr5, yr5, pr5, qr5⟩ := whole_store Tr5.out; have F5 := Lib.hid (F4.out.trans f5 (fun _ h _ => h)); clear f5)))
  all_goals
    go_wp2_with fail
    have f9 := (F5.out.set ⟨w.heap.size + 1 + 1, 0, none⟩ (.int .i64 (sg (m))) (.inr (by dsimp only; omega))).set ⟨w.heap.size + 1 + 1, 1, none⟩ (Value.slice A5 (dg (m).natAbs).length c5) (.inr (by dsimp only; omega))
    refine bodyPost_ret (results_cell_row rfl _ _ (w.heap.size + 1 + 1) 40 #[.int .i64 (sg (m)), .slice A5 (dg (m).natAbs).length c5] (0, 0) _ rfl (ZFr.blk_set (ZFr.blk_set Tr5.out 0 _) 1 _) Try.underlying40 rfl (by kernel_rfl)) rfl ?_
    refine ⟨_, rfl, ⟨_, rfl, ?_⟩, f9⟩
    have hup : Up S w w3.drew (w.heap.size + 1 + 1) := .inr ⟨by omega, ZFr.blk_lt (w := w3.drew) Tr3.out⟩
    exact (H5.out.fr (((Fr.refl (Up S w w3.drew) w5).set ⟨w.heap.size + 1 + 1, 0, none⟩ _ (.inl hup)).set ⟨w.heap.size + 1 + 1, 1, none⟩ _ (.inl hup)) (fun _ h => h)).mono (fun _ h => .inl h)

end Go.Proofs.Ytngmkjgklonfmaa.Big


/- What is used of BigI. -/
namespace Go.Proofs.Ytngmkjgklonfmaa.Big
open Go.RowKit Go.Proofs.ZFr Go.Proofs.Ytngmkjgklonfmaa.PNearNearest Go.Proofs.YtngmkjgklonfmaaW.PrintWords

theorem sg_le (n : Int) : (sg n ≤ 0 ↔ n ≤ 0) ∧ (0 ≤ sg n ↔ 0 ≤ n) ∧ (sg n < 0 ↔ n < 0) ∧ (0 < sg n ↔ 0 < n) := by unfold sg; split <;> (try split) <;> omega
theorem sg_one {n : Int} (h : ¬ sg n ≤ 0) : sg n = 1 := by unfold sg at *; split <;> (try split) <;> simp_all
theorem len4 {n : Int} (h0 : -9223372036854775808 ≤ n) (h1 : n < 9223372036854775808) : (dg n.natAbs).length < 800 := by
  have := dg_len_le 4 n.natAbs (by have : (65536 : Nat) ^ 4 = 18446744073709551616 := by decide
                                   omega)
  omega
set_option maxRecDepth 100000 in
set_option maxHeartbeats 4000000 in
theorem in_walk (a : Int) (va : Value) (S : Nat → Prop) (w : World) (hS : ∀ k, S k → k < w.heap.size) (ha : Whole w S va a) (la : (dg a.natAbs).length < 800) : Calls Try.prog 56 #[va] w fun e w' => e = .returned (.bool (decide (-1099511627776 ≤ a ∧ a ≤ 1099511627776))) ∧ Fr (fun _ => False) w w' := by
  obtain ⟨sa, rfl, hda⟩ := ha
  obtain ⟨A, c, rfl⟩ := hda.slice
  have hA := Lib.hid hda
  clear hda
  have LA := Lib.hid la
  have LC := Lib.hid (len4 (n := 1099511627776) (by decide) (by decide))
  have LD := Lib.hid (len4 (n := -1099511627776) (by decide) (by decide))
  obtain ⟨q, hq, hq0⟩ : ∃ q, sg (a - 1099511627776) = q ∧ (q ≤ 0 ↔ a ≤ 1099511627776) ∧ (¬ q ≤ 0 → q = 1) := ⟨_, rfl, by rw [(sg_le _).1]; omega, fun h => sg_one h⟩
  obtain ⟨r, hr, hr0⟩ : ∃ r, sg (a - -1099511627776) = r ∧ (0 ≤ r ↔ -1099511627776 ≤ a) := ⟨_, rfl, by rw [(sg_le _).2.1]; omega⟩
  have HQ := Lib.hid hq
  have HR := Lib.hid hr
  clear hq hr la
  have t0 := heap_alloc_new w (Obj.cells #[Value.int IntKind.i64 (sg a), Value.slice A (dg a.natAbs).length c] 40)
  have f0 := (Fr.refl (fun _ => False) w).alloc (Obj.cells #[Value.int IntKind.i64 (sg a), Value.slice A (dg a.natAbs).length c] 40)
  have T0 := Lib.hid t0
  have F0 := Lib.hid f0
  clear t0 f0
  by_cases hx : q ≤ 0
  · have hxd : decide (q ≤ 0) = true := decide_eq_true hx
    have e1 : decide (-1099511627776 ≤ a ∧ a ≤ 1099511627776) = decide (0 ≤ r) := by rw [decide_eq_decide, hr0]; exact ⟨fun h => h.1, fun h => ⟨h, hq0.1.1 hx⟩⟩
    rw [e1]
    clear e1 hq0 hr0
    go_enter Try.func56, Try.ntmps56
    go_wp2_with fail
    generalize hw1 : w.alloc (Obj.cells #[Value.int IntKind.i64 (sg a), Value.slice A (dg a.natAbs).length c] 40) = w1 at T0 F0
    obtain ⟨x0, y0⟩ := whole_cells (w := w1.drew) T0.out
    clear hw1
    go_region_law
      ((go_simp; (first
        | ((go_at_call 13; refine (cmp_walk a (-1099511627776) _ _ S w4 (fun k hk => Nat.lt_of_lt_of_le (hS k hk) F4.out.size) (Whole.mk (hA.out.fr F4.out (fun _ h => h.elim))) (Whole.mk G4.out) LA.out LD.out).mono ?_; rintro e w5 ⟨rfl, f5⟩; rw [HR.out]; have T5 := Lib.hid (ZFr.blk_fr T4.out f5 (fun h => h)); obtain ⟨x5, y5⟩ := whole_cells T5.out; have F5 := Lib.hid (F4.out.trans f5 (fun _ h _ => h)); clear f5))
        | ((go_at_call 43; refine (long_c (-1099511627776) (by decide) (by decide) S w3 (fun k hk => Nat.lt_of_lt_of_le (hS k hk) F3.out.size)).mono ?_; rintro e w4 ⟨v4, rfl, h4, f4⟩; obtain ⟨s4, rfl, g4⟩ := h4; obtain ⟨A4, c4, rfl⟩ := g4.slice; have T4 := Lib.hid (ZFr.blk_fr T3.out f4 (fun h => h)); obtain ⟨x4, y4⟩ := whole_cells T4.out; have G4 := Lib.hid g4; have F4 := Lib.hid (F3.out.trans f4 (fun _ h _ => h)); clear g4 f4))
        | ((go_at_call 13; refine (cmp_walk a 1099511627776 _ _ S w2 (fun k hk => Nat.lt_of_lt_of_le (hS k hk) F2.out.size) (Whole.mk (hA.out.fr F2.out (fun _ h => h.elim))) (Whole.mk G2.out) LA.out LC.out).mono ?_; rintro e w3 ⟨rfl, f3⟩; rw [HQ.out]; have T3 := Lib.hid (ZFr.blk_fr T2.out f3 (fun h => h)); obtain ⟨x3, y3⟩ := whole_cells T3.out; have F3 := Lib.hid (F2.out.trans f3 (fun _ h _ => h)); clear f3))
        | ((go_at_call 43; refine (long_c 1099511627776 (by decide) (by decide) S w1.drew (fun k hk => Nat.lt_of_lt_of_le (hS k hk) F0.out.size)).mono ?_; rintro e w2 ⟨v2, rfl, h2, f2⟩; obtain ⟨s2, rfl, g2⟩ := h2; obtain ⟨A2, c2, rfl⟩ := g2.slice; have T2 := Lib.hid (ZFr.blk_fr (w := w1.drew) T0.out f2 (fun h => h)); obtain ⟨x2, y2⟩ := whole_cells T2.out; have G2 := Lib.hid g2; have F2 := Lib.hid (F0.out.drew.trans f2 (fun _ h _ => h)); clear g2 f2)))))
    all_goals
      go_wp2_with fail
      go_ret
      exact ⟨rfl, F5.out⟩
  · have hq1 := hq0.2 hx
    have e1 : decide (-1099511627776 ≤ a ∧ a ≤ 1099511627776) = false := by rw [decide_eq_false_iff_not]; exact fun h => hx (hq0.1.2 h.2)
    rw [e1]
    clear e1 hq0 hr0
    clear hx
    subst hq1
    go_enter Try.func56, Try.ntmps56
    go_wp2_with fail
    generalize hw1 : w.alloc (Obj.cells #[Value.int IntKind.i64 (sg a), Value.slice A (dg a.natAbs).length c] 40) = w1 at T0 F0
    obtain ⟨x0, y0⟩ := whole_cells (w := w1.drew) T0.out
    clear hw1
    go_region_law
      ((go_simp; (first
        | ((go_at_call 13; refine (cmp_walk a 1099511627776 _ _ S w2 (fun k hk => Nat.lt_of_lt_of_le (hS k hk) F2.out.size) (Whole.mk (hA.out.fr F2.out (fun _ h => h.elim))) (Whole.mk G2.out) LA.out LC.out).mono ?_; rintro e w3 ⟨rfl, f3⟩; rw [HQ.out]; have T3 := Lib.hid (ZFr.blk_fr T2.out f3 (fun h => h)); obtain ⟨x3, y3⟩ := whole_cells T3.out; have F3 := Lib.hid (F2.out.trans f3 (fun _ h _ => h)); clear f3))
        | ((go_at_call 43; refine (long_c 1099511627776 (by decide) (by decide) S w1.drew (fun k hk => Nat.lt_of_lt_of_le (hS k hk) F0.out.size)).mono ?_; rintro e w2 ⟨v2, rfl, h2, f2⟩; obtain ⟨s2, rfl, g2⟩ := h2; obtain ⟨A2, c2, rfl⟩ := g2.slice; have T2 := Lib.hid (ZFr.blk_fr (w := w1.drew) T0.out f2 (fun h => h)); obtain ⟨x2, y2⟩ := whole_cells T2.out; have G2 := Lib.hid g2; have F2 := Lib.hid (F0.out.drew.trans f2 (fun _ h _ => h)); clear g2 f2)))))
    all_goals
      go_wp2_with fail
      go_ret
      exact ⟨rfl, F3.out⟩
end Go.Proofs.Ytngmkjgklonfmaa.Big


/- What is used of BigQ. -/
namespace Go.Proofs.Ytngmkjgklonfmaa.Big
open Go.RowKit Go.Proofs.ZFr Go.Proofs.Ytngmkjgklonfmaa.PNearNearest Go.Proofs.YtngmkjgklonfmaaW.PrintWords

theorem fr_cell {w w' : World} {a : Addr} {v : Value} (h : w.cell? a = some v) (hf : Fr (fun _ => False) w w') : w'.cell? a = some v := by
  have hb := World.block_lt_of_cell? w a h
  have := hf.block a.block hb (fun h => h)
  unfold World.cell? at *
  rw [this]; exact h
end Go.Proofs.Ytngmkjgklonfmaa.Big


/- What is used of BigZ. -/
namespace Go.Proofs.Ytngmkjgklonfmaa.Big
open Go.RowKit Go.Proofs.ZFr Go.Proofs.Ytngmkjgklonfmaa.PNearNearest Go.Proofs.YtngmkjgklonfmaaW.PrintWords
theorem Dgs.new {w W : World} {S : Nat → Prop} {v : Value} {n : Nat} (h : Dgs w S v n) (hf : Fr (fun _ => False) w W) : Dgs W (fun k => S k ∨ k = w.heap.size) v n :=
  (h.up (w' := w.alloc (.cells #[] 3)) hf).mono (fun k hk => hk.imp id (fun h => ⟨Nat.le_of_eq h.symm, by rw [h]; simp⟩))
theorem dg_mul {m n a b : Nat} (hm : (dg m).length ≤ a) (hn : (dg n).length ≤ b) : (dg (m * n)).length ≤ a + b := by
  refine dg_len_le (a + b) (m * n) ?_
  have h1 := val_lt (dg_dig m)
  have h2 := val_lt (dg_dig n)
  rw [dg_val] at h1 h2
  have h3 : (65536 : Int) ^ (dg m).length ≤ 65536 ^ a := pow_le hm
  have h4 : (65536 : Int) ^ (dg n).length ≤ 65536 ^ b := pow_le hn
  have e1 : ((65536 ^ a : Nat) : Int) = 65536 ^ a := by rw [Int.natCast_pow]; rfl
  have e2 : ((65536 ^ b : Nat) : Int) = 65536 ^ b := by rw [Int.natCast_pow]; rfl
  have h5 : m < 65536 ^ a := by omega
  have h6 : n < 65536 ^ b := by omega
  rw [Nat.pow_add]
  exact Nat.mul_lt_mul'' h5 h6
end Go.Proofs.Ytngmkjgklonfmaa.Big


/- What is used of BigJ. -/
namespace Go.Proofs.Ytngmkjgklonfmaa.Big
open Go.RowKit Go.Proofs.ZFr Go.Proofs.Ytngmkjgklonfmaa.PNearNearest Go.Proofs.YtngmkjgklonfmaaW.PrintWords

def inP (a : Int) : Prop := -1099511627776 ≤ a ∧ a ≤ 1099511627776
instance (a : Int) : Decidable (inP a) := inferInstanceAs (Decidable (_ ∧ _))
def i64P (a : Int) : Prop := -9223372036854775808 ≤ a ∧ a < 9223372036854775808
set_option maxRecDepth 100000 in
set_option maxHeartbeats 4000000 in
theorem can_walk (x y : Int) (w : World) (hx : i64P x) (hy : i64P y) : Calls Try.prog 32 #[.agg #[.int .i64 x, .int .i64 y]] w fun e w' => e = .returned (.bool (decide (inP x ∧ inP y))) ∧ Fr (fun _ => False) w w' := by
  obtain ⟨b, hb⟩ : ∃ b, decide (-1099511627776 ≤ x ∧ x ≤ 1099511627776) = b := ⟨_, rfl⟩
  obtain ⟨d, hd⟩ : ∃ d, decide (-1099511627776 ≤ y ∧ y ≤ 1099511627776) = d := ⟨_, rfl⟩
  have e : decide (inP x ∧ inP y) = (b && d) := by rw [← hb, ← hd, Bool.decide_and]; rfl
  rw [e]
  have HB := Lib.hid hb
  have HD := Lib.hid hd
  have LX := Lib.hid (len4 hx.1 hx.2)
  have LY := Lib.hid (len4 hy.1 hy.2)
  have HX := Lib.hid hx
  have HY := Lib.hid hy
  clear hb hd e hx hy
  have F0 := Lib.hid ((Fr.refl (fun _ => False) w).alloc (Obj.cells #[Value.int IntKind.i64 x, Value.int IntKind.i64 y] 24))
  have T0 := Lib.hid (heap_alloc_new w (Obj.cells #[Value.int IntKind.i64 x, Value.int IntKind.i64 y] 24))
  cases b
  · go_enter Try.func32, Try.ntmps32
    go_wp2_with (first
      | (go_at_call 56; refine (in_walk x _ (fun _ => False) w2 (fun _ h => h.elim) (Whole.mk G2.out) LX.out).mono ?_; rintro e w3 ⟨rfl, f3⟩; rw [HB.out]; have F3 := Lib.hid (F2.out.trans f3 (fun _ h _ => h)); clear f3)
      | (go_at_call 43; refine (long_c x HX.out.1 HX.out.2 (fun _ => False) _ (fun _ h => h.elim)).mono ?_; rintro e w2 ⟨v2, rfl, h2, f2⟩; obtain ⟨s2, rfl, g2⟩ := h2; obtain ⟨A2, c2, rfl⟩ := g2.slice; have G2 := Lib.hid g2; have F2 := Lib.hid (F0.out.trans f2 (fun _ h _ => h)); clear g2 f2))
    go_ret
    exact ⟨rfl, F3.out⟩
  · go_enter Try.func32, Try.ntmps32
    go_wp2_with (first
      | (go_at_call 56; refine (in_walk y _ (fun _ => False) w4 (fun _ h => h.elim) (Whole.mk G4.out) LY.out).mono ?_; rintro e w5 ⟨rfl, f5⟩; rw [HD.out]; have F5 := Lib.hid (F4.out.trans f5 (fun _ h _ => h)); clear f5)
      | (go_at_call 43; refine (long_c y HY.out.1 HY.out.2 (fun _ => False) w3 (fun _ h => h.elim)).mono ?_; rintro e w4 ⟨v4, rfl, h4, f4⟩; obtain ⟨s4, rfl, g4⟩ := h4; obtain ⟨A4, c4, rfl⟩ := g4.slice; have G4 := Lib.hid g4; have F4 := Lib.hid (F3.out.trans f4 (fun _ h _ => h)); clear g4 f4)
      | (go_at_call 56; refine (in_walk x _ (fun _ => False) w2 (fun _ h => h.elim) (Whole.mk G2.out) LX.out).mono ?_; rintro e w3 ⟨rfl, f3⟩; rw [HB.out]; have T3 := Lib.hid (ZFr.blk_fr T2.out f3 (fun h => h)); have x3 := ZFr.blk_cell T3.out 0; have y3 := ZFr.blk_cell T3.out 1; simp at x3 y3; have F3 := Lib.hid (F2.out.trans f3 (fun _ h _ => h)); clear f3)
      | (go_at_call 43; refine (long_c x HX.out.1 HX.out.2 (fun _ => False) _ (fun _ h => h.elim)).mono ?_; rintro e w2 ⟨v2, rfl, h2, f2⟩; obtain ⟨s2, rfl, g2⟩ := h2; obtain ⟨A2, c2, rfl⟩ := g2.slice; have T2 := Lib.hid (ZFr.blk_fr T0.out f2 (fun h => h)); have G2 := Lib.hid g2; have F2 := Lib.hid (F0.out.trans f2 (fun _ h _ => h)); clear g2 f2))
    go_ret
    exact ⟨rfl, F5.out⟩
end Go.Proofs.Ytngmkjgklonfmaa.Big


/- What is used of BigK. -/
namespace Go.Proofs.Ytngmkjgklonfmaa.Big
open Go.RowKit Go.Proofs.ZFr Go.Proofs.Ytngmkjgklonfmaa.PNearNearest Go.Proofs.YtngmkjgklonfmaaW.PrintWords

theorem point_cells {w : World} {b : Nat} {x y : Int} (h : w.heap[b]? = some (.cells #[.int .i64 x, .int .i64 y] 24 (0, 0))) : w.cell? ⟨b, 0, none⟩ = some (.int .i64 x) ∧ w.cell? ⟨b, 1, none⟩ = some (.int .i64 y) := ⟨ZFr.blk_cell h 0, ZFr.blk_cell h 1⟩
end Go.Proofs.Ytngmkjgklonfmaa.Big


/- What is used of BigS. -/
namespace Go.Proofs.Ytngmkjgklonfmaa.Big
open Go.RowKit Go.Proofs.ZFr Go.Proofs.Ytngmkjgklonfmaa.PNearNearest Go.Proofs.YtngmkjgklonfmaaW.PrintWords
def d2 (x y x' y' : Int) : Int := (x' - x) * (x' - x) + (y' - y) * (y' - y)
theorem len_diff {a b : Int} (ha : i64P a) (hb : i64P b) : (dg (b - a).natAbs).length ≤ 5 := by
  refine dg_len_le 5 _ ?_
  have : (65536 : Nat) ^ 5 = 1208925819614629174706176 := by decide
  obtain ⟨a1, a2⟩ := ha
  obtain ⟨b1, b2⟩ := hb
  omega
set_option maxRecDepth 100000 in
set_option maxHeartbeats 4000000 in
theorem diff_walk (a b : Int) (ha : i64P a) (hb : i64P b) (S : Nat → Prop) (w : World) (hS : ∀ k, S k → k < w.heap.size) : Calls Try.prog 68 #[.int .i64 a, .int .i64 b] w fun e w' => ∃ v, e = .returned v ∧ Whole w' S v (b - a) ∧ Fr (fun _ => False) w w' := by
  have HA := Lib.hid ha
  have HB := Lib.hid hb
  have LA := Lib.hid (len4 ha.1 ha.2)
  have LB := Lib.hid (len4 hb.1 hb.2)
  obtain ⟨d, hd⟩ : ∃ d, b - a = d := ⟨_, rfl⟩
  have HD := Lib.hid hd
  rw [hd]
  clear ha hb hd
  have T0 := Lib.hid (heap_alloc_new w (Obj.cells #[Value.int IntKind.i64 0, Value.slice none 0 0] 40))
  have F0 := Lib.hid ((Fr.refl (fun _ => False) w).alloc (Obj.cells #[Value.int IntKind.i64 0, Value.slice none 0 0] 40))
  go_enter Try.func68, Try.ntmps68
  go_wp2_with fail
  generalize w.alloc (Obj.cells #[Value.int IntKind.i64 0, Value.slice none 0 0] 40) = w1 at T0 F0 ⊢
  have HS := Lib.hid (show ∀ k, (S k ∨ k = w.heap.size) → k < w1.heap.size from fun k hk => hk.elim (fun h => Nat.lt_of_lt_of_le (hS k h) F0.out.size) (fun h => h ▸ ZFr.blk_lt T0.out))
  go_wp2_with (first
    | (go_at_call 34; have hc_ := sub_walk b a _ _ (fun k => S k ∨ k = w.heap.size) w3 (fun k hk => Nat.lt_of_lt_of_le (HS.out k hk) F3.out.size) (Whole.mk (H2.out.fr G3.out (fun _ h => h.elim))) (Whole.mk H3.out) LB.out LA.out; rw [HD.out] at hc_; (with_reducible refine hc_.mono ?_); clear hc_; rintro e w4 ⟨v4, rfl, h4, f4⟩; obtain ⟨s4, rfl, g4⟩ := h4; obtain ⟨A4, c4, rfl⟩ := g4.slice; have H4 := Lib.hid g4; have F4 := Lib.hid (F3.out.trans f4 (fun _ h _ => h)); have T4 := Lib.hid (ZFr.blk_fr T0.out F4.out (fun h => h)); obtain ⟨i1, i2, i3, i4⟩ := whole_store T4.out; clear g4 f4)
    | (go_at_call 43; have hc_ := long_c a HA.out.1 HA.out.2 (fun k => S k ∨ k = w.heap.size) w2 (fun k hk => Nat.lt_of_lt_of_le (HS.out k hk) F2.out.size); (with_reducible refine hc_.mono ?_); clear hc_; rintro e w3 ⟨v3, rfl, h3, f3⟩; obtain ⟨s3, rfl, g3⟩ := h3; obtain ⟨A3, c3, rfl⟩ := g3.slice; have H3 := Lib.hid g3; have G3 := Lib.hid f3; have F3 := Lib.hid (F2.out.trans f3 (fun _ h _ => h)); clear g3 f3)
    | (go_at_call 43; have hc_ := long_c b HB.out.1 HB.out.2 (fun k => S k ∨ k = w.heap.size) w1 HS.out; (with_reducible refine hc_.mono ?_); clear hc_; rintro e w2 ⟨v2, rfl, h2, f2⟩; obtain ⟨s2, rfl, g2⟩ := h2; obtain ⟨A2, c2, rfl⟩ := g2.slice; have H2 := Lib.hid g2; have F2 := Lib.hid f2; clear g2 f2))
  refine bodyPost_ret (results_cell_row rfl _ _ w.heap.size 40 #[.int .i64 (sg d), .slice A4 (dg d.natAbs).length c4] (0, 0) _ rfl (ZFr.blk_set (ZFr.blk_set T4.out 0 _) 1 _) Try.underlying40 rfl (by kernel_rfl)) rfl ?_
  have B := (((Fr.refl (fun k => S k ∨ k = w.heap.size) w4).set ⟨w.heap.size, 0, none⟩ (.int .i64 (sg d)) (.inl (.inr rfl))).set ⟨w.heap.size, 1, none⟩ (.slice A4 (dg d.natAbs).length c4) (.inl (.inr rfl)))
  exact ⟨_, rfl, ⟨_, rfl, (H4.out.fr B (fun _ h => h)).mono (fun _ h => .inl h)⟩, F0.out.trans (((F4.out.mono (T := fun k => k = w.heap.size) (fun _ h => h.elim)).set _ _ (.inl rfl)).set _ _ (.inl rfl)) (fun i hi hl => by omega)⟩
theorem put2 {w : World} {B : Nat} {s0 s : Int} {l0 l : Value} (h : w.heap[B]? = some (.cells #[.int .i64 s0, l0] 40 (0, 0))) : ((w.setCell ⟨B, 0, none⟩ (.int .i64 s)).setCell ⟨B, 1, none⟩ l).heap[B]? = some (.cells #[.int .i64 s, l] 40 (0, 0)) := ZFr.blk_set (ZFr.blk_set h 0 _) 1 _
theorem put2o {w : World} {B C : Nat} {o : Obj} {s l : Value} (h : w.heap[B]? = some o) (hb : B ≠ C) : ((w.setCell ⟨C, 0, none⟩ s).setCell ⟨C, 1, none⟩ l).heap[B]? = some o := ZFr.blk_set_other (ZFr.blk_set_other h _ _ hb) _ _ hb
theorem dgs_put2 {w : World} {S : Nat → Prop} {C n : Nat} {s l v : Value} (h : Dgs w S v n) (hC : S C) : Dgs ((w.setCell ⟨C, 0, none⟩ s).setCell ⟨C, 1, none⟩ l) S v n := h.fr (((Fr.refl S w).set ⟨C, 0, none⟩ s (.inl hC)).set ⟨C, 1, none⟩ l (.inl hC)) (fun _ h => h)
theorem dgs_alloc {w : World} {S : Nat → Prop} {n : Nat} {v : Value} (h : Dgs w S v n) (o : Obj) : Dgs (w.alloc o) S v n := h.fr ((Fr.refl (fun _ => False) w).alloc o) (fun _ h => h.elim)
theorem new_at {w : World} {b : Nat} {o : Obj} (h : b = w.heap.size) : (w.alloc o).heap[b]? = some o := h ▸ heap_alloc_new w o
theorem fr_put2 {a b : World} {S : Nat → Prop} {C : Nat} {s l : Value} (h : Fr S a b) (hC : a.heap.size ≤ C) : Fr S a ((b.setCell ⟨C, 0, none⟩ s).setCell ⟨C, 1, none⟩ l) := (h.set ⟨C, 0, none⟩ s (.inr hC)).set ⟨C, 1, none⟩ l (.inr hC)
set_option maxRecDepth 100000 in
set_option maxHeartbeats 8000000 in
theorem dist_c (x y x' y' : Int) (h1 : i64P x) (h2 : i64P y) (h3 : i64P x') (h4 : i64P y') (S : Nat → Prop) (w : World) (hS : ∀ k, S k → k < w.heap.size) : Calls Try.prog 38 #[.agg #[.int .i64 x, .int .i64 y], .agg #[.int .i64 x', .int .i64 y']] w fun e w' => ∃ v, e = .returned v ∧ Whole w' S v (d2 x y x' y') ∧ Fr (fun _ => False) w w' := by
  have l1 := len_diff h1 h3
  have l2 := len_diff h2 h4
  have DX := Lib.hid (fun W => diff_walk x x' h1 h3 (fun k => k < W.heap.size) W (fun _ h => h))
  have DY := Lib.hid (fun W => diff_walk y y' h2 h4 (fun k => k < W.heap.size) W (fun _ h => h))
  obtain ⟨dx, hdx⟩ : ∃ d, x' - x = d := ⟨_, rfl⟩
  obtain ⟨dy, hdy⟩ : ∃ d, y' - y = d := ⟨_, rfl⟩
  have e0 : d2 x y x' y' = dx * dx + dy * dy := by unfold d2; rw [hdx, hdy]
  rw [e0]
  rw [hdx] at DX l1
  rw [hdy] at DY l2
  have L1 := Lib.hid l1
  have L2 := Lib.hid l2
  have LX := Lib.hid (show (dg (dx * dx).natAbs).length < 900 from by have := dg_mul L1.out L1.out; rw [Int.natAbs_mul]; omega)
  have LY := Lib.hid (show (dg (dy * dy).natAbs).length < 900 from by have := dg_mul L2.out L2.out; rw [Int.natAbs_mul]; omega)
  have LX5 := Lib.hid (show (dg dx.natAbs).length < 800 from by have := L1.out; omega)
  have LY5 := Lib.hid (show (dg dy.natAbs).length < 800 from by have := L2.out; omega)
  obtain ⟨xx, hxx⟩ : ∃ d, dx * dx = d := ⟨_, rfl⟩
  obtain ⟨yy, hyy⟩ : ∃ d, dy * dy = d := ⟨_, rfl⟩
  obtain ⟨zz, hzz⟩ : ∃ d, xx + yy = d := ⟨_, rfl⟩
  rw [hxx] at LX
  rw [hyy] at LY
  have HX := Lib.hid hxx
  have HY := Lib.hid hyy
  have HZ := Lib.hid hzz
  rw [show dx * dx + dy * dy = zz from by rw [hxx, hyy, hzz]]
  clear hxx hyy hzz
  clear h1 h2 h3 h4 e0 hdx hdy l1 l2
  obtain ⟨t1, t2, t3, f3⟩ := tri w (Obj.cells #[Value.int IntKind.i64 x, Value.int IntKind.i64 y] 24) (Obj.cells #[Value.int IntKind.i64 x', Value.int IntKind.i64 y'] 24) (Obj.cells #[Value.int IntKind.i64 0, Value.slice none 0 0] 40)
  go_enter Try.func38, Try.ntmps38
  go_wp2_with fail
  generalize ((w.alloc (Obj.cells #[Value.int IntKind.i64 x, Value.int IntKind.i64 y] 24)).alloc (Obj.cells #[Value.int IntKind.i64 x', Value.int IntKind.i64 y'] 24)).alloc (Obj.cells #[Value.int IntKind.i64 0, Value.slice none 0 0] 40) = w3 at t1 t2 t3 f3 ⊢
  have T1 := Lib.hid t1
  have T2 := Lib.hid t2
  have T3 := Lib.hid t3
  have F3 := Lib.hid f3
  clear t1 t2 t3 f3
  go_upto_region 1 with fail
  go_cut [5, 6] (fun s5 s6 wx => ∃ g5 g6 A5 c5 A6 c6, s5 = .pointer (some ⟨g5, 0, none⟩) ∧ s6 = .pointer (some ⟨g6, 0, none⟩) ∧ w3.heap.size ≤ g5 ∧ w3.heap.size ≤ g6 ∧ wx.heap[g5]? = some (.cells #[.int .i64 (sg dx), .slice A5 (dg dx.natAbs).length c5] 40 (0, 0)) ∧ wx.heap[g6]? = some (.cells #[.int .i64 (sg dy), .slice A6 (dg dy.natAbs).length c6] 40 (0, 0)) ∧ Dgs wx (fun k => k < w3.heap.size) (.slice A5 (dg dx.natAbs).length c5) dx.natAbs ∧ Dgs wx (fun k => k < w3.heap.size) (.slice A6 (dg dy.natAbs).length c6) dy.natAbs ∧ Fr (fun _ => False) w3 wx)
  case first =>
    obtain ⟨a1, a2⟩ := point_cells (w := w3.drew) T1.out
    obtain ⟨a3, a4⟩ := point_cells (w := w3.drew) T2.out
    have pu0_3 := fun o => (point_cells (ZFr.blk_alloc (ZFr.blk_fr T1.out (Fr.refl (fun _ => False) w3) (fun h => h)) o)).1
    have pv0_3 := fun o o9 => (point_cells (ZFr.blk_alloc (ZFr.blk_alloc (ZFr.blk_fr T1.out (Fr.refl (fun _ => False) w3) (fun h => h)) o) o9)).1
    have pu1_3 := fun o => (point_cells (ZFr.blk_alloc (ZFr.blk_fr T1.out (Fr.refl (fun _ => False) w3) (fun h => h)) o)).2
    have pv1_3 := fun o o9 => (point_cells (ZFr.blk_alloc (ZFr.blk_alloc (ZFr.blk_fr T1.out (Fr.refl (fun _ => False) w3) (fun h => h)) o) o9)).2
    have qu0_3 := fun o => (point_cells (ZFr.blk_alloc (ZFr.blk_fr T2.out (Fr.refl (fun _ => False) w3) (fun h => h)) o)).1
    have qv0_3 := fun o o9 => (point_cells (ZFr.blk_alloc (ZFr.blk_alloc (ZFr.blk_fr T2.out (Fr.refl (fun _ => False) w3) (fun h => h)) o) o9)).1
    have qu1_3 := fun o => (point_cells (ZFr.blk_alloc (ZFr.blk_fr T2.out (Fr.refl (fun _ => False) w3) (fun h => h)) o)).2
    have qv1_3 := fun o o9 => (point_cells (ZFr.blk_alloc (ZFr.blk_alloc (ZFr.blk_fr T2.out (Fr.refl (fun _ => False) w3) (fun h => h)) o) o9)).2
    have low3 := ZFr.blk_lt T3.out
    have ne101 : ¬ w.heap.size = w3.heap.size := by omega
    have ne102 : ¬ w.heap.size = w3.heap.size + 1 := by omega
    have ne103 : ¬ w.heap.size + 1 = w3.heap.size := by omega
    have ne104 : ¬ w.heap.size + 1 = w3.heap.size + 1 := by omega
    go_region_held3 (fun w' => w'.cell? ⟨w.heap.size, 0, none⟩ = some (.int .i64 x) ∧ w'.cell? ⟨w.heap.size, 1, none⟩ = some (.int .i64 y) ∧ w'.cell? ⟨w.heap.size + 1, 0, none⟩ = some (.int .i64 x') ∧ w'.cell? ⟨w.heap.size + 1, 1, none⟩ = some (.int .i64 y'))
      (refine ⟨?_, ?_, ?_, ?_⟩ <;> (repeat (first | with_reducible assumption | with_reducible exact pu0_6 _ | with_reducible exact pu1_6 _ | with_reducible exact qu0_6 _ | with_reducible exact qu1_6 _ | with_reducible exact pu0_5 _ | with_reducible exact pu1_5 _ | with_reducible exact qu0_5 _ | with_reducible exact qu1_5 _ | with_reducible exact pu0_3 _ | with_reducible exact pu1_3 _ | with_reducible exact qu0_3 _ | with_reducible exact qu1_3 _ | with_reducible exact pv0_6 _ _ | with_reducible exact pv1_6 _ _ | with_reducible exact qv0_6 _ _ | with_reducible exact qv1_6 _ _ | with_reducible exact pv0_5 _ _ | with_reducible exact pv1_5 _ _ | with_reducible exact qv0_5 _ _ | with_reducible exact qv1_5 _ _ | with_reducible exact pv0_3 _ _ | with_reducible exact pv1_3 _ _ | with_reducible exact qv0_3 _ _ | with_reducible exact qv1_3 _ _ | (with_reducible refine cell_far ?_ (by dsimp only; omega)) | (with_reducible refine fr_cell ?_ ((Fr.refl (fun _ => False) _).alloc _)) | go_keep)))
      (first
        | ((go_at_call_of 68 (Value.int IntKind.i64 x); (with_reducible refine (DX.out _).mono ?_); rintro e w5 ⟨v5, rfl, h5, f5⟩; obtain ⟨s5, rfl, g5⟩ := h5; obtain ⟨A5, c5, rfl⟩ := g5.slice; have H5 := Lib.hid g5; have F5 := Lib.hid f5; have K5 := Lib.hid (Fr.trans (by ((repeat (first | with_reducible refine Fr.drew ?_ | with_reducible refine Fr.alloc ?_ _)); with_reducible exact Fr.refl _ _)) f5 (fun _ h _ => h) : Fr (fun _ => False) w3 w5); have J5 := Lib.hid ((Fr.refl (fun _ => False) w3).trans K5.out (fun _ h _ => h)); obtain ⟨b1_5, b2_5⟩ := point_cells (ZFr.blk_fr T1.out J5.out (fun h => h)); obtain ⟨b3_5, b4_5⟩ := point_cells (ZFr.blk_fr T2.out J5.out (fun h => h)); (first | (have X1 := Lib.hid (ZFr.blk_fr (w := ((w3.alloc (Obj.cells #[Value.int IntKind.i64 0, Value.slice none 0 0] 40)).alloc (Obj.cells #[Value.int IntKind.i64 0, Value.slice none 0 0] 40)).drew) (ZFr.blk_alloc (heap_alloc_new w3 (Obj.cells #[Value.int IntKind.i64 0, Value.slice none 0 0] 40)) (Obj.cells #[Value.int IntKind.i64 0, Value.slice none 0 0] 40)) f5 (fun h => h)); have Y1 := Lib.hid (ZFr.blk_fr (w := ((w3.alloc (Obj.cells #[Value.int IntKind.i64 0, Value.slice none 0 0] 40)).alloc (Obj.cells #[Value.int IntKind.i64 0, Value.slice none 0 0] 40)).drew) (second w3 (Obj.cells #[Value.int IntKind.i64 0, Value.slice none 0 0] 40) (Obj.cells #[Value.int IntKind.i64 0, Value.slice none 0 0] 40)) f5 (fun h => h)); have xl1 := ZFr.blk_lt X1.out; have yl1 := ZFr.blk_lt Y1.out) | (have X1 := Lib.hid (ZFr.blk_fr (w := (w3.alloc (Obj.cells #[Value.int IntKind.i64 0, Value.slice none 0 0] 40)).drew) (heap_alloc_new w3 (Obj.cells #[Value.int IntKind.i64 0, Value.slice none 0 0] 40)) f5 (fun h => h)); have xl1 := ZFr.blk_lt X1.out) | skip); have sz5 := J5.out.size; have pu0_5 := fun o => (point_cells (ZFr.blk_alloc (ZFr.blk_fr T1.out J5.out (fun h => h)) o)).1; have pv0_5 := fun o o9 => (point_cells (ZFr.blk_alloc (ZFr.blk_alloc (ZFr.blk_fr T1.out J5.out (fun h => h)) o) o9)).1; have pu1_5 := fun o => (point_cells (ZFr.blk_alloc (ZFr.blk_fr T1.out J5.out (fun h => h)) o)).2; have pv1_5 := fun o o9 => (point_cells (ZFr.blk_alloc (ZFr.blk_alloc (ZFr.blk_fr T1.out J5.out (fun h => h)) o) o9)).2; have qu0_5 := fun o => (point_cells (ZFr.blk_alloc (ZFr.blk_fr T2.out J5.out (fun h => h)) o)).1; have qv0_5 := fun o o9 => (point_cells (ZFr.blk_alloc (ZFr.blk_alloc (ZFr.blk_fr T2.out J5.out (fun h => h)) o) o9)).1; have qu1_5 := fun o => (point_cells (ZFr.blk_alloc (ZFr.blk_fr T2.out J5.out (fun h => h)) o)).2; have qv1_5 := fun o o9 => (point_cells (ZFr.blk_alloc (ZFr.blk_alloc (ZFr.blk_fr T2.out J5.out (fun h => h)) o) o9)).2; have ne105 := (show ¬ w.heap.size = w5.heap.size from (by omega)); have ne106 := (show ¬ w.heap.size = w5.heap.size + 1 from (by omega)); have ne107 := (show ¬ w.heap.size + 1 = w5.heap.size from (by omega)); have ne108 := (show ¬ w.heap.size + 1 = w5.heap.size + 1 from (by omega)); clear g5 f5))
        | ((go_at_call_of 68 (Value.int IntKind.i64 y); (with_reducible refine (DY.out _).mono ?_); rintro e w6 ⟨v6, rfl, h6, f6⟩; obtain ⟨s6, rfl, g6⟩ := h6; obtain ⟨A6, c6, rfl⟩ := g6.slice; have H6 := Lib.hid g6; have F6 := Lib.hid f6; have K6 := Lib.hid (Fr.trans (by ((repeat (first | with_reducible refine Fr.drew ?_ | with_reducible refine Fr.alloc ?_ _)); with_reducible exact Fr.refl _ _)) f6 (fun _ h _ => h) : Fr (fun _ => False) w5 w6); have J6 := Lib.hid (J5.out.trans K6.out (fun _ h _ => h)); obtain ⟨b1_6, b2_6⟩ := point_cells (ZFr.blk_fr T1.out J6.out (fun h => h)); obtain ⟨b3_6, b4_6⟩ := point_cells (ZFr.blk_fr T2.out J6.out (fun h => h)); (try (have X2 := ZFr.blk_fr X1.out K6.out (fun h => h); have XH := Lib.hid X2; obtain ⟨x1, x2, x3, x4⟩ := whole_store X2; have x5 := fun o => (whole_store (ZFr.blk_alloc X2 o)).1; have x6 := fun o => (whole_store (ZFr.blk_alloc X2 o)).2.1; have x7 := fun o => (whole_store (ZFr.blk_alloc X2 o)).2.2.1; have x8 := fun o => (whole_store (ZFr.blk_alloc X2 o)).2.2.2; have xl := ZFr.blk_lt X2; clear X2)); (try (have Y2 := ZFr.blk_fr Y1.out K6.out (fun h => h); have YH := Lib.hid Y2; obtain ⟨y1, y2, y3, y4⟩ := whole_store Y2; have y5 := fun o => (whole_store (ZFr.blk_alloc Y2 o)).1; have y6 := fun o => (whole_store (ZFr.blk_alloc Y2 o)).2.1; have y7 := fun o => (whole_store (ZFr.blk_alloc Y2 o)).2.2.1; have y8 := fun o => (whole_store (ZFr.blk_alloc Y2 o)).2.2.2; have yl := ZFr.blk_lt Y2; clear Y2)); (first | (have Z2 := ZFr.blk_fr (w := (w5.alloc (Obj.cells #[Value.int IntKind.i64 0, Value.slice none 0 0] 40)).alloc (Obj.cells #[Value.int IntKind.i64 0, Value.slice none 0 0] 40)) (ZFr.blk_alloc (heap_alloc_new w5 (Obj.cells #[Value.int IntKind.i64 0, Value.slice none 0 0] 40)) (Obj.cells #[Value.int IntKind.i64 0, Value.slice none 0 0] 40)) f6 (fun h => h); obtain ⟨z1, z2, z3, z4⟩ := whole_store Z2; have z5 := fun o => (whole_store (ZFr.blk_alloc Z2 o)).1; have z6 := fun o => (whole_store (ZFr.blk_alloc Z2 o)).2.1; have z7 := fun o => (whole_store (ZFr.blk_alloc Z2 o)).2.2.1; have z8 := fun o => (whole_store (ZFr.blk_alloc Z2 o)).2.2.2; have zl := ZFr.blk_lt Z2; have Z3 := ZFr.blk_fr (w := (w5.alloc (Obj.cells #[Value.int IntKind.i64 0, Value.slice none 0 0] 40)).alloc (Obj.cells #[Value.int IntKind.i64 0, Value.slice none 0 0] 40)) (second w5 (Obj.cells #[Value.int IntKind.i64 0, Value.slice none 0 0] 40) (Obj.cells #[Value.int IntKind.i64 0, Value.slice none 0 0] 40)) f6 (fun h => h); have ZH := Lib.hid Z2; have TH := Lib.hid Z3; obtain ⟨t1, t2, t3, t4⟩ := whole_store Z3; have t5 := fun o => (whole_store (ZFr.blk_alloc Z3 o)).1; have t6 := fun o => (whole_store (ZFr.blk_alloc Z3 o)).2.1; have t7 := fun o => (whole_store (ZFr.blk_alloc Z3 o)).2.2.1; have t8 := fun o => (whole_store (ZFr.blk_alloc Z3 o)).2.2.2; have tl := ZFr.blk_lt Z3; clear Z2 Z3) | (have Z2 := ZFr.blk_fr (w := w5.alloc (Obj.cells #[Value.int IntKind.i64 0, Value.slice none 0 0] 40)) (heap_alloc_new w5 (Obj.cells #[Value.int IntKind.i64 0, Value.slice none 0 0] 40)) f6 (fun h => h); have ZH := Lib.hid Z2; obtain ⟨z1, z2, z3, z4⟩ := whole_store Z2; have z5 := fun o => (whole_store (ZFr.blk_alloc Z2 o)).1; have z6 := fun o => (whole_store (ZFr.blk_alloc Z2 o)).2.1; have z7 := fun o => (whole_store (ZFr.blk_alloc Z2 o)).2.2.1; have z8 := fun o => (whole_store (ZFr.blk_alloc Z2 o)).2.2.2; have zl := ZFr.blk_lt Z2; clear Z2) | skip); have uu1 := (whole_store (second w6 (Obj.cells #[Value.int IntKind.i64 0, Value.slice none 0 0] 40) (Obj.cells #[Value.int IntKind.i64 0, Value.slice none 0 0] 40))).1; have uu2 := (whole_store (second w6 (Obj.cells #[Value.int IntKind.i64 0, Value.slice none 0 0] 40) (Obj.cells #[Value.int IntKind.i64 0, Value.slice none 0 0] 40))).2.1; have uu3 := (whole_store (second w6 (Obj.cells #[Value.int IntKind.i64 0, Value.slice none 0 0] 40) (Obj.cells #[Value.int IntKind.i64 0, Value.slice none 0 0] 40))).2.2.1; have uu4 := (whole_store (second w6 (Obj.cells #[Value.int IntKind.i64 0, Value.slice none 0 0] 40) (Obj.cells #[Value.int IntKind.i64 0, Value.slice none 0 0] 40))).2.2.2; have u1 := fun o => (whole_store (ZFr.blk_alloc (heap_alloc_new w6 (Obj.cells #[Value.int IntKind.i64 0, Value.slice none 0 0] 40)) o)).1; have u2 := fun o => (whole_store (ZFr.blk_alloc (heap_alloc_new w6 (Obj.cells #[Value.int IntKind.i64 0, Value.slice none 0 0] 40)) o)).2.1; have u3 := fun o => (whole_store (ZFr.blk_alloc (heap_alloc_new w6 (Obj.cells #[Value.int IntKind.i64 0, Value.slice none 0 0] 40)) o)).2.2.1; have u4 := fun o => (whole_store (ZFr.blk_alloc (heap_alloc_new w6 (Obj.cells #[Value.int IntKind.i64 0, Value.slice none 0 0] 40)) o)).2.2.2; (try (have ne1 : ¬ w3.heap.size = w6.heap.size := by omega)); (try (have nf1 : ¬ w6.heap.size = w3.heap.size := by omega)); (try (have ne2 : ¬ w3.heap.size = w6.heap.size + 1 := by omega)); (try (have nf2 : ¬ w6.heap.size + 1 = w3.heap.size := by omega)); (try (have ne3 : ¬ w3.heap.size = w5.heap.size := by omega)); (try (have nf3 : ¬ w5.heap.size = w3.heap.size := by omega)); (try (have ne4 : ¬ w3.heap.size = w5.heap.size + 1 := by omega)); (try (have nf4 : ¬ w5.heap.size + 1 = w3.heap.size := by omega)); (try (have ne5 : ¬ w3.heap.size + 1 = w6.heap.size := by omega)); (try (have nf5 : ¬ w6.heap.size = w3.heap.size + 1 := by omega)); (try (have ne6 : ¬ w3.heap.size + 1 = w6.heap.size + 1 := by omega)); (try (have nf6 : ¬ w6.heap.size + 1 = w3.heap.size + 1 := by omega)); (try (have ne7 : ¬ w3.heap.size + 1 = w5.heap.size := by omega)); (try (have nf7 : ¬ w5.heap.size = w3.heap.size + 1 := by omega)); (try (have ne8 : ¬ w3.heap.size + 1 = w5.heap.size + 1 := by omega)); (try (have nf8 : ¬ w5.heap.size + 1 = w3.heap.size + 1 := by omega)); (try (have ne9 : ¬ w5.heap.size = w6.heap.size := by omega)); (try (have nf9 : ¬ w6.heap.size = w5.heap.size := by omega)); (try (have ne10 : ¬ w5.heap.size = w6.heap.size + 1 := by omega)); (try (have nf10 : ¬ w6.heap.size + 1 = w5.heap.size := by omega)); (try (have ne11 : ¬ w5.heap.size + 1 = w6.heap.size := by omega)); (try (have nf11 : ¬ w6.heap.size = w5.heap.size + 1 := by omega)); (try (have ne12 : ¬ w5.heap.size + 1 = w6.heap.size + 1 := by omega)); (try (have nf12 : ¬ w6.heap.size + 1 = w5.heap.size + 1 := by omega)); have sz6 := J6.out.size; have pu0_6 := fun o => (point_cells (ZFr.blk_alloc (ZFr.blk_fr T1.out J6.out (fun h => h)) o)).1; have pv0_6 := fun o o9 => (point_cells (ZFr.blk_alloc (ZFr.blk_alloc (ZFr.blk_fr T1.out J6.out (fun h => h)) o) o9)).1; have pu1_6 := fun o => (point_cells (ZFr.blk_alloc (ZFr.blk_fr T1.out J6.out (fun h => h)) o)).2; have pv1_6 := fun o o9 => (point_cells (ZFr.blk_alloc (ZFr.blk_alloc (ZFr.blk_fr T1.out J6.out (fun h => h)) o) o9)).2; have qu0_6 := fun o => (point_cells (ZFr.blk_alloc (ZFr.blk_fr T2.out J6.out (fun h => h)) o)).1; have qv0_6 := fun o o9 => (point_cells (ZFr.blk_alloc (ZFr.blk_alloc (ZFr.blk_fr T2.out J6.out (fun h => h)) o) o9)).1; have qu1_6 := fun o => (point_cells (ZFr.blk_alloc (ZFr.blk_fr T2.out J6.out (fun h => h)) o)).2; have qv1_6 := fun o o9 => (point_cells (ZFr.blk_alloc (ZFr.blk_alloc (ZFr.blk_fr T2.out J6.out (fun h => h)) o) o9)).2; have ne109 := (show ¬ w.heap.size = w6.heap.size from (by omega)); have ne110 := (show ¬ w.heap.size = w6.heap.size + 1 from (by omega)); have ne111 := (show ¬ w.heap.size + 1 = w6.heap.size from (by omega)); have ne112 := (show ¬ w.heap.size + 1 = w6.heap.size + 1 from (by omega)); clear g6 f6)))
    all_goals
      go_wp2_with fail
      go_meet
      have BD5 := H5.out.up (w' := w6) K6.out
      have BD6 := H6.out
      refine ⟨_, _, A5, c5, A6, c6, rfl, rfl, (by omega), (by omega), ?_, ?_, ?_, ?_, ?_⟩
      · first | (with_reducible refine new_at ?_; simp only [ZFr.size_set]) | with_reducible exact heap_alloc_new _ _ | with_reducible exact second _ _ _ | with_reducible exact ZFr.blk_alloc (heap_alloc_new _ _) _ | (with_reducible refine ZFr.blk_alloc ?_ _; (first | with_reducible exact put2 XH.out | with_reducible exact put2 YH.out | with_reducible exact put2 ZH.out | with_reducible exact put2 TH.out)) | (with_reducible refine put2o (put2 XH.out) ?_ <;> omega) | (with_reducible refine put2o (put2 YH.out) ?_ <;> omega) | (with_reducible refine put2o (put2 ZH.out) ?_ <;> omega) | (with_reducible refine put2o (put2 TH.out) ?_ <;> omega) | (with_reducible refine put2 (put2o XH.out ?_) <;> omega) | (with_reducible refine put2 (put2o YH.out ?_) <;> omega) | (with_reducible refine put2 (put2o ZH.out ?_) <;> omega) | (with_reducible refine put2 (put2o TH.out ?_) <;> omega)
      · first | (with_reducible refine new_at ?_; simp only [ZFr.size_set]) | with_reducible exact heap_alloc_new _ _ | with_reducible exact second _ _ _ | with_reducible exact ZFr.blk_alloc (heap_alloc_new _ _) _ | (with_reducible refine ZFr.blk_alloc ?_ _; (first | with_reducible exact put2 XH.out | with_reducible exact put2 YH.out | with_reducible exact put2 ZH.out | with_reducible exact put2 TH.out)) | (with_reducible refine put2o (put2 XH.out) ?_ <;> omega) | (with_reducible refine put2o (put2 YH.out) ?_ <;> omega) | (with_reducible refine put2o (put2 ZH.out) ?_ <;> omega) | (with_reducible refine put2o (put2 TH.out) ?_ <;> omega) | (with_reducible refine put2 (put2o XH.out ?_) <;> omega) | (with_reducible refine put2 (put2o YH.out ?_) <;> omega) | (with_reducible refine put2 (put2o ZH.out ?_) <;> omega) | (with_reducible refine put2 (put2o TH.out ?_) <;> omega)
      · (first | (with_reducible refine Dgs.mono (dgs_put2 (dgs_put2 BD5 ?_) ?_) ?_) | (with_reducible refine Dgs.mono (dgs_alloc (dgs_put2 BD5 ?_) _) ?_) | (with_reducible refine Dgs.mono (dgs_alloc (dgs_alloc BD5 _) _) ?_)) <;> (first | omega | (unfold Up; simp; omega) | (unfold Up; simp))
      · (first | (with_reducible refine Dgs.mono (dgs_put2 (dgs_put2 BD6 ?_) ?_) ?_) | (with_reducible refine Dgs.mono (dgs_alloc (dgs_put2 BD6 ?_) _) ?_) | (with_reducible refine Dgs.mono (dgs_alloc (dgs_alloc BD6 _) _) ?_)) <;> (first | omega | (simp; omega) | simp)
      · (first | (with_reducible refine fr_put2 (fr_put2 J6.out ?_) ?_) | (with_reducible refine Fr.alloc (fr_put2 J6.out ?_) _) | (with_reducible refine Fr.alloc (Fr.alloc J6.out _) _)) <;> omega
  case rest =>
    obtain ⟨g5, g6, A5, c5, A6, c6, rfl, rfl, m5, m6, b5, b6, d5, d6, fc⟩ := hcut
    have FC := Lib.hid fc
    have B5 := Lib.hid b5
    have B6 := Lib.hid b6
    have D5 := Lib.hid (d5.fr ((Fr.refl (fun _ => False) wc).drew) (fun _ h => h.elim))
    have D6 := Lib.hid (d6.fr ((Fr.refl (fun _ => False) wc).drew) (fun _ h => h.elim))
    have HT := Lib.hid (show ∀ k, k < w3.heap.size → k < wc.drew.heap.size from fun k hk => Nat.lt_of_lt_of_le hk fc.size)
    have R0 := Lib.hid (ZFr.blk_fr T3.out fc (fun h => h))
    have hl3 := ZFr.blk_lt T3.out
    have hne5 : ¬ w.heap.size + 1 + 1 = g5 := by omega
    have hne6 : ¬ w.heap.size + 1 + 1 = g6 := by omega
    clear hl3 m5 m6
    obtain ⟨p1, p2⟩ := whole_cells (w := wc.drew) b5
    obtain ⟨q1, q2⟩ := whole_cells (w := wc.drew) b6
    clear b5 b6 d5 d6 fc
    go_wp2_with fail
    go_region_held3 (fun w' => w'.cell? ⟨g5, 0, none⟩ = some (.int .i64 (sg dx)) ∧ w'.cell? ⟨g5, 1, none⟩ = some (.slice A5 (dg dx.natAbs).length c5) ∧ w'.cell? ⟨g6, 0, none⟩ = some (.int .i64 (sg dy)) ∧ w'.cell? ⟨g6, 1, none⟩ = some (.slice A6 (dg dy.natAbs).length c6))
      (refine ⟨?_, ?_, ?_, ?_⟩ <;> (repeat (first | with_reducible assumption | (with_reducible refine cell_far ?_ (by dsimp only; omega)))))
      (first
        | ((go_at_call 60; have hc_ := add_walk xx yy _ _ (fun k => k < w3.heap.size) w8 (fun k hk => Nat.lt_of_lt_of_le (HT.out k hk) F8.out.size) (Whole.mk (H7.out.fr G8.out (fun _ h => h.elim))) (Whole.mk H8.out) LX.out LY.out; rw [HZ.out] at hc_; (with_reducible refine hc_.mono ?_); clear hc_; rintro e w9 ⟨v9, rfl, h9, f9⟩; obtain ⟨s9, rfl, g9⟩ := h9; obtain ⟨A9, c9, rfl⟩ := g9.slice; have H9 := Lib.hid g9; have F9 := Lib.hid (F8.out.trans f9 (fun _ h _ => h)); obtain ⟨p5, p6⟩ := whole_cells (ZFr.blk_fr B5.out F9.out (fun h => h)); obtain ⟨q5, q6⟩ := whole_cells (ZFr.blk_fr B6.out F9.out (fun h => h)); have R9 := Lib.hid (ZFr.blk_fr R0.out F9.out (fun h => h)); obtain ⟨i1, i2, i3, i4⟩ := whole_store R9.out; clear g9 f9))
        | ((go_at_call_of 69 (Value.agg #[Value.int IntKind.i64 (sg dx), Value.slice A5 (dg dx.natAbs).length c5]); have hc_ := mul_walk dx dx _ _ (fun k => k < w3.heap.size) wc.drew HT.out (Whole.mk D5.out) (Whole.mk D5.out) LX5.out LX5.out; rw [HX.out] at hc_; (with_reducible refine hc_.mono ?_); clear hc_; rintro e w7 ⟨v7, rfl, h7, f7⟩; obtain ⟨s7, rfl, g7⟩ := h7; obtain ⟨A7, c7, rfl⟩ := g7.slice; have H7 := Lib.hid g7; have F7 := Lib.hid (((Fr.refl (fun _ => False) wc).drew).trans f7 (fun _ h _ => h)); have G7 := Lib.hid f7; obtain ⟨p3, p4⟩ := whole_cells (ZFr.blk_fr B5.out F7.out (fun h => h)); obtain ⟨q3, q4⟩ := whole_cells (ZFr.blk_fr B6.out F7.out (fun h => h)); clear g7 f7))
        | ((go_at_call_of 69 (Value.agg #[Value.int IntKind.i64 (sg dy), Value.slice A6 (dg dy.natAbs).length c6]); have hc_ := mul_walk dy dy _ _ (fun k => k < w3.heap.size) w7 (fun k hk => Nat.lt_of_lt_of_le (HT.out k hk) G7.out.size) (Whole.mk (D6.out.fr G7.out (fun _ h => h.elim))) (Whole.mk (D6.out.fr G7.out (fun _ h => h.elim))) LY5.out LY5.out; rw [HY.out] at hc_; (with_reducible refine hc_.mono ?_); clear hc_; rintro e w8 ⟨v8, rfl, h8, f8⟩; obtain ⟨s8, rfl, g8⟩ := h8; obtain ⟨A8, c8, rfl⟩ := g8.slice; have H8 := Lib.hid g8; have G8 := Lib.hid f8; have F8 := Lib.hid (F7.out.trans f8 (fun _ h _ => h)); obtain ⟨p7, p8⟩ := whole_cells (ZFr.blk_fr B5.out F8.out (fun h => h)); obtain ⟨q7, q8⟩ := whole_cells (ZFr.blk_fr B6.out F8.out (fun h => h)); clear g8 f8)))
    all_goals
      go_wp2_with fail
      have hl := ZFr.blk_lt T3.out
      have B := ((Fr.refl (fun k => k < w3.heap.size) w9).set ⟨w.heap.size + 1 + 1, 0, none⟩ (.int .i64 (sg zz)) (.inl hl)).set ⟨w.heap.size + 1 + 1, 1, none⟩ (.slice A9 (dg zz.natAbs).length c9) (.inl hl)
      refine bodyPost_ret (results_cell_row rfl _ _ (w.heap.size + 1 + 1) 40 #[.int .i64 (sg zz), .slice A9 (dg zz.natAbs).length c9] (0, 0) _ rfl (ZFr.blk_set (ZFr.blk_set R9.out 0 _) 1 _) Try.underlying40 rfl (by kernel_rfl)) rfl ?_
      exact ⟨_, rfl, ⟨_, rfl, (H9.out.fr B (fun _ h => h)).mono (fun k h => Nat.lt_of_lt_of_le (hS k h) F3.out.size)⟩, (((F3.out.trans FC.out (fun _ h _ => h)).trans F9.out (fun _ h _ => h)).set _ _ (.inr (by dsimp only; omega))).set _ _ (.inr (by dsimp only; omega))⟩
end Go.Proofs.Ytngmkjgklonfmaa.Big

