/- Joined texts. -/
import Derived.Test.YtgaicbodpneeoaaJD
import Derived.Deep.RegionLaw
import Derived.Test.YtgaicbodpneeoaaSkPRasterImagesx0
import Derived.Test.YtgaicbodpneeoaaSkBigP4
import Derived.Deep.DeepCutAuto
/- What is used of BigX. -/
namespace Go.Proofs.Ytgaicbodpneeoaa.Big
open Go.RowKit Go.Proofs.ZFr Go.Proofs.Ytgaicbodpneeoaa.PRasterImages Go.Proofs.YtgaicbodpneeoaaW.PrintWords

set_option maxRecDepth 100000 in
set_option maxHeartbeats 4000000 in
theorem add_diff (a b : Int) (va vb : Value) (S : Nat → Prop) (w : World) (h0 : ¬ sg a = 0) (h1 : ¬ sg b = 0) (h2 : ¬ sg a = sg b) (hS : ∀ k, S k → k < w.heap.size) (ha : Whole w S va a) (hb : Whole w S vb b) (la : (dg a.natAbs).length < 900) (lb : (dg b.natAbs).length < 900) : Calls Try.prog 65 #[va, vb] w fun e w' => ∃ v', e = .returned v' ∧ Whole w' S v' (a + b) ∧ Fr (fun _ => False) w w' := by
  obtain ⟨sa, rfl, hda⟩ := ha
  obtain ⟨A, c, rfl⟩ := hda.slice
  obtain ⟨sb, rfl, hdb⟩ := hb
  obtain ⟨A', c', rfl⟩ := hdb.slice
  have hA := Lib.hid hda
  have hB := Lib.hid hdb
  clear hda hdb
  have tt := tri w (Obj.cells #[Value.int IntKind.i64 (sg a), Value.slice A (dg a.natAbs).length c] 82) (Obj.cells #[Value.int IntKind.i64 (sg b), Value.slice A' (dg b.natAbs).length c'] 82) (Obj.cells #[Value.int IntKind.i64 0, Value.slice none 0 0] 82)
  have TT := Lib.hid tt
  clear tt
  by_cases hle : b.natAbs ≤ a.natAbs
  · obtain ⟨q, hq, hq0⟩ : ∃ q, cmp3 a.natAbs b.natAbs = q ∧ 0 ≤ q := ⟨_, rfl, by unfold cmp3; split; omega; split <;> omega⟩
    have HQ := Lib.hid hq
    clear hq
    go_enter Try.func65, Try.ntmps65
    go_wp2_with (go_at_call 83; refine (ncmp_c a.natAbs b.natAbs _ _ S _ la (hA.out.fr TT.out.2.2.2 (fun _ h => h.elim)) (hB.out.fr TT.out.2.2.2 (fun _ h => h.elim))).mono ?_; rintro e w4 ⟨rfl, f4⟩; rw [HQ.out]; have HF := Lib.hid (TT.out.2.2.2.trans f4 (fun _ h _ => h)); have T1 := Lib.hid (ZFr.blk_fr TT.out.1 f4 (fun h => h)); have T2 := Lib.hid (ZFr.blk_fr TT.out.2.1 f4 (fun h => h)); have T3 := Lib.hid (ZFr.blk_fr TT.out.2.2.1 f4 (fun h => h)); obtain ⟨c0, c1⟩ := whole_cells (w := w4.drew) T1.out; obtain ⟨c2, c3⟩ := whole_cells (w := w4.drew) T2.out; clear f4)
    clear TT
    have hs : (a + b).natAbs = a.natAbs - b.natAbs ∧ (a.natAbs - b.natAbs ≠ 0 → sg a = sg (a + b)) := by
      revert h0 h1 h2
      unfold sg
      repeat' split
      all_goals (intros; first | omega | (constructor <;> omega))
    have HS := Lib.hid hs
    clear hs
    go_region_held3 (fun w' => w'.cell? ⟨w.heap.size, 0, none⟩ = some (.int .i64 (sg a)) ∧ w'.cell? ⟨w.heap.size, 1, none⟩ = some (Value.slice A (dg a.natAbs).length c) ∧ w'.cell? ⟨w.heap.size + 1, 1, none⟩ = some (Value.slice A' (dg b.natAbs).length c'))
      (exact ⟨by first | assumption | exact cell_far (by assumption) (by dsimp only; omega) | exact cell_far (cell_far (by assumption) (by dsimp only; omega)) (by dsimp only; omega), by first | assumption | exact cell_far (by assumption) (by dsimp only; omega) | exact cell_far (cell_far (by assumption) (by dsimp only; omega)) (by dsimp only; omega), by first | assumption | exact cell_far (by assumption) (by dsimp only; omega) | exact cell_far (cell_far (by assumption) (by dsimp only; omega)) (by dsimp only; omega)⟩)
      (first
        | ((go_at_call 84; refine (nsub_c a.natAbs b.natAbs _ _ (Up S w w4.drew) _ (Up.lt hS HF.out.drew.size) la (by omega) (hA.out.up HF.out.drew) (hB.out.up HF.out.drew)).mono ?_; rintro e w5 ⟨v5, rfl, h5, f5⟩; have T4 := Lib.hid (ZFr.blk_fr (w := w4.drew) T1.out f5 (fun h => h)); have T5 := Lib.hid (ZFr.blk_fr (w := w4.drew) T2.out f5 (fun h => h)); have T6 := Lib.hid (ZFr.blk_fr (w := w4.drew) T3.out f5 (fun h => h)); obtain ⟨d0, d1⟩ := whole_cells T4.out; obtain ⟨d2, d3⟩ := whole_cells T5.out; have H5 := Lib.hid h5; have F5 := Lib.hid f5; clear h5 f5))
        | ((go_at_call 62; refine (make1_walk a (a.natAbs - b.natAbs) v5 _ w5 H5.out).mono ?_; rintro e w6 ⟨v6, rfl, h6, f6⟩; obtain ⟨s6, rfl, h7⟩ := h6 (a + b) HS.out.1 HS.out.2; obtain ⟨A6, c6, rfl⟩ := h7.slice; obtain ⟨d4, d5⟩ := whole_cells (ZFr.blk_fr T4.out f6 (fun h => h)); obtain ⟨d6, d7⟩ := whole_cells (ZFr.blk_fr T5.out f6 (fun h => h)); obtain ⟨d8, d9, d10, d11⟩ := whole_store (ZFr.blk_fr T6.out f6 (fun h => h)); have T7 := Lib.hid (ZFr.blk_fr T6.out f6 (fun h => h)); have H7 := Lib.hid h7; have F7 := Lib.hid f6; clear h6 h7 f6)))
    all_goals
      go_wp2_with fail
      have f8 := (((HF.out.drew.trans F5.out (fun _ h _ => h)).trans F7.out (fun _ h _ => h)).set ⟨w.heap.size + 1 + 1, 0, none⟩ (.int .i64 (sg (a + b))) (.inr (by dsimp only; omega))).set ⟨w.heap.size + 1 + 1, 1, none⟩ (Value.slice A6 (dg (a + b).natAbs).length c6) (.inr (by dsimp only; omega))
      refine bodyPost_ret (results_cell_row rfl _ _ (w.heap.size + 1 + 1) 82 #[.int .i64 (sg (a + b)), .slice A6 (dg (a + b).natAbs).length c6] (0, 0) _ rfl (ZFr.blk_set (ZFr.blk_set T7.out 0 _) 1 _) Try.underlying82 rfl (by kernel_rfl)) rfl ?_
      refine ⟨_, rfl, ⟨_, rfl, ?_⟩, f8⟩
      have hup : Up S w w4.drew (w.heap.size + 1 + 1) := .inr ⟨by omega, ZFr.blk_lt (w := w4.drew) T3.out⟩
      exact (H7.out.fr (((Fr.refl (Up S w w4.drew) w6).set ⟨w.heap.size + 1 + 1, 0, none⟩ _ (.inl hup)).set ⟨w.heap.size + 1 + 1, 1, none⟩ _ (.inl hup)) (fun _ h => h)).mono (fun _ h => .inl h)
  · obtain ⟨q, hq, hq0⟩ : ∃ q, cmp3 a.natAbs b.natAbs = q ∧ ¬ 0 ≤ q := ⟨_, rfl, by unfold cmp3; split; omega; split <;> omega⟩
    have HQ := Lib.hid hq
    clear hq
    go_enter Try.func65, Try.ntmps65
    go_wp2_with (go_at_call 83; refine (ncmp_c a.natAbs b.natAbs _ _ S _ la (hA.out.fr TT.out.2.2.2 (fun _ h => h.elim)) (hB.out.fr TT.out.2.2.2 (fun _ h => h.elim))).mono ?_; rintro e w4 ⟨rfl, f4⟩; rw [HQ.out]; have HF := Lib.hid (TT.out.2.2.2.trans f4 (fun _ h _ => h)); have T1 := Lib.hid (ZFr.blk_fr TT.out.1 f4 (fun h => h)); have T2 := Lib.hid (ZFr.blk_fr TT.out.2.1 f4 (fun h => h)); have T3 := Lib.hid (ZFr.blk_fr TT.out.2.2.1 f4 (fun h => h)); obtain ⟨c0, c1⟩ := whole_cells (w := w4.drew) T1.out; obtain ⟨c2, c3⟩ := whole_cells (w := w4.drew) T2.out; clear f4)
    clear TT
    have hs : (a + b).natAbs = b.natAbs - a.natAbs ∧ (b.natAbs - a.natAbs ≠ 0 → sg b = sg (a + b)) := by
      revert h0 h1 h2
      unfold sg
      repeat' split
      all_goals (intros; first | omega | (constructor <;> omega))
    have HS := Lib.hid hs
    clear hs
    go_region_held3 (fun w' => w'.cell? ⟨w.heap.size + 1, 0, none⟩ = some (.int .i64 (sg b)) ∧ w'.cell? ⟨w.heap.size + 1, 1, none⟩ = some (Value.slice A' (dg b.natAbs).length c') ∧ w'.cell? ⟨w.heap.size, 1, none⟩ = some (Value.slice A (dg a.natAbs).length c))
      (exact ⟨by first | assumption | exact cell_far (by assumption) (by dsimp only; omega) | exact cell_far (cell_far (by assumption) (by dsimp only; omega)) (by dsimp only; omega), by first | assumption | exact cell_far (by assumption) (by dsimp only; omega) | exact cell_far (cell_far (by assumption) (by dsimp only; omega)) (by dsimp only; omega), by first | assumption | exact cell_far (by assumption) (by dsimp only; omega) | exact cell_far (cell_far (by assumption) (by dsimp only; omega)) (by dsimp only; omega)⟩)
      (first
        | ((go_at_call 84; refine (nsub_c b.natAbs a.natAbs _ _ (Up S w w4.drew) _ (Up.lt hS HF.out.drew.size) lb (by omega) (hB.out.up HF.out.drew) (hA.out.up HF.out.drew)).mono ?_; rintro e w5 ⟨v5, rfl, h5, f5⟩; have T4 := Lib.hid (ZFr.blk_fr (w := w4.drew) T1.out f5 (fun h => h)); have T5 := Lib.hid (ZFr.blk_fr (w := w4.drew) T2.out f5 (fun h => h)); have T6 := Lib.hid (ZFr.blk_fr (w := w4.drew) T3.out f5 (fun h => h)); obtain ⟨d0, d1⟩ := whole_cells T4.out; obtain ⟨d2, d3⟩ := whole_cells T5.out; have H5 := Lib.hid h5; have F5 := Lib.hid f5; clear h5 f5))
        | ((go_at_call 62; refine (make1_walk b (b.natAbs - a.natAbs) v5 _ w5 H5.out).mono ?_; rintro e w6 ⟨v6, rfl, h6, f6⟩; obtain ⟨s6, rfl, h7⟩ := h6 (a + b) HS.out.1 HS.out.2; obtain ⟨A6, c6, rfl⟩ := h7.slice; obtain ⟨d4, d5⟩ := whole_cells (ZFr.blk_fr T4.out f6 (fun h => h)); obtain ⟨d6, d7⟩ := whole_cells (ZFr.blk_fr T5.out f6 (fun h => h)); obtain ⟨d8, d9, d10, d11⟩ := whole_store (ZFr.blk_fr T6.out f6 (fun h => h)); have T7 := Lib.hid (ZFr.blk_fr T6.out f6 (fun h => h)); have H7 := Lib.hid h7; have F7 := Lib.hid f6; clear h6 h7 f6)))
    all_goals
      go_wp2_with fail
      have f8 := (((HF.out.drew.trans F5.out (fun _ h _ => h)).trans F7.out (fun _ h _ => h)).set ⟨w.heap.size + 1 + 1, 0, none⟩ (.int .i64 (sg (a + b))) (.inr (by dsimp only; omega))).set ⟨w.heap.size + 1 + 1, 1, none⟩ (Value.slice A6 (dg (a + b).natAbs).length c6) (.inr (by dsimp only; omega))
      refine bodyPost_ret (results_cell_row rfl _ _ (w.heap.size + 1 + 1) 82 #[.int .i64 (sg (a + b)), .slice A6 (dg (a + b).natAbs).length c6] (0, 0) _ rfl (ZFr.blk_set (ZFr.blk_set T7.out 0 _) 1 _) Try.underlying82 rfl (by kernel_rfl)) rfl ?_
      refine ⟨_, rfl, ⟨_, rfl, ?_⟩, f8⟩
      have hup : Up S w w4.drew (w.heap.size + 1 + 1) := .inr ⟨by omega, ZFr.blk_lt (w := w4.drew) T3.out⟩
      exact (H7.out.fr (((Fr.refl (Up S w w4.drew) w6).set ⟨w.heap.size + 1 + 1, 0, none⟩ _ (.inl hup)).set ⟨w.heap.size + 1 + 1, 1, none⟩ _ (.inl hup)) (fun _ h => h)).mono (fun _ h => .inl h)
theorem add_walk (a b : Int) (va vb : Value) (S : Nat → Prop) (w : World) (hS : ∀ k, S k → k < w.heap.size) (ha : Whole w S va a) (hb : Whole w S vb b) (la : (dg a.natAbs).length < 900) (lb : (dg b.natAbs).length < 900) : Calls Try.prog 65 #[va, vb] w fun e w' => ∃ v', e = .returned v' ∧ Whole w' S v' (a + b) ∧ Fr (fun _ => False) w w' := by
  by_cases h0 : sg a = 0
  · exact add_same a b va vb S w (.inl h0) hS ha hb la lb
  · by_cases h1 : sg b = 0
    · exact add_same a b va vb S w (.inr (.inl h1)) hS ha hb la lb
    · by_cases h2 : sg a = sg b
      · exact add_same a b va vb S w (.inr (.inr h2)) hS ha hb la lb
      · exact add_diff a b va vb S w h0 h1 h2 hS ha hb la lb
end Go.Proofs.Ytgaicbodpneeoaa.Big


/- What is used of BigY. -/
namespace Go.Proofs.Ytgaicbodpneeoaa.Big
open Go.RowKit Go.Proofs.ZFr Go.Proofs.Ytgaicbodpneeoaa.PRasterImages Go.Proofs.YtgaicbodpneeoaaW.PrintWords

theorem Whole.mk {w : World} {S : Nat → Prop} {s : Value} {n : Int} (h : Dgs w S s n.natAbs) : Whole w S (.agg #[.int .i64 (sg n), s]) n := ⟨s, rfl, h⟩
theorem sg_mul (a b : Int) : wrap64 (sg a * sg b) = sg (a * b) := by
  have e : wrap64 0 = 0 ∧ wrap64 1 = 1 ∧ wrap64 (-1) = -1 := by unfold wrap64; omega
  rcases Int.lt_trichotomy a 0 with ha | ha | ha
  · rcases Int.lt_trichotomy b 0 with hb | hb | hb
    · have := Int.mul_pos_of_neg_of_neg ha hb
      unfold sg
      rw [if_neg (by omega), if_pos ha, if_neg (by omega), if_pos hb, if_neg (by omega), if_neg (by omega)]; exact e.2.1
    · subst hb; rw [Int.mul_zero]; unfold sg; simp only [if_true, Int.mul_zero]; exact e.1
    · have := Int.mul_neg_of_neg_of_pos ha hb
      unfold sg
      rw [if_neg (by omega), if_pos ha, if_neg (by omega), if_neg (by omega), if_neg (by omega), if_pos this]; exact e.2.2
  · subst ha; rw [Int.zero_mul]; unfold sg; simp only [if_true, Int.zero_mul]; exact e.1
  · rcases Int.lt_trichotomy b 0 with hb | hb | hb
    · have := Int.mul_neg_of_pos_of_neg ha hb
      unfold sg
      rw [if_neg (by omega), if_neg (by omega), if_neg (by omega), if_pos hb, if_neg (by omega), if_pos this]; exact e.2.2
    · subst hb; rw [Int.mul_zero]; unfold sg; simp only [if_true, Int.mul_zero]; exact e.1
    · have := Int.mul_pos ha hb
      unfold sg
      rw [if_neg (by omega), if_neg (by omega), if_neg (by omega), if_neg (by omega), if_neg (by omega), if_neg (by omega)]; exact e.2.1
theorem field0 (s : Int) (A : Option Addr) (n c : Nat) (w : World) : (Instr.field 82 (Value.agg #[.int .i64 s, .slice A n c]) 0).run Try.prog w = .ok (.int .i64 s) w := by
  kernel_rfl
theorem dg_mono {m n : Nat} (h : m ≤ n) : (dg m).length ≤ (dg n).length := by
  by_cases hl : (dg n).length < (dg m).length
  · have := lt_of_len (dg_dig n) (dg_nrm m) hl
    rw [dg_val, dg_val] at this
    omega
  · omega
theorem dg_add {m n : Nat} {k : Nat} (hm : (dg m).length ≤ k) (hn : (dg n).length ≤ k) : (dg (m + n)).length ≤ k + 1 := by
  refine dg_len_le (k + 1) (m + n) ?_
  have h1 := val_lt (dg_dig m)
  have h2 := val_lt (dg_dig n)
  rw [dg_val] at h1 h2
  have h3 : (65536 : Int) ^ (dg m).length ≤ 65536 ^ k := pow_le hm
  have h4 : (65536 : Int) ^ (dg n).length ≤ 65536 ^ k := pow_le hn
  have h5 : ((65536 ^ (k + 1) : Nat) : Int) = 65536 ^ k * 65536 := by rw [Int.natCast_pow, Int.pow_succ]; rfl
  have h6 := pow_pos k
  omega

set_option maxRecDepth 100000 in
set_option maxHeartbeats 4000000 in
theorem sub_walk (a b : Int) (va vb : Value) (S : Nat → Prop) (w : World) (hS : ∀ k, S k → k < w.heap.size) (ha : Whole w S va a) (hb : Whole w S vb b) (la : (dg a.natAbs).length < 800) (lb : (dg b.natAbs).length < 800) : Calls Try.prog 48 #[va, vb] w fun e w' => ∃ v', e = .returned v' ∧ Whole w' S v' (a - b) ∧ Fr (fun _ => False) w w' := by
  have la9 : (dg a.natAbs).length < 900 := by omega
  have lb9 : (dg b.natAbs).length < 900 := by omega
  obtain ⟨nb, hnb⟩ : ∃ nb, -b = nb := ⟨_, rfl⟩
  have LNB : (dg nb.natAbs).length < 900 := by rw [← hnb, Int.natAbs_neg]; exact lb9
  obtain ⟨ab, hab⟩ : ∃ ab, a + nb = ab := ⟨_, rfl⟩
  rw [show a - b = ab from by omega]
  have HNB := Lib.hid hnb
  have HAB := Lib.hid hab
  clear hnb hab
  obtain ⟨sa, rfl, hda⟩ := ha
  obtain ⟨A, c, rfl⟩ := hda.slice
  obtain ⟨sb, rfl, hdb⟩ := hb
  obtain ⟨A', c', rfl⟩ := hdb.slice
  have hA := Lib.hid hda
  have hB := Lib.hid hdb
  clear hda hdb
  have tt := tri w (Obj.cells #[Value.int IntKind.i64 (sg a), Value.slice A (dg a.natAbs).length c] 82) (Obj.cells #[Value.int IntKind.i64 (sg b), Value.slice A' (dg b.natAbs).length c'] 82) (Obj.cells #[Value.int IntKind.i64 0, Value.slice none 0 0] 82)
  generalize htt : ((w.alloc (Obj.cells #[Value.int IntKind.i64 (sg a), Value.slice A (dg a.natAbs).length c] 82)).alloc (Obj.cells #[Value.int IntKind.i64 (sg b), Value.slice A' (dg b.natAbs).length c'] 82)).alloc (Obj.cells #[Value.int IntKind.i64 0, Value.slice none 0 0] 82) = w3 at tt
  go_enter Try.func48, Try.ntmps48
  go_wp2_with fail
  obtain ⟨t1, t2, t3, f3⟩ := tt
  clear htt
  have Ta3 := Lib.hid t1
  have Tb3 := Lib.hid t2
  have Tr3 := Lib.hid t3
  have F3 := Lib.hid f3.drew
  obtain ⟨xa3, ya3⟩ := whole_cells (w := w3.drew) t1
  obtain ⟨xb3, yb3⟩ := whole_cells (w := w3.drew) t2
  clear t1 t2 t3 f3
  go_region_held3 (fun w' => w'.cell? ⟨w.heap.size, 0, none⟩ = some (.int .i64 (sg a)) ∧ w'.cell? ⟨w.heap.size, 1, none⟩ = some (Value.slice A (dg a.natAbs).length c) ∧ w'.cell? ⟨w.heap.size + 1, 0, none⟩ = some (.int .i64 (sg b)) ∧ w'.cell? ⟨w.heap.size + 1, 1, none⟩ = some (Value.slice A' (dg b.natAbs).length c'))
    (exact ⟨by first | assumption | exact cell_far (by assumption) (by dsimp only; omega) | exact cell_far (cell_far (by assumption) (by dsimp only; omega)) (by dsimp only; omega), by first | assumption | exact cell_far (by assumption) (by dsimp only; omega) | exact cell_far (cell_far (by assumption) (by dsimp only; omega)) (by dsimp only; omega), by first | assumption | exact cell_far (by assumption) (by dsimp only; omega) | exact cell_far (cell_far (by assumption) (by dsimp only; omega)) (by dsimp only; omega), by first | assumption | exact cell_far (by assumption) (by dsimp only; omega) | exact cell_far (cell_far (by assumption) (by dsimp only; omega)) (by dsimp only; omega)⟩)
    (first
      | ((go_at_call 66; refine (neg_walk b _ (Up S w w3.drew) _ (Whole.mk (hB.out.up F3.out))).mono ?_; rintro e w4 ⟨v4, rfl, h4, f4⟩; rw [HNB.out] at h4; obtain ⟨s4, rfl, g4⟩ := h4; obtain ⟨A4, c4, rfl⟩ := g4.slice; have H4 := Lib.hid g4; clear g4; have Ta4 := Lib.hid (ZFr.blk_fr (w := w3.drew) Ta3.out f4 (fun h => h)); obtain ⟨xa4, ya4⟩ := whole_cells Ta4.out; have Tb4 := Lib.hid (ZFr.blk_fr (w := w3.drew) Tb3.out f4 (fun h => h)); obtain ⟨xb4, yb4⟩ := whole_cells Tb4.out; have Tr4 := Lib.hid (ZFr.blk_fr (w := w3.drew) Tr3.out f4 (fun h => h)); obtain ⟨xr4, yr4, pr4, qr4⟩ := whole_store Tr4.out; have F4 := Lib.hid (F3.out.trans f4 (fun _ h _ => h)); have TSZ := Lib.hid f4.size; clear f4))
      | ((go_at_call 65; refine (add_walk a nb _ _ (Up S w w3.drew) _ (fun k hk => Nat.lt_of_lt_of_le (Up.lt hS F3.out.size k hk) TSZ.out) (Whole.mk ((hA.out.up F4.out))) (Whole.mk H4.out) la9 LNB).mono ?_; rintro e w5 ⟨v5, rfl, h5, f5⟩; rw [HAB.out] at h5; obtain ⟨s5, rfl, g5⟩ := h5; obtain ⟨A5, c5, rfl⟩ := g5.slice; have H5 := Lib.hid g5; clear g5; have Ta5 := Lib.hid (ZFr.blk_fr (w := w4) Ta4.out f5 (fun h => h)); obtain ⟨xa5, ya5⟩ := whole_cells Ta5.out; have Tb5 := Lib.hid (ZFr.blk_fr (w := w4) Tb4.out f5 (fun h => h)); obtain ⟨xb5, yb5⟩ := whole_cells Tb5.out; have Tr5 := Lib.hid (ZFr.blk_fr (w := w4) Tr4.out f5 (fun h => h)); obtain ⟨xr5, yr5, pr5, qr5⟩ := whole_store Tr5.out; have F5 := Lib.hid (F4.out.trans f5 (fun _ h _ => h)); clear f5)))
  all_goals
    go_wp2_with fail
    have f9 := (F5.out.set ⟨w.heap.size + 1 + 1, 0, none⟩ (.int .i64 (sg (ab))) (.inr (by dsimp only; omega))).set ⟨w.heap.size + 1 + 1, 1, none⟩ (Value.slice A5 (dg (ab).natAbs).length c5) (.inr (by dsimp only; omega))
    refine bodyPost_ret (results_cell_row rfl _ _ (w.heap.size + 1 + 1) 82 #[.int .i64 (sg (ab)), .slice A5 (dg (ab).natAbs).length c5] (0, 0) _ rfl (ZFr.blk_set (ZFr.blk_set Tr5.out 0 _) 1 _) Try.underlying82 rfl (by kernel_rfl)) rfl ?_
    refine ⟨_, rfl, ⟨_, rfl, ?_⟩, f9⟩
    have hup : Up S w w3.drew (w.heap.size + 1 + 1) := .inr ⟨by omega, ZFr.blk_lt (w := w3.drew) Tr3.out⟩
    exact (H5.out.fr (((Fr.refl (Up S w w3.drew) w5).set ⟨w.heap.size + 1 + 1, 0, none⟩ _ (.inl hup)).set ⟨w.heap.size + 1 + 1, 1, none⟩ _ (.inl hup)) (fun _ h => h)).mono (fun _ h => .inl h)

set_option maxRecDepth 100000 in
set_option maxHeartbeats 4000000 in
theorem cmp_walk (a b : Int) (va vb : Value) (S : Nat → Prop) (w : World) (hS : ∀ k, S k → k < w.heap.size) (ha : Whole w S va a) (hb : Whole w S vb b) (la : (dg a.natAbs).length < 800) (lb : (dg b.natAbs).length < 800) : Calls Try.prog 31 #[va, vb] w fun e w' => e = .returned (.int .i64 (sg (a - b))) ∧ Fr (fun _ => False) w w' := by
  have la9 : (dg a.natAbs).length < 900 := by omega
  have lb9 : (dg b.natAbs).length < 900 := by omega
  obtain ⟨sa, rfl, hda⟩ := ha
  obtain ⟨A, c, rfl⟩ := hda.slice
  obtain ⟨sb, rfl, hdb⟩ := hb
  obtain ⟨A', c', rfl⟩ := hdb.slice
  have hA := Lib.hid hda
  have hB := Lib.hid hdb
  clear hda hdb
  have t1 := heap_alloc_new w (Obj.cells #[Value.int IntKind.i64 (sg a), Value.slice A (dg a.natAbs).length c] 82)
  have t2 := second w (Obj.cells #[Value.int IntKind.i64 (sg a), Value.slice A (dg a.natAbs).length c] 82) (Obj.cells #[Value.int IntKind.i64 (sg b), Value.slice A' (dg b.natAbs).length c'] 82)
  have t1' := ZFr.blk_alloc t1 (Obj.cells #[Value.int IntKind.i64 (sg b), Value.slice A' (dg b.natAbs).length c'] 82)
  have f2 := ((Fr.refl (fun _ => False) w).alloc (Obj.cells #[Value.int IntKind.i64 (sg a), Value.slice A (dg a.natAbs).length c] 82)).alloc (Obj.cells #[Value.int IntKind.i64 (sg b), Value.slice A' (dg b.natAbs).length c'] 82)
  clear t1
  have X := Lib.hid t1'
  have Y := Lib.hid t2
  have F2 := Lib.hid f2
  clear t1' t2 f2
  have hfld := field0
  go_enter Try.func31, Try.ntmps31
  go_wp2_with (first | (go_at_call 48; refine (sub_walk a b _ _ S _ (fun k hk => Nat.lt_of_lt_of_le (hS k hk) F2.out.size) (Whole.mk (hA.out.fr F2.out (fun _ h => h.elim))) (Whole.mk (hB.out.fr F2.out (fun _ h => h.elim))) la lb).mono ?_; rintro e w4 ⟨v4, rfl, h4, f4⟩; obtain ⟨s4, rfl, g4⟩ := h4; obtain ⟨A4, c4, rfl⟩ := g4.slice; have F4 := Lib.hid (F2.out.trans f4 (fun _ h _ => h)); clear f4 g4 X Y F2))
  go_ret
  exact ⟨rfl, F4.out⟩

set_option maxRecDepth 100000 in
set_option maxHeartbeats 4000000 in
theorem mul_walk (a b : Int) (va vb : Value) (S : Nat → Prop) (w : World) (hS : ∀ k, S k → k < w.heap.size) (ha : Whole w S va a) (hb : Whole w S vb b) (la : (dg a.natAbs).length < 800) (lb : (dg b.natAbs).length < 800) : Calls Try.prog 63 #[va, vb] w fun e w' => ∃ v', e = .returned v' ∧ Whole w' S v' (a * b) ∧ Fr (fun _ => False) w w' := by
  have la9 : (dg a.natAbs).length < 900 := by omega
  have lb9 : (dg b.natAbs).length < 900 := by omega
  have hw := Int.natAbs_mul a b
  have hsg := (Go.Proofs.YtgaicbodpneeoaaW.PrintLast.i64_w _).trans (sg_mul a b)
  obtain ⟨m, hm⟩ : ∃ m, a * b = m := ⟨_, rfl⟩
  rw [hm] at hw hsg ⊢
  have HW := Lib.hid hw
  clear hw hm
  obtain ⟨sa, rfl, hda⟩ := ha
  obtain ⟨A, c, rfl⟩ := hda.slice
  obtain ⟨sb, rfl, hdb⟩ := hb
  obtain ⟨A', c', rfl⟩ := hdb.slice
  have hA := Lib.hid hda
  have hB := Lib.hid hdb
  clear hda hdb
  have tt := tri w (Obj.cells #[Value.int IntKind.i64 (sg a), Value.slice A (dg a.natAbs).length c] 82) (Obj.cells #[Value.int IntKind.i64 (sg b), Value.slice A' (dg b.natAbs).length c'] 82) (Obj.cells #[Value.int IntKind.i64 0, Value.slice none 0 0] 82)
  generalize htt : ((w.alloc (Obj.cells #[Value.int IntKind.i64 (sg a), Value.slice A (dg a.natAbs).length c] 82)).alloc (Obj.cells #[Value.int IntKind.i64 (sg b), Value.slice A' (dg b.natAbs).length c'] 82)).alloc (Obj.cells #[Value.int IntKind.i64 0, Value.slice none 0 0] 82) = w3 at tt
  go_enter Try.func63, Try.ntmps63
  go_wp2_with fail
  obtain ⟨t1, t2, t3, f3⟩ := tt
  clear htt
  have Ta3 := Lib.hid t1
  have Tb3 := Lib.hid t2
  have Tr3 := Lib.hid t3
  have F3 := Lib.hid f3.drew
  obtain ⟨xa3, ya3⟩ := whole_cells (w := w3.drew) t1
  obtain ⟨xb3, yb3⟩ := whole_cells (w := w3.drew) t2
  clear t1 t2 t3 f3
  go_region_held3 (fun w' => w'.cell? ⟨w.heap.size, 0, none⟩ = some (.int .i64 (sg a)) ∧ w'.cell? ⟨w.heap.size, 1, none⟩ = some (Value.slice A (dg a.natAbs).length c) ∧ w'.cell? ⟨w.heap.size + 1, 0, none⟩ = some (.int .i64 (sg b)) ∧ w'.cell? ⟨w.heap.size + 1, 1, none⟩ = some (Value.slice A' (dg b.natAbs).length c'))
    (exact ⟨by first | assumption | exact cell_far (by assumption) (by dsimp only; omega) | exact cell_far (cell_far (by assumption) (by dsimp only; omega)) (by dsimp only; omega), by first | assumption | exact cell_far (by assumption) (by dsimp only; omega) | exact cell_far (cell_far (by assumption) (by dsimp only; omega)) (by dsimp only; omega), by first | assumption | exact cell_far (by assumption) (by dsimp only; omega) | exact cell_far (cell_far (by assumption) (by dsimp only; omega)) (by dsimp only; omega), by first | assumption | exact cell_far (by assumption) (by dsimp only; omega) | exact cell_far (cell_far (by assumption) (by dsimp only; omega)) (by dsimp only; omega)⟩)
    (first
      | ((go_at_call 86; refine (nmul_c a.natAbs b.natAbs _ _ (Up S w w3.drew) _ (Up.lt hS F3.out.size) la9 lb9 (hA.out.up F3.out) (hB.out.up F3.out)).mono ?_; rintro e w4 ⟨v4, rfl, h4, f4⟩; obtain ⟨A4, c4, rfl⟩ := h4.slice; have H4 := Lib.hid h4; clear h4; have Ta4 := Lib.hid (ZFr.blk_fr (w := w3.drew) Ta3.out f4 (fun h => h)); obtain ⟨xa4, ya4⟩ := whole_cells Ta4.out; have Tb4 := Lib.hid (ZFr.blk_fr (w := w3.drew) Tb3.out f4 (fun h => h)); obtain ⟨xb4, yb4⟩ := whole_cells Tb4.out; have Tr4 := Lib.hid (ZFr.blk_fr (w := w3.drew) Tr3.out f4 (fun h => h)); obtain ⟨xr4, yr4, pr4, qr4⟩ := whole_store Tr4.out; have F4 := Lib.hid (F3.out.trans f4 (fun _ h _ => h)); clear f4))
      | ((go_at_call 62; refine (make1_walk m (a.natAbs * b.natAbs) _ _ _ H4.out).mono ?_; rintro e w5 ⟨v5, rfl, h5, f5⟩; obtain ⟨s5, rfl, g5⟩ := h5 m HW.out (fun _ => rfl); obtain ⟨A5, c5, rfl⟩ := g5.slice; have H5 := Lib.hid g5; clear h5 g5; have Ta5 := Lib.hid (ZFr.blk_fr (w := w4) Ta4.out f5 (fun h => h)); obtain ⟨xa5, ya5⟩ := whole_cells Ta5.out; have Tb5 := Lib.hid (ZFr.blk_fr (w := w4) Tb4.out f5 (fun h => h)); obtain ⟨xb5, yb5⟩ := whole_cells Tb5.out; have Tr5 := Lib.hid (ZFr.blk_fr (w := w4) Tr4.out f5 (fun h => h)); obtain ⟨xr5, yr5, pr5, qr5⟩ := whole_store Tr5.out; have F5 := Lib.hid (F4.out.trans f5 (fun _ h _ => h)); clear f5)))
  all_goals
    go_wp2_with fail
    have f9 := (F5.out.set ⟨w.heap.size + 1 + 1, 0, none⟩ (.int .i64 (sg (m))) (.inr (by dsimp only; omega))).set ⟨w.heap.size + 1 + 1, 1, none⟩ (Value.slice A5 (dg (m).natAbs).length c5) (.inr (by dsimp only; omega))
    refine bodyPost_ret (results_cell_row rfl _ _ (w.heap.size + 1 + 1) 82 #[.int .i64 (sg (m)), .slice A5 (dg (m).natAbs).length c5] (0, 0) _ rfl (ZFr.blk_set (ZFr.blk_set Tr5.out 0 _) 1 _) Try.underlying82 rfl (by kernel_rfl)) rfl ?_
    refine ⟨_, rfl, ⟨_, rfl, ?_⟩, f9⟩
    have hup : Up S w w3.drew (w.heap.size + 1 + 1) := .inr ⟨by omega, ZFr.blk_lt (w := w3.drew) Tr3.out⟩
    exact (H5.out.fr (((Fr.refl (Up S w w3.drew) w5).set ⟨w.heap.size + 1 + 1, 0, none⟩ _ (.inl hup)).set ⟨w.heap.size + 1 + 1, 1, none⟩ _ (.inl hup)) (fun _ h => h)).mono (fun _ h => .inl h)

end Go.Proofs.Ytgaicbodpneeoaa.Big


/- What is used of BigI. -/
namespace Go.Proofs.Ytgaicbodpneeoaa.Big
open Go.RowKit Go.Proofs.ZFr Go.Proofs.Ytgaicbodpneeoaa.PRasterImages Go.Proofs.YtgaicbodpneeoaaW.PrintWords

theorem sg_le (n : Int) : (sg n ≤ 0 ↔ n ≤ 0) ∧ (0 ≤ sg n ↔ 0 ≤ n) ∧ (sg n < 0 ↔ n < 0) ∧ (0 < sg n ↔ 0 < n) := by unfold sg; split <;> (try split) <;> omega
theorem sg_one {n : Int} (h : ¬ sg n ≤ 0) : sg n = 1 := by unfold sg at *; split <;> (try split) <;> simp_all
theorem len4 {n : Int} (h0 : -9223372036854775808 ≤ n) (h1 : n < 9223372036854775808) : (dg n.natAbs).length < 800 := by
  have := dg_len_le 4 n.natAbs (by have : (65536 : Nat) ^ 4 = 18446744073709551616 := by decide
                                   omega)
  omega
set_option maxRecDepth 100000 in
set_option maxHeartbeats 4000000 in
theorem in_walk (a : Int) (va : Value) (S : Nat → Prop) (w : World) (hS : ∀ k, S k → k < w.heap.size) (ha : Whole w S va a) (la : (dg a.natAbs).length < 800) : Calls Try.prog 60 #[va] w fun e w' => e = .returned (.bool (decide (-1099511627776 ≤ a ∧ a ≤ 1099511627776))) ∧ Fr (fun _ => False) w w' := by
  obtain ⟨sa, rfl, hda⟩ := ha
  obtain ⟨A, c, rfl⟩ := hda.slice
  have hA := Lib.hid hda
  clear hda
  have LA := Lib.hid la
  have LC := Lib.hid (len4 (n := 1099511627776) (by decide) (by decide))
  have LD := Lib.hid (len4 (n := -1099511627776) (by decide) (by decide))
  obtain ⟨q, hq, hq0⟩ : ∃ q, sg (a - 1099511627776) = q ∧ (q ≤ 0 ↔ a ≤ 1099511627776) ∧ (¬ q ≤ 0 → q = 1) := ⟨_, rfl, by rw [(sg_le _).1]; omega, fun h => sg_one h⟩
  obtain ⟨r, hr, hr0⟩ : ∃ r, sg (a - -1099511627776) = r ∧ (0 ≤ r ↔ -1099511627776 ≤ a) := ⟨_, rfl, by rw [(sg_le _).2.1]; omega⟩
  have HQ := Lib.hid hq
  have HR := Lib.hid hr
  clear hq hr la
  have t0 := heap_alloc_new w (Obj.cells #[Value.int IntKind.i64 (sg a), Value.slice A (dg a.natAbs).length c] 82)
  have f0 := (Fr.refl (fun _ => False) w).alloc (Obj.cells #[Value.int IntKind.i64 (sg a), Value.slice A (dg a.natAbs).length c] 82)
  have T0 := Lib.hid t0
  have F0 := Lib.hid f0
  clear t0 f0
  by_cases hx : q ≤ 0
  · have hxd : decide (q ≤ 0) = true := decide_eq_true hx
    have e1 : decide (-1099511627776 ≤ a ∧ a ≤ 1099511627776) = decide (0 ≤ r) := by rw [decide_eq_decide, hr0]; exact ⟨fun h => h.1, fun h => ⟨h, hq0.1.1 hx⟩⟩
    rw [e1]
    clear e1 hq0 hr0
    go_enter Try.func60, Try.ntmps60
    go_wp2_with fail
    generalize hw1 : w.alloc (Obj.cells #[Value.int IntKind.i64 (sg a), Value.slice A (dg a.natAbs).length c] 82) = w1 at T0 F0
    obtain ⟨x0, y0⟩ := whole_cells (w := w1.drew) T0.out
    clear hw1
    go_region_law
      ((go_simp; (first
        | ((go_at_call 31; refine (cmp_walk a (-1099511627776) _ _ S w4 (fun k hk => Nat.lt_of_lt_of_le (hS k hk) F4.out.size) (Whole.mk (hA.out.fr F4.out (fun _ h => h.elim))) (Whole.mk G4.out) LA.out LD.out).mono ?_; rintro e w5 ⟨rfl, f5⟩; rw [HR.out]; have T5 := Lib.hid (ZFr.blk_fr T4.out f5 (fun h => h)); obtain ⟨x5, y5⟩ := whole_cells T5.out; have F5 := Lib.hid (F4.out.trans f5 (fun _ h _ => h)); clear f5))
        | ((go_at_call 46; refine (long_c (-1099511627776) (by decide) (by decide) S w3 (fun k hk => Nat.lt_of_lt_of_le (hS k hk) F3.out.size)).mono ?_; rintro e w4 ⟨v4, rfl, h4, f4⟩; obtain ⟨s4, rfl, g4⟩ := h4; obtain ⟨A4, c4, rfl⟩ := g4.slice; have T4 := Lib.hid (ZFr.blk_fr T3.out f4 (fun h => h)); obtain ⟨x4, y4⟩ := whole_cells T4.out; have G4 := Lib.hid g4; have F4 := Lib.hid (F3.out.trans f4 (fun _ h _ => h)); clear g4 f4))
        | ((go_at_call 31; refine (cmp_walk a 1099511627776 _ _ S w2 (fun k hk => Nat.lt_of_lt_of_le (hS k hk) F2.out.size) (Whole.mk (hA.out.fr F2.out (fun _ h => h.elim))) (Whole.mk G2.out) LA.out LC.out).mono ?_; rintro e w3 ⟨rfl, f3⟩; rw [HQ.out]; have T3 := Lib.hid (ZFr.blk_fr T2.out f3 (fun h => h)); obtain ⟨x3, y3⟩ := whole_cells T3.out; have F3 := Lib.hid (F2.out.trans f3 (fun _ h _ => h)); clear f3))
        | ((go_at_call 46; refine (long_c 1099511627776 (by decide) (by decide) S w1.drew (fun k hk => Nat.lt_of_lt_of_le (hS k hk) F0.out.size)).mono ?_; rintro e w2 ⟨v2, rfl, h2, f2⟩; obtain ⟨s2, rfl, g2⟩ := h2; obtain ⟨A2, c2, rfl⟩ := g2.slice; have T2 := Lib.hid (ZFr.blk_fr (w := w1.drew) T0.out f2 (fun h => h)); obtain ⟨x2, y2⟩ := whole_cells T2.out; have G2 := Lib.hid g2; have F2 := Lib.hid (F0.out.drew.trans f2 (fun _ h _ => h)); clear g2 f2)))))
    all_goals
      go_wp2_with fail
      go_ret
      exact ⟨rfl, F5.out⟩
  · have hq1 := hq0.2 hx
    have e1 : decide (-1099511627776 ≤ a ∧ a ≤ 1099511627776) = false := by rw [decide_eq_false_iff_not]; exact fun h => hx (hq0.1.2 h.2)
    rw [e1]
    clear e1 hq0 hr0
    clear hx
    subst hq1
    go_enter Try.func60, Try.ntmps60
    go_wp2_with fail
    generalize hw1 : w.alloc (Obj.cells #[Value.int IntKind.i64 (sg a), Value.slice A (dg a.natAbs).length c] 82) = w1 at T0 F0
    obtain ⟨x0, y0⟩ := whole_cells (w := w1.drew) T0.out
    clear hw1
    go_region_law
      ((go_simp; (first
        | ((go_at_call 31; refine (cmp_walk a 1099511627776 _ _ S w2 (fun k hk => Nat.lt_of_lt_of_le (hS k hk) F2.out.size) (Whole.mk (hA.out.fr F2.out (fun _ h => h.elim))) (Whole.mk G2.out) LA.out LC.out).mono ?_; rintro e w3 ⟨rfl, f3⟩; rw [HQ.out]; have T3 := Lib.hid (ZFr.blk_fr T2.out f3 (fun h => h)); obtain ⟨x3, y3⟩ := whole_cells T3.out; have F3 := Lib.hid (F2.out.trans f3 (fun _ h _ => h)); clear f3))
        | ((go_at_call 46; refine (long_c 1099511627776 (by decide) (by decide) S w1.drew (fun k hk => Nat.lt_of_lt_of_le (hS k hk) F0.out.size)).mono ?_; rintro e w2 ⟨v2, rfl, h2, f2⟩; obtain ⟨s2, rfl, g2⟩ := h2; obtain ⟨A2, c2, rfl⟩ := g2.slice; have T2 := Lib.hid (ZFr.blk_fr (w := w1.drew) T0.out f2 (fun h => h)); obtain ⟨x2, y2⟩ := whole_cells T2.out; have G2 := Lib.hid g2; have F2 := Lib.hid (F0.out.drew.trans f2 (fun _ h _ => h)); clear g2 f2)))))
    all_goals
      go_wp2_with fail
      go_ret
      exact ⟨rfl, F3.out⟩
end Go.Proofs.Ytgaicbodpneeoaa.Big


/- What is used of BigD. -/
namespace Go.Proofs.Ytgaicbodpneeoaa.Big
open Go.RowKit Go.Proofs.Ytgaicbodpneeoaa.PRasterImages Go.Proofs.YtgaicbodpneeoaaW.PrintWords

def DivInv (A B la m : Nat) (qs : List Int) (R : Nat) : Prop :=
  R = (A / 2 ^ m) % B ∧ qs.length = la ∧ val qs = ((A / 2 ^ m / B * 2 ^ m : Nat) : Int) ∧ ∀ j, j < la → ∃ u : Nat, qs.getD j 0 = ((2 ^ (min 16 (m - 16 * j)) * u : Nat) : Int) ∧ 2 ^ (min 16 (m - 16 * j)) * u + 2 ^ (min 16 (m - 16 * j)) ≤ 65536
theorem val_zeros (n : Nat) : val (List.replicate n 0) = 0 := by
  induction n with
  | zero => rfl
  | succ n ih => rw [List.replicate_succ, val, ih]; rfl
theorem getD_zeros (n j : Nat) : (List.replicate n (0 : Int)).getD j 0 = 0 := by simp [List.getD, List.getElem?_replicate]; split <;> rfl
theorem pow16 (j : Nat) : (65536 : Nat) ^ j = 2 ^ (16 * j) := by rw [Nat.pow_mul]
theorem div_init (A B la : Nat) (h : A < 65536 ^ la) : DivInv A B la (16 * la) (List.replicate la 0) 0 := by
  rw [pow16] at h
  have h0 : A / 2 ^ (16 * la) = 0 := Nat.div_eq_of_lt h
  refine ⟨by rw [h0, Nat.zero_mod], by simp, by rw [val_zeros, h0, Nat.zero_div, Nat.zero_mul]; rfl, fun j hj => ⟨0, by rw [getD_zeros]; rfl, ?_⟩⟩
  rw [Nat.min_eq_left (by omega)]; decide
theorem div_num (Y B : Nat) (hB : 0 < B) : (B ≤ 2 * (Y / 2 % B) + Y % 2 → Y / B = 2 * (Y / 2 / B) + 1 ∧ Y % B = 2 * (Y / 2 % B) + Y % 2 - B) ∧ (¬ B ≤ 2 * (Y / 2 % B) + Y % 2 → Y / B = 2 * (Y / 2 / B) ∧ Y % B = 2 * (Y / 2 % B) + Y % 2) := by
  have h1 := Nat.div_add_mod (Y / 2) B
  have h2 := Nat.mod_lt (Y / 2) hB
  have h3 : 2 * (Y / 2) + Y % 2 = Y := Nat.div_add_mod Y 2
  have h4 : B * (2 * (Y / 2 / B)) = 2 * (B * (Y / 2 / B)) := by rw [Nat.mul_left_comm]
  refine ⟨fun h => (Nat.div_mod_unique hB).2 ⟨?_, by omega⟩, fun h => (Nat.div_mod_unique hB).2 ⟨?_, by omega⟩⟩
  · rw [Nat.mul_add, h4, Nat.mul_one]; omega
  · rw [h4]; omega
theorem pow_split (m : Nat) : (65536 : Int) ^ (m / 16) * 2 ^ (m % 16) = ((2 ^ m : Nat) : Int) := by
  have e : (2 : Nat) ^ m = 65536 ^ (m / 16) * 2 ^ (m % 16) := by rw [pow16, ← Nat.pow_add, Nat.div_add_mod]
  rw [e, Int.natCast_mul, Int.natCast_pow, Int.natCast_pow]; rfl
theorem getD_set_eq {l : List Int} {i : Nat} {v : Int} (h : i < l.length) : (l.set i v).getD i 0 = v := by simp [List.getD, h]
theorem exp_other {m j : Nat} (h : j ≠ m / 16) : min 16 (m + 1 - 16 * j) = min 16 (m - 16 * j) := by omega
theorem exp_here (m : Nat) : min 16 (m + 1 - 16 * (m / 16)) = m % 16 + 1 ∧ min 16 (m - 16 * (m / 16)) = m % 16 := by omega
theorem div_step {A B la m : Nat} {qs : List Int} {R : Nat} (hB : 0 < B) (hm : m < 16 * la) (h : DivInv A B la (m + 1) qs R) :
    (B ≤ 2 * R + A / 2 ^ m % 2 → DivInv A B la m (qs.set (m / 16) (qs.getD (m / 16) 0 + 2 ^ (m % 16))) (2 * R + A / 2 ^ m % 2 - B)) ∧ (¬ B ≤ 2 * R + A / 2 ^ m % 2 → DivInv A B la m qs (2 * R + A / 2 ^ m % 2)) := by
  obtain ⟨hR, hl, hv, hq⟩ := h
  have hY : A / 2 ^ (m + 1) = A / 2 ^ m / 2 := by rw [Nat.pow_succ, Nat.div_div_eq_div_mul]
  rw [hY] at hR hv
  subst hR
  obtain ⟨d1, d2⟩ := div_num (A / 2 ^ m) B hB
  obtain ⟨u, hu, hub⟩ := hq (m / 16) (by omega)
  obtain ⟨e1, e2⟩ := exp_here m
  rw [e1] at hu hub
  rw [Nat.pow_succ] at hu hub
  constructor
  · intro h
    obtain ⟨a1, a2⟩ := d1 h
    refine ⟨a2.symm, by rw [List.length_set, hl], ?_, fun j hj => ?_⟩
    · rw [val_set _ _ _ (by omega), hv, Int.add_comm (qs.getD _ _), Int.add_sub_cancel, pow_split, a1, ← Int.natCast_add]
      congr 1
      rw [Nat.pow_succ, Nat.add_mul, Nat.one_mul, Nat.mul_comm (2 ^ m) 2, ← Nat.mul_assoc, Nat.mul_comm 2]
    · by_cases hjm : j = m / 16
      · subst hjm
        rw [e2, getD_set_eq (by omega), hu]
        refine ⟨2 * u + 1, ?_, ?_⟩
        · rw [Nat.mul_add, Nat.mul_one, ← Nat.mul_assoc, Int.natCast_add (2 ^ (m % 16) * 2 * u), Int.natCast_pow]; rfl
        · rw [Nat.mul_add, Nat.mul_one, ← Nat.mul_assoc]; omega
      · obtain ⟨v, hv1, hv2⟩ := hq j hj
        rw [exp_other hjm] at hv1 hv2
        exact ⟨v, by rw [getD_set_ne (fun h => hjm h.symm)]; exact hv1, hv2⟩
  · intro h
    obtain ⟨a1, a2⟩ := d2 h
    refine ⟨a2.symm, hl, ?_, fun j hj => ?_⟩
    · rw [hv, a1, Nat.pow_succ, Nat.mul_comm (2 ^ m) 2, ← Nat.mul_assoc, Nat.mul_comm 2]
    · by_cases hjm : j = m / 16
      · subst hjm
        rw [e2, hu]
        exact ⟨2 * u, by rw [Nat.mul_assoc], by rw [← Nat.mul_assoc]; omega⟩
      · obtain ⟨v, hv1, hv2⟩ := hq j hj
        rw [exp_other hjm] at hv1 hv2
        exact ⟨v, hv1, hv2⟩
theorem div_done {A B la : Nat} {qs : List Int} {R : Nat} (h : DivInv A B la 0 qs R) : R = A % B ∧ Dig qs ∧ val qs = ((A / B : Nat) : Int) := by
  obtain ⟨hR, hl, hv, hq⟩ := h
  rw [Nat.pow_zero, Nat.div_one] at hR hv
  rw [Nat.mul_one] at hv
  refine ⟨hR, fun x hx => ?_, hv⟩
  obtain ⟨i, hi, rfl⟩ := List.mem_iff_getElem.1 hx
  obtain ⟨u, h1, h2⟩ := hq i (by omega)
  rw [Nat.zero_sub, Nat.min_eq_right (by omega), Nat.pow_zero, Nat.one_mul, getD_get hi] at h1
  rw [Nat.zero_sub, Nat.min_eq_right (by omega), Nat.pow_zero, Nat.one_mul] at h2
  omega
/-- The bit of a number, read off its digits. -/
theorem bit_at {l : List Int} (hd : Dig l) {A : Nat} (hv : val l = A) (m : Nat) : (l.getD (m / 16) 0 / 2 ^ (m % 16)) % 2 = ((A / 2 ^ m % 2 : Nat) : Int) := by
  have e := val_append (l.take (m / 16)) (l.drop (m / 16))
  rw [List.take_append_drop, hv] at e
  by_cases hl : m / 16 ≤ l.length
  · rw [List.length_take, Nat.min_eq_left hl, drop_at] at e
    have h1 := val_lt (hd.take (m / 16))
    have h2 := val_nonneg (hd.take (m / 16))
    rw [List.length_take, Nat.min_eq_left hl] at h1
    have h3 := pow_pos (m / 16)
    have h4 : (A : Int) / 65536 ^ (m / 16) = l.getD (m / 16) 0 + 65536 * val (l.drop (m / 16 + 1)) := by
      rw [e, Int.add_mul_ediv_left _ _ (by omega), Int.ediv_eq_zero_of_lt h2 h1, Int.zero_add]
    have h5 : ((A / 2 ^ m : Nat) : Int) = (A : Int) / 65536 ^ (m / 16) / 2 ^ (m % 16) := by
      rw [Int.ediv_ediv_of_nonneg (Int.le_of_lt h3), pow_split]; rfl
    rw [Int.natCast_emod, h5, h4]
    obtain ⟨t, ht⟩ : ∃ t, m % 16 + t = 15 := ⟨15 - m % 16, by omega⟩
    have h6 : (65536 : Int) = 2 ^ (m % 16) * (2 * 2 ^ t) := by
      rw [show (2 : Int) ^ (m % 16) * (2 * 2 ^ t) = 2 ^ (m % 16 + t) * 2 from by rw [Int.pow_add, Int.mul_comm 2, Int.mul_assoc], ht]; rfl
    rw [h6, Int.mul_assoc, Int.add_mul_ediv_left _ _ (by have := Int.pow_pos (n := 2) (m := m % 16) (by omega); omega), Int.mul_assoc 2]
    omega
  · rw [List.take_of_length_le (by omega), List.drop_eq_nil_of_le (by omega)] at e
    rw [getD_none (by omega), Int.zero_ediv]
    have h1 := val_lt hd
    rw [hv] at h1
    have h2 : (65536 : Int) ^ l.length ≤ 65536 ^ (m / 16) := pow_le (by omega)
    have h3 : A / 2 ^ m = 0 := by
      refine Nat.div_eq_of_lt ?_
      have h4 := pow_split m
      have h5 : (1 : Int) ≤ 2 ^ (m % 16) := Int.pow_pos (by omega)
      have h6 : (65536 : Int) ^ (m / 16) * 1 ≤ 65536 ^ (m / 16) * 2 ^ (m % 16) := Int.mul_le_mul_of_nonneg_left h5 (Int.le_of_lt (pow_pos _))
      omega
    rw [h3]; rfl
end Go.Proofs.Ytgaicbodpneeoaa.Big


/- What is used of BigQ. -/
namespace Go.Proofs.Ytgaicbodpneeoaa.Big
open Go.RowKit Go.Proofs.ZFr Go.Proofs.Ytgaicbodpneeoaa.PRasterImages Go.Proofs.YtgaicbodpneeoaaW.PrintWords

def encI (qs : List Int) : Array Value := (qs.map (Value.int .i64)).toArray
theorem encI_set (qs : List Int) (j : Nat) (v : Int) : (encI qs).setIfInBounds j (.int .i64 v) = encI (qs.set j v) := by
  unfold encI
  rw [List.map_set, List.setIfInBounds_toArray]
theorem encI_get (qs : List Int) (j : Nat) (h : j < qs.length) : (encI qs)[j]? = some (.int .i64 (qs.getD j 0)) := by
  unfold encI
  simp [List.getElem?_eq_getElem h, List.getD]
theorem made_ints (n : Nat) : madeCells #[Value.int .i64 0] (n * 1) = encI (List.replicate n 0) := by
  unfold encI madeCells
  have e : ∀ x, (#[Value.int IntKind.i64 0][x % #[Value.int IntKind.i64 0].size]! : Value) = .int .i64 0 := fun x => by
    rw [show x % #[Value.int IntKind.i64 0].size = 0 from Nat.mod_one x]; rfl
  rw [Array.map_congr_left (g := fun _ => Value.int IntKind.i64 0) (fun x _ => e x)]
  apply Array.ext
  · simp
  · intro i h1 h2; simp
theorem make_ints (n : Nat) (hn : n < 1000000) (W : World) : (Instr.makeSlice 37 (.int .i64 n) (.int .i64 n)).run Try.prog W = .ok (.slice (some ⟨W.heap.size, 0, none⟩) n n) (W.alloc (.cells (encI (List.replicate n 0)) 3)) := by
  obtain ⟨i, hi, hz, h1, h2⟩ := info_parts info3
  have := run_makeSlice (P := Try.prog) (w := W) 37 3 i (.int .i64 0) Try.underlying37 hi hz .i64 .i64 n n (by omega) (by omega) (by rw [h1]; omega) (by rw [h2]; omega) (by omega)
  rw [h1, Int.toNat_natCast, show (Value.int IntKind.i64 0).cells = #[.int .i64 0] from rfl, made_ints] at this
  exact this
theorem pow2_le {t : Nat} (h : t < 16) : (2 : Int) ^ t ≤ 32768 := by
  have : (2 : Nat) ^ t ≤ 2 ^ 15 := Nat.pow_le_pow_right (by omega) (by omega)
  have e : ((2 ^ t : Nat) : Int) = 2 ^ t := by rw [Int.natCast_pow]; rfl
  omega
theorem dgs_zero (w : World) (S : Nat → Prop) (A : Option Addr) (c : Nat) : Dgs w S (.slice A 0 c) 0 :=
  ⟨A, c, by rw [dg_zero]; rfl, by rw [dg_zero]; exact ⟨rfl, by decide, fun h => absurd h (by decide)⟩, by rw [dg_zero]; exact Nat.zero_le _, fun _ _ h => by rw [dg_zero] at h; exact absurd h (by decide)⟩
theorem own_blk {w : World} {g base : Nat} {qs : List Int} (h : w.heap[g]? = some (.cells (encI qs) 3 (0, 0))) (hb : base ≤ g) (hl : qs.length ≤ 1000000) : w.ownsRow base 3 1 (.slice (some ⟨g, 0, none⟩) qs.length qs.length) qs.length (qs.map (Value.int .i64)) := by
  refine ⟨by simp, .inr ⟨g, qs.length, encI qs, rfl, hb, h, Nat.le_refl _, ?_, ?_, ?_⟩⟩
  · simp [maxLen]; omega
  · simp [encI]
  · simp only [encI, Nat.mul_one]
    exact List.take_of_length_le (by simp)
theorem dg_lt (m : Nat) : m < 65536 ^ (dg m).length := by
  have := val_lt (dg_dig m)
  rw [dg_val] at this
  exact Int.ofNat_lt.1 (by rw [Int.natCast_pow]; exact this)
theorem dgs_cell {w : World} {S : Nat → Prop} {A : Option Addr} {l c n i : Nat} (h : Dgs w S (.slice A l c) n) (hi : i < l) : ∃ ad, A = some ad ∧ w.cell? (ad.add i) = some (.int .i64 ((dg n).getD i 0)) ∧ l = (dg n).length := by
  obtain ⟨A', c', he, hC, hc, _⟩ := h
  cases he
  obtain ⟨ad, cs, rfl, hl, hK, hx⟩ := Kd.C_get hC 0 (i : Int) (by omega) (by omega)
  refine ⟨ad, rfl, ?_, rfl⟩
  have hk : cs = [.int .i64 ((dg n).getD ((i : Int).toNat) 0)] := hK
  subst hk
  have h1 := hx 0 _ rfl
  rw [show (i : Int).toNat * (Kd.int .i64).sz + 0 = i from Nat.mul_one _] at h1
  exact h1
theorem fr_cell {w w' : World} {a : Addr} {v : Value} (h : w.cell? a = some v) (hf : Fr (fun _ => False) w w') : w'.cell? a = some v := by
  have hb := World.block_lt_of_cell? w a h
  have := hf.block a.block hb (fun h => h)
  unfold World.cell? at *
  rw [this]; exact h
theorem dgs_blk {w : World} {S : Nat → Prop} {g n : Nat} (h : w.heap[g]? = some (.cells (encI (dg n)) 3 (0, 0))) (hl : (dg n).length ≤ 1000000) (hS : ∀ k, S k → k < g) : Dgs w S (.slice (some ⟨g, 0, none⟩) (dg n).length (dg n).length) n :=
  dgs_of_R (Kd.R_of_own (base := g) (ok := fun _ => True) (h1 := fun _ => rfl) (own_blk h (Nat.le_refl g) hl) (fun _ _ => trivial)) hS
theorem dgs_one {w : World} {S : Nat → Prop} {g : Nat} (h : w.heap[g]? = some (.cells #[.int .i64 1] 3 (0, 0))) (hS : ∀ k, S k → k < g) : Dgs w S (.slice (some ⟨g, 0, none⟩) 1 1) 1 := by
  have e : dg 1 = [1] := by rw [dg]; rw [dif_neg (by decide)]; rw [show 1 / 65536 = 0 from rfl, dg_zero]; rfl
  have := dgs_blk (n := 1) (S := S) (g := g) (w := w) (by rw [e]; exact h) (by rw [e]; decide) hS
  rw [e] at this
  exact this
theorem qs_cell {w : World} {g j : Nat} {qs : List Int} (h : w.heap[g]? = some (.cells (encI qs) 3 (0, 0))) (hj : j < qs.length) : w.cell? ⟨g, j, none⟩ = some (.int .i64 (qs.getD j 0)) ∧ w.frozen? ⟨g, j, none⟩ = false := ⟨(ZFr.blk_cell h j).trans (encI_get qs j hj), ZFr.blk_free h j⟩
set_option maxRecDepth 100000 in
set_option maxHeartbeats 4000000 in
theorem divmod_walk (m n : Nat) (va vb : Value) (S : Nat → Prop) (w : World) (hS : ∀ k, S k → k < w.heap.size) (ha : Dgs w S va m) (hb : Dgs w S vb n) (la : (dg m).length < 800) (lb : (dg n).length < 800) (hn : 0 < n) : Calls Try.prog 61 #[va, vb] w fun e w' => ∃ v1 v2, e = .returned (.tuple #[v1, v2]) ∧ Dgs w' S v1 (m / n) ∧ Dgs w' S v2 (m % n) ∧ Fr (fun _ => False) w w' := by
  obtain ⟨A, c, rfl⟩ := ha.slice
  obtain ⟨A', c', rfl⟩ := hb.slice
  have hA := Lib.hid ha
  have hB := Lib.hid hb
  clear ha hb
  have hmk := make_ints (dg m).length (by omega)
  have hw1 : IntKind.i64.wrap (16 * ((dg m).length : Int)) = 16 * (dg m).length := by rw [Go.Proofs.YtgaicbodpneeoaaW.PrintLast.i64_w, w64 (by omega) (by omega)]
  have hw2 : IntKind.i64.wrap (16 * ((dg m).length : Int) - 1) = 16 * (dg m).length - 1 := by rw [Go.Proofs.YtgaicbodpneeoaaW.PrintLast.i64_w, w64 (by omega) (by omega)]
  go_enter Try.func61, Try.ntmps61
  go_wp2_with fail
  clear hmk hw1 hw2
  have hup : ∀ o, Fr (fun _ => False) w (w.alloc o) := fun o => (Fr.refl _ w).alloc o
  go_loopw [7, 8] (fun r i wr => ∃ (M : Nat) (qs : List Int) (R : Nat), M ≤ 16 * (dg m).length ∧ i = .int .i64 ((M : Int) - 1) ∧ DivInv m n (dg m).length M qs R ∧ Dgs wr (fun k => S k ∨ k = w.heap.size) r R ∧ wr.heap[w.heap.size]? = some (.cells (encI qs) 3 (0, 0)) ∧ Fr (fun _ => False) w wr) (fun _ i _ => (intOf i + 1).toNat)
  case atStart => exact ⟨16 * (dg m).length, _, _, Nat.le_refl _, by congr 2, div_init m n _ (dg_lt m), dgs_zero _ _ _ _, ZFr.blk_alloc (heap_alloc_new w _) _, (hup _).alloc _⟩
  case round =>
    obtain ⟨M, qs, R, hM, rfl, hinv, hr, hq, hfr⟩ := hrel
    obtain ⟨Ar, cr, rfl⟩ := hr.slice
    have HR := Lib.hid hr
    have HQ := Lib.hid hq
    have HF := Lib.hid hfr
    have HI := Lib.hid hinv
    clear hr hq hfr hinv
    cases M with
    | zero =>
      obtain ⟨e1, e2, e3⟩ := div_done HI.out
      subst e1
      have e2 := e2
      have hql := HI.out.2.1
      have E2 := Lib.hid e2
      have E3 := Lib.hid e3
      have HTR := zelligeref03_Trim.calls 2000 (fun k => k = w.heap.size) (.slice (some ⟨w.heap.size, 0, none⟩) (dg m).length (dg m).length) qs (dg (m / n)) w wr (HF.out.below _ (Nat.le_refl _) (fun _ h => h.elim)) (Kd.R_of_own (h1 := fun _ => rfl) (by rw [← hql]; exact own_blk HQ.out (Nat.le_refl _) (by omega)) (fun k hk => by simpa [Value.ownBlock] using hk.symm)) (trim_f 2000 e2 (by omega) (by omega) e3)
      have HTR2 := Lib.hid HTR
      clear e2 e3 HTR
      go_wp2_with (go_at_call 85; refine HTR2.out.mono ?_; rintro e w4 ⟨v4, rfl, h4, hb4, hk4⟩; have H4 := Lib.hid (dgs_of_R h4 hS); have hf4 : Fr (fun k => k = w.heap.size) wr w4 := ⟨hb4.os.trans HF.out.os.symm, hb4.tape.trans HF.out.tape.symm, hb4.output.trans HF.out.output.symm, hk4.1, hk4.2⟩; have hf5 : Fr (fun _ => False) w w4 := ⟨hb4.os, hb4.tape, hb4.output, Nat.le_trans HF.out.size hk4.1, fun k hk _ => hb4.block k hk⟩; have HF5 := Lib.hid hf5; have HF4 := Lib.hid hf4; clear h4 hb4 hk4 hf4 hf5)
      go_ret2
      exact ⟨_, _, rfl, H4.out, (HR.out.fr HF4.out (fun _ h => .inr h)).mono (fun _ h => .inl h), HF5.out⟩
    | succ M =>
      rw [show ((M + 1 : Nat) : Int) - 1 = (M : Int) from by omega]
      obtain ⟨j, hj, hjl⟩ : ∃ j, M / 16 = j ∧ j < (dg m).length := ⟨_, rfl, by omega⟩
      have hq1 : Int.tdiv (M : Int) 16 = (j : Int) := by rw [Int.tdiv_eq_ediv_of_nonneg (by omega)]; omega
      have hr1 : Int.tmod (M : Int) 16 = ((M % 16 : Nat) : Int) := by rw [Int.tmod_eq_emod_of_nonneg (by omega)]; omega
      obtain ⟨t, ht, ht16⟩ : ∃ t, M % 16 = t ∧ t < 16 := ⟨_, rfl, by omega⟩
      rw [ht] at hr1
      have HQ1 := Lib.hid hq1
      have HR1 := Lib.hid hr1
      clear hq1 hr1
      have hjl' : (j : Int) < (dg m).length := by omega
      obtain ⟨ad, rfl, hcell0, _⟩ := dgs_cell (i := j) hA.out hjl
      have hcell := fr_cell hcell0 HF.out
      clear hcell0
      obtain ⟨st1, st2⟩ := div_step hn (by omega) HI.out
      have hbt := bit_at (dg_dig m) (dg_val m) M
      rw [hj, ht] at hbt st1
      have hd0 := (dg_dig m).getD j
      generalize (dg m).getD j 0 = d at hcell hbt hd0
      have hql := HI.out.2.1
      obtain ⟨β, hβ, hβ2⟩ : ∃ β, m / 2 ^ M % 2 = β ∧ β < 2 := ⟨_, rfl, by omega⟩
      rw [hβ] at hbt st1 st2
      have hdt : Int.tmod (d / 2 ^ t) 2 = (β : Int) := by rw [Int.tmod_eq_emod_of_nonneg (Int.ediv_nonneg hd0.1 (Int.le_of_lt (Int.pow_pos (by omega))))]; exact hbt
      have HDT := Lib.hid hdt
      clear hbt hdt
      have hRn : R < n := by rw [HI.out.1]; exact Nat.mod_lt _ hn
      have hlr : (dg R).length ≤ (dg n).length := dg_mono (Nat.le_of_lt hRn)
      have hl9 : (dg R).length < 900 := by omega
      have hl8 : (dg (R + R)).length < 900 := by have := dg_add (m := R) (n := R) (k := (dg n).length) hlr hlr; omega
      have hl7 : (dg (R + R + 1)).length < 900 := Nat.lt_of_le_of_lt (dg_mono (by omega : R + R + 1 ≤ n + n)) (by have := dg_add (m := n) (n := n) (k := (dg n).length) (Nat.le_refl _) (Nat.le_refl _); omega)
      have hl1 : (dg 1).length < 900 := by rw [dg, dif_neg (by decide), show 1 / 65536 = 0 from rfl, dg_zero]; decide
      have hS2 : ∀ k, (S k ∨ k = w.heap.size) → k < wr.heap.size := fun k hk => by
        have h1 := ZFr.blk_lt HQ.out
        rcases hk with hk | hk
        · have := hS k hk; omega
        · omega
      have HC := Lib.hid hcell
      have HS2 := Lib.hid hS2
      have HL9 := Lib.hid hl9
      have HL8 := Lib.hid hl8
      have HL7 := Lib.hid hl7
      have HL1 := Lib.hid hl1
      clear hcell hS2 hl9 hl8 hl7 hl1
      by_cases hb1 : β = 1
      · subst hb1
        by_cases hge : n ≤ R + R + 1
        · have hq9 : 0 ≤ cmp3 ((R + R + 1) : Nat) n := by unfold cmp3; split; omega; split <;> omega
          obtain ⟨q, hq, hq0⟩ : ∃ q, cmp3 ((R + R + 1) : Nat) n = q ∧ 0 ≤ q := ⟨_, rfl, hq9⟩
          have HQC := Lib.hid hq
          have hfin := st1 (by omega)
          rw [show 2 * R + 1 = R + R + 1 from by omega] at hfin
          have HGE := Lib.hid (show n ≤ (R + R + 1) from by omega)
          have HJL := Lib.hid (show j < qs.length from by omega)
          have hqv : 0 ≤ qs.getD j 0 ∧ qs.getD j 0 < 65536 := by
            obtain ⟨u, hu, hub⟩ := HI.out.2.2.2 j hjl
            have : 0 < 2 ^ (min 16 (M + 1 - 16 * j)) := Nat.pow_pos (by omega)
            omega
          obtain ⟨qv, hqe⟩ : ∃ qv, qs.getD j 0 = qv := ⟨_, rfl⟩
          rw [hqe] at hqv hfin
          have HQE := Lib.hid hqe
          have h2t : (2 : Int) ^ t ≤ 32768 := pow2_le ht16
          have h2p : (0 : Int) < 2 ^ t := Int.pow_pos (by omega)
          clear hqe
          have HFIN := Lib.hid hfin
          clear hq hq9 hfin st1 st2 hge hlr hRn hβ hj ht
          have hq1 := HQ1.out
          have hr1 := HR1.out
          have hdt := HDT.out
          go_wp2_with (first
            | (go_at_call 82; refine (nadd_c (R + R) 1 _ _ (fun k => S k ∨ k = w.heap.size) _ (fun k hk => Nat.lt_of_lt_of_le (Z2.out k hk) ((Fr.refl (fun _ => False) w2).alloc _).size) HL8.out HL1.out (H2.out.fr ((Fr.refl (fun _ => False) w2).alloc _) (fun _ h => h.elim)) (dgs_one (heap_alloc_new w2 _) Z2.out)).mono ?_; rintro e w3 ⟨v3, rfl, h3, f3⟩; obtain ⟨A3, c3, rfl⟩ := h3.slice; have H3 := Lib.hid h3; have Q3 := Lib.hid (ZFr.blk_fr (ZFr.blk_alloc Q2.out _) f3 (fun h => h)); have F3 := Lib.hid ((F2.out.alloc _).trans f3 (fun _ h _ => h)); have Z3 := Lib.hid (fun k hk => Nat.lt_of_lt_of_le (Z2.out k hk) (Nat.le_trans ((Fr.refl (fun _ => False) w2).alloc (Obj.cells #[.int .i64 1] 3)).size f3.size)); clear h3 f3)
            | (go_at_call 82; refine (nadd_c R R _ _ (fun k => S k ∨ k = w.heap.size) _ HS2.out HL9.out HL9.out HR.out HR.out).mono ?_; rintro e w2 ⟨v2, rfl, h2, f2⟩; obtain ⟨A2, c2, rfl⟩ := h2.slice; have cc2 := fr_cell HC.out f2; have H2 := Lib.hid h2; have Q2 := Lib.hid (ZFr.blk_fr HQ.out f2 (fun h => h)); have F2 := Lib.hid (HF.out.trans f2 (fun _ h _ => h)); have Z2 := Lib.hid (fun k hk => Nat.lt_of_lt_of_le (HS2.out k hk) f2.size); clear h2 f2)
            | (go_at_call 83; refine (ncmp_c (R + R + 1) n _ _ S _ HL7.out (H3.out.mono (fun _ h => .inl h)) (hB.out.fr F3.out (fun _ h => h.elim))).mono ?_; rintro e w4 ⟨rfl, f4⟩; rw [HQC.out]; have Q4 := Lib.hid (ZFr.blk_fr Q3.out f4 (fun h => h)); have F4 := Lib.hid (F3.out.trans f4 (fun _ h _ => h)); have Z4 := Lib.hid (fun k hk => Nat.lt_of_lt_of_le (Z3.out k hk) f4.size); have H4 := Lib.hid (H3.out.fr f4 (fun _ h => h.elim)); clear f4)
            | (go_at_call 84; refine (nsub_c (R + R + 1) n _ _ (fun k => S k ∨ k = w.heap.size) _ Z4.out HL7.out HGE.out H4.out ((hB.out.up (w' := w4) F4.out).mono (fun k hk => hk.elim .inl (fun h => .inr ⟨Nat.le_of_eq h.symm, h ▸ ZFr.blk_lt Q4.out⟩)))).mono ?_; rintro e w5 ⟨v5, rfl, h5, f5⟩; obtain ⟨A5, c5, rfl⟩ := h5.slice; have q5 := ZFr.blk_fr Q4.out f5 (fun h => h); obtain ⟨cc5, fr5⟩ := qs_cell q5 HJL.out; rw [HQE.out] at cc5; have Q5 := Lib.hid q5; have F5 := Lib.hid (F4.out.trans f5 (fun _ h _ => h)); have H5 := Lib.hid h5; clear h5 f5 q5)
            )
          clear hq1 hr1 hdt
          go_roundw
          case rel => exact ⟨M, qs.set j (qv + 2 ^ t), (R + R + 1) - n, by omega, rfl, HFIN.out, H5.out.fr ((Fr.refl (fun k => S k ∨ k = w.heap.size) w5).set ⟨w.heap.size, j, none⟩ _ (.inl (.inr rfl))) (fun _ h => h), (by rw [← encI_set]; exact ZFr.blk_set Q5.out j _), F5.out.set _ _ (.inr (Nat.le_refl _))⟩
          case measure => simp [intOf]
  
        · have hq9 : cmp3 ((R + R + 1) : Nat) n < 0 := by unfold cmp3; split; omega; split <;> omega
          obtain ⟨q, hq, hq0⟩ : ∃ q, cmp3 ((R + R + 1) : Nat) n = q ∧ q < 0 := ⟨_, rfl, hq9⟩
          have hq0x : ¬ 0 ≤ q := by omega
          have HQC := Lib.hid hq
          have hfin := st2 (by omega)
          rw [show 2 * R + 1 = R + R + 1 from by omega] at hfin
          have HFIN := Lib.hid hfin
          clear hq hq9 hfin st1 st2 hge hlr hRn hβ hj ht
          have hq1 := HQ1.out
          have hr1 := HR1.out
          have hdt := HDT.out
          go_wp2_with (first
            | (go_at_call 82; refine (nadd_c (R + R) 1 _ _ (fun k => S k ∨ k = w.heap.size) _ (fun k hk => Nat.lt_of_lt_of_le (Z2.out k hk) ((Fr.refl (fun _ => False) w2).alloc _).size) HL8.out HL1.out (H2.out.fr ((Fr.refl (fun _ => False) w2).alloc _) (fun _ h => h.elim)) (dgs_one (heap_alloc_new w2 _) Z2.out)).mono ?_; rintro e w3 ⟨v3, rfl, h3, f3⟩; obtain ⟨A3, c3, rfl⟩ := h3.slice; have H3 := Lib.hid h3; have Q3 := Lib.hid (ZFr.blk_fr (ZFr.blk_alloc Q2.out _) f3 (fun h => h)); have F3 := Lib.hid ((F2.out.alloc _).trans f3 (fun _ h _ => h)); have Z3 := Lib.hid (fun k hk => Nat.lt_of_lt_of_le (Z2.out k hk) (Nat.le_trans ((Fr.refl (fun _ => False) w2).alloc (Obj.cells #[.int .i64 1] 3)).size f3.size)); clear h3 f3)
            | (go_at_call 82; refine (nadd_c R R _ _ (fun k => S k ∨ k = w.heap.size) _ HS2.out HL9.out HL9.out HR.out HR.out).mono ?_; rintro e w2 ⟨v2, rfl, h2, f2⟩; obtain ⟨A2, c2, rfl⟩ := h2.slice; have cc2 := fr_cell HC.out f2; have H2 := Lib.hid h2; have Q2 := Lib.hid (ZFr.blk_fr HQ.out f2 (fun h => h)); have F2 := Lib.hid (HF.out.trans f2 (fun _ h _ => h)); have Z2 := Lib.hid (fun k hk => Nat.lt_of_lt_of_le (HS2.out k hk) f2.size); clear h2 f2)
            | (go_at_call 83; refine (ncmp_c (R + R + 1) n _ _ S _ HL7.out (H3.out.mono (fun _ h => .inl h)) (hB.out.fr F3.out (fun _ h => h.elim))).mono ?_; rintro e w4 ⟨rfl, f4⟩; rw [HQC.out]; have Q4 := Lib.hid (ZFr.blk_fr Q3.out f4 (fun h => h)); have F4 := Lib.hid (F3.out.trans f4 (fun _ h _ => h)); have Z4 := Lib.hid (fun k hk => Nat.lt_of_lt_of_le (Z3.out k hk) f4.size); have H4 := Lib.hid (H3.out.fr f4 (fun _ h => h.elim)); clear f4)
            )
          clear hq1 hr1 hdt
          go_roundw
          case rel => exact ⟨M, qs, (R + R + 1), by omega, rfl, HFIN.out, H4.out, Q4.out, F4.out⟩
          case measure => simp [intOf]
  
      · obtain rfl : β = 0 := by omega
        by_cases hge : n ≤ R + R
        · have hq9 : 0 ≤ cmp3 ((R + R) : Nat) n := by unfold cmp3; split; omega; split <;> omega
          obtain ⟨q, hq, hq0⟩ : ∃ q, cmp3 ((R + R) : Nat) n = q ∧ 0 ≤ q := ⟨_, rfl, hq9⟩
          have HQC := Lib.hid hq
          have hfin := st1 (by omega)
          rw [show 2 * R + 0 = R + R from by omega] at hfin
          have HGE := Lib.hid (show n ≤ (R + R) from by omega)
          have HJL := Lib.hid (show j < qs.length from by omega)
          have hqv : 0 ≤ qs.getD j 0 ∧ qs.getD j 0 < 65536 := by
            obtain ⟨u, hu, hub⟩ := HI.out.2.2.2 j hjl
            have : 0 < 2 ^ (min 16 (M + 1 - 16 * j)) := Nat.pow_pos (by omega)
            omega
          obtain ⟨qv, hqe⟩ : ∃ qv, qs.getD j 0 = qv := ⟨_, rfl⟩
          rw [hqe] at hqv hfin
          have HQE := Lib.hid hqe
          have h2t : (2 : Int) ^ t ≤ 32768 := pow2_le ht16
          have h2p : (0 : Int) < 2 ^ t := Int.pow_pos (by omega)
          clear hqe
          have HFIN := Lib.hid hfin
          clear hq hq9 hfin st1 st2 hge hlr hRn hβ hj ht
          have hq1 := HQ1.out
          have hr1 := HR1.out
          have hdt := HDT.out
          go_wp2_with (first
            | (go_at_call 82; refine (nadd_c R R _ _ (fun k => S k ∨ k = w.heap.size) _ HS2.out HL9.out HL9.out HR.out HR.out).mono ?_; rintro e w2 ⟨v2, rfl, h2, f2⟩; obtain ⟨A2, c2, rfl⟩ := h2.slice; have cc2 := fr_cell HC.out f2; have H2 := Lib.hid h2; have Q2 := Lib.hid (ZFr.blk_fr HQ.out f2 (fun h => h)); have F2 := Lib.hid (HF.out.trans f2 (fun _ h _ => h)); have Z2 := Lib.hid (fun k hk => Nat.lt_of_lt_of_le (HS2.out k hk) f2.size); clear h2 f2)
            | (go_at_call 83; refine (ncmp_c (R + R) n _ _ S _ HL8.out (H2.out.mono (fun _ h => .inl h)) (hB.out.fr F2.out (fun _ h => h.elim))).mono ?_; rintro e w4 ⟨rfl, f4⟩; rw [HQC.out]; have Q4 := Lib.hid (ZFr.blk_fr Q2.out f4 (fun h => h)); have F4 := Lib.hid (F2.out.trans f4 (fun _ h _ => h)); have Z4 := Lib.hid (fun k hk => Nat.lt_of_lt_of_le (Z2.out k hk) f4.size); have H4 := Lib.hid (H2.out.fr f4 (fun _ h => h.elim)); clear f4)
            | (go_at_call 84; refine (nsub_c (R + R) n _ _ (fun k => S k ∨ k = w.heap.size) _ Z4.out HL8.out HGE.out H4.out ((hB.out.up (w' := w4) F4.out).mono (fun k hk => hk.elim .inl (fun h => .inr ⟨Nat.le_of_eq h.symm, h ▸ ZFr.blk_lt Q4.out⟩)))).mono ?_; rintro e w5 ⟨v5, rfl, h5, f5⟩; obtain ⟨A5, c5, rfl⟩ := h5.slice; have q5 := ZFr.blk_fr Q4.out f5 (fun h => h); obtain ⟨cc5, fr5⟩ := qs_cell q5 HJL.out; rw [HQE.out] at cc5; have Q5 := Lib.hid q5; have F5 := Lib.hid (F4.out.trans f5 (fun _ h _ => h)); have H5 := Lib.hid h5; clear h5 f5 q5)
            )
          clear hq1 hr1 hdt
          go_roundw
          case rel => exact ⟨M, qs.set j (qv + 2 ^ t), (R + R) - n, by omega, rfl, HFIN.out, H5.out.fr ((Fr.refl (fun k => S k ∨ k = w.heap.size) w5).set ⟨w.heap.size, j, none⟩ _ (.inl (.inr rfl))) (fun _ h => h), (by rw [← encI_set]; exact ZFr.blk_set Q5.out j _), F5.out.set _ _ (.inr (Nat.le_refl _))⟩
          case measure => simp [intOf]
  
        · have hq9 : cmp3 ((R + R) : Nat) n < 0 := by unfold cmp3; split; omega; split <;> omega
          obtain ⟨q, hq, hq0⟩ : ∃ q, cmp3 ((R + R) : Nat) n = q ∧ q < 0 := ⟨_, rfl, hq9⟩
          have hq0x : ¬ 0 ≤ q := by omega
          have HQC := Lib.hid hq
          have hfin := st2 (by omega)
          rw [show 2 * R + 0 = R + R from by omega] at hfin
          have HFIN := Lib.hid hfin
          clear hq hq9 hfin st1 st2 hge hlr hRn hβ hj ht
          have hq1 := HQ1.out
          have hr1 := HR1.out
          have hdt := HDT.out
          go_wp2_with (first
            | (go_at_call 82; refine (nadd_c R R _ _ (fun k => S k ∨ k = w.heap.size) _ HS2.out HL9.out HL9.out HR.out HR.out).mono ?_; rintro e w2 ⟨v2, rfl, h2, f2⟩; obtain ⟨A2, c2, rfl⟩ := h2.slice; have cc2 := fr_cell HC.out f2; have H2 := Lib.hid h2; have Q2 := Lib.hid (ZFr.blk_fr HQ.out f2 (fun h => h)); have F2 := Lib.hid (HF.out.trans f2 (fun _ h _ => h)); have Z2 := Lib.hid (fun k hk => Nat.lt_of_lt_of_le (HS2.out k hk) f2.size); clear h2 f2)
            | (go_at_call 83; refine (ncmp_c (R + R) n _ _ S _ HL8.out (H2.out.mono (fun _ h => .inl h)) (hB.out.fr F2.out (fun _ h => h.elim))).mono ?_; rintro e w4 ⟨rfl, f4⟩; rw [HQC.out]; have Q4 := Lib.hid (ZFr.blk_fr Q2.out f4 (fun h => h)); have F4 := Lib.hid (F2.out.trans f4 (fun _ h _ => h)); have Z4 := Lib.hid (fun k hk => Nat.lt_of_lt_of_le (Z2.out k hk) f4.size); have H4 := Lib.hid (H2.out.fr f4 (fun _ h => h.elim)); clear f4)
            )
          clear hq1 hr1 hdt
          go_roundw
          case rel => exact ⟨M, qs, (R + R), by omega, rfl, HFIN.out, H4.out, Q4.out, F4.out⟩
          case measure => simp [intOf]
  
end Go.Proofs.Ytgaicbodpneeoaa.Big


/- What is used of BigZ. -/
namespace Go.Proofs.Ytgaicbodpneeoaa.Big
open Go.RowKit Go.Proofs.ZFr Go.Proofs.Ytgaicbodpneeoaa.PRasterImages Go.Proofs.YtgaicbodpneeoaaW.PrintWords
theorem four (w : World) (o1 o2 o3 o4 : Obj) : ((((w.alloc o1).alloc o2).alloc o3).alloc o4).heap[w.heap.size]? = some o1 ∧ ((((w.alloc o1).alloc o2).alloc o3).alloc o4).heap[w.heap.size + 1]? = some o2 ∧ ((((w.alloc o1).alloc o2).alloc o3).alloc o4).heap[w.heap.size + 1 + 1]? = some o3 ∧ ((((w.alloc o1).alloc o2).alloc o3).alloc o4).heap[w.heap.size + 1 + 1 + 1]? = some o4 ∧ Fr (fun _ => False) w ((((w.alloc o1).alloc o2).alloc o3).alloc o4) := by
  obtain ⟨h1, h2, h3, f⟩ := tri w o1 o2 o3
  have h4 := (tri (w.alloc o1) o2 o3 o4).2.2.1
  rw [show (w.alloc o1).heap.size = w.heap.size + 1 from Array.size_push ..] at h4
  exact ⟨ZFr.blk_alloc h1 _, ZFr.blk_alloc h2 _, ZFr.blk_alloc h3 _, h4, f.alloc _⟩
theorem floor_num (a b : Int) (hb : 0 < b) : ∃ q0 : Int, q0.natAbs = a.natAbs / b.natAbs ∧ (a.natAbs / b.natAbs ≠ 0 → sg a = sg q0) ∧ (sg a < 0 ∧ a.natAbs % b.natAbs ≠ 0 → a / b = q0 - 1) ∧ (¬ (sg a < 0 ∧ a.natAbs % b.natAbs ≠ 0) → a / b = q0) := by
  obtain ⟨B, rfl⟩ := Int.eq_ofNat_of_zero_le (Int.le_of_lt hb)
  rw [Int.natAbs_natCast]
  have hB : 0 < B := by omega
  by_cases ha : 0 ≤ a
  · obtain ⟨A, rfl⟩ := Int.eq_ofNat_of_zero_le ha
    rw [Int.natAbs_natCast]
    have hs : ¬ sg (A : Int) < 0 := by unfold sg; split; omega; split <;> omega
    refine ⟨((A / B : Nat) : Int), Int.natAbs_natCast _, fun h => ?_, fun h => absurd h.1 hs, fun _ => rfl⟩
    have h0 : A ≠ 0 := fun h0 => h (by rw [h0, Nat.zero_div])
    generalize A / B = D at h
    unfold sg
    rw [if_neg (by omega), if_neg (by omega), if_neg (by omega), if_neg (by omega)]
  · obtain ⟨A, hA⟩ : ∃ A : Nat, a = -(A : Int) := ⟨a.natAbs, by omega⟩
    subst hA
    have hs : sg (-(A : Int)) = -1 := by unfold sg; rw [if_neg (by omega), if_pos (by omega)]
    rw [hs, Int.natAbs_neg, Int.natAbs_natCast]
    have e := Nat.div_add_mod A B
    have hm := Nat.mod_lt A hB
    have e2 : ((B * (A / B) : Nat) : Int) = (B : Int) * ((A / B : Nat) : Int) := Int.natCast_mul ..
    generalize A / B = D at *
    generalize A % B = M at *
    have e3 : (B : Int) * D + M = A := by rw [← e2]; omega
    refine ⟨-(D : Int), by rw [Int.natAbs_neg, Int.natAbs_natCast], fun h => ?_, fun h => ?_, fun h => ?_⟩
    · unfold sg
      rw [if_neg (by omega), if_pos (by omega)]
    · refine ((Int.ediv_emod_unique (r := (B : Int) - M) (q := -(D : Int) - 1) hb).2 ⟨?_, by omega, by omega⟩).1
      rw [Int.mul_sub, Int.mul_neg]
      omega
    · have h0 : M = 0 := by
        by_cases h0 : M = 0
        · exact h0
        · exact absurd ⟨by omega, h0⟩ h
      refine ((Int.ediv_emod_unique (r := 0) (q := -(D : Int)) hb).2 ⟨?_, by omega, by omega⟩).1
      rw [Int.mul_neg]
      omega
theorem Dgs.new {w W : World} {S : Nat → Prop} {v : Value} {n : Nat} (h : Dgs w S v n) (hf : Fr (fun _ => False) w W) : Dgs W (fun k => S k ∨ k = w.heap.size) v n :=
  (h.up (w' := w.alloc (.cells #[] 3)) hf).mono (fun k hk => hk.imp id (fun h => ⟨Nat.le_of_eq h.symm, by rw [h]; simp⟩))
theorem len_sub_one {q : Int} {k : Nat} (h : (dg q.natAbs).length ≤ k) (hk : 1 ≤ k) : (dg (q - 1).natAbs).length ≤ k + 1 :=
  Nat.le_trans (dg_mono (by omega : (q - 1).natAbs ≤ q.natAbs + 1)) (dg_add h (by rw [dg, dif_neg (by decide), show 1 / 65536 = 0 from rfl, dg_zero]; exact hk))
theorem dg_mul {m n a b : Nat} (hm : (dg m).length ≤ a) (hn : (dg n).length ≤ b) : (dg (m * n)).length ≤ a + b := by
  refine dg_len_le (a + b) (m * n) ?_
  have h1 := val_lt (dg_dig m)
  have h2 := val_lt (dg_dig n)
  rw [dg_val] at h1 h2
  have h3 : (65536 : Int) ^ (dg m).length ≤ 65536 ^ a := pow_le hm
  have h4 : (65536 : Int) ^ (dg n).length ≤ 65536 ^ b := pow_le hn
  have e1 : ((65536 ^ a : Nat) : Int) = 65536 ^ a := by rw [Int.natCast_pow]; rfl
  have e2 : ((65536 ^ b : Nat) : Int) = 65536 ^ b := by rw [Int.natCast_pow]; rfl
  have h5 : m < 65536 ^ a := by omega
  have h6 : n < 65536 ^ b := by omega
  rw [Nat.pow_add]
  exact Nat.mul_lt_mul'' h5 h6
set_option maxRecDepth 100000 in
set_option maxHeartbeats 8000000 in
theorem floor_walk (a b : Int) (va vb : Value) (S : Nat → Prop) (w : World) (hS : ∀ k, S k → k < w.heap.size) (hb0 : 0 < b) (ha : Whole w S va a) (hb : Whole w S vb b) (la : (dg a.natAbs).length < 300) (lb : (dg b.natAbs).length < 300) : Calls Try.prog 45 #[va, vb] w fun e w' => ∃ v1 v2, e = .returned (.tuple #[v1, v2]) ∧ Whole w' S v1 (a / b) ∧ Whole w' S v2 (a % b) ∧ Fr (fun _ => False) w w' := by
  obtain ⟨sa, rfl, hda⟩ := ha
  obtain ⟨A, c, rfl⟩ := hda.slice
  obtain ⟨sb, rfl, hdb⟩ := hb
  obtain ⟨A', c', rfl⟩ := hdb.slice
  have hA := Lib.hid hda
  have hB := Lib.hid hdb
  clear hda hdb
  have hm1 : IntKind.i64.wrap (sg a * sg b) = sg a := by
    rw [show sg b = 1 from by unfold sg; rw [if_neg (by omega), if_neg (by omega)], Int.mul_one, Go.Proofs.YtgaicbodpneeoaaW.PrintLast.i64_w]
    have e : wrap64 0 = 0 ∧ wrap64 1 = 1 ∧ wrap64 (-1) = -1 := by unfold wrap64; omega
    unfold sg
    split
    · exact e.1
    · split
      · exact e.2.2
      · exact e.2.1
  have hn1 : 0 < b.natAbs := by omega
  have la8 : (dg a.natAbs).length < 800 := by omega
  have lb8 : (dg b.natAbs).length < 800 := by omega
  obtain ⟨q0, hq1, hq2, hq3, hq4⟩ := floor_num a b hb0
  have hlq : (dg q0.natAbs).length ≤ 299 := by rw [hq1]; exact Nat.le_trans (dg_mono (Nat.div_le_self _ _)) (by omega)
  obtain ⟨Q, hQ⟩ : ∃ Q, a / b = Q := ⟨_, rfl⟩
  obtain ⟨R, hR⟩ : ∃ R, a % b = R := ⟨_, rfl⟩
  obtain ⟨m, hm⟩ : ∃ m, Q * b = m := ⟨_, rfl⟩
  have hrn : a - m = R := by
    have := Int.emod_def a b
    rw [← hm, ← hQ, ← hR, Int.mul_comm]
    omega
  rw [hQ] at hq3 hq4 ⊢
  rw [hR]
  have hlQ : (dg Q.natAbs).length ≤ 300 := by
    by_cases hx : sg a < 0 ∧ a.natAbs % b.natAbs ≠ 0
    · rw [hq3 hx]; exact len_sub_one hlq (by omega)
    · rw [hq4 hx]; omega
  have hlm : (dg m.natAbs).length < 800 := by
    rw [← hm, Int.natAbs_mul]
    have := dg_mul hlQ (Nat.le_of_lt lb)
    omega
  have LA := Lib.hid la8
  have LB := Lib.hid lb8
  have LQ := Lib.hid (show (dg Q.natAbs).length < 800 from by omega)
  have LM := Lib.hid hlm
  have MN := Lib.hid hm
  have RN := Lib.hid hrn
  have LQ0 := Lib.hid (show (dg q0.natAbs).length < 800 from by omega)
  have L1 := Lib.hid (show (dg (1 : Int).natAbs).length < 800 from by rw [show (1 : Int).natAbs = 1 from rfl, dg, dif_neg (by decide), show 1 / 65536 = 0 from rfl, dg_zero]; decide)
  generalize hu : a.natAbs / b.natAbs = u at hq1 hq2
  generalize hr : a.natAbs % b.natAbs = r at hq3 hq4
  have HN := Lib.hid (And.intro hq1 hq2)
  have HU := Lib.hid hu
  have HRR := Lib.hid hr
  have HN1 := Lib.hid hn1
  clear hq1 hq2 hlq hlQ hlm hm hrn hQ hR la8 lb8 hu hr hn1
  go_enter Try.func45, Try.ntmps45
  go_wp2_with fail
  obtain ⟨t1, t2, t3, t4, f4⟩ := four w (Obj.cells #[Value.int IntKind.i64 (sg a), Value.slice A (dg a.natAbs).length c] 82) (Obj.cells #[Value.int IntKind.i64 (sg b), Value.slice A' (dg b.natAbs).length c'] 82) (Obj.cells #[Value.int IntKind.i64 0, Value.slice none 0 0] 82) (Obj.cells #[Value.int IntKind.i64 0, Value.slice none 0 0] 82)
  generalize (((w.alloc (Obj.cells #[Value.int IntKind.i64 (sg a), Value.slice A (dg a.natAbs).length c] 82)).alloc (Obj.cells #[Value.int IntKind.i64 (sg b), Value.slice A' (dg b.natAbs).length c'] 82)).alloc (Obj.cells #[Value.int IntKind.i64 0, Value.slice none 0 0] 82)).alloc (Obj.cells #[Value.int IntKind.i64 0, Value.slice none 0 0] 82) = w4 at t1 t2 t3 t4 f4 ⊢
  have T1 := Lib.hid t1
  have T2 := Lib.hid t2
  have T3 := Lib.hid t3
  have T4 := Lib.hid t4
  have F4 := Lib.hid f4
  clear t1 t2 t3 t4 f4
  refine (divmod_walk a.natAbs b.natAbs _ _ (Up S w w4) _ (Up.lt hS F4.out.size) (hA.out.up F4.out) (hB.out.up F4.out) LA.out LB.out HN1.out).mono ?_
  rw [HU.out, HRR.out]
  rintro e w5 ⟨v1, v2, rfl, h1, h2, f5⟩
  obtain ⟨A1, c1, rfl⟩ := h1.slice
  obtain ⟨A2, c2, rfl⟩ := h2.slice
  have S1 := Lib.hid (ZFr.blk_fr T1.out f5 (fun h => h))
  have S2 := Lib.hid (ZFr.blk_fr T2.out f5 (fun h => h))
  have S3 := Lib.hid (ZFr.blk_fr T3.out f5 (fun h => h))
  have S4 := Lib.hid (ZFr.blk_fr T4.out f5 (fun h => h))
  obtain ⟨x1, y1⟩ := whole_cells S1.out
  obtain ⟨x2, y2⟩ := whole_cells S2.out
  have H1 := Lib.hid h1
  have F45 := Lib.hid f5.size
  have F5 := Lib.hid (F4.out.trans f5 (fun _ h _ => h))
  clear h1 h2 f5
  by_cases hneg : sg a < 0
  · by_cases hr0 : r = 0
    · subst hr0
      have hlr : (dg 0).length = 0 := by rw [dg_zero]; rfl
      have hQ0 := hq4 (fun h => h.2 rfl)
      subst hQ0
      go_wp2_with (first
        | (go_at_call 62; refine (make1_walk a u _ _ _ H1.out).mono ?_; rintro e w6 ⟨v6, rfl, h6, f6⟩; obtain ⟨s6, rfl, g6⟩ := h6 Q HN.out.1 HN.out.2; obtain ⟨A6, c6, rfl⟩ := g6.slice; have R1 := Lib.hid (ZFr.blk_fr S1.out f6 (fun h => h)); have R2 := Lib.hid (ZFr.blk_fr S2.out f6 (fun h => h)); have R3 := Lib.hid (ZFr.blk_fr S3.out f6 (fun h => h)); have R4 := Lib.hid (ZFr.blk_fr S4.out f6 (fun h => h)); have x3 := fun o => (whole_cells (ZFr.blk_alloc R1.out o)).1; have y3 := fun o => (whole_cells (ZFr.blk_alloc R1.out o)).2; have x4 := fun o => (whole_cells (ZFr.blk_alloc R2.out o)).1; have y4 := fun o => (whole_cells (ZFr.blk_alloc R2.out o)).2; have G6 := Lib.hid g6; have F46 := Lib.hid (Nat.le_trans F45.out f6.size); have F6 := Lib.hid (F5.out.trans f6 (fun _ h _ => h)); clear h6 g6 f6))
      clear x3 y3 x4 y4 hm1
      have hgq := ZFr.blk_lt R4.out
      have TUP := Lib.hid (show ∀ (v : Value) (n : Nat), Dgs w S v n → ∀ W, Fr (fun _ => False) w W → Dgs W (fun k => Up S w w4 k ∨ k = w6.heap.size) v n from fun v n h W hf => (h.up (w' := w6.alloc (.cells #[] 3)) hf).mono (fun k hk => hk.elim (fun h => h.elim .inl (fun h => .inr ⟨h.1, Nat.lt_of_lt_of_le h.2 (Nat.le_trans F46.out (by simp))⟩)) (fun h => .inr ⟨by omega, by rw [h]; simp⟩)))
      have p1 := ZFr.blk_alloc R1.out (Obj.cells #[Value.int IntKind.i64 (sg Q), Value.slice A6 (dg Q.natAbs).length c6] 82)
      have p2 := ZFr.blk_alloc R2.out (Obj.cells #[Value.int IntKind.i64 (sg Q), Value.slice A6 (dg Q.natAbs).length c6] 82)
      have p3 := ZFr.blk_alloc R3.out (Obj.cells #[Value.int IntKind.i64 (sg Q), Value.slice A6 (dg Q.natAbs).length c6] 82)
      have p4 := ZFr.blk_alloc R4.out (Obj.cells #[Value.int IntKind.i64 (sg Q), Value.slice A6 (dg Q.natAbs).length c6] 82)
      have pq := heap_alloc_new w6 (Obj.cells #[Value.int IntKind.i64 (sg Q), Value.slice A6 (dg Q.natAbs).length c6] 82)
      have f7 := F6.out.alloc (Obj.cells #[Value.int IntKind.i64 (sg Q), Value.slice A6 (dg Q.natAbs).length c6] 82)
      have g7 := G6.out.new ((Fr.refl (fun _ => False) w6).alloc (Obj.cells #[Value.int IntKind.i64 (sg Q), Value.slice A6 (dg Q.natAbs).length c6] 82))
      have u7 := Nat.le_trans F46.out ((Fr.refl (fun _ => False) w6).alloc (Obj.cells #[Value.int IntKind.i64 (sg Q), Value.slice A6 (dg Q.natAbs).length c6] 82)).size
      have ut7 : ∀ k, (Up S w w4 k ∨ k = w6.heap.size) → k < (w6.alloc (Obj.cells #[Value.int IntKind.i64 (sg Q), Value.slice A6 (dg Q.natAbs).length c6] 82)).heap.size := fun k hk => hk.elim (fun h => Nat.lt_of_lt_of_le (Up.lt hS F4.out.size k h) u7) (fun h => h ▸ ZFr.blk_lt pq)
      generalize hw7 : w6.alloc (Obj.cells #[Value.int IntKind.i64 (sg Q), Value.slice A6 (dg Q.natAbs).length c6] 82) = w7 at p1 p2 p3 p4 pq f7 g7 u7 ut7 ⊢
      clear hw7
      have P1 := Lib.hid p1
      have P2 := Lib.hid p2
      have P3 := Lib.hid p3
      have P4 := Lib.hid p4
      have PQ := Lib.hid pq
      have F7 := Lib.hid f7
      have G7 := Lib.hid g7
      have UT := Lib.hid ut7
      clear p1 p2 p3 p4 pq f7 g7 u7 ut7
      obtain ⟨x1, y1⟩ := whole_cells (w := w7.drew) P1.out
      obtain ⟨x2, y2⟩ := whole_cells (w := w7.drew) P2.out
      obtain ⟨x5, y5⟩ := whole_cells (w := w7.drew) PQ.out
      go_region_held3 (fun w' => w'.cell? ⟨w.heap.size, 0, none⟩ = some (.int .i64 (sg a)) ∧ w'.cell? ⟨w.heap.size, 1, none⟩ = some (Value.slice A (dg a.natAbs).length c) ∧ w'.cell? ⟨w.heap.size + 1, 0, none⟩ = some (.int .i64 (sg b)) ∧ w'.cell? ⟨w.heap.size + 1, 1, none⟩ = some (Value.slice A' (dg b.natAbs).length c') ∧ w'.cell? ⟨w6.heap.size, 0, none⟩ = some (.int .i64 (sg Q)) ∧ w'.cell? ⟨w6.heap.size, 1, none⟩ = some (Value.slice A6 (dg Q.natAbs).length c6))
        (refine ⟨?_, ?_, ?_, ?_, ?_, ?_⟩ <;> first | with_reducible assumption | exact cell_far (by with_reducible assumption) (by dsimp only; omega) | exact cell_far (cell_far (by with_reducible assumption) (by dsimp only; omega)) (by dsimp only; omega) | exact cell_far (cell_far (cell_far (by with_reducible assumption) (by dsimp only; omega)) (by dsimp only; omega)) (by dsimp only; omega) | exact cell_far (cell_far (cell_far (cell_far (by with_reducible assumption) (by dsimp only; omega)) (by dsimp only; omega)) (by dsimp only; omega)) (by dsimp only; omega))
        (first
          | ((go_at_call 63; refine (mul_walk Q b _ _ (fun k => Up S w w4 k ∨ k = w6.heap.size) w7.drew UT.out (Whole.mk (G7.out.fr (Fr.refl (fun _ => False) w7).drew (fun _ h => h.elim))) (Whole.mk (TUP.out _ _ hB.out _ F7.out.drew)) LQ.out LB.out).mono ?_; rintro e w10 ⟨v10, rfl, h10, f10⟩; rw [MN.out] at h10; obtain ⟨s10, rfl, g10⟩ := h10; obtain ⟨A10, c10, rfl⟩ := g10.slice; have M1 := Lib.hid (ZFr.blk_fr (w := w7.drew) P1.out f10 (fun h => h)); have M2 := Lib.hid (ZFr.blk_fr (w := w7.drew) P2.out f10 (fun h => h)); have M3 := Lib.hid (ZFr.blk_fr (w := w7.drew) P3.out f10 (fun h => h)); have M4 := Lib.hid (ZFr.blk_fr (w := w7.drew) P4.out f10 (fun h => h)); have MQ := Lib.hid (ZFr.blk_fr (w := w7.drew) PQ.out f10 (fun h => h)); obtain ⟨z1, z2⟩ := whole_cells M1.out; obtain ⟨z3, z4⟩ := whole_cells M2.out; obtain ⟨z5, z6⟩ := whole_cells MQ.out; have G10 := Lib.hid g10; have F10 := Lib.hid (F7.out.drew.trans f10 (fun _ h _ => h)); have Z10 := Lib.hid ((Fr.refl (fun _ => False) w7).drew.trans f10 (fun _ h _ => h)); clear g10 f10))
          | ((go_at_call 48; refine (sub_walk a m _ _ (fun k => Up S w w4 k ∨ k = w6.heap.size) _ (fun k hk => Nat.lt_of_lt_of_le (UT.out k hk) Z10.out.size) (Whole.mk (TUP.out _ _ hA.out _ F10.out)) (Whole.mk G10.out) LA.out LM.out).mono ?_; rintro e w11 ⟨v11, rfl, h11, f11⟩; rw [RN.out] at h11; obtain ⟨s11, rfl, g11⟩ := h11; obtain ⟨A11, c11, rfl⟩ := g11.slice; obtain ⟨u1, u2⟩ := whole_cells (ZFr.blk_fr M1.out f11 (fun h => h)); obtain ⟨u3, u4⟩ := whole_cells (ZFr.blk_fr M2.out f11 (fun h => h)); obtain ⟨u5, u6⟩ := whole_cells (ZFr.blk_fr MQ.out f11 (fun h => h)); have K3 := Lib.hid (ZFr.blk_fr M3.out f11 (fun h => h)); have K4 := Lib.hid (ZFr.blk_fr M4.out f11 (fun h => h)); obtain ⟨i1, i2, i3, i4⟩ := whole_store K3.out; obtain ⟨i5, i6, i7, i8⟩ := whole_store K4.out; have G11 := Lib.hid g11; have F11 := Lib.hid (F10.out.trans f11 (fun _ h _ => h)); have Z11 := Lib.hid (Z10.out.trans f11 (fun _ h _ => h)); clear g11 f11)))
      all_goals
        go_wp2_with fail
        have m2 : (fun k => Up S w w4 k ∨ k = w6.heap.size) (w.heap.size + 1 + 1) := .inl (.inr ⟨by omega, ZFr.blk_lt T3.out⟩)
        have m3 : (fun k => Up S w w4 k ∨ k = w6.heap.size) (w.heap.size + 1 + 1 + 1) := .inl (.inr ⟨by omega, ZFr.blk_lt T4.out⟩)
        have f12 := (((F11.out.set ⟨w.heap.size + 1 + 1, 0, none⟩ (.int .i64 (sg Q)) (.inr (by dsimp only; omega))).set ⟨w.heap.size + 1 + 1, 1, none⟩ (Value.slice A6 (dg Q.natAbs).length c6) (.inr (by dsimp only; omega))).set ⟨w.heap.size + 1 + 1 + 1, 0, none⟩ (.int .i64 (sg R)) (.inr (by dsimp only; omega))).set ⟨w.heap.size + 1 + 1 + 1, 1, none⟩ (Value.slice A11 (dg R.natAbs).length c11) (.inr (by dsimp only; omega))
        have f13 := ((((Fr.refl (fun k => Up S w w4 k ∨ k = w6.heap.size) w11).set ⟨w.heap.size + 1 + 1, 0, none⟩ (.int .i64 (sg Q)) (.inl m2)).set ⟨w.heap.size + 1 + 1, 1, none⟩ (Value.slice A6 (dg Q.natAbs).length c6) (.inl m2)).set ⟨w.heap.size + 1 + 1 + 1, 0, none⟩ (.int .i64 (sg R)) (.inl m3)).set ⟨w.heap.size + 1 + 1 + 1, 1, none⟩ (Value.slice A11 (dg R.natAbs).length c11) (.inl m3)
        have b3 := ZFr.blk_set (ZFr.blk_set (ZFr.blk_set_other (ZFr.blk_set_other K4.out ⟨w.heap.size + 1 + 1, 0, none⟩ (.int .i64 (sg Q)) (by dsimp only; omega)) ⟨w.heap.size + 1 + 1, 1, none⟩ (Value.slice A6 (dg Q.natAbs).length c6) (by dsimp only; omega)) 0 (.int .i64 (sg R))) 1 (Value.slice A11 (dg R.natAbs).length c11)
        have b2 := ZFr.blk_set_other (ZFr.blk_set_other (ZFr.blk_set (ZFr.blk_set K3.out 0 (.int .i64 (sg Q))) 1 (Value.slice A6 (dg Q.natAbs).length c6)) ⟨w.heap.size + 1 + 1 + 1, 0, none⟩ (.int .i64 (sg R)) (by dsimp only; omega)) ⟨w.heap.size + 1 + 1 + 1, 1, none⟩ (Value.slice A11 (dg R.natAbs).length c11) (by dsimp only; omega)
        refine bodyPost_ret (results_cc rfl _ _ (w.heap.size + 1 + 1) (w.heap.size + 1 + 1 + 1) 82 82 #[.int .i64 (sg Q), Value.slice A6 (dg Q.natAbs).length c6] #[.int .i64 (sg R), Value.slice A11 (dg R.natAbs).length c11] (0, 0) (0, 0) _ _ rfl b2 Try.underlying82 rfl (by kernel_rfl) rfl b3 Try.underlying82 rfl (by kernel_rfl)) rfl ?_
        exact ⟨_, _, rfl, (Whole.mk ((G7.out.fr Z11.out (fun _ h => h.elim)).fr f13 (fun _ h => h))).mono (fun _ h => .inl (.inl h)), (Whole.mk (G11.out.fr f13 (fun _ h => h))).mono (fun _ h => .inl (.inl h)), f12⟩
    · have hlr : (0 : Int) < (dg r).length := by
        have := Nat.pos_of_ne_zero (fun h => hr0 (dg_nil (n := r) (List.length_eq_zero_iff.1 h)))
        omega
      have hqn := (hq3 ⟨hneg, hr0⟩).symm
      have QN := Lib.hid hqn
      clear hqn hq3 hq4
      go_wp2_with (first
        | (go_at_call 62; refine (make1_walk a u _ _ _ H1.out).mono ?_; rintro e w6 ⟨v6, rfl, h6, f6⟩; obtain ⟨s6, rfl, g6⟩ := h6 q0 HN.out.1 HN.out.2; obtain ⟨A6, c6, rfl⟩ := g6.slice; have R1 := Lib.hid (ZFr.blk_fr S1.out f6 (fun h => h)); have R2 := Lib.hid (ZFr.blk_fr S2.out f6 (fun h => h)); have R3 := Lib.hid (ZFr.blk_fr S3.out f6 (fun h => h)); have R4 := Lib.hid (ZFr.blk_fr S4.out f6 (fun h => h)); have x3 := fun o => (whole_cells (ZFr.blk_alloc R1.out o)).1; have y3 := fun o => (whole_cells (ZFr.blk_alloc R1.out o)).2; have x4 := fun o => (whole_cells (ZFr.blk_alloc R2.out o)).1; have y4 := fun o => (whole_cells (ZFr.blk_alloc R2.out o)).2; have G6 := Lib.hid g6; have F46 := Lib.hid (Nat.le_trans F45.out f6.size); have F6 := Lib.hid (F5.out.trans f6 (fun _ h _ => h)); clear h6 g6 f6))
      clear x3 y3 x4 y4 hm1
      have hgq := ZFr.blk_lt R4.out
      have TUP := Lib.hid (show ∀ (v : Value) (n : Nat), Dgs w S v n → ∀ W, Fr (fun _ => False) w W → Dgs W (fun k => Up S w w4 k ∨ k = w6.heap.size) v n from fun v n h W hf => (h.up (w' := w6.alloc (.cells #[] 3)) hf).mono (fun k hk => hk.elim (fun h => h.elim .inl (fun h => .inr ⟨h.1, Nat.lt_of_lt_of_le h.2 (Nat.le_trans F46.out (by simp))⟩)) (fun h => .inr ⟨by omega, by rw [h]; simp⟩)))
      have p1 := ZFr.blk_alloc R1.out (Obj.cells #[Value.int IntKind.i64 (sg q0), Value.slice A6 (dg q0.natAbs).length c6] 82)
      have p2 := ZFr.blk_alloc R2.out (Obj.cells #[Value.int IntKind.i64 (sg q0), Value.slice A6 (dg q0.natAbs).length c6] 82)
      have p3 := ZFr.blk_alloc R3.out (Obj.cells #[Value.int IntKind.i64 (sg q0), Value.slice A6 (dg q0.natAbs).length c6] 82)
      have p4 := ZFr.blk_alloc R4.out (Obj.cells #[Value.int IntKind.i64 (sg q0), Value.slice A6 (dg q0.natAbs).length c6] 82)
      have pq := heap_alloc_new w6 (Obj.cells #[Value.int IntKind.i64 (sg q0), Value.slice A6 (dg q0.natAbs).length c6] 82)
      have f7 := F6.out.alloc (Obj.cells #[Value.int IntKind.i64 (sg q0), Value.slice A6 (dg q0.natAbs).length c6] 82)
      have g7 := G6.out.new ((Fr.refl (fun _ => False) w6).alloc (Obj.cells #[Value.int IntKind.i64 (sg q0), Value.slice A6 (dg q0.natAbs).length c6] 82))
      have u7 := Nat.le_trans F46.out ((Fr.refl (fun _ => False) w6).alloc (Obj.cells #[Value.int IntKind.i64 (sg q0), Value.slice A6 (dg q0.natAbs).length c6] 82)).size
      have ut7 : ∀ k, (Up S w w4 k ∨ k = w6.heap.size) → k < (w6.alloc (Obj.cells #[Value.int IntKind.i64 (sg q0), Value.slice A6 (dg q0.natAbs).length c6] 82)).heap.size := fun k hk => hk.elim (fun h => Nat.lt_of_lt_of_le (Up.lt hS F4.out.size k h) u7) (fun h => h ▸ ZFr.blk_lt pq)
      generalize hw7 : w6.alloc (Obj.cells #[Value.int IntKind.i64 (sg q0), Value.slice A6 (dg q0.natAbs).length c6] 82) = w7 at p1 p2 p3 p4 pq f7 g7 u7 ut7 ⊢
      clear hw7
      have P1 := Lib.hid p1
      have P2 := Lib.hid p2
      have P3 := Lib.hid p3
      have P4 := Lib.hid p4
      have PQ := Lib.hid pq
      have F7 := Lib.hid f7
      have G7 := Lib.hid g7
      have UT := Lib.hid ut7
      clear p1 p2 p3 p4 pq f7 g7 u7 ut7
      obtain ⟨x5, y5⟩ := whole_cells (w := w7.drew) PQ.out
      go_region_law
        ((go_simp; (first
          | ((go_at_call 46; refine (long_c 1 (by decide) (by decide) (fun k => Up S w w4 k ∨ k = w6.heap.size) w7.drew UT.out).mono ?_; rintro e w10 ⟨v10, rfl, h10, f10⟩; obtain ⟨s10, rfl, g10⟩ := h10; obtain ⟨A10, c10, rfl⟩ := g10.slice; have M1 := Lib.hid (ZFr.blk_fr (w := w7.drew) P1.out f10 (fun h => h)); have M2 := Lib.hid (ZFr.blk_fr (w := w7.drew) P2.out f10 (fun h => h)); have M3 := Lib.hid (ZFr.blk_fr (w := w7.drew) P3.out f10 (fun h => h)); have M4 := Lib.hid (ZFr.blk_fr (w := w7.drew) P4.out f10 (fun h => h)); have MQ := Lib.hid (ZFr.blk_fr (w := w7.drew) PQ.out f10 (fun h => h)); obtain ⟨z5, z6⟩ := whole_cells MQ.out; have G10 := Lib.hid g10; have F10 := Lib.hid (F7.out.drew.trans f10 (fun _ h _ => h)); have Z10 := Lib.hid ((Fr.refl (fun _ => False) w7).drew.trans f10 (fun _ h _ => h)); clear g10 f10))
          | ((go_at_call 48; refine (sub_walk q0 1 _ _ (fun k => Up S w w4 k ∨ k = w6.heap.size) _ (fun k hk => Nat.lt_of_lt_of_le (UT.out k hk) Z10.out.size) (Whole.mk (G7.out.fr Z10.out (fun _ h => h.elim))) (Whole.mk G10.out) LQ0.out L1.out).mono ?_; rintro e w11 ⟨v11, rfl, h11, f11⟩; rw [QN.out] at h11; obtain ⟨s11, rfl, g11⟩ := h11; obtain ⟨B8, b8, rfl⟩ := g11.slice; have K1 := Lib.hid (ZFr.blk_fr M1.out f11 (fun h => h)); have K2 := Lib.hid (ZFr.blk_fr M2.out f11 (fun h => h)); have K3 := Lib.hid (ZFr.blk_fr M3.out f11 (fun h => h)); have K4 := Lib.hid (ZFr.blk_fr M4.out f11 (fun h => h)); have KQ := Lib.hid (ZFr.blk_fr MQ.out f11 (fun h => h)); obtain ⟨i1, i2, i3, i4⟩ := whole_store KQ.out; have G11 := Lib.hid g11; have F11 := Lib.hid (F10.out.trans f11 (fun _ h _ => h)); have Z11 := Lib.hid (Z10.out.trans f11 (fun _ h _ => h)); clear g11 f11)))))
      all_goals
        go_wp2_with fail
        have e1 := ZFr.blk_set_other (ZFr.blk_set_other K1.out ⟨w6.heap.size, 0, none⟩ (.int .i64 (sg Q)) (by dsimp only; omega)) ⟨w6.heap.size, 1, none⟩ (Value.slice B8 (dg Q.natAbs).length b8) (by dsimp only; omega)
        have e2 := ZFr.blk_set_other (ZFr.blk_set_other K2.out ⟨w6.heap.size, 0, none⟩ (.int .i64 (sg Q)) (by dsimp only; omega)) ⟨w6.heap.size, 1, none⟩ (Value.slice B8 (dg Q.natAbs).length b8) (by dsimp only; omega)
        have e3 := ZFr.blk_set_other (ZFr.blk_set_other K3.out ⟨w6.heap.size, 0, none⟩ (.int .i64 (sg Q)) (by dsimp only; omega)) ⟨w6.heap.size, 1, none⟩ (Value.slice B8 (dg Q.natAbs).length b8) (by dsimp only; omega)
        have e4 := ZFr.blk_set_other (ZFr.blk_set_other K4.out ⟨w6.heap.size, 0, none⟩ (.int .i64 (sg Q)) (by dsimp only; omega)) ⟨w6.heap.size, 1, none⟩ (Value.slice B8 (dg Q.natAbs).length b8) (by dsimp only; omega)
        have eq : ((w11.setCell ⟨w6.heap.size, 0, none⟩ (.int .i64 (sg Q))).setCell ⟨w6.heap.size, 1, none⟩ (Value.slice B8 (dg Q.natAbs).length b8)).heap[w6.heap.size]? = some (.cells #[.int .i64 (sg Q), Value.slice B8 (dg Q.natAbs).length b8] 82 (0, 0)) := ZFr.blk_set (ZFr.blk_set KQ.out 0 (.int .i64 (sg Q))) 1 (Value.slice B8 (dg Q.natAbs).length b8)
        have e5 := (F11.out.set ⟨w6.heap.size, 0, none⟩ (.int .i64 (sg Q)) (.inr (by dsimp only; omega))).set ⟨w6.heap.size, 1, none⟩ (Value.slice B8 (dg Q.natAbs).length b8) (.inr (by dsimp only; omega))
        have e6 := G11.out.fr (((Fr.refl (fun k => Up S w w4 k ∨ k = w6.heap.size) w11).set ⟨w6.heap.size, 0, none⟩ (.int .i64 (sg Q)) (.inl (.inr rfl))).set ⟨w6.heap.size, 1, none⟩ (Value.slice B8 (dg Q.natAbs).length b8) (.inl (.inr rfl))) (fun _ h => h)
        have e7 : ∀ k, (Up S w w4 k ∨ k = w6.heap.size) → k < ((w11.setCell ⟨w6.heap.size, 0, none⟩ (.int .i64 (sg Q))).setCell ⟨w6.heap.size, 1, none⟩ (Value.slice B8 (dg Q.natAbs).length b8)).heap.size := fun k hk => by rw [ZFr.size_set, ZFr.size_set]; exact Nat.lt_of_lt_of_le (UT.out k hk) Z11.out.size
        generalize (w11.setCell ⟨w6.heap.size, 0, none⟩ (.int .i64 (sg Q))).setCell ⟨w6.heap.size, 1, none⟩ (Value.slice B8 (dg Q.natAbs).length b8) = w8 at e1 e2 e3 e4 eq e5 e6 e7 ⊢
        clear P1 P2 P3 P4 PQ F7 G7 UT M1 M2 M3 M4 MQ K1 K2 K3 K4 KQ G10 F10 Z10 G11 F11 Z11 x5 y5 i1 i2 i3 i4
        have P1 := Lib.hid e1
        have P2 := Lib.hid e2
        have P3 := Lib.hid e3
        have P4 := Lib.hid e4
        have PQ := Lib.hid eq
        have F7 := Lib.hid e5
        have G7 := Lib.hid e6
        have UT := Lib.hid e7
        clear e1 e2 e3 e4 eq e5 e6 e7
        obtain ⟨x1, y1⟩ := whole_cells (w := w8.drew) P1.out
        obtain ⟨x2, y2⟩ := whole_cells (w := w8.drew) P2.out
        obtain ⟨x5, y5⟩ := whole_cells (w := w8.drew) PQ.out
        go_region_held3 (fun w' => w'.cell? ⟨w.heap.size, 0, none⟩ = some (.int .i64 (sg a)) ∧ w'.cell? ⟨w.heap.size, 1, none⟩ = some (Value.slice A (dg a.natAbs).length c) ∧ w'.cell? ⟨w.heap.size + 1, 0, none⟩ = some (.int .i64 (sg b)) ∧ w'.cell? ⟨w.heap.size + 1, 1, none⟩ = some (Value.slice A' (dg b.natAbs).length c') ∧ w'.cell? ⟨w6.heap.size, 0, none⟩ = some (.int .i64 (sg Q)) ∧ w'.cell? ⟨w6.heap.size, 1, none⟩ = some (Value.slice B8 (dg Q.natAbs).length b8))
          (refine ⟨?_, ?_, ?_, ?_, ?_, ?_⟩ <;> first | with_reducible assumption | exact cell_far (by with_reducible assumption) (by dsimp only; omega) | exact cell_far (cell_far (by with_reducible assumption) (by dsimp only; omega)) (by dsimp only; omega) | exact cell_far (cell_far (cell_far (by with_reducible assumption) (by dsimp only; omega)) (by dsimp only; omega)) (by dsimp only; omega) | exact cell_far (cell_far (cell_far (cell_far (by with_reducible assumption) (by dsimp only; omega)) (by dsimp only; omega)) (by dsimp only; omega)) (by dsimp only; omega))
          (first
            | ((go_at_call 63; refine (mul_walk Q b _ _ (fun k => Up S w w4 k ∨ k = w6.heap.size) w8.drew UT.out (Whole.mk (G7.out.fr (Fr.refl (fun _ => False) w8).drew (fun _ h => h.elim))) (Whole.mk (TUP.out _ _ hB.out _ F7.out.drew)) LQ.out LB.out).mono ?_; rintro e w10 ⟨v10, rfl, h10, f10⟩; rw [MN.out] at h10; obtain ⟨s10, rfl, g10⟩ := h10; obtain ⟨A10, c10, rfl⟩ := g10.slice; have M1 := Lib.hid (ZFr.blk_fr (w := w8.drew) P1.out f10 (fun h => h)); have M2 := Lib.hid (ZFr.blk_fr (w := w8.drew) P2.out f10 (fun h => h)); have M3 := Lib.hid (ZFr.blk_fr (w := w8.drew) P3.out f10 (fun h => h)); have M4 := Lib.hid (ZFr.blk_fr (w := w8.drew) P4.out f10 (fun h => h)); have MQ := Lib.hid (ZFr.blk_fr (w := w8.drew) PQ.out f10 (fun h => h)); obtain ⟨z1, z2⟩ := whole_cells M1.out; obtain ⟨z3, z4⟩ := whole_cells M2.out; obtain ⟨z5, z6⟩ := whole_cells MQ.out; have G10 := Lib.hid g10; have F10 := Lib.hid (F7.out.drew.trans f10 (fun _ h _ => h)); have Z10 := Lib.hid ((Fr.refl (fun _ => False) w8).drew.trans f10 (fun _ h _ => h)); clear g10 f10))
            | ((go_at_call 48; refine (sub_walk a m _ _ (fun k => Up S w w4 k ∨ k = w6.heap.size) _ (fun k hk => Nat.lt_of_lt_of_le (UT.out k hk) Z10.out.size) (Whole.mk (TUP.out _ _ hA.out _ F10.out)) (Whole.mk G10.out) LA.out LM.out).mono ?_; rintro e w11 ⟨v11, rfl, h11, f11⟩; rw [RN.out] at h11; obtain ⟨s11, rfl, g11⟩ := h11; obtain ⟨A11, c11, rfl⟩ := g11.slice; obtain ⟨u1, u2⟩ := whole_cells (ZFr.blk_fr M1.out f11 (fun h => h)); obtain ⟨u3, u4⟩ := whole_cells (ZFr.blk_fr M2.out f11 (fun h => h)); obtain ⟨u5, u6⟩ := whole_cells (ZFr.blk_fr MQ.out f11 (fun h => h)); have K3 := Lib.hid (ZFr.blk_fr M3.out f11 (fun h => h)); have K4 := Lib.hid (ZFr.blk_fr M4.out f11 (fun h => h)); obtain ⟨i1, i2, i3, i4⟩ := whole_store K3.out; obtain ⟨i5, i6, i7, i8⟩ := whole_store K4.out; have G11 := Lib.hid g11; have F11 := Lib.hid (F10.out.trans f11 (fun _ h _ => h)); have Z11 := Lib.hid (Z10.out.trans f11 (fun _ h _ => h)); clear g11 f11)))
        all_goals
          go_wp2_with fail
          have m2 : (fun k => Up S w w4 k ∨ k = w6.heap.size) (w.heap.size + 1 + 1) := .inl (.inr ⟨by omega, ZFr.blk_lt T3.out⟩)
          have m3 : (fun k => Up S w w4 k ∨ k = w6.heap.size) (w.heap.size + 1 + 1 + 1) := .inl (.inr ⟨by omega, ZFr.blk_lt T4.out⟩)
          have f12 := (((F11.out.set ⟨w.heap.size + 1 + 1, 0, none⟩ (.int .i64 (sg Q)) (.inr (by dsimp only; omega))).set ⟨w.heap.size + 1 + 1, 1, none⟩ (Value.slice B8 (dg Q.natAbs).length b8) (.inr (by dsimp only; omega))).set ⟨w.heap.size + 1 + 1 + 1, 0, none⟩ (.int .i64 (sg R)) (.inr (by dsimp only; omega))).set ⟨w.heap.size + 1 + 1 + 1, 1, none⟩ (Value.slice A11 (dg R.natAbs).length c11) (.inr (by dsimp only; omega))
          have f13 := ((((Fr.refl (fun k => Up S w w4 k ∨ k = w6.heap.size) w11).set ⟨w.heap.size + 1 + 1, 0, none⟩ (.int .i64 (sg Q)) (.inl m2)).set ⟨w.heap.size + 1 + 1, 1, none⟩ (Value.slice B8 (dg Q.natAbs).length b8) (.inl m2)).set ⟨w.heap.size + 1 + 1 + 1, 0, none⟩ (.int .i64 (sg R)) (.inl m3)).set ⟨w.heap.size + 1 + 1 + 1, 1, none⟩ (Value.slice A11 (dg R.natAbs).length c11) (.inl m3)
          have b3 := ZFr.blk_set (ZFr.blk_set (ZFr.blk_set_other (ZFr.blk_set_other K4.out ⟨w.heap.size + 1 + 1, 0, none⟩ (.int .i64 (sg Q)) (by dsimp only; omega)) ⟨w.heap.size + 1 + 1, 1, none⟩ (Value.slice B8 (dg Q.natAbs).length b8) (by dsimp only; omega)) 0 (.int .i64 (sg R))) 1 (Value.slice A11 (dg R.natAbs).length c11)
          have b2 := ZFr.blk_set_other (ZFr.blk_set_other (ZFr.blk_set (ZFr.blk_set K3.out 0 (.int .i64 (sg Q))) 1 (Value.slice B8 (dg Q.natAbs).length b8)) ⟨w.heap.size + 1 + 1 + 1, 0, none⟩ (.int .i64 (sg R)) (by dsimp only; omega)) ⟨w.heap.size + 1 + 1 + 1, 1, none⟩ (Value.slice A11 (dg R.natAbs).length c11) (by dsimp only; omega)
          refine bodyPost_ret (results_cc rfl _ _ (w.heap.size + 1 + 1) (w.heap.size + 1 + 1 + 1) 82 82 #[.int .i64 (sg Q), Value.slice B8 (dg Q.natAbs).length b8] #[.int .i64 (sg R), Value.slice A11 (dg R.natAbs).length c11] (0, 0) (0, 0) _ _ rfl b2 Try.underlying82 rfl (by kernel_rfl) rfl b3 Try.underlying82 rfl (by kernel_rfl)) rfl ?_
          exact ⟨_, _, rfl, (Whole.mk ((G7.out.fr Z11.out (fun _ h => h.elim)).fr f13 (fun _ h => h))).mono (fun _ h => .inl (.inl h)), (Whole.mk (G11.out.fr f13 (fun _ h => h))).mono (fun _ h => .inl (.inl h)), f12⟩
  · have hQ0 := hq4 (fun h => hneg h.1)
    subst hQ0
    go_wp2_with (first
      | (go_at_call 62; refine (make1_walk a u _ _ _ H1.out).mono ?_; rintro e w6 ⟨v6, rfl, h6, f6⟩; obtain ⟨s6, rfl, g6⟩ := h6 Q HN.out.1 HN.out.2; obtain ⟨A6, c6, rfl⟩ := g6.slice; have R1 := Lib.hid (ZFr.blk_fr S1.out f6 (fun h => h)); have R2 := Lib.hid (ZFr.blk_fr S2.out f6 (fun h => h)); have R3 := Lib.hid (ZFr.blk_fr S3.out f6 (fun h => h)); have R4 := Lib.hid (ZFr.blk_fr S4.out f6 (fun h => h)); have x3 := fun o => (whole_cells (ZFr.blk_alloc R1.out o)).1; have y3 := fun o => (whole_cells (ZFr.blk_alloc R1.out o)).2; have x4 := fun o => (whole_cells (ZFr.blk_alloc R2.out o)).1; have y4 := fun o => (whole_cells (ZFr.blk_alloc R2.out o)).2; have G6 := Lib.hid g6; have F46 := Lib.hid (Nat.le_trans F45.out f6.size); have F6 := Lib.hid (F5.out.trans f6 (fun _ h _ => h)); clear h6 g6 f6))
    clear x3 y3 x4 y4 hm1
    have hgq := ZFr.blk_lt R4.out
    have TUP := Lib.hid (show ∀ (v : Value) (n : Nat), Dgs w S v n → ∀ W, Fr (fun _ => False) w W → Dgs W (fun k => Up S w w4 k ∨ k = w6.heap.size) v n from fun v n h W hf => (h.up (w' := w6.alloc (.cells #[] 3)) hf).mono (fun k hk => hk.elim (fun h => h.elim .inl (fun h => .inr ⟨h.1, Nat.lt_of_lt_of_le h.2 (Nat.le_trans F46.out (by simp))⟩)) (fun h => .inr ⟨by omega, by rw [h]; simp⟩)))
    have p1 := ZFr.blk_alloc R1.out (Obj.cells #[Value.int IntKind.i64 (sg Q), Value.slice A6 (dg Q.natAbs).length c6] 82)
    have p2 := ZFr.blk_alloc R2.out (Obj.cells #[Value.int IntKind.i64 (sg Q), Value.slice A6 (dg Q.natAbs).length c6] 82)
    have p3 := ZFr.blk_alloc R3.out (Obj.cells #[Value.int IntKind.i64 (sg Q), Value.slice A6 (dg Q.natAbs).length c6] 82)
    have p4 := ZFr.blk_alloc R4.out (Obj.cells #[Value.int IntKind.i64 (sg Q), Value.slice A6 (dg Q.natAbs).length c6] 82)
    have pq := heap_alloc_new w6 (Obj.cells #[Value.int IntKind.i64 (sg Q), Value.slice A6 (dg Q.natAbs).length c6] 82)
    have f7 := F6.out.alloc (Obj.cells #[Value.int IntKind.i64 (sg Q), Value.slice A6 (dg Q.natAbs).length c6] 82)
    have g7 := G6.out.new ((Fr.refl (fun _ => False) w6).alloc (Obj.cells #[Value.int IntKind.i64 (sg Q), Value.slice A6 (dg Q.natAbs).length c6] 82))
    have u7 := Nat.le_trans F46.out ((Fr.refl (fun _ => False) w6).alloc (Obj.cells #[Value.int IntKind.i64 (sg Q), Value.slice A6 (dg Q.natAbs).length c6] 82)).size
    have ut7 : ∀ k, (Up S w w4 k ∨ k = w6.heap.size) → k < (w6.alloc (Obj.cells #[Value.int IntKind.i64 (sg Q), Value.slice A6 (dg Q.natAbs).length c6] 82)).heap.size := fun k hk => hk.elim (fun h => Nat.lt_of_lt_of_le (Up.lt hS F4.out.size k h) u7) (fun h => h ▸ ZFr.blk_lt pq)
    generalize hw7 : w6.alloc (Obj.cells #[Value.int IntKind.i64 (sg Q), Value.slice A6 (dg Q.natAbs).length c6] 82) = w7 at p1 p2 p3 p4 pq f7 g7 u7 ut7 ⊢
    clear hw7
    have P1 := Lib.hid p1
    have P2 := Lib.hid p2
    have P3 := Lib.hid p3
    have P4 := Lib.hid p4
    have PQ := Lib.hid pq
    have F7 := Lib.hid f7
    have G7 := Lib.hid g7
    have UT := Lib.hid ut7
    clear p1 p2 p3 p4 pq f7 g7 u7 ut7
    obtain ⟨x1, y1⟩ := whole_cells (w := w7.drew) P1.out
    obtain ⟨x2, y2⟩ := whole_cells (w := w7.drew) P2.out
    obtain ⟨x5, y5⟩ := whole_cells (w := w7.drew) PQ.out
    go_region_held3 (fun w' => w'.cell? ⟨w.heap.size, 0, none⟩ = some (.int .i64 (sg a)) ∧ w'.cell? ⟨w.heap.size, 1, none⟩ = some (Value.slice A (dg a.natAbs).length c) ∧ w'.cell? ⟨w.heap.size + 1, 0, none⟩ = some (.int .i64 (sg b)) ∧ w'.cell? ⟨w.heap.size + 1, 1, none⟩ = some (Value.slice A' (dg b.natAbs).length c') ∧ w'.cell? ⟨w6.heap.size, 0, none⟩ = some (.int .i64 (sg Q)) ∧ w'.cell? ⟨w6.heap.size, 1, none⟩ = some (Value.slice A6 (dg Q.natAbs).length c6))
      (refine ⟨?_, ?_, ?_, ?_, ?_, ?_⟩ <;> first | with_reducible assumption | exact cell_far (by with_reducible assumption) (by dsimp only; omega) | exact cell_far (cell_far (by with_reducible assumption) (by dsimp only; omega)) (by dsimp only; omega) | exact cell_far (cell_far (cell_far (by with_reducible assumption) (by dsimp only; omega)) (by dsimp only; omega)) (by dsimp only; omega) | exact cell_far (cell_far (cell_far (cell_far (by with_reducible assumption) (by dsimp only; omega)) (by dsimp only; omega)) (by dsimp only; omega)) (by dsimp only; omega))
      (first
        | ((go_at_call 63; refine (mul_walk Q b _ _ (fun k => Up S w w4 k ∨ k = w6.heap.size) w7.drew UT.out (Whole.mk (G7.out.fr (Fr.refl (fun _ => False) w7).drew (fun _ h => h.elim))) (Whole.mk (TUP.out _ _ hB.out _ F7.out.drew)) LQ.out LB.out).mono ?_; rintro e w10 ⟨v10, rfl, h10, f10⟩; rw [MN.out] at h10; obtain ⟨s10, rfl, g10⟩ := h10; obtain ⟨A10, c10, rfl⟩ := g10.slice; have M1 := Lib.hid (ZFr.blk_fr (w := w7.drew) P1.out f10 (fun h => h)); have M2 := Lib.hid (ZFr.blk_fr (w := w7.drew) P2.out f10 (fun h => h)); have M3 := Lib.hid (ZFr.blk_fr (w := w7.drew) P3.out f10 (fun h => h)); have M4 := Lib.hid (ZFr.blk_fr (w := w7.drew) P4.out f10 (fun h => h)); have MQ := Lib.hid (ZFr.blk_fr (w := w7.drew) PQ.out f10 (fun h => h)); obtain ⟨z1, z2⟩ := whole_cells M1.out; obtain ⟨z3, z4⟩ := whole_cells M2.out; obtain ⟨z5, z6⟩ := whole_cells MQ.out; have G10 := Lib.hid g10; have F10 := Lib.hid (F7.out.drew.trans f10 (fun _ h _ => h)); have Z10 := Lib.hid ((Fr.refl (fun _ => False) w7).drew.trans f10 (fun _ h _ => h)); clear g10 f10))
        | ((go_at_call 48; refine (sub_walk a m _ _ (fun k => Up S w w4 k ∨ k = w6.heap.size) _ (fun k hk => Nat.lt_of_lt_of_le (UT.out k hk) Z10.out.size) (Whole.mk (TUP.out _ _ hA.out _ F10.out)) (Whole.mk G10.out) LA.out LM.out).mono ?_; rintro e w11 ⟨v11, rfl, h11, f11⟩; rw [RN.out] at h11; obtain ⟨s11, rfl, g11⟩ := h11; obtain ⟨A11, c11, rfl⟩ := g11.slice; obtain ⟨u1, u2⟩ := whole_cells (ZFr.blk_fr M1.out f11 (fun h => h)); obtain ⟨u3, u4⟩ := whole_cells (ZFr.blk_fr M2.out f11 (fun h => h)); obtain ⟨u5, u6⟩ := whole_cells (ZFr.blk_fr MQ.out f11 (fun h => h)); have K3 := Lib.hid (ZFr.blk_fr M3.out f11 (fun h => h)); have K4 := Lib.hid (ZFr.blk_fr M4.out f11 (fun h => h)); obtain ⟨i1, i2, i3, i4⟩ := whole_store K3.out; obtain ⟨i5, i6, i7, i8⟩ := whole_store K4.out; have G11 := Lib.hid g11; have F11 := Lib.hid (F10.out.trans f11 (fun _ h _ => h)); have Z11 := Lib.hid (Z10.out.trans f11 (fun _ h _ => h)); clear g11 f11)))
    all_goals
      go_wp2_with fail
      have m2 : (fun k => Up S w w4 k ∨ k = w6.heap.size) (w.heap.size + 1 + 1) := .inl (.inr ⟨by omega, ZFr.blk_lt T3.out⟩)
      have m3 : (fun k => Up S w w4 k ∨ k = w6.heap.size) (w.heap.size + 1 + 1 + 1) := .inl (.inr ⟨by omega, ZFr.blk_lt T4.out⟩)
      have f12 := (((F11.out.set ⟨w.heap.size + 1 + 1, 0, none⟩ (.int .i64 (sg Q)) (.inr (by dsimp only; omega))).set ⟨w.heap.size + 1 + 1, 1, none⟩ (Value.slice A6 (dg Q.natAbs).length c6) (.inr (by dsimp only; omega))).set ⟨w.heap.size + 1 + 1 + 1, 0, none⟩ (.int .i64 (sg R)) (.inr (by dsimp only; omega))).set ⟨w.heap.size + 1 + 1 + 1, 1, none⟩ (Value.slice A11 (dg R.natAbs).length c11) (.inr (by dsimp only; omega))
      have f13 := ((((Fr.refl (fun k => Up S w w4 k ∨ k = w6.heap.size) w11).set ⟨w.heap.size + 1 + 1, 0, none⟩ (.int .i64 (sg Q)) (.inl m2)).set ⟨w.heap.size + 1 + 1, 1, none⟩ (Value.slice A6 (dg Q.natAbs).length c6) (.inl m2)).set ⟨w.heap.size + 1 + 1 + 1, 0, none⟩ (.int .i64 (sg R)) (.inl m3)).set ⟨w.heap.size + 1 + 1 + 1, 1, none⟩ (Value.slice A11 (dg R.natAbs).length c11) (.inl m3)
      have b3 := ZFr.blk_set (ZFr.blk_set (ZFr.blk_set_other (ZFr.blk_set_other K4.out ⟨w.heap.size + 1 + 1, 0, none⟩ (.int .i64 (sg Q)) (by dsimp only; omega)) ⟨w.heap.size + 1 + 1, 1, none⟩ (Value.slice A6 (dg Q.natAbs).length c6) (by dsimp only; omega)) 0 (.int .i64 (sg R))) 1 (Value.slice A11 (dg R.natAbs).length c11)
      have b2 := ZFr.blk_set_other (ZFr.blk_set_other (ZFr.blk_set (ZFr.blk_set K3.out 0 (.int .i64 (sg Q))) 1 (Value.slice A6 (dg Q.natAbs).length c6)) ⟨w.heap.size + 1 + 1 + 1, 0, none⟩ (.int .i64 (sg R)) (by dsimp only; omega)) ⟨w.heap.size + 1 + 1 + 1, 1, none⟩ (Value.slice A11 (dg R.natAbs).length c11) (by dsimp only; omega)
      refine bodyPost_ret (results_cc rfl _ _ (w.heap.size + 1 + 1) (w.heap.size + 1 + 1 + 1) 82 82 #[.int .i64 (sg Q), Value.slice A6 (dg Q.natAbs).length c6] #[.int .i64 (sg R), Value.slice A11 (dg R.natAbs).length c11] (0, 0) (0, 0) _ _ rfl b2 Try.underlying82 rfl (by kernel_rfl) rfl b3 Try.underlying82 rfl (by kernel_rfl)) rfl ?_
      exact ⟨_, _, rfl, (Whole.mk ((G7.out.fr Z11.out (fun _ h => h.elim)).fr f13 (fun _ h => h))).mono (fun _ h => .inl (.inl h)), (Whole.mk (G11.out.fr f13 (fun _ h => h))).mono (fun _ h => .inl (.inl h)), f12⟩
end Go.Proofs.Ytgaicbodpneeoaa.Big


/- What is used of BigJ. -/
namespace Go.Proofs.Ytgaicbodpneeoaa.Big
open Go.RowKit Go.Proofs.ZFr Go.Proofs.Ytgaicbodpneeoaa.PRasterImages Go.Proofs.YtgaicbodpneeoaaW.PrintWords

theorem sg_np {n : Int} (h : n ≤ 0) : sg n = -1 ∨ sg n = 0 := by unfold sg; split <;> (try split) <;> first | exact .inr rfl | exact .inl rfl | omega
theorem sg_nn {n : Int} (h : 0 ≤ n) : sg n = 1 ∨ sg n = 0 := by unfold sg; split <;> (try split) <;> first | exact .inr rfl | exact .inl rfl | omega
def inP (a : Int) : Prop := -1099511627776 ≤ a ∧ a ≤ 1099511627776
instance (a : Int) : Decidable (inP a) := inferInstanceAs (Decidable (_ ∧ _))
def i64P (a : Int) : Prop := -9223372036854775808 ≤ a ∧ a < 9223372036854775808
set_option maxRecDepth 100000 in
set_option maxHeartbeats 4000000 in
theorem can_walk (x y : Int) (w : World) (hx : i64P x) (hy : i64P y) : Calls Try.prog 44 #[.agg #[.int .i64 x, .int .i64 y]] w fun e w' => e = .returned (.bool (decide (inP x ∧ inP y))) ∧ Fr (fun _ => False) w w' := by
  obtain ⟨b, hb⟩ : ∃ b, decide (-1099511627776 ≤ x ∧ x ≤ 1099511627776) = b := ⟨_, rfl⟩
  obtain ⟨d, hd⟩ : ∃ d, decide (-1099511627776 ≤ y ∧ y ≤ 1099511627776) = d := ⟨_, rfl⟩
  have e : decide (inP x ∧ inP y) = (b && d) := by rw [← hb, ← hd, Bool.decide_and]; rfl
  rw [e]
  have HB := Lib.hid hb
  have HD := Lib.hid hd
  have LX := Lib.hid (len4 hx.1 hx.2)
  have LY := Lib.hid (len4 hy.1 hy.2)
  have HX := Lib.hid hx
  have HY := Lib.hid hy
  clear hb hd e hx hy
  have F0 := Lib.hid ((Fr.refl (fun _ => False) w).alloc (Obj.cells #[Value.int IntKind.i64 x, Value.int IntKind.i64 y] 41))
  have T0 := Lib.hid (heap_alloc_new w (Obj.cells #[Value.int IntKind.i64 x, Value.int IntKind.i64 y] 41))
  cases b
  · go_enter Try.func44, Try.ntmps44
    go_wp2_with (first
      | (go_at_call 60; refine (in_walk x _ (fun _ => False) w2 (fun _ h => h.elim) (Whole.mk G2.out) LX.out).mono ?_; rintro e w3 ⟨rfl, f3⟩; rw [HB.out]; have F3 := Lib.hid (F2.out.trans f3 (fun _ h _ => h)); clear f3)
      | (go_at_call 46; refine (long_c x HX.out.1 HX.out.2 (fun _ => False) _ (fun _ h => h.elim)).mono ?_; rintro e w2 ⟨v2, rfl, h2, f2⟩; obtain ⟨s2, rfl, g2⟩ := h2; obtain ⟨A2, c2, rfl⟩ := g2.slice; have G2 := Lib.hid g2; have F2 := Lib.hid (F0.out.trans f2 (fun _ h _ => h)); clear g2 f2))
    go_ret
    exact ⟨rfl, F3.out⟩
  · go_enter Try.func44, Try.ntmps44
    go_wp2_with (first
      | (go_at_call 60; refine (in_walk y _ (fun _ => False) w4 (fun _ h => h.elim) (Whole.mk G4.out) LY.out).mono ?_; rintro e w5 ⟨rfl, f5⟩; rw [HD.out]; have F5 := Lib.hid (F4.out.trans f5 (fun _ h _ => h)); clear f5)
      | (go_at_call 46; refine (long_c y HY.out.1 HY.out.2 (fun _ => False) w3 (fun _ h => h.elim)).mono ?_; rintro e w4 ⟨v4, rfl, h4, f4⟩; obtain ⟨s4, rfl, g4⟩ := h4; obtain ⟨A4, c4, rfl⟩ := g4.slice; have G4 := Lib.hid g4; have F4 := Lib.hid (F3.out.trans f4 (fun _ h _ => h)); clear g4 f4)
      | (go_at_call 60; refine (in_walk x _ (fun _ => False) w2 (fun _ h => h.elim) (Whole.mk G2.out) LX.out).mono ?_; rintro e w3 ⟨rfl, f3⟩; rw [HB.out]; have T3 := Lib.hid (ZFr.blk_fr T2.out f3 (fun h => h)); have x3 := ZFr.blk_cell T3.out 0; have y3 := ZFr.blk_cell T3.out 1; simp at x3 y3; have F3 := Lib.hid (F2.out.trans f3 (fun _ h _ => h)); clear f3)
      | (go_at_call 46; refine (long_c x HX.out.1 HX.out.2 (fun _ => False) _ (fun _ h => h.elim)).mono ?_; rintro e w2 ⟨v2, rfl, h2, f2⟩; obtain ⟨s2, rfl, g2⟩ := h2; obtain ⟨A2, c2, rfl⟩ := g2.slice; have T2 := Lib.hid (ZFr.blk_fr T0.out f2 (fun h => h)); have G2 := Lib.hid g2; have F2 := Lib.hid (F0.out.trans f2 (fun _ h _ => h)); clear g2 f2))
    go_ret
    exact ⟨rfl, F5.out⟩
theorem drop_le {l : List Int} (h : Dig l) (k : Nat) : 0 ≤ val (l.drop k) ∧ val (l.drop k) ≤ val l := by
  have h0 : 0 ≤ val (l.drop k) := val_nonneg (fun x hx => h x (List.mem_of_mem_drop hx))
  refine ⟨h0, ?_⟩
  have e := val_append (l.take k) (l.drop k)
  rw [List.take_append_drop] at e
  have h1 := val_nonneg (h.take k)
  have h2 := pow_pos (l.take k).length
  have h3 : 1 * val (l.drop k) ≤ 65536 ^ (l.take k).length * val (l.drop k) := Int.mul_le_mul_of_nonneg_right (by omega) h0
  omega
theorem small_num (a : Int) (h : i64P a) (k : Nat) : ∃ n1 n0 d : Int, n1 = -val ((dg a.natAbs).drop (k + 1)) ∧ n0 = -val ((dg a.natAbs).drop k) ∧ d = (dg a.natAbs).getD k 0 ∧ IntKind.i64.wrap (n1 * 65536) = n1 * 65536 ∧ IntKind.i64.wrap (n1 * 65536 - d) = n0 := by
  obtain ⟨a0, a1⟩ := h
  obtain ⟨b0, b1⟩ := drop_le (dg_dig a.natAbs) k
  obtain ⟨c0, c1⟩ := drop_le (dg_dig a.natAbs) (k + 1)
  have e := drop_at (dg a.natAbs) k
  have hd := (dg_dig a.natAbs).getD k
  rw [dg_val] at b1 c1
  refine ⟨_, _, _, rfl, rfl, rfl, ?_, ?_⟩
  · rw [Go.Proofs.YtgaicbodpneeoaaW.PrintLast.i64_w, w64 (n := -val ((dg a.natAbs).drop (k + 1)) * 65536) (by omega) (by omega)]
  · rw [Go.Proofs.YtgaicbodpneeoaaW.PrintLast.i64_w, w64 (n := -val ((dg a.natAbs).drop (k + 1)) * 65536 - (dg a.natAbs).getD k 0) (by omega) (by omega), e]
    omega
set_option maxRecDepth 100000 in
set_option maxHeartbeats 4000000 in
theorem small_walk (a : Int) (va : Value) (w : World) (h0 : i64P a) (ha : Whole w (fun _ => False) va a) : Calls Try.prog 47 #[va] w fun e w' => e = .returned (.tuple #[.int .i64 a, .bool true]) ∧ Fr (fun _ => False) w w' := by
  obtain ⟨sa, rfl, hda⟩ := ha
  obtain ⟨A, c, rfl⟩ := hda.slice
  have LA := Lib.hid (len4 h0.1 h0.2)
  have LC := Lib.hid (len4 (n := 9223372036854775807) (by decide) (by decide))
  have LD := Lib.hid (len4 (n := -9223372036854775808) (by decide) (by decide))
  have hA := Lib.hid hda
  clear hda
  obtain ⟨q, hq, hq0⟩ : ∃ q, sg (a - 9223372036854775807) = q ∧ (q = -1 ∨ q = 0) := ⟨_, rfl, sg_np (by have := h0.2; omega)⟩
  obtain ⟨r, hr, hr0⟩ : ∃ r, sg (a - -9223372036854775808) = r ∧ (r = 1 ∨ r = 0) := ⟨_, rfl, sg_nn (by have := h0.1; omega)⟩
  have HQ := Lib.hid hq
  have HR := Lib.hid hr
  have H0 := Lib.hid h0
  clear hq hr h0
  have F0 := Lib.hid ((Fr.refl (fun _ => False) w).alloc (Obj.cells #[Value.int IntKind.i64 (sg a), Value.slice A (dg a.natAbs).length c] 82))
  have T0 := Lib.hid (heap_alloc_new w (Obj.cells #[Value.int IntKind.i64 (sg a), Value.slice A (dg a.natAbs).length c] 82))
  go_enter Try.func47, Try.ntmps47
  go_wp2_with fail
  generalize hw1 : w.alloc (Obj.cells #[Value.int IntKind.i64 (sg a), Value.slice A (dg a.natAbs).length c] 82) = w1 at T0 F0
  obtain ⟨x0, y0⟩ := whole_cells (w := w1.drew) T0.out
  clear hw1
  rcases hq0 with rfl | rfl <;> rcases hr0 with rfl | rfl
  all_goals
   go_region_law
    ((go_simp; (first
      | ((go_at_call 31; refine (cmp_walk a (-9223372036854775808) _ _ (fun _ => False) w4 (fun _ h => h.elim) (Whole.mk (hA.out.fr F4.out (fun _ h => h))) (Whole.mk G4.out) LA.out LD.out).mono ?_; rintro e w5 ⟨rfl, f5⟩; rw [HR.out]; have T5 := Lib.hid (ZFr.blk_fr T4.out f5 (fun h => h)); obtain ⟨x5, y5⟩ := whole_cells T5.out; have F5 := Lib.hid (F4.out.trans f5 (fun _ h _ => h)); clear f5))
      | ((go_at_call 46; refine (long_c (-9223372036854775808) (by decide) (by decide) (fun _ => False) w3 (fun _ h => h.elim)).mono ?_; rintro e w4 ⟨v4, rfl, h4, f4⟩; obtain ⟨s4, rfl, g4⟩ := h4; obtain ⟨A4, c4, rfl⟩ := g4.slice; have T4 := Lib.hid (ZFr.blk_fr T3.out f4 (fun h => h)); obtain ⟨x4, y4⟩ := whole_cells T4.out; have G4 := Lib.hid g4; have F4 := Lib.hid (F3.out.trans f4 (fun _ h _ => h)); clear g4 f4))
      | ((go_at_call 31; refine (cmp_walk a 9223372036854775807 _ _ (fun _ => False) w2 (fun _ h => h.elim) (Whole.mk (hA.out.fr F2.out (fun _ h => h))) (Whole.mk G2.out) LA.out LC.out).mono ?_; rintro e w3 ⟨rfl, f3⟩; rw [HQ.out]; have T3 := Lib.hid (ZFr.blk_fr T2.out f3 (fun h => h)); obtain ⟨x3, y3⟩ := whole_cells T3.out; have F3 := Lib.hid (F2.out.trans f3 (fun _ h _ => h)); clear f3))
      | ((go_at_call 46; refine (long_c 9223372036854775807 (by decide) (by decide) (fun _ => False) w1.drew (fun _ h => h.elim)).mono ?_; rintro e w2 ⟨v2, rfl, h2, f2⟩; obtain ⟨s2, rfl, g2⟩ := h2; obtain ⟨A2, c2, rfl⟩ := g2.slice; have T2 := Lib.hid (ZFr.blk_fr (w := w1.drew) T0.out f2 (fun h => h)); obtain ⟨x2, y2⟩ := whole_cells T2.out; have G2 := Lib.hid g2; have F2 := Lib.hid (F0.out.drew.trans f2 (fun _ h _ => h)); clear g2 f2)))))
   all_goals
    go_wp2_with fail
    have hwl : wrap64 (((dg a.natAbs).length : Int) - 1) = (dg a.natAbs).length - 1 := w64 (by have := LA.out; omega) (by have := LA.out; omega)
    rw [hwl]
    clear hwl
    go_loopw [4, 5] (fun n i wr => ∃ k : Nat, k ≤ (dg a.natAbs).length ∧ n = .int .i64 (-val ((dg a.natAbs).drop k)) ∧ i = .int .i64 ((k : Int) - 1) ∧ wr = w5) (fun _ i _ => (intOf i + 1).toNat)
    case atStart => exact ⟨(dg a.natAbs).length, Nat.le_refl _, by rw [List.drop_length]; rfl, rfl, rfl⟩
    case round =>
      obtain ⟨k, hk, rfl, rfl, rfl⟩ := hrel
      cases k with
      | zero =>
        obtain ⟨n9, hn9⟩ : ∃ n9 : Int, -val ((dg a.natAbs).drop 0) = n9 := ⟨_, rfl⟩
        rw [hn9]
        rw [List.drop_zero, dg_val] at hn9
        by_cases hpos : 0 < sg a
        · have hfin : IntKind.i64.wrap (-n9) = a := by
            rw [Go.Proofs.YtgaicbodpneeoaaW.PrintLast.i64_w, w64 (n := -n9) (by have := H0.out.1; have := H0.out.2; omega) (by have := H0.out.1; have := H0.out.2; have := (sg_le a).2.2.2.1 hpos; omega)]
            have := (sg_le a).2.2.2.1 hpos
            omega
          go_wp2_with fail
          go_ret2
          exact ⟨rfl, F5.out⟩
        · have hfin : n9 = a := by
            have : ¬ 0 < a := fun h => hpos ((sg_le a).2.2.2.2 h)
            omega
          subst hfin
          go_wp2_with fail
          go_ret2
          exact ⟨rfl, F5.out⟩
      | succ k =>
        obtain ⟨n1, n0, d, e1, e0, ed, w1, w2⟩ := small_num a H0.out k
        obtain ⟨ad, rfl, hc, _⟩ := dgs_cell (i := k) (hA.out.fr F5.out (fun _ h => h)) (by omega)
        rw [← ed] at hc
        rw [← e1]
        have hkl : (k : Int) < (dg a.natAbs).length := by omega
        rw [show ((k + 1 : Nat) : Int) - 1 = (k : Int) from by omega]
        clear ed e1
        have hwk : wrap64 ((k : Int) - 1) = k - 1 := w64 (by omega) (by have := LA.out; omega)
        go_wp2_with fail
        rw [hwk]
        clear w1 w2 hwk e0
        go_roundw
        case rel => exact ⟨k, by omega, rfl, rfl, trivial⟩
        case measure => simp [intOf]
end Go.Proofs.Ytgaicbodpneeoaa.Big


/- What is used of BigK. -/
namespace Go.Proofs.Ytgaicbodpneeoaa.Big
open Go.RowKit Go.Proofs.ZFr Go.Proofs.Ytgaicbodpneeoaa.PRasterImages Go.Proofs.YtgaicbodpneeoaaW.PrintWords

theorem point_cells {w : World} {b : Nat} {x y : Int} (h : w.heap[b]? = some (.cells #[.int .i64 x, .int .i64 y] 41 (0, 0))) : w.cell? ⟨b, 0, none⟩ = some (.int .i64 x) ∧ w.cell? ⟨b, 1, none⟩ = some (.int .i64 y) := ⟨ZFr.blk_cell h 0, ZFr.blk_cell h 1⟩
theorem pt_store {w : World} {b : Nat} {x y : Int} (h : w.heap[b]? = some (.cells #[.int .i64 x, .int .i64 y] 41 (0, 0))) : w.cell? ⟨b, 0, none⟩ = some (.int .i64 x) ∧ w.cell? ⟨b, 1, none⟩ = some (.int .i64 y) ∧ w.frozen? ⟨b, 0, none⟩ = false ∧ w.frozen? ⟨b, 1, none⟩ = false := ⟨ZFr.blk_cell h 0, ZFr.blk_cell h 1, ZFr.blk_free h 0, ZFr.blk_free h 1⟩
theorem of_store {w : World} {b : Nat} {x y : Int} (h : w.heap[b]? = some (.cells #[.int .i64 x, .int .i64 y] 44 (0, 0))) : w.cell? ⟨b, 0, none⟩ = some (.int .i64 x) ∧ w.cell? ⟨b, 1, none⟩ = some (.int .i64 y) ∧ w.frozen? ⟨b, 0, none⟩ = false ∧ w.frozen? ⟨b, 1, none⟩ = false := ⟨ZFr.blk_cell h 0, ZFr.blk_cell h 1, ZFr.blk_free h 0, ZFr.blk_free h 1⟩
theorem len300 {n : Int} (h0 : -9223372036854775808 ≤ n) (h1 : n < 9223372036854775808) : (dg n.natAbs).length < 300 := by
  have := dg_len_le 4 n.natAbs (by have : (65536 : Nat) ^ 4 = 18446744073709551616 := by decide
                                   omega)
  omega
theorem div_in {x n : Int} (hx : inP x) (hn : 1 ≤ n) : i64P (x / n) := by
  obtain ⟨h0, h1⟩ := hx
  have a1 : -1099511627776 * n ≤ -1099511627776 * 1 := Int.mul_le_mul_of_nonpos_left (by omega) hn
  have a2 : (1099511627776 + 1) * 1 ≤ (1099511627776 + 1) * n := Int.mul_le_mul_of_nonneg_left hn (by omega)
  have h2 : -1099511627776 ≤ x / n := Int.le_ediv_of_mul_le (by omega) (by omega)
  have h3 : x / n < 1099511627776 + 1 := Int.ediv_lt_of_lt_mul (by omega) (by omega)
  exact ⟨by omega, by omega⟩
theorem mod_in {x n : Int} (hn : 1 ≤ n) (hn2 : n ≤ 1073741824) : i64P (x % n) := by
  have h1 := Int.emod_nonneg x (by omega : n ≠ 0)
  have h2 := Int.emod_lt_of_pos x (by omega : 0 < n)
  exact ⟨by omega, by omega⟩
set_option maxRecDepth 100000 in
set_option maxHeartbeats 4000000 in
theorem home_walk (x y n : Int) (w : World) (hx : inP x) (hy : inP y) (hn : 1 ≤ n ∧ n ≤ 1073741824) : Calls Try.prog 30 #[.agg #[.int .i64 x, .int .i64 y], .int .i64 n] w fun e w' => e = .returned (.tuple #[.agg #[.int .i64 (x % n), .int .i64 (y % n)], .agg #[.int .i64 (x / n), .int .i64 (y / n)], .bool true]) ∧ Fr (fun _ => False) w w' := by
  have HX := Lib.hid (show i64P x from ⟨by have := hx.1; omega, by have := hx.2; omega⟩)
  have HY := Lib.hid (show i64P y from ⟨by have := hy.1; omega, by have := hy.2; omega⟩)
  have HCAN := Lib.hid (show decide (inP x ∧ inP y) = true from (decide_eq_true ⟨hx, hy⟩))
  have HTOR := Lib.hid (show zelligeref06_Torus.f n = some true from (by unfold zelligeref06_Torus.f; rw [if_pos (by omega), decide_eq_true (by omega)]))
  have HN := Lib.hid (show i64P n from ⟨by omega, by omega⟩)
  have HN0 := Lib.hid (show 0 < n from by omega)
  have LX := Lib.hid (len300 HX.out.1 HX.out.2)
  have LN := Lib.hid (len300 HN.out.1 HN.out.2)
  have LY := Lib.hid (len300 HY.out.1 HY.out.2)
  have bqx := div_in hx hn.1
  have bqy := div_in hy hn.1
  have brx := mod_in (x := x) hn.1 hn.2
  have bry := mod_in (x := y) hn.1 hn.2
  obtain ⟨qx, hqx⟩ : ∃ q, x / n = q := ⟨_, rfl⟩
  obtain ⟨rx, hrx⟩ : ∃ q, x % n = q := ⟨_, rfl⟩
  obtain ⟨qy, hqy⟩ : ∃ q, y / n = q := ⟨_, rfl⟩
  obtain ⟨ry, hry⟩ : ∃ q, y % n = q := ⟨_, rfl⟩
  rw [hqx] at bqx
  rw [hrx] at brx
  rw [hqy] at bqy
  rw [hry] at bry
  rw [hqx, hrx, hqy, hry]
  have QX := Lib.hid hqx
  have RX := Lib.hid hrx
  have QY := Lib.hid hqy
  have RY := Lib.hid hry
  have BQX := Lib.hid bqx
  have BQY := Lib.hid bqy
  have BRX := Lib.hid brx
  have BRY := Lib.hid bry
  clear hx hy hn hqx hrx hqy hry bqx bqy brx bry
  obtain ⟨t1, t2, t3, f3⟩ := tri w (Obj.cells #[Value.int IntKind.i64 x, Value.int IntKind.i64 y] 41) (Obj.cells #[Value.int IntKind.i64 0, Value.int IntKind.i64 0] 41) (Obj.cells #[Value.int IntKind.i64 0, Value.int IntKind.i64 0] 44)
  go_enter Try.func30, Try.ntmps30
  go_wp2_with fail
  generalize ((w.alloc (Obj.cells #[Value.int IntKind.i64 x, Value.int IntKind.i64 y] 41)).alloc (Obj.cells #[Value.int IntKind.i64 0, Value.int IntKind.i64 0] 41)).alloc (Obj.cells #[Value.int IntKind.i64 0, Value.int IntKind.i64 0] 44) = w3 at t1 t2 t3 f3 ⊢
  have T1 := Lib.hid t1
  have T2 := Lib.hid t2
  have T3 := Lib.hid t3
  have F3 := Lib.hid f3
  clear t1 t2 t3 f3
  refine (zelligeref06_Torus.calls n true w3 HTOR.out).mono ?_
  rintro e w4 ⟨rfl, nd, hw4⟩
  have f4 : Fr (fun _ => False) w3 w4 := by rw [hw4]; exact (Fr.refl _ _).drewN nd
  clear hw4
  have A1 := Lib.hid (ZFr.blk_fr T1.out f4 (fun h => h))
  have A2 := Lib.hid (ZFr.blk_fr T2.out f4 (fun h => h))
  have A3 := Lib.hid (ZFr.blk_fr T3.out f4 (fun h => h))
  have F4 := Lib.hid (F3.out.trans f4 (fun _ h _ => h))
  obtain ⟨x4, y4⟩ := point_cells A1.out
  have B4 := A1
  have C4 := A2
  have D4 := A3
  clear f4
  go_wp2_with (first
    | (go_at_call 47; have hc_ := small_walk qy _ w16 BQY.out (Whole.mk (H12.out.fr N16.out (fun _ h => h.elim))); (with_reducible refine hc_.mono ?_); clear hc_; rintro e w17 ⟨rfl, f17⟩; have B17 := Lib.hid (ZFr.blk_fr B16.out f17 (fun h => h)); obtain ⟨xB17, yB17⟩ := point_cells B17.out; have C17 := Lib.hid (ZFr.blk_fr C16.out f17 (fun h => h)); have D17 := Lib.hid (ZFr.blk_fr D16.out f17 (fun h => h)); have I17 := Lib.hid (ZFr.blk_fr I16.out f17 (fun h => h)); obtain ⟨xI17, yI17⟩ := whole_cells I17.out; have J17 := Lib.hid (ZFr.blk_fr J16.out f17 (fun h => h)); obtain ⟨xJ17, yJ17⟩ := whole_cells J17.out; have L17 := Lib.hid (ZFr.blk_fr L16.out f17 (fun h => h)); obtain ⟨xL17, yL17⟩ := whole_cells L17.out; have M17 := Lib.hid (ZFr.blk_fr M16.out f17 (fun h => h)); obtain ⟨xM17, yM17⟩ := whole_cells M17.out; have F17 := Lib.hid (F16.out.trans f17 (fun _ h _ => h)); have G17 := Lib.hid f17; obtain ⟨o1, o2, o3, o4⟩ := pt_store C17.out; obtain ⟨o5, o6, o7, o8⟩ := of_store D17.out; clear f17)
    | (go_at_call 47; have hc_ := small_walk qx _ w15 BQX.out (Whole.mk (K8.out.fr ((G11.out.trans G12.out (fun _ h _ => h)).trans N15.out (fun _ h _ => h)) (fun _ h => h.elim))); (with_reducible refine hc_.mono ?_); clear hc_; rintro e w16 ⟨rfl, f16⟩; have B16 := Lib.hid (ZFr.blk_fr B15.out f16 (fun h => h)); obtain ⟨xB16, yB16⟩ := point_cells B16.out; have C16 := Lib.hid (ZFr.blk_fr C15.out f16 (fun h => h)); have D16 := Lib.hid (ZFr.blk_fr D15.out f16 (fun h => h)); have I16 := Lib.hid (ZFr.blk_fr I15.out f16 (fun h => h)); obtain ⟨xI16, yI16⟩ := whole_cells I16.out; have J16 := Lib.hid (ZFr.blk_fr J15.out f16 (fun h => h)); obtain ⟨xJ16, yJ16⟩ := whole_cells J16.out; have L16 := Lib.hid (ZFr.blk_fr L15.out f16 (fun h => h)); obtain ⟨xL16, yL16⟩ := whole_cells L16.out; have M16 := Lib.hid (ZFr.blk_fr M15.out f16 (fun h => h)); obtain ⟨xM16, yM16⟩ := whole_cells M16.out; have F16 := Lib.hid (F15.out.trans f16 (fun _ h _ => h)); have G16 := Lib.hid f16; have N16 := Lib.hid (N15.out.trans f16 (fun _ h _ => h)); clear f16)
    | (go_at_call 47; have hc_ := small_walk ry _ w14 BRY.out (Whole.mk (H13.out.fr N14.out (fun _ h => h.elim))); (with_reducible refine hc_.mono ?_); clear hc_; rintro e w15 ⟨rfl, f15⟩; have B15 := Lib.hid (ZFr.blk_fr B14.out f15 (fun h => h)); obtain ⟨xB15, yB15⟩ := point_cells B15.out; have C15 := Lib.hid (ZFr.blk_fr C14.out f15 (fun h => h)); have D15 := Lib.hid (ZFr.blk_fr D14.out f15 (fun h => h)); have I15 := Lib.hid (ZFr.blk_fr I14.out f15 (fun h => h)); obtain ⟨xI15, yI15⟩ := whole_cells I15.out; have J15 := Lib.hid (ZFr.blk_fr J14.out f15 (fun h => h)); obtain ⟨xJ15, yJ15⟩ := whole_cells J15.out; have L15 := Lib.hid (ZFr.blk_fr L14.out f15 (fun h => h)); obtain ⟨xL15, yL15⟩ := whole_cells L15.out; have M15 := Lib.hid (ZFr.blk_fr M14.out f15 (fun h => h)); obtain ⟨xM15, yM15⟩ := whole_cells M15.out; have F15 := Lib.hid (F14.out.trans f15 (fun _ h _ => h)); have G15 := Lib.hid f15; have N15 := Lib.hid (N14.out.trans f15 (fun _ h _ => h)); clear f15)
    | (go_at_call 47; have hc_ := small_walk rx _ ((w12.alloc (Obj.cells #[Value.int IntKind.i64 (sg qy), Value.slice A12 (dg qy.natAbs).length c12] 82)).alloc (Obj.cells #[Value.int IntKind.i64 (sg ry), Value.slice A13 (dg ry.natAbs).length c13] 82)) BRX.out (Whole.mk (K9.out.fr ((G11.out.trans G12.out (fun _ h _ => h)).trans (((Fr.refl (fun _ => False) w12).alloc _).alloc _) (fun _ h _ => h)) (fun _ h => h.elim))); (with_reducible refine hc_.mono ?_); clear hc_; rintro e w14 ⟨rfl, f14⟩; have B14 := Lib.hid (ZFr.blk_fr (ZFr.blk_alloc (ZFr.blk_alloc B12.out _) _) f14 (fun h => h)); obtain ⟨xB14, yB14⟩ := point_cells B14.out; have C14 := Lib.hid (ZFr.blk_fr (ZFr.blk_alloc (ZFr.blk_alloc C12.out _) _) f14 (fun h => h)); have D14 := Lib.hid (ZFr.blk_fr (ZFr.blk_alloc (ZFr.blk_alloc D12.out _) _) f14 (fun h => h)); have I14 := Lib.hid (ZFr.blk_fr (ZFr.blk_alloc (ZFr.blk_alloc I12.out _) _) f14 (fun h => h)); obtain ⟨xI14, yI14⟩ := whole_cells I14.out; have J14 := Lib.hid (ZFr.blk_fr (ZFr.blk_alloc (ZFr.blk_alloc J12.out _) _) f14 (fun h => h)); obtain ⟨xJ14, yJ14⟩ := whole_cells J14.out; have L14 := Lib.hid (ZFr.blk_fr (ZFr.blk_alloc (heap_alloc_new w12 _) _) f14 (fun h => h)); obtain ⟨xL14, yL14⟩ := whole_cells L14.out; have M14 := Lib.hid (ZFr.blk_fr (second w12 _ _) f14 (fun h => h)); obtain ⟨xM14, yM14⟩ := whole_cells M14.out; have F14 := Lib.hid (((F12.out.alloc _).alloc _).trans f14 (fun _ h _ => h)); have G14 := Lib.hid f14; have N14 := Lib.hid ((((Fr.refl (fun _ => False) w12).alloc _).alloc _).trans f14 (fun _ h _ => h)); clear f14)
    | (go_at_call 45; have hc_ := floor_walk y n _ _ (fun _ => False) w11 (fun _ h => h.elim) HN0.out (Whole.mk (H10.out.fr G11.out (fun _ h => h.elim))) (Whole.mk H11.out) LY.out LN.out; (with_reducible refine hc_.mono ?_); clear hc_; rw [QY.out, RY.out]; rintro e w12 ⟨v12, u12, rfl, h12, k12, f12⟩; obtain ⟨s12, rfl, g12⟩ := h12; obtain ⟨A12, c12, rfl⟩ := g12.slice; have H12 := Lib.hid g12; obtain ⟨s13, rfl, g13⟩ := k12; obtain ⟨A13, c13, rfl⟩ := g13.slice; have H13 := Lib.hid g13; clear g12 g13; have B12 := Lib.hid (ZFr.blk_fr B11.out f12 (fun h => h)); obtain ⟨xB12, yB12⟩ := point_cells B12.out; have C12 := Lib.hid (ZFr.blk_fr C11.out f12 (fun h => h)); have D12 := Lib.hid (ZFr.blk_fr D11.out f12 (fun h => h)); have I12 := Lib.hid (ZFr.blk_fr I11.out f12 (fun h => h)); obtain ⟨xI12, yI12⟩ := whole_cells I12.out; have J12 := Lib.hid (ZFr.blk_fr J11.out f12 (fun h => h)); obtain ⟨xJ12, yJ12⟩ := whole_cells J12.out; have F12 := Lib.hid (F11.out.trans f12 (fun _ h _ => h)); have G12 := Lib.hid f12; have zI12 := fun o o' => (whole_cells (ZFr.blk_alloc (ZFr.blk_alloc I12.out o) o')).1; have tI12 := fun o o' => (whole_cells (ZFr.blk_alloc (ZFr.blk_alloc I12.out o) o')).2; have zJ12 := fun o o' => (whole_cells (ZFr.blk_alloc (ZFr.blk_alloc J12.out o) o')).1; have tJ12 := fun o o' => (whole_cells (ZFr.blk_alloc (ZFr.blk_alloc J12.out o) o')).2; clear f12)
    | (go_at_call 46; have hc_ := long_c n HN.out.1 HN.out.2 (fun _ => False) w10 (fun _ h => h.elim); (with_reducible refine hc_.mono ?_); clear hc_; rintro e w11 ⟨v11, rfl, h11, f11⟩; obtain ⟨s11, rfl, g11⟩ := h11; obtain ⟨A11, c11, rfl⟩ := g11.slice; have H11 := Lib.hid g11; clear g11; have B11 := Lib.hid (ZFr.blk_fr B10.out f11 (fun h => h)); obtain ⟨xB11, yB11⟩ := point_cells B11.out; have C11 := Lib.hid (ZFr.blk_fr C10.out f11 (fun h => h)); have D11 := Lib.hid (ZFr.blk_fr D10.out f11 (fun h => h)); have I11 := Lib.hid (ZFr.blk_fr I10.out f11 (fun h => h)); obtain ⟨xI11, yI11⟩ := whole_cells I11.out; have J11 := Lib.hid (ZFr.blk_fr J10.out f11 (fun h => h)); obtain ⟨xJ11, yJ11⟩ := whole_cells J11.out; have F11 := Lib.hid (F10.out.trans f11 (fun _ h _ => h)); have G11 := Lib.hid f11; clear f11)
    | (go_at_call 46; have hc_ := long_c y HY.out.1 HY.out.2 (fun _ => False) ((w8.alloc (Obj.cells #[Value.int IntKind.i64 (sg qx), Value.slice A8 (dg qx.natAbs).length c8] 82)).alloc (Obj.cells #[Value.int IntKind.i64 (sg rx), Value.slice A9 (dg rx.natAbs).length c9] 82)) (fun _ h => h.elim); (with_reducible refine hc_.mono ?_); clear hc_; rintro e w10 ⟨v10, rfl, h10, f10⟩; obtain ⟨s10, rfl, g10⟩ := h10; obtain ⟨A10, c10, rfl⟩ := g10.slice; have H10 := Lib.hid g10; clear g10; have B10 := Lib.hid (ZFr.blk_fr (ZFr.blk_alloc (ZFr.blk_alloc B8.out _) _) f10 (fun h => h)); obtain ⟨xB10, yB10⟩ := point_cells B10.out; have C10 := Lib.hid (ZFr.blk_fr (ZFr.blk_alloc (ZFr.blk_alloc C8.out _) _) f10 (fun h => h)); have D10 := Lib.hid (ZFr.blk_fr (ZFr.blk_alloc (ZFr.blk_alloc D8.out _) _) f10 (fun h => h)); have I10 := Lib.hid (ZFr.blk_fr (ZFr.blk_alloc (heap_alloc_new w8 _) _) f10 (fun h => h)); obtain ⟨xI10, yI10⟩ := whole_cells I10.out; have J10 := Lib.hid (ZFr.blk_fr (second w8 _ _) f10 (fun h => h)); obtain ⟨xJ10, yJ10⟩ := whole_cells J10.out; have F10 := Lib.hid (((F8.out.alloc _).alloc _).trans f10 (fun _ h _ => h)); have G10 := Lib.hid f10; have K8 := Lib.hid (H8.out.fr ((((Fr.refl (fun _ => False) w8).alloc _).alloc _).trans f10 (fun _ h _ => h)) (fun _ h => h.elim)); have K9 := Lib.hid (H9.out.fr ((((Fr.refl (fun _ => False) w8).alloc _).alloc _).trans f10 (fun _ h _ => h)) (fun _ h => h.elim)); clear f10)
    | (go_at_call 45; have hc_ := floor_walk x n _ _ (fun _ => False) w7 (fun _ h => h.elim) HN0.out (Whole.mk (H6.out.fr G7.out (fun _ h => h.elim))) (Whole.mk H7.out) LX.out LN.out; (with_reducible refine hc_.mono ?_); clear hc_; rw [QX.out, RX.out]; rintro e w8 ⟨v8, u8, rfl, h8, k8, f8⟩; obtain ⟨s8, rfl, g8⟩ := h8; obtain ⟨A8, c8, rfl⟩ := g8.slice; have H8 := Lib.hid g8; obtain ⟨s9, rfl, g9⟩ := k8; obtain ⟨A9, c9, rfl⟩ := g9.slice; have H9 := Lib.hid g9; clear g8 g9; have B8 := Lib.hid (ZFr.blk_fr B7.out f8 (fun h => h)); obtain ⟨xB8, yB8⟩ := point_cells B8.out; have C8 := Lib.hid (ZFr.blk_fr C7.out f8 (fun h => h)); have D8 := Lib.hid (ZFr.blk_fr D7.out f8 (fun h => h)); have F8 := Lib.hid (F7.out.trans f8 (fun _ h _ => h)); have G8 := Lib.hid f8; have zB8 := fun o o' => (point_cells (ZFr.blk_alloc (ZFr.blk_alloc B8.out o) o')).1; have tB8 := fun o o' => (point_cells (ZFr.blk_alloc (ZFr.blk_alloc B8.out o) o')).2; clear f8)
    | (go_at_call 46; have hc_ := long_c n HN.out.1 HN.out.2 (fun _ => False) w6 (fun _ h => h.elim); (with_reducible refine hc_.mono ?_); clear hc_; rintro e w7 ⟨v7, rfl, h7, f7⟩; obtain ⟨s7, rfl, g7⟩ := h7; obtain ⟨A7, c7, rfl⟩ := g7.slice; have H7 := Lib.hid g7; clear g7; have B7 := Lib.hid (ZFr.blk_fr B6.out f7 (fun h => h)); obtain ⟨xB7, yB7⟩ := point_cells B7.out; have C7 := Lib.hid (ZFr.blk_fr C6.out f7 (fun h => h)); have D7 := Lib.hid (ZFr.blk_fr D6.out f7 (fun h => h)); have F7 := Lib.hid (F6.out.trans f7 (fun _ h _ => h)); have G7 := Lib.hid f7; clear f7)
    | (go_at_call 46; have hc_ := long_c x HX.out.1 HX.out.2 (fun _ => False) w5 (fun _ h => h.elim); (with_reducible refine hc_.mono ?_); clear hc_; rintro e w6 ⟨v6, rfl, h6, f6⟩; obtain ⟨s6, rfl, g6⟩ := h6; obtain ⟨A6, c6, rfl⟩ := g6.slice; have H6 := Lib.hid g6; clear g6; have B6 := Lib.hid (ZFr.blk_fr B5.out f6 (fun h => h)); obtain ⟨xB6, yB6⟩ := point_cells B6.out; have C6 := Lib.hid (ZFr.blk_fr C5.out f6 (fun h => h)); have D6 := Lib.hid (ZFr.blk_fr D5.out f6 (fun h => h)); have F6 := Lib.hid (F5.out.trans f6 (fun _ h _ => h)); have G6 := Lib.hid f6; clear f6)
    | (go_at_call 44; have hc_ := can_walk x y w4 HX.out HY.out; (with_reducible refine hc_.mono ?_); clear hc_; rintro e w5 ⟨rfl, f5⟩; rw [HCAN.out]; have B5 := Lib.hid (ZFr.blk_fr B4.out f5 (fun h => h)); obtain ⟨xB5, yB5⟩ := point_cells B5.out; have C5 := Lib.hid (ZFr.blk_fr C4.out f5 (fun h => h)); have D5 := Lib.hid (ZFr.blk_fr D4.out f5 (fun h => h)); have F5 := Lib.hid (F4.out.trans f5 (fun _ h _ => h)); have G5 := Lib.hid f5; clear f5)
    )
  have e1 := ZFr.blk_set_other (ZFr.blk_set_other (ZFr.blk_set (ZFr.blk_set C17.out 0 (.int .i64 rx)) 1 (.int .i64 ry)) ⟨w.heap.size + 1 + 1, 0, none⟩ (.int .i64 qx) (by dsimp only; omega)) ⟨w.heap.size + 1 + 1, 1, none⟩ (.int .i64 qy) (by dsimp only; omega)
  have e2 := ZFr.blk_set (ZFr.blk_set (ZFr.blk_set_other (ZFr.blk_set_other D17.out ⟨w.heap.size + 1, 0, none⟩ (.int .i64 rx) (by dsimp only; omega)) ⟨w.heap.size + 1, 1, none⟩ (.int .i64 ry) (by dsimp only; omega)) 0 (.int .i64 qx)) 1 (.int .i64 qy)
  refine bodyPost_ret (results_list (rs := [.cell 4 41, .cell 5 44, .tmp 6]) rfl (by simp) (.cell (w.heap.size + 1) 41 #[.int .i64 rx, .int .i64 ry] (0, 0) _ rfl e1 Try.underlying41 rfl (by kernel_rfl) (.cell (w.heap.size + 1 + 1) 44 #[.int .i64 qx, .int .i64 qy] (0, 0) _ rfl e2 Try.underlying44 rfl (by kernel_rfl) (.tmp .nil)))) rfl ?_
  exact ⟨rfl, (((F17.out.set _ _ (.inr (by dsimp only; omega))).set _ _ (.inr (by dsimp only; omega))).set _ _ (.inr (by dsimp only; omega))).set _ _ (.inr (by dsimp only; omega))⟩
end Go.Proofs.Ytgaicbodpneeoaa.Big


/- What is used of BigS. -/
namespace Go.Proofs.Ytgaicbodpneeoaa.Big
open Go.RowKit Go.Proofs.ZFr Go.Proofs.Ytgaicbodpneeoaa.PRasterImages Go.Proofs.YtgaicbodpneeoaaW.PrintWords
def d2 (x y x' y' : Int) : Int := (x' - x) * (x' - x) + (y' - y) * (y' - y)
theorem len_diff {a b : Int} (ha : i64P a) (hb : i64P b) : (dg (b - a).natAbs).length ≤ 5 := by
  refine dg_len_le 5 _ ?_
  have : (65536 : Nat) ^ 5 = 1208925819614629174706176 := by decide
  obtain ⟨a1, a2⟩ := ha
  obtain ⟨b1, b2⟩ := hb
  omega
set_option maxRecDepth 100000 in
set_option maxHeartbeats 4000000 in
theorem diff_walk (a b : Int) (ha : i64P a) (hb : i64P b) (S : Nat → Prop) (w : World) (hS : ∀ k, S k → k < w.heap.size) : Calls Try.prog 67 #[.int .i64 a, .int .i64 b] w fun e w' => ∃ v, e = .returned v ∧ Whole w' S v (b - a) ∧ Fr (fun _ => False) w w' := by
  have HA := Lib.hid ha
  have HB := Lib.hid hb
  have LA := Lib.hid (len4 ha.1 ha.2)
  have LB := Lib.hid (len4 hb.1 hb.2)
  obtain ⟨d, hd⟩ : ∃ d, b - a = d := ⟨_, rfl⟩
  have HD := Lib.hid hd
  rw [hd]
  clear ha hb hd
  have T0 := Lib.hid (heap_alloc_new w (Obj.cells #[Value.int IntKind.i64 0, Value.slice none 0 0] 82))
  have F0 := Lib.hid ((Fr.refl (fun _ => False) w).alloc (Obj.cells #[Value.int IntKind.i64 0, Value.slice none 0 0] 82))
  go_enter Try.func67, Try.ntmps67
  go_wp2_with fail
  generalize w.alloc (Obj.cells #[Value.int IntKind.i64 0, Value.slice none 0 0] 82) = w1 at T0 F0 ⊢
  have HS := Lib.hid (show ∀ k, (S k ∨ k = w.heap.size) → k < w1.heap.size from fun k hk => hk.elim (fun h => Nat.lt_of_lt_of_le (hS k h) F0.out.size) (fun h => h ▸ ZFr.blk_lt T0.out))
  go_wp2_with (first
    | (go_at_call 48; have hc_ := sub_walk b a _ _ (fun k => S k ∨ k = w.heap.size) w3 (fun k hk => Nat.lt_of_lt_of_le (HS.out k hk) F3.out.size) (Whole.mk (H2.out.fr G3.out (fun _ h => h.elim))) (Whole.mk H3.out) LB.out LA.out; rw [HD.out] at hc_; (with_reducible refine hc_.mono ?_); clear hc_; rintro e w4 ⟨v4, rfl, h4, f4⟩; obtain ⟨s4, rfl, g4⟩ := h4; obtain ⟨A4, c4, rfl⟩ := g4.slice; have H4 := Lib.hid g4; have F4 := Lib.hid (F3.out.trans f4 (fun _ h _ => h)); have T4 := Lib.hid (ZFr.blk_fr T0.out F4.out (fun h => h)); obtain ⟨i1, i2, i3, i4⟩ := whole_store T4.out; clear g4 f4)
    | (go_at_call 46; have hc_ := long_c a HA.out.1 HA.out.2 (fun k => S k ∨ k = w.heap.size) w2 (fun k hk => Nat.lt_of_lt_of_le (HS.out k hk) F2.out.size); (with_reducible refine hc_.mono ?_); clear hc_; rintro e w3 ⟨v3, rfl, h3, f3⟩; obtain ⟨s3, rfl, g3⟩ := h3; obtain ⟨A3, c3, rfl⟩ := g3.slice; have H3 := Lib.hid g3; have G3 := Lib.hid f3; have F3 := Lib.hid (F2.out.trans f3 (fun _ h _ => h)); clear g3 f3)
    | (go_at_call 46; have hc_ := long_c b HB.out.1 HB.out.2 (fun k => S k ∨ k = w.heap.size) w1 HS.out; (with_reducible refine hc_.mono ?_); clear hc_; rintro e w2 ⟨v2, rfl, h2, f2⟩; obtain ⟨s2, rfl, g2⟩ := h2; obtain ⟨A2, c2, rfl⟩ := g2.slice; have H2 := Lib.hid g2; have F2 := Lib.hid f2; clear g2 f2))
  refine bodyPost_ret (results_cell_row rfl _ _ w.heap.size 82 #[.int .i64 (sg d), .slice A4 (dg d.natAbs).length c4] (0, 0) _ rfl (ZFr.blk_set (ZFr.blk_set T4.out 0 _) 1 _) Try.underlying82 rfl (by kernel_rfl)) rfl ?_
  have B := (((Fr.refl (fun k => S k ∨ k = w.heap.size) w4).set ⟨w.heap.size, 0, none⟩ (.int .i64 (sg d)) (.inl (.inr rfl))).set ⟨w.heap.size, 1, none⟩ (.slice A4 (dg d.natAbs).length c4) (.inl (.inr rfl)))
  exact ⟨_, rfl, ⟨_, rfl, (H4.out.fr B (fun _ h => h)).mono (fun _ h => .inl h)⟩, F0.out.trans (((F4.out.mono (T := fun k => k = w.heap.size) (fun _ h => h.elim)).set _ _ (.inl rfl)).set _ _ (.inl rfl)) (fun i hi hl => by omega)⟩
theorem put2 {w : World} {B : Nat} {s0 s : Int} {l0 l : Value} (h : w.heap[B]? = some (.cells #[.int .i64 s0, l0] 82 (0, 0))) : ((w.setCell ⟨B, 0, none⟩ (.int .i64 s)).setCell ⟨B, 1, none⟩ l).heap[B]? = some (.cells #[.int .i64 s, l] 82 (0, 0)) := ZFr.blk_set (ZFr.blk_set h 0 _) 1 _
theorem put2o {w : World} {B C : Nat} {o : Obj} {s l : Value} (h : w.heap[B]? = some o) (hb : B ≠ C) : ((w.setCell ⟨C, 0, none⟩ s).setCell ⟨C, 1, none⟩ l).heap[B]? = some o := ZFr.blk_set_other (ZFr.blk_set_other h _ _ hb) _ _ hb
theorem dgs_put2 {w : World} {S : Nat → Prop} {C n : Nat} {s l v : Value} (h : Dgs w S v n) (hC : S C) : Dgs ((w.setCell ⟨C, 0, none⟩ s).setCell ⟨C, 1, none⟩ l) S v n := h.fr (((Fr.refl S w).set ⟨C, 0, none⟩ s (.inl hC)).set ⟨C, 1, none⟩ l (.inl hC)) (fun _ h => h)
theorem dgs_alloc {w : World} {S : Nat → Prop} {n : Nat} {v : Value} (h : Dgs w S v n) (o : Obj) : Dgs (w.alloc o) S v n := h.fr ((Fr.refl (fun _ => False) w).alloc o) (fun _ h => h.elim)
theorem new_at {w : World} {b : Nat} {o : Obj} (h : b = w.heap.size) : (w.alloc o).heap[b]? = some o := h ▸ heap_alloc_new w o
theorem fr_put2 {a b : World} {S : Nat → Prop} {C : Nat} {s l : Value} (h : Fr S a b) (hC : a.heap.size ≤ C) : Fr S a ((b.setCell ⟨C, 0, none⟩ s).setCell ⟨C, 1, none⟩ l) := (h.set ⟨C, 0, none⟩ s (.inr hC)).set ⟨C, 1, none⟩ l (.inr hC)
set_option maxRecDepth 100000 in
set_option maxHeartbeats 8000000 in
theorem dist_c (x y x' y' : Int) (h1 : i64P x) (h2 : i64P y) (h3 : i64P x') (h4 : i64P y') (S : Nat → Prop) (w : World) (hS : ∀ k, S k → k < w.heap.size) : Calls Try.prog 49 #[.agg #[.int .i64 x, .int .i64 y], .agg #[.int .i64 x', .int .i64 y']] w fun e w' => ∃ v, e = .returned v ∧ Whole w' S v (d2 x y x' y') ∧ Fr (fun _ => False) w w' := by
  have l1 := len_diff h1 h3
  have l2 := len_diff h2 h4
  have DX := Lib.hid (fun W => diff_walk x x' h1 h3 (fun k => k < W.heap.size) W (fun _ h => h))
  have DY := Lib.hid (fun W => diff_walk y y' h2 h4 (fun k => k < W.heap.size) W (fun _ h => h))
  obtain ⟨dx, hdx⟩ : ∃ d, x' - x = d := ⟨_, rfl⟩
  obtain ⟨dy, hdy⟩ : ∃ d, y' - y = d := ⟨_, rfl⟩
  have e0 : d2 x y x' y' = dx * dx + dy * dy := by unfold d2; rw [hdx, hdy]
  rw [e0]
  rw [hdx] at DX l1
  rw [hdy] at DY l2
  have L1 := Lib.hid l1
  have L2 := Lib.hid l2
  have LX := Lib.hid (show (dg (dx * dx).natAbs).length < 900 from by have := dg_mul L1.out L1.out; rw [Int.natAbs_mul]; omega)
  have LY := Lib.hid (show (dg (dy * dy).natAbs).length < 900 from by have := dg_mul L2.out L2.out; rw [Int.natAbs_mul]; omega)
  have LX5 := Lib.hid (show (dg dx.natAbs).length < 800 from by have := L1.out; omega)
  have LY5 := Lib.hid (show (dg dy.natAbs).length < 800 from by have := L2.out; omega)
  obtain ⟨xx, hxx⟩ : ∃ d, dx * dx = d := ⟨_, rfl⟩
  obtain ⟨yy, hyy⟩ : ∃ d, dy * dy = d := ⟨_, rfl⟩
  obtain ⟨zz, hzz⟩ : ∃ d, xx + yy = d := ⟨_, rfl⟩
  rw [hxx] at LX
  rw [hyy] at LY
  have HX := Lib.hid hxx
  have HY := Lib.hid hyy
  have HZ := Lib.hid hzz
  rw [show dx * dx + dy * dy = zz from by rw [hxx, hyy, hzz]]
  clear hxx hyy hzz
  clear h1 h2 h3 h4 e0 hdx hdy l1 l2
  obtain ⟨t1, t2, t3, f3⟩ := tri w (Obj.cells #[Value.int IntKind.i64 x, Value.int IntKind.i64 y] 41) (Obj.cells #[Value.int IntKind.i64 x', Value.int IntKind.i64 y'] 41) (Obj.cells #[Value.int IntKind.i64 0, Value.slice none 0 0] 82)
  go_enter Try.func49, Try.ntmps49
  go_wp2_with fail
  generalize ((w.alloc (Obj.cells #[Value.int IntKind.i64 x, Value.int IntKind.i64 y] 41)).alloc (Obj.cells #[Value.int IntKind.i64 x', Value.int IntKind.i64 y'] 41)).alloc (Obj.cells #[Value.int IntKind.i64 0, Value.slice none 0 0] 82) = w3 at t1 t2 t3 f3 ⊢
  have T1 := Lib.hid t1
  have T2 := Lib.hid t2
  have T3 := Lib.hid t3
  have F3 := Lib.hid f3
  clear t1 t2 t3 f3
  go_upto_region 1 with fail
  go_cut [5, 6] (fun s5 s6 wx => ∃ g5 g6 A5 c5 A6 c6, s5 = .pointer (some ⟨g5, 0, none⟩) ∧ s6 = .pointer (some ⟨g6, 0, none⟩) ∧ w3.heap.size ≤ g5 ∧ w3.heap.size ≤ g6 ∧ wx.heap[g5]? = some (.cells #[.int .i64 (sg dx), .slice A5 (dg dx.natAbs).length c5] 82 (0, 0)) ∧ wx.heap[g6]? = some (.cells #[.int .i64 (sg dy), .slice A6 (dg dy.natAbs).length c6] 82 (0, 0)) ∧ Dgs wx (fun k => k < w3.heap.size) (.slice A5 (dg dx.natAbs).length c5) dx.natAbs ∧ Dgs wx (fun k => k < w3.heap.size) (.slice A6 (dg dy.natAbs).length c6) dy.natAbs ∧ Fr (fun _ => False) w3 wx)
  case first =>
    obtain ⟨a1, a2⟩ := point_cells (w := w3.drew) T1.out
    obtain ⟨a3, a4⟩ := point_cells (w := w3.drew) T2.out
    have pu0_3 := fun o => (point_cells (ZFr.blk_alloc (ZFr.blk_fr T1.out (Fr.refl (fun _ => False) w3) (fun h => h)) o)).1
    have pv0_3 := fun o o9 => (point_cells (ZFr.blk_alloc (ZFr.blk_alloc (ZFr.blk_fr T1.out (Fr.refl (fun _ => False) w3) (fun h => h)) o) o9)).1
    have pu1_3 := fun o => (point_cells (ZFr.blk_alloc (ZFr.blk_fr T1.out (Fr.refl (fun _ => False) w3) (fun h => h)) o)).2
    have pv1_3 := fun o o9 => (point_cells (ZFr.blk_alloc (ZFr.blk_alloc (ZFr.blk_fr T1.out (Fr.refl (fun _ => False) w3) (fun h => h)) o) o9)).2
    have qu0_3 := fun o => (point_cells (ZFr.blk_alloc (ZFr.blk_fr T2.out (Fr.refl (fun _ => False) w3) (fun h => h)) o)).1
    have qv0_3 := fun o o9 => (point_cells (ZFr.blk_alloc (ZFr.blk_alloc (ZFr.blk_fr T2.out (Fr.refl (fun _ => False) w3) (fun h => h)) o) o9)).1
    have qu1_3 := fun o => (point_cells (ZFr.blk_alloc (ZFr.blk_fr T2.out (Fr.refl (fun _ => False) w3) (fun h => h)) o)).2
    have qv1_3 := fun o o9 => (point_cells (ZFr.blk_alloc (ZFr.blk_alloc (ZFr.blk_fr T2.out (Fr.refl (fun _ => False) w3) (fun h => h)) o) o9)).2
    have low3 := ZFr.blk_lt T3.out
    have ne101 : ¬ w.heap.size = w3.heap.size := by omega
    have ne102 : ¬ w.heap.size = w3.heap.size + 1 := by omega
    have ne103 : ¬ w.heap.size + 1 = w3.heap.size := by omega
    have ne104 : ¬ w.heap.size + 1 = w3.heap.size + 1 := by omega
    go_region_held3 (fun w' => w'.cell? ⟨w.heap.size, 0, none⟩ = some (.int .i64 x) ∧ w'.cell? ⟨w.heap.size, 1, none⟩ = some (.int .i64 y) ∧ w'.cell? ⟨w.heap.size + 1, 0, none⟩ = some (.int .i64 x') ∧ w'.cell? ⟨w.heap.size + 1, 1, none⟩ = some (.int .i64 y'))
      (refine ⟨?_, ?_, ?_, ?_⟩ <;> (repeat (first | with_reducible assumption | with_reducible exact pu0_6 _ | with_reducible exact pu1_6 _ | with_reducible exact qu0_6 _ | with_reducible exact qu1_6 _ | with_reducible exact pu0_5 _ | with_reducible exact pu1_5 _ | with_reducible exact qu0_5 _ | with_reducible exact qu1_5 _ | with_reducible exact pu0_3 _ | with_reducible exact pu1_3 _ | with_reducible exact qu0_3 _ | with_reducible exact qu1_3 _ | with_reducible exact pv0_6 _ _ | with_reducible exact pv1_6 _ _ | with_reducible exact qv0_6 _ _ | with_reducible exact qv1_6 _ _ | with_reducible exact pv0_5 _ _ | with_reducible exact pv1_5 _ _ | with_reducible exact qv0_5 _ _ | with_reducible exact qv1_5 _ _ | with_reducible exact pv0_3 _ _ | with_reducible exact pv1_3 _ _ | with_reducible exact qv0_3 _ _ | with_reducible exact qv1_3 _ _ | (with_reducible refine cell_far ?_ (by dsimp only; omega)) | (with_reducible refine fr_cell ?_ ((Fr.refl (fun _ => False) _).alloc _)) | go_keep)))
      (first
        | ((go_at_call_of 67 (Value.int IntKind.i64 x); (with_reducible refine (DX.out _).mono ?_); rintro e w5 ⟨v5, rfl, h5, f5⟩; obtain ⟨s5, rfl, g5⟩ := h5; obtain ⟨A5, c5, rfl⟩ := g5.slice; have H5 := Lib.hid g5; have F5 := Lib.hid f5; have K5 := Lib.hid (Fr.trans (by ((repeat (first | with_reducible refine Fr.drew ?_ | with_reducible refine Fr.alloc ?_ _)); with_reducible exact Fr.refl _ _)) f5 (fun _ h _ => h) : Fr (fun _ => False) w3 w5); have J5 := Lib.hid ((Fr.refl (fun _ => False) w3).trans K5.out (fun _ h _ => h)); obtain ⟨b1_5, b2_5⟩ := point_cells (ZFr.blk_fr T1.out J5.out (fun h => h)); obtain ⟨b3_5, b4_5⟩ := point_cells (ZFr.blk_fr T2.out J5.out (fun h => h)); (first | (have X1 := Lib.hid (ZFr.blk_fr (w := ((w3.alloc (Obj.cells #[Value.int IntKind.i64 0, Value.slice none 0 0] 82)).alloc (Obj.cells #[Value.int IntKind.i64 0, Value.slice none 0 0] 82)).drew) (ZFr.blk_alloc (heap_alloc_new w3 (Obj.cells #[Value.int IntKind.i64 0, Value.slice none 0 0] 82)) (Obj.cells #[Value.int IntKind.i64 0, Value.slice none 0 0] 82)) f5 (fun h => h)); have Y1 := Lib.hid (ZFr.blk_fr (w := ((w3.alloc (Obj.cells #[Value.int IntKind.i64 0, Value.slice none 0 0] 82)).alloc (Obj.cells #[Value.int IntKind.i64 0, Value.slice none 0 0] 82)).drew) (second w3 (Obj.cells #[Value.int IntKind.i64 0, Value.slice none 0 0] 82) (Obj.cells #[Value.int IntKind.i64 0, Value.slice none 0 0] 82)) f5 (fun h => h)); have xl1 := ZFr.blk_lt X1.out; have yl1 := ZFr.blk_lt Y1.out) | (have X1 := Lib.hid (ZFr.blk_fr (w := (w3.alloc (Obj.cells #[Value.int IntKind.i64 0, Value.slice none 0 0] 82)).drew) (heap_alloc_new w3 (Obj.cells #[Value.int IntKind.i64 0, Value.slice none 0 0] 82)) f5 (fun h => h)); have xl1 := ZFr.blk_lt X1.out) | skip); have sz5 := J5.out.size; have pu0_5 := fun o => (point_cells (ZFr.blk_alloc (ZFr.blk_fr T1.out J5.out (fun h => h)) o)).1; have pv0_5 := fun o o9 => (point_cells (ZFr.blk_alloc (ZFr.blk_alloc (ZFr.blk_fr T1.out J5.out (fun h => h)) o) o9)).1; have pu1_5 := fun o => (point_cells (ZFr.blk_alloc (ZFr.blk_fr T1.out J5.out (fun h => h)) o)).2; have pv1_5 := fun o o9 => (point_cells (ZFr.blk_alloc (ZFr.blk_alloc (ZFr.blk_fr T1.out J5.out (fun h => h)) o) o9)).2; have qu0_5 := fun o => (point_cells (ZFr.blk_alloc (ZFr.blk_fr T2.out J5.out (fun h => h)) o)).1; have qv0_5 := fun o o9 => (point_cells (ZFr.blk_alloc (ZFr.blk_alloc (ZFr.blk_fr T2.out J5.out (fun h => h)) o) o9)).1; have qu1_5 := fun o => (point_cells (ZFr.blk_alloc (ZFr.blk_fr T2.out J5.out (fun h => h)) o)).2; have qv1_5 := fun o o9 => (point_cells (ZFr.blk_alloc (ZFr.blk_alloc (ZFr.blk_fr T2.out J5.out (fun h => h)) o) o9)).2; have ne105 := (show ¬ w.heap.size = w5.heap.size from (by omega)); have ne106 := (show ¬ w.heap.size = w5.heap.size + 1 from (by omega)); have ne107 := (show ¬ w.heap.size + 1 = w5.heap.size from (by omega)); have ne108 := (show ¬ w.heap.size + 1 = w5.heap.size + 1 from (by omega)); clear g5 f5))
        | ((go_at_call_of 67 (Value.int IntKind.i64 y); (with_reducible refine (DY.out _).mono ?_); rintro e w6 ⟨v6, rfl, h6, f6⟩; obtain ⟨s6, rfl, g6⟩ := h6; obtain ⟨A6, c6, rfl⟩ := g6.slice; have H6 := Lib.hid g6; have F6 := Lib.hid f6; have K6 := Lib.hid (Fr.trans (by ((repeat (first | with_reducible refine Fr.drew ?_ | with_reducible refine Fr.alloc ?_ _)); with_reducible exact Fr.refl _ _)) f6 (fun _ h _ => h) : Fr (fun _ => False) w5 w6); have J6 := Lib.hid (J5.out.trans K6.out (fun _ h _ => h)); obtain ⟨b1_6, b2_6⟩ := point_cells (ZFr.blk_fr T1.out J6.out (fun h => h)); obtain ⟨b3_6, b4_6⟩ := point_cells (ZFr.blk_fr T2.out J6.out (fun h => h)); (try (have X2 := ZFr.blk_fr X1.out K6.out (fun h => h); have XH := Lib.hid X2; obtain ⟨x1, x2, x3, x4⟩ := whole_store X2; have x5 := fun o => (whole_store (ZFr.blk_alloc X2 o)).1; have x6 := fun o => (whole_store (ZFr.blk_alloc X2 o)).2.1; have x7 := fun o => (whole_store (ZFr.blk_alloc X2 o)).2.2.1; have x8 := fun o => (whole_store (ZFr.blk_alloc X2 o)).2.2.2; have xl := ZFr.blk_lt X2; clear X2)); (try (have Y2 := ZFr.blk_fr Y1.out K6.out (fun h => h); have YH := Lib.hid Y2; obtain ⟨y1, y2, y3, y4⟩ := whole_store Y2; have y5 := fun o => (whole_store (ZFr.blk_alloc Y2 o)).1; have y6 := fun o => (whole_store (ZFr.blk_alloc Y2 o)).2.1; have y7 := fun o => (whole_store (ZFr.blk_alloc Y2 o)).2.2.1; have y8 := fun o => (whole_store (ZFr.blk_alloc Y2 o)).2.2.2; have yl := ZFr.blk_lt Y2; clear Y2)); (first | (have Z2 := ZFr.blk_fr (w := (w5.alloc (Obj.cells #[Value.int IntKind.i64 0, Value.slice none 0 0] 82)).alloc (Obj.cells #[Value.int IntKind.i64 0, Value.slice none 0 0] 82)) (ZFr.blk_alloc (heap_alloc_new w5 (Obj.cells #[Value.int IntKind.i64 0, Value.slice none 0 0] 82)) (Obj.cells #[Value.int IntKind.i64 0, Value.slice none 0 0] 82)) f6 (fun h => h); obtain ⟨z1, z2, z3, z4⟩ := whole_store Z2; have z5 := fun o => (whole_store (ZFr.blk_alloc Z2 o)).1; have z6 := fun o => (whole_store (ZFr.blk_alloc Z2 o)).2.1; have z7 := fun o => (whole_store (ZFr.blk_alloc Z2 o)).2.2.1; have z8 := fun o => (whole_store (ZFr.blk_alloc Z2 o)).2.2.2; have zl := ZFr.blk_lt Z2; have Z3 := ZFr.blk_fr (w := (w5.alloc (Obj.cells #[Value.int IntKind.i64 0, Value.slice none 0 0] 82)).alloc (Obj.cells #[Value.int IntKind.i64 0, Value.slice none 0 0] 82)) (second w5 (Obj.cells #[Value.int IntKind.i64 0, Value.slice none 0 0] 82) (Obj.cells #[Value.int IntKind.i64 0, Value.slice none 0 0] 82)) f6 (fun h => h); have ZH := Lib.hid Z2; have TH := Lib.hid Z3; obtain ⟨t1, t2, t3, t4⟩ := whole_store Z3; have t5 := fun o => (whole_store (ZFr.blk_alloc Z3 o)).1; have t6 := fun o => (whole_store (ZFr.blk_alloc Z3 o)).2.1; have t7 := fun o => (whole_store (ZFr.blk_alloc Z3 o)).2.2.1; have t8 := fun o => (whole_store (ZFr.blk_alloc Z3 o)).2.2.2; have tl := ZFr.blk_lt Z3; clear Z2 Z3) | (have Z2 := ZFr.blk_fr (w := w5.alloc (Obj.cells #[Value.int IntKind.i64 0, Value.slice none 0 0] 82)) (heap_alloc_new w5 (Obj.cells #[Value.int IntKind.i64 0, Value.slice none 0 0] 82)) f6 (fun h => h); have ZH := Lib.hid Z2; obtain ⟨z1, z2, z3, z4⟩ := whole_store Z2; have z5 := fun o => (whole_store (ZFr.blk_alloc Z2 o)).1; have z6 := fun o => (whole_store (ZFr.blk_alloc Z2 o)).2.1; have z7 := fun o => (whole_store (ZFr.blk_alloc Z2 o)).2.2.1; have z8 := fun o => (whole_store (ZFr.blk_alloc Z2 o)).2.2.2; have zl := ZFr.blk_lt Z2; clear Z2) | skip); have uu1 := (whole_store (second w6 (Obj.cells #[Value.int IntKind.i64 0, Value.slice none 0 0] 82) (Obj.cells #[Value.int IntKind.i64 0, Value.slice none 0 0] 82))).1; have uu2 := (whole_store (second w6 (Obj.cells #[Value.int IntKind.i64 0, Value.slice none 0 0] 82) (Obj.cells #[Value.int IntKind.i64 0, Value.slice none 0 0] 82))).2.1; have uu3 := (whole_store (second w6 (Obj.cells #[Value.int IntKind.i64 0, Value.slice none 0 0] 82) (Obj.cells #[Value.int IntKind.i64 0, Value.slice none 0 0] 82))).2.2.1; have uu4 := (whole_store (second w6 (Obj.cells #[Value.int IntKind.i64 0, Value.slice none 0 0] 82) (Obj.cells #[Value.int IntKind.i64 0, Value.slice none 0 0] 82))).2.2.2; have u1 := fun o => (whole_store (ZFr.blk_alloc (heap_alloc_new w6 (Obj.cells #[Value.int IntKind.i64 0, Value.slice none 0 0] 82)) o)).1; have u2 := fun o => (whole_store (ZFr.blk_alloc (heap_alloc_new w6 (Obj.cells #[Value.int IntKind.i64 0, Value.slice none 0 0] 82)) o)).2.1; have u3 := fun o => (whole_store (ZFr.blk_alloc (heap_alloc_new w6 (Obj.cells #[Value.int IntKind.i64 0, Value.slice none 0 0] 82)) o)).2.2.1; have u4 := fun o => (whole_store (ZFr.blk_alloc (heap_alloc_new w6 (Obj.cells #[Value.int IntKind.i64 0, Value.slice none 0 0] 82)) o)).2.2.2; (try (have ne1 : ¬ w3.heap.size = w6.heap.size := by omega)); (try (have nf1 : ¬ w6.heap.size = w3.heap.size := by omega)); (try (have ne2 : ¬ w3.heap.size = w6.heap.size + 1 := by omega)); (try (have nf2 : ¬ w6.heap.size + 1 = w3.heap.size := by omega)); (try (have ne3 : ¬ w3.heap.size = w5.heap.size := by omega)); (try (have nf3 : ¬ w5.heap.size = w3.heap.size := by omega)); (try (have ne4 : ¬ w3.heap.size = w5.heap.size + 1 := by omega)); (try (have nf4 : ¬ w5.heap.size + 1 = w3.heap.size := by omega)); (try (have ne5 : ¬ w3.heap.size + 1 = w6.heap.size := by omega)); (try (have nf5 : ¬ w6.heap.size = w3.heap.size + 1 := by omega)); (try (have ne6 : ¬ w3.heap.size + 1 = w6.heap.size + 1 := by omega)); (try (have nf6 : ¬ w6.heap.size + 1 = w3.heap.size + 1 := by omega)); (try (have ne7 : ¬ w3.heap.size + 1 = w5.heap.size := by omega)); (try (have nf7 : ¬ w5.heap.size = w3.heap.size + 1 := by omega)); (try (have ne8 : ¬ w3.heap.size + 1 = w5.heap.size + 1 := by omega)); (try (have nf8 : ¬ w5.heap.size + 1 = w3.heap.size + 1 := by omega)); (try (have ne9 : ¬ w5.heap.size = w6.heap.size := by omega)); (try (have nf9 : ¬ w6.heap.size = w5.heap.size := by omega)); (try (have ne10 : ¬ w5.heap.size = w6.heap.size + 1 := by omega)); (try (have nf10 : ¬ w6.heap.size + 1 = w5.heap.size := by omega)); (try (have ne11 : ¬ w5.heap.size + 1 = w6.heap.size := by omega)); (try (have nf11 : ¬ w6.heap.size = w5.heap.size + 1 := by omega)); (try (have ne12 : ¬ w5.heap.size + 1 = w6.heap.size + 1 := by omega)); (try (have nf12 : ¬ w6.heap.size + 1 = w5.heap.size + 1 := by omega)); have sz6 := J6.out.size; have pu0_6 := fun o => (point_cells (ZFr.blk_alloc (ZFr.blk_fr T1.out J6.out (fun h => h)) o)).1; have pv0_6 := fun o o9 => (point_cells (ZFr.blk_alloc (ZFr.blk_alloc (ZFr.blk_fr T1.out J6.out (fun h => h)) o) o9)).1; have pu1_6 := fun o => (point_cells (ZFr.blk_alloc (ZFr.blk_fr T1.out J6.out (fun h => h)) o)).2; have pv1_6 := fun o o9 => (point_cells (ZFr.blk_alloc (ZFr.blk_alloc (ZFr.blk_fr T1.out J6.out (fun h => h)) o) o9)).2; have qu0_6 := fun o => (point_cells (ZFr.blk_alloc (ZFr.blk_fr T2.out J6.out (fun h => h)) o)).1; have qv0_6 := fun o o9 => (point_cells (ZFr.blk_alloc (ZFr.blk_alloc (ZFr.blk_fr T2.out J6.out (fun h => h)) o) o9)).1; have qu1_6 := fun o => (point_cells (ZFr.blk_alloc (ZFr.blk_fr T2.out J6.out (fun h => h)) o)).2; have qv1_6 := fun o o9 => (point_cells (ZFr.blk_alloc (ZFr.blk_alloc (ZFr.blk_fr T2.out J6.out (fun h => h)) o) o9)).2; have ne109 := (show ¬ w.heap.size = w6.heap.size from (by omega)); have ne110 := (show ¬ w.heap.size = w6.heap.size + 1 from (by omega)); have ne111 := (show ¬ w.heap.size + 1 = w6.heap.size from (by omega)); have ne112 := (show ¬ w.heap.size + 1 = w6.heap.size + 1 from (by omega)); clear g6 f6)))
    all_goals
      go_wp2_with fail
      go_meet
      have BD5 := H5.out.up (w' := w6) K6.out
      have BD6 := H6.out
      refine ⟨_, _, A5, c5, A6, c6, rfl, rfl, (by omega), (by omega), ?_, ?_, ?_, ?_, ?_⟩
      · first | (with_reducible refine new_at ?_; simp only [ZFr.size_set]) | with_reducible exact heap_alloc_new _ _ | with_reducible exact second _ _ _ | with_reducible exact ZFr.blk_alloc (heap_alloc_new _ _) _ | (with_reducible refine ZFr.blk_alloc ?_ _; (first | with_reducible exact put2 XH.out | with_reducible exact put2 YH.out | with_reducible exact put2 ZH.out | with_reducible exact put2 TH.out)) | (with_reducible refine put2o (put2 XH.out) ?_ <;> omega) | (with_reducible refine put2o (put2 YH.out) ?_ <;> omega) | (with_reducible refine put2o (put2 ZH.out) ?_ <;> omega) | (with_reducible refine put2o (put2 TH.out) ?_ <;> omega) | (with_reducible refine put2 (put2o XH.out ?_) <;> omega) | (with_reducible refine put2 (put2o YH.out ?_) <;> omega) | (with_reducible refine put2 (put2o ZH.out ?_) <;> omega) | (with_reducible refine put2 (put2o TH.out ?_) <;> omega)
      · first | (with_reducible refine new_at ?_; simp only [ZFr.size_set]) | with_reducible exact heap_alloc_new _ _ | with_reducible exact second _ _ _ | with_reducible exact ZFr.blk_alloc (heap_alloc_new _ _) _ | (with_reducible refine ZFr.blk_alloc ?_ _; (first | with_reducible exact put2 XH.out | with_reducible exact put2 YH.out | with_reducible exact put2 ZH.out | with_reducible exact put2 TH.out)) | (with_reducible refine put2o (put2 XH.out) ?_ <;> omega) | (with_reducible refine put2o (put2 YH.out) ?_ <;> omega) | (with_reducible refine put2o (put2 ZH.out) ?_ <;> omega) | (with_reducible refine put2o (put2 TH.out) ?_ <;> omega) | (with_reducible refine put2 (put2o XH.out ?_) <;> omega) | (with_reducible refine put2 (put2o YH.out ?_) <;> omega) | (with_reducible refine put2 (put2o ZH.out ?_) <;> omega) | (with_reducible refine put2 (put2o TH.out ?_) <;> omega)
      · (first | (with_reducible refine Dgs.mono (dgs_put2 (dgs_put2 BD5 ?_) ?_) ?_) | (with_reducible refine Dgs.mono (dgs_alloc (dgs_put2 BD5 ?_) _) ?_) | (with_reducible refine Dgs.mono (dgs_alloc (dgs_alloc BD5 _) _) ?_)) <;> (first | omega | (unfold Up; simp; omega) | (unfold Up; simp))
      · (first | (with_reducible refine Dgs.mono (dgs_put2 (dgs_put2 BD6 ?_) ?_) ?_) | (with_reducible refine Dgs.mono (dgs_alloc (dgs_put2 BD6 ?_) _) ?_) | (with_reducible refine Dgs.mono (dgs_alloc (dgs_alloc BD6 _) _) ?_)) <;> (first | omega | (simp; omega) | simp)
      · (first | (with_reducible refine fr_put2 (fr_put2 J6.out ?_) ?_) | (with_reducible refine Fr.alloc (fr_put2 J6.out ?_) _) | (with_reducible refine Fr.alloc (Fr.alloc J6.out _) _)) <;> omega
  case rest =>
    obtain ⟨g5, g6, A5, c5, A6, c6, rfl, rfl, m5, m6, b5, b6, d5, d6, fc⟩ := hcut
    have FC := Lib.hid fc
    have B5 := Lib.hid b5
    have B6 := Lib.hid b6
    have D5 := Lib.hid (d5.fr ((Fr.refl (fun _ => False) wc).drew) (fun _ h => h.elim))
    have D6 := Lib.hid (d6.fr ((Fr.refl (fun _ => False) wc).drew) (fun _ h => h.elim))
    have HT := Lib.hid (show ∀ k, k < w3.heap.size → k < wc.drew.heap.size from fun k hk => Nat.lt_of_lt_of_le hk fc.size)
    have R0 := Lib.hid (ZFr.blk_fr T3.out fc (fun h => h))
    have hl3 := ZFr.blk_lt T3.out
    have hne5 : ¬ w.heap.size + 1 + 1 = g5 := by omega
    have hne6 : ¬ w.heap.size + 1 + 1 = g6 := by omega
    clear hl3 m5 m6
    obtain ⟨p1, p2⟩ := whole_cells (w := wc.drew) b5
    obtain ⟨q1, q2⟩ := whole_cells (w := wc.drew) b6
    clear b5 b6 d5 d6 fc
    go_wp2_with fail
    go_region_held3 (fun w' => w'.cell? ⟨g5, 0, none⟩ = some (.int .i64 (sg dx)) ∧ w'.cell? ⟨g5, 1, none⟩ = some (.slice A5 (dg dx.natAbs).length c5) ∧ w'.cell? ⟨g6, 0, none⟩ = some (.int .i64 (sg dy)) ∧ w'.cell? ⟨g6, 1, none⟩ = some (.slice A6 (dg dy.natAbs).length c6))
      (refine ⟨?_, ?_, ?_, ?_⟩ <;> (repeat (first | with_reducible assumption | (with_reducible refine cell_far ?_ (by dsimp only; omega)))))
      (first
        | ((go_at_call 65; have hc_ := add_walk xx yy _ _ (fun k => k < w3.heap.size) w8 (fun k hk => Nat.lt_of_lt_of_le (HT.out k hk) F8.out.size) (Whole.mk (H7.out.fr G8.out (fun _ h => h.elim))) (Whole.mk H8.out) LX.out LY.out; rw [HZ.out] at hc_; (with_reducible refine hc_.mono ?_); clear hc_; rintro e w9 ⟨v9, rfl, h9, f9⟩; obtain ⟨s9, rfl, g9⟩ := h9; obtain ⟨A9, c9, rfl⟩ := g9.slice; have H9 := Lib.hid g9; have F9 := Lib.hid (F8.out.trans f9 (fun _ h _ => h)); obtain ⟨p5, p6⟩ := whole_cells (ZFr.blk_fr B5.out F9.out (fun h => h)); obtain ⟨q5, q6⟩ := whole_cells (ZFr.blk_fr B6.out F9.out (fun h => h)); have R9 := Lib.hid (ZFr.blk_fr R0.out F9.out (fun h => h)); obtain ⟨i1, i2, i3, i4⟩ := whole_store R9.out; clear g9 f9))
        | ((go_at_call_of 63 (Value.agg #[Value.int IntKind.i64 (sg dx), Value.slice A5 (dg dx.natAbs).length c5]); have hc_ := mul_walk dx dx _ _ (fun k => k < w3.heap.size) wc.drew HT.out (Whole.mk D5.out) (Whole.mk D5.out) LX5.out LX5.out; rw [HX.out] at hc_; (with_reducible refine hc_.mono ?_); clear hc_; rintro e w7 ⟨v7, rfl, h7, f7⟩; obtain ⟨s7, rfl, g7⟩ := h7; obtain ⟨A7, c7, rfl⟩ := g7.slice; have H7 := Lib.hid g7; have F7 := Lib.hid (((Fr.refl (fun _ => False) wc).drew).trans f7 (fun _ h _ => h)); have G7 := Lib.hid f7; obtain ⟨p3, p4⟩ := whole_cells (ZFr.blk_fr B5.out F7.out (fun h => h)); obtain ⟨q3, q4⟩ := whole_cells (ZFr.blk_fr B6.out F7.out (fun h => h)); clear g7 f7))
        | ((go_at_call_of 63 (Value.agg #[Value.int IntKind.i64 (sg dy), Value.slice A6 (dg dy.natAbs).length c6]); have hc_ := mul_walk dy dy _ _ (fun k => k < w3.heap.size) w7 (fun k hk => Nat.lt_of_lt_of_le (HT.out k hk) G7.out.size) (Whole.mk (D6.out.fr G7.out (fun _ h => h.elim))) (Whole.mk (D6.out.fr G7.out (fun _ h => h.elim))) LY5.out LY5.out; rw [HY.out] at hc_; (with_reducible refine hc_.mono ?_); clear hc_; rintro e w8 ⟨v8, rfl, h8, f8⟩; obtain ⟨s8, rfl, g8⟩ := h8; obtain ⟨A8, c8, rfl⟩ := g8.slice; have H8 := Lib.hid g8; have G8 := Lib.hid f8; have F8 := Lib.hid (F7.out.trans f8 (fun _ h _ => h)); obtain ⟨p7, p8⟩ := whole_cells (ZFr.blk_fr B5.out F8.out (fun h => h)); obtain ⟨q7, q8⟩ := whole_cells (ZFr.blk_fr B6.out F8.out (fun h => h)); clear g8 f8)))
    all_goals
      go_wp2_with fail
      have hl := ZFr.blk_lt T3.out
      have B := ((Fr.refl (fun k => k < w3.heap.size) w9).set ⟨w.heap.size + 1 + 1, 0, none⟩ (.int .i64 (sg zz)) (.inl hl)).set ⟨w.heap.size + 1 + 1, 1, none⟩ (.slice A9 (dg zz.natAbs).length c9) (.inl hl)
      refine bodyPost_ret (results_cell_row rfl _ _ (w.heap.size + 1 + 1) 82 #[.int .i64 (sg zz), .slice A9 (dg zz.natAbs).length c9] (0, 0) _ rfl (ZFr.blk_set (ZFr.blk_set R9.out 0 _) 1 _) Try.underlying82 rfl (by kernel_rfl)) rfl ?_
      exact ⟨_, rfl, ⟨_, rfl, (H9.out.fr B (fun _ h => h)).mono (fun k h => Nat.lt_of_lt_of_le (hS k h) F3.out.size)⟩, (((F3.out.trans FC.out (fun _ h _ => h)).trans F9.out (fun _ h _ => h)).set _ _ (.inr (by dsimp only; omega))).set _ _ (.inr (by dsimp only; omega))⟩
end Go.Proofs.Ytgaicbodpneeoaa.Big

