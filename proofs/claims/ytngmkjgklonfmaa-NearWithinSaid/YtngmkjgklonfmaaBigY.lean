/- The document's whole numbers of any length: differences, products, order. -/
import Derived.Test.YtngmkjgklonfmaaBigX
namespace Go.Proofs.Ytngmkjgklonfmaa.Big
open Go.RowKit Go.Proofs.ZFr Go.Proofs.Ytngmkjgklonfmaa.PNearNearest Go.Proofs.YtngmkjgklonfmaaW.PrintWords

theorem Whole.mk {w : World} {S : Nat → Prop} {s : Value} {n : Int} (h : Dgs w S s n.natAbs) : Whole w S (.agg #[.int .i64 (sg n), s]) n := ⟨s, rfl, h⟩
theorem sg_mul (a b : Int) : wrap64 (sg a * sg b) = sg (a * b) := by
  have e : wrap64 0 = 0 ∧ wrap64 1 = 1 ∧ wrap64 (-1) = -1 := by unfold wrap64; omega
  rcases Int.lt_trichotomy a 0 with ha | ha | ha
  · rcases Int.lt_trichotomy b 0 with hb | hb | hb
    · have := Int.mul_pos_of_neg_of_neg ha hb
      unfold sg
      rw [if_neg (by omega), if_pos ha, if_neg (by omega), if_pos hb, if_neg (by omega), if_neg (by omega)]; exact e.2.1
    · subst hb; rw [Int.mul_zero]; unfold sg; simp only [if_true, Int.mul_zero]; exact e.1
    · have := Int.mul_neg_of_neg_of_pos ha hb
      unfold sg
      rw [if_neg (by omega), if_pos ha, if_neg (by omega), if_neg (by omega), if_neg (by omega), if_pos this]; exact e.2.2
  · subst ha; rw [Int.zero_mul]; unfold sg; simp only [if_true, Int.zero_mul]; exact e.1
  · rcases Int.lt_trichotomy b 0 with hb | hb | hb
    · have := Int.mul_neg_of_pos_of_neg ha hb
      unfold sg
      rw [if_neg (by omega), if_neg (by omega), if_neg (by omega), if_pos hb, if_neg (by omega), if_pos this]; exact e.2.2
    · subst hb; rw [Int.mul_zero]; unfold sg; simp only [if_true, Int.mul_zero]; exact e.1
    · have := Int.mul_pos ha hb
      unfold sg
      rw [if_neg (by omega), if_neg (by omega), if_neg (by omega), if_neg (by omega), if_neg (by omega), if_neg (by omega)]; exact e.2.1
theorem field0 (s : Int) (A : Option Addr) (n c : Nat) (w : World) : (Instr.field 40 (Value.agg #[.int .i64 s, .slice A n c]) 0).run Try.prog w = .ok (.int .i64 s) w := by
  kernel_rfl
theorem dg_mono {m n : Nat} (h : m ≤ n) : (dg m).length ≤ (dg n).length := by
  by_cases hl : (dg n).length < (dg m).length
  · have := lt_of_len (dg_dig n) (dg_nrm m) hl
    rw [dg_val, dg_val] at this
    omega
  · omega
theorem dg_add {m n : Nat} {k : Nat} (hm : (dg m).length ≤ k) (hn : (dg n).length ≤ k) : (dg (m + n)).length ≤ k + 1 := by
  refine dg_len_le (k + 1) (m + n) ?_
  have h1 := val_lt (dg_dig m)
  have h2 := val_lt (dg_dig n)
  rw [dg_val] at h1 h2
  have h3 : (65536 : Int) ^ (dg m).length ≤ 65536 ^ k := pow_le hm
  have h4 : (65536 : Int) ^ (dg n).length ≤ 65536 ^ k := pow_le hn
  have h5 : ((65536 ^ (k + 1) : Nat) : Int) = 65536 ^ k * 65536 := by rw [Int.natCast_pow, Int.pow_succ]; rfl
  have h6 := pow_pos k
  omega

set_option maxRecDepth 100000 in
set_option maxHeartbeats 4000000 in
theorem sub_walk (a b : Int) (va vb : Value) (S : Nat → Prop) (w : World) (hS : ∀ k, S k → k < w.heap.size) (ha : Whole w S va a) (hb : Whole w S vb b) (la : (dg a.natAbs).length < 800) (lb : (dg b.natAbs).length < 800) : Calls Try.prog 34 #[va, vb] w fun e w' => ∃ v', e = .returned v' ∧ Whole w' S v' (a - b) ∧ Fr (fun _ => False) w w' := by
  have la9 : (dg a.natAbs).length < 900 := by omega
  have lb9 : (dg b.natAbs).length < 900 := by omega
  obtain ⟨nb, hnb⟩ : ∃ nb, -b = nb := ⟨_, rfl⟩
  have LNB : (dg nb.natAbs).length < 900 := by rw [← hnb, Int.natAbs_neg]; exact lb9
  obtain ⟨ab, hab⟩ : ∃ ab, a + nb = ab := ⟨_, rfl⟩
  rw [show a - b = ab from by omega]
  have HNB := Lib.hid hnb
  have HAB := Lib.hid hab
  clear hnb hab
  obtain ⟨sa, rfl, hda⟩ := ha
  obtain ⟨A, c, rfl⟩ := hda.slice
  obtain ⟨sb, rfl, hdb⟩ := hb
  obtain ⟨A', c', rfl⟩ := hdb.slice
  have hA := Lib.hid hda
  have hB := Lib.hid hdb
  clear hda hdb
  have tt := tri w (Obj.cells #[Value.int IntKind.i64 (sg a), Value.slice A (dg a.natAbs).length c] 40) (Obj.cells #[Value.int IntKind.i64 (sg b), Value.slice A' (dg b.natAbs).length c'] 40) (Obj.cells #[Value.int IntKind.i64 0, Value.slice none 0 0] 40)
  generalize htt : ((w.alloc (Obj.cells #[Value.int IntKind.i64 (sg a), Value.slice A (dg a.natAbs).length c] 40)).alloc (Obj.cells #[Value.int IntKind.i64 (sg b), Value.slice A' (dg b.natAbs).length c'] 40)).alloc (Obj.cells #[Value.int IntKind.i64 0, Value.slice none 0 0] 40) = w3 at tt
  go_enter Try.func34, Try.ntmps34
  go_wp2_with fail
  obtain ⟨t1, t2, t3, f3⟩ := tt
  clear htt
  have Ta3 := Lib.hid t1
  have Tb3 := Lib.hid t2
  have Tr3 := Lib.hid t3
  have F3 := Lib.hid f3.drew
  obtain ⟨xa3, ya3⟩ := whole_cells (w := w3.drew) t1
  obtain ⟨xb3, yb3⟩ := whole_cells (w := w3.drew) t2
  clear t1 t2 t3 f3
  go_region_held3 (fun w' => w'.cell? ⟨w.heap.size, 0, none⟩ = some (.int .i64 (sg a)) ∧ w'.cell? ⟨w.heap.size, 1, none⟩ = some (Value.slice A (dg a.natAbs).length c) ∧ w'.cell? ⟨w.heap.size + 1, 0, none⟩ = some (.int .i64 (sg b)) ∧ w'.cell? ⟨w.heap.size + 1, 1, none⟩ = some (Value.slice A' (dg b.natAbs).length c'))
    (exact ⟨by first | assumption | exact cell_far (by assumption) (by dsimp only; omega) | exact cell_far (cell_far (by assumption) (by dsimp only; omega)) (by dsimp only; omega), by first | assumption | exact cell_far (by assumption) (by dsimp only; omega) | exact cell_far (cell_far (by assumption) (by dsimp only; omega)) (by dsimp only; omega), by first | assumption | exact cell_far (by assumption) (by dsimp only; omega) | exact cell_far (cell_far (by assumption) (by dsimp only; omega)) (by dsimp only; omega), by first | assumption | exact cell_far (by assumption) (by dsimp only; omega) | exact cell_far (cell_far (by assumption) (by dsimp only; omega)) (by dsimp only; omega)⟩)
    (first
      | ((go_at_call 61; refine (neg_walk b _ (Up S w w3.drew) _ (Whole.mk (hB.out.up F3.out))).mono ?_; rintro e w4 ⟨v4, rfl, h4, f4⟩; rw [HNB.out] at h4; obtain ⟨s4, rfl, g4⟩ := h4; obtain ⟨A4, c4, rfl⟩ := g4.slice; have H4 := Lib.hid g4; clear g4; have Ta4 := Lib.hid (ZFr.blk_fr (w := w3.drew) Ta3.out f4 (fun h => h)); obtain ⟨xa4, ya4⟩ := whole_cells Ta4.out; have Tb4 := Lib.hid (ZFr.blk_fr (w := w3.drew) Tb3.out f4 (fun h => h)); obtain ⟨xb4, yb4⟩ := whole_cells Tb4.out; have Tr4 := Lib.hid (ZFr.blk_fr (w := w3.drew) Tr3.out f4 (fun h => h)); obtain ⟨xr4, yr4, pr4, qr4⟩ := whole_store Tr4.out; have F4 := Lib.hid (F3.out.trans f4 (fun _ h _ => h)); have TSZ := Lib.hid f4.size; clear f4))
      | ((go_at_call 60; refine (add_walk a nb _ _ (Up S w w3.drew) _ (fun k hk => Nat.lt_of_lt_of_le (Up.lt hS F3.out.size k hk) TSZ.out) (Whole.mk ((hA.out.up F4.out))) (Whole.mk H4.out) la9 LNB).mono ?_; rintro e w5 ⟨v5, rfl, h5, f5⟩; rw [HAB.out] at h5; obtain ⟨s5, rfl, g5⟩ := h5; obtain ⟨A5, c5, rfl⟩ := g5.slice; have H5 := Lib.hid g5; clear g5; have Ta5 := Lib.hid (ZFr.blk_fr (w := w4) Ta4.out f5 (fun h => h)); obtain ⟨xa5, ya5⟩ := whole_cells Ta5.out; have Tb5 := Lib.hid (ZFr.blk_fr (w := w4) Tb4.out f5 (fun h => h)); obtain ⟨xb5, yb5⟩ := whole_cells Tb5.out; have Tr5 := Lib.hid (ZFr.blk_fr (w := w4) Tr4.out f5 (fun h => h)); obtain ⟨xr5, yr5, pr5, qr5⟩ := whole_store Tr5.out; have F5 := Lib.hid (F4.out.trans f5 (fun _ h _ => h)); clear f5)))
  all_goals
    go_wp2_with fail
    have f9 := (F5.out.set ⟨w.heap.size + 1 + 1, 0, none⟩ (.int .i64 (sg (ab))) (.inr (by dsimp only; omega))).set ⟨w.heap.size + 1 + 1, 1, none⟩ (Value.slice A5 (dg (ab).natAbs).length c5) (.inr (by dsimp only; omega))
    refine bodyPost_ret (results_cell_row rfl _ _ (w.heap.size + 1 + 1) 40 #[.int .i64 (sg (ab)), .slice A5 (dg (ab).natAbs).length c5] (0, 0) _ rfl (ZFr.blk_set (ZFr.blk_set Tr5.out 0 _) 1 _) Try.underlying40 rfl (by kernel_rfl)) rfl ?_
    refine ⟨_, rfl, ⟨_, rfl, ?_⟩, f9⟩
    have hup : Up S w w3.drew (w.heap.size + 1 + 1) := .inr ⟨by omega, ZFr.blk_lt (w := w3.drew) Tr3.out⟩
    exact (H5.out.fr (((Fr.refl (Up S w w3.drew) w5).set ⟨w.heap.size + 1 + 1, 0, none⟩ _ (.inl hup)).set ⟨w.heap.size + 1 + 1, 1, none⟩ _ (.inl hup)) (fun _ h => h)).mono (fun _ h => .inl h)

set_option maxRecDepth 100000 in
set_option maxHeartbeats 4000000 in
theorem cmp_walk (a b : Int) (va vb : Value) (S : Nat → Prop) (w : World) (hS : ∀ k, S k → k < w.heap.size) (ha : Whole w S va a) (hb : Whole w S vb b) (la : (dg a.natAbs).length < 800) (lb : (dg b.natAbs).length < 800) : Calls Try.prog 13 #[va, vb] w fun e w' => e = .returned (.int .i64 (sg (a - b))) ∧ Fr (fun _ => False) w w' := by
  have la9 : (dg a.natAbs).length < 900 := by omega
  have lb9 : (dg b.natAbs).length < 900 := by omega
  obtain ⟨sa, rfl, hda⟩ := ha
  obtain ⟨A, c, rfl⟩ := hda.slice
  obtain ⟨sb, rfl, hdb⟩ := hb
  obtain ⟨A', c', rfl⟩ := hdb.slice
  have hA := Lib.hid hda
  have hB := Lib.hid hdb
  clear hda hdb
  have t1 := heap_alloc_new w (Obj.cells #[Value.int IntKind.i64 (sg a), Value.slice A (dg a.natAbs).length c] 40)
  have t2 := second w (Obj.cells #[Value.int IntKind.i64 (sg a), Value.slice A (dg a.natAbs).length c] 40) (Obj.cells #[Value.int IntKind.i64 (sg b), Value.slice A' (dg b.natAbs).length c'] 40)
  have t1' := ZFr.blk_alloc t1 (Obj.cells #[Value.int IntKind.i64 (sg b), Value.slice A' (dg b.natAbs).length c'] 40)
  have f2 := ((Fr.refl (fun _ => False) w).alloc (Obj.cells #[Value.int IntKind.i64 (sg a), Value.slice A (dg a.natAbs).length c] 40)).alloc (Obj.cells #[Value.int IntKind.i64 (sg b), Value.slice A' (dg b.natAbs).length c'] 40)
  clear t1
  have X := Lib.hid t1'
  have Y := Lib.hid t2
  have F2 := Lib.hid f2
  clear t1' t2 f2
  have hfld := field0
  go_enter Try.func13, Try.ntmps13
  go_wp2_with (first | (go_at_call 34; refine (sub_walk a b _ _ S _ (fun k hk => Nat.lt_of_lt_of_le (hS k hk) F2.out.size) (Whole.mk (hA.out.fr F2.out (fun _ h => h.elim))) (Whole.mk (hB.out.fr F2.out (fun _ h => h.elim))) la lb).mono ?_; rintro e w4 ⟨v4, rfl, h4, f4⟩; obtain ⟨s4, rfl, g4⟩ := h4; obtain ⟨A4, c4, rfl⟩ := g4.slice; have F4 := Lib.hid (F2.out.trans f4 (fun _ h _ => h)); clear f4 g4 X Y F2))
  go_ret
  exact ⟨rfl, F4.out⟩

set_option maxRecDepth 100000 in
set_option maxHeartbeats 4000000 in
theorem mul_walk (a b : Int) (va vb : Value) (S : Nat → Prop) (w : World) (hS : ∀ k, S k → k < w.heap.size) (ha : Whole w S va a) (hb : Whole w S vb b) (la : (dg a.natAbs).length < 800) (lb : (dg b.natAbs).length < 800) : Calls Try.prog 69 #[va, vb] w fun e w' => ∃ v', e = .returned v' ∧ Whole w' S v' (a * b) ∧ Fr (fun _ => False) w w' := by
  have la9 : (dg a.natAbs).length < 900 := by omega
  have lb9 : (dg b.natAbs).length < 900 := by omega
  have hw := Int.natAbs_mul a b
  have hsg := (Go.Proofs.YtngmkjgklonfmaaW.PrintLast.i64_w _).trans (sg_mul a b)
  obtain ⟨m, hm⟩ : ∃ m, a * b = m := ⟨_, rfl⟩
  rw [hm] at hw hsg ⊢
  have HW := Lib.hid hw
  clear hw hm
  obtain ⟨sa, rfl, hda⟩ := ha
  obtain ⟨A, c, rfl⟩ := hda.slice
  obtain ⟨sb, rfl, hdb⟩ := hb
  obtain ⟨A', c', rfl⟩ := hdb.slice
  have hA := Lib.hid hda
  have hB := Lib.hid hdb
  clear hda hdb
  have tt := tri w (Obj.cells #[Value.int IntKind.i64 (sg a), Value.slice A (dg a.natAbs).length c] 40) (Obj.cells #[Value.int IntKind.i64 (sg b), Value.slice A' (dg b.natAbs).length c'] 40) (Obj.cells #[Value.int IntKind.i64 0, Value.slice none 0 0] 40)
  generalize htt : ((w.alloc (Obj.cells #[Value.int IntKind.i64 (sg a), Value.slice A (dg a.natAbs).length c] 40)).alloc (Obj.cells #[Value.int IntKind.i64 (sg b), Value.slice A' (dg b.natAbs).length c'] 40)).alloc (Obj.cells #[Value.int IntKind.i64 0, Value.slice none 0 0] 40) = w3 at tt
  go_enter Try.func69, Try.ntmps69
  go_wp2_with fail
  obtain ⟨t1, t2, t3, f3⟩ := tt
  clear htt
  have Ta3 := Lib.hid t1
  have Tb3 := Lib.hid t2
  have Tr3 := Lib.hid t3
  have F3 := Lib.hid f3.drew
  obtain ⟨xa3, ya3⟩ := whole_cells (w := w3.drew) t1
  obtain ⟨xb3, yb3⟩ := whole_cells (w := w3.drew) t2
  clear t1 t2 t3 f3
  go_region_held3 (fun w' => w'.cell? ⟨w.heap.size, 0, none⟩ = some (.int .i64 (sg a)) ∧ w'.cell? ⟨w.heap.size, 1, none⟩ = some (Value.slice A (dg a.natAbs).length c) ∧ w'.cell? ⟨w.heap.size + 1, 0, none⟩ = some (.int .i64 (sg b)) ∧ w'.cell? ⟨w.heap.size + 1, 1, none⟩ = some (Value.slice A' (dg b.natAbs).length c'))
    (exact ⟨by first | assumption | exact cell_far (by assumption) (by dsimp only; omega) | exact cell_far (cell_far (by assumption) (by dsimp only; omega)) (by dsimp only; omega), by first | assumption | exact cell_far (by assumption) (by dsimp only; omega) | exact cell_far (cell_far (by assumption) (by dsimp only; omega)) (by dsimp only; omega), by first | assumption | exact cell_far (by assumption) (by dsimp only; omega) | exact cell_far (cell_far (by assumption) (by dsimp only; omega)) (by dsimp only; omega), by first | assumption | exact cell_far (by assumption) (by dsimp only; omega) | exact cell_far (cell_far (by assumption) (by dsimp only; omega)) (by dsimp only; omega)⟩)
    (first
      | ((go_at_call 92; refine (nmul_c a.natAbs b.natAbs _ _ (Up S w w3.drew) _ (Up.lt hS F3.out.size) la9 lb9 (hA.out.up F3.out) (hB.out.up F3.out)).mono ?_; rintro e w4 ⟨v4, rfl, h4, f4⟩; obtain ⟨A4, c4, rfl⟩ := h4.slice; have H4 := Lib.hid h4; clear h4; have Ta4 := Lib.hid (ZFr.blk_fr (w := w3.drew) Ta3.out f4 (fun h => h)); obtain ⟨xa4, ya4⟩ := whole_cells Ta4.out; have Tb4 := Lib.hid (ZFr.blk_fr (w := w3.drew) Tb3.out f4 (fun h => h)); obtain ⟨xb4, yb4⟩ := whole_cells Tb4.out; have Tr4 := Lib.hid (ZFr.blk_fr (w := w3.drew) Tr3.out f4 (fun h => h)); obtain ⟨xr4, yr4, pr4, qr4⟩ := whole_store Tr4.out; have F4 := Lib.hid (F3.out.trans f4 (fun _ h _ => h)); clear f4))
      | ((go_at_call 65; refine (make1_walk m (a.natAbs * b.natAbs) _ _ _ H4.out).mono ?_; rintro e w5 ⟨v5, rfl, h5, f5⟩; obtain ⟨s5, rfl, g5⟩ := h5 m HW.out (fun _ => rfl); obtain ⟨A5, c5, rfl⟩ := g5.slice; have H5 := Lib.hid g5; clear h5 g5; have Ta5 := Lib.hid (ZFr.blk_fr (w := w4) Ta4.out f5 (fun h => h)); obtain ⟨xa5, ya5⟩ := whole_cells Ta5.out; have Tb5 := Lib.hid (ZFr.blk_fr (w := w4) Tb4.out f5 (fun h => h)); obtain ⟨xb5, yb5⟩ := whole_cells Tb5.out; have Tr5 := Lib.hid (ZFr.blk_fr (w := w4) Tr4.out f5 (fun h => h)); obtain ⟨xr5, yr5, pr5, qr5⟩ := whole_store Tr5.out; have F5 := Lib.hid (F4.out.trans f5 (fun _ h _ => h)); clear f5)))
  all_goals
    go_wp2_with fail
    have f9 := (F5.out.set ⟨w.heap.size + 1 + 1, 0, none⟩ (.int .i64 (sg (m))) (.inr (by dsimp only; omega))).set ⟨w.heap.size + 1 + 1, 1, none⟩ (Value.slice A5 (dg (m).natAbs).length c5) (.inr (by dsimp only; omega))
    refine bodyPost_ret (results_cell_row rfl _ _ (w.heap.size + 1 + 1) 40 #[.int .i64 (sg (m)), .slice A5 (dg (m).natAbs).length c5] (0, 0) _ rfl (ZFr.blk_set (ZFr.blk_set Tr5.out 0 _) 1 _) Try.underlying40 rfl (by kernel_rfl)) rfl ?_
    refine ⟨_, rfl, ⟨_, rfl, ?_⟩, f9⟩
    have hup : Up S w w3.drew (w.heap.size + 1 + 1) := .inr ⟨by omega, ZFr.blk_lt (w := w3.drew) Tr3.out⟩
    exact (H5.out.fr (((Fr.refl (Up S w w3.drew) w5).set ⟨w.heap.size + 1 + 1, 0, none⟩ _ (.inl hup)).set ⟨w.heap.size + 1 + 1, 1, none⟩ _ (.inl hup)) (fun _ h => h)).mono (fun _ h => .inl h)

end Go.Proofs.Ytngmkjgklonfmaa.Big
