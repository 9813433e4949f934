/- Joined texts. -/
import Derived.Test.YtngmkjgklonfmaaBigY
import Derived.Deep.RegionLaw
import Derived.Test.YtngmkjgklonfmaaBigZ
import Derived.Test.YtngmkjgklonfmaaBigTor
import Derived.Deep.DeepCutAuto
/- The document's points: which numbers can be one of a point. -/
namespace Go.Proofs.Ytngmkjgklonfmaa.Big
open Go.RowKit Go.Proofs.ZFr Go.Proofs.Ytngmkjgklonfmaa.PNearNearest Go.Proofs.YtngmkjgklonfmaaW.PrintWords

theorem sg_le (n : Int) : (sg n ≤ 0 ↔ n ≤ 0) ∧ (0 ≤ sg n ↔ 0 ≤ n) ∧ (sg n < 0 ↔ n < 0) ∧ (0 < sg n ↔ 0 < n) := by unfold sg; split <;> (try split) <;> omega
theorem sg_one {n : Int} (h : ¬ sg n ≤ 0) : sg n = 1 := by unfold sg at *; split <;> (try split) <;> simp_all
theorem len4 {n : Int} (h0 : -9223372036854775808 ≤ n) (h1 : n < 9223372036854775808) : (dg n.natAbs).length < 800 := by
  have := dg_len_le 4 n.natAbs (by have : (65536 : Nat) ^ 4 = 18446744073709551616 := by decide
                                   omega)
  omega
set_option maxRecDepth 100000 in
set_option maxHeartbeats 4000000 in
theorem in_walk (a : Int) (va : Value) (S : Nat → Prop) (w : World) (hS : ∀ k, S k → k < w.heap.size) (ha : Whole w S va a) (la : (dg a.natAbs).length < 800) : Calls Try.prog 56 #[va] w fun e w' => e = .returned (.bool (decide (-1099511627776 ≤ a ∧ a ≤ 1099511627776))) ∧ Fr (fun _ => False) w w' := by
  obtain ⟨sa, rfl, hda⟩ := ha
  obtain ⟨A, c, rfl⟩ := hda.slice
  have hA := Lib.hid hda
  clear hda
  have LA := Lib.hid la
  have LC := Lib.hid (len4 (n := 1099511627776) (by decide) (by decide))
  have LD := Lib.hid (len4 (n := -1099511627776) (by decide) (by decide))
  obtain ⟨q, hq, hq0⟩ : ∃ q, sg (a - 1099511627776) = q ∧ (q ≤ 0 ↔ a ≤ 1099511627776) ∧ (¬ q ≤ 0 → q = 1) := ⟨_, rfl, by rw [(sg_le _).1]; omega, fun h => sg_one h⟩
  obtain ⟨r, hr, hr0⟩ : ∃ r, sg (a - -1099511627776) = r ∧ (0 ≤ r ↔ -1099511627776 ≤ a) := ⟨_, rfl, by rw [(sg_le _).2.1]; omega⟩
  have HQ := Lib.hid hq
  have HR := Lib.hid hr
  clear hq hr la
  have t0 := heap_alloc_new w (Obj.cells #[Value.int IntKind.i64 (sg a), Value.slice A (dg a.natAbs).length c] 40)
  have f0 := (Fr.refl (fun _ => False) w).alloc (Obj.cells #[Value.int IntKind.i64 (sg a), Value.slice A (dg a.natAbs).length c] 40)
  have T0 := Lib.hid t0
  have F0 := Lib.hid f0
  clear t0 f0
  by_cases hx : q ≤ 0
  · have hxd : decide (q ≤ 0) = true := decide_eq_true hx
    have e1 : decide (-1099511627776 ≤ a ∧ a ≤ 1099511627776) = decide (0 ≤ r) := by rw [decide_eq_decide, hr0]; exact ⟨fun h => h.1, fun h => ⟨h, hq0.1.1 hx⟩⟩
    rw [e1]
    clear e1 hq0 hr0
    go_enter Try.func56, Try.ntmps56
    go_wp2_with fail
    generalize hw1 : w.alloc (Obj.cells #[Value.int IntKind.i64 (sg a), Value.slice A (dg a.natAbs).length c] 40) = w1 at T0 F0
    obtain ⟨x0, y0⟩ := whole_cells (w := w1.drew) T0.out
    clear hw1
    go_region_law
      ((go_simp; (first
        | ((go_at_call 13; refine (cmp_walk a (-1099511627776) _ _ S w4 (fun k hk => Nat.lt_of_lt_of_le (hS k hk) F4.out.size) (Whole.mk (hA.out.fr F4.out (fun _ h => h.elim))) (Whole.mk G4.out) LA.out LD.out).mono ?_; rintro e w5 ⟨rfl, f5⟩; rw [HR.out]; have T5 := Lib.hid (ZFr.blk_fr T4.out f5 (fun h => h)); obtain ⟨x5, y5⟩ := whole_cells T5.out; have F5 := Lib.hid (F4.out.trans f5 (fun _ h _ => h)); clear f5))
        | ((go_at_call 43; refine (long_c (-1099511627776) (by decide) (by decide) S w3 (fun k hk => Nat.lt_of_lt_of_le (hS k hk) F3.out.size)).mono ?_; rintro e w4 ⟨v4, rfl, h4, f4⟩; obtain ⟨s4, rfl, g4⟩ := h4; obtain ⟨A4, c4, rfl⟩ := g4.slice; have T4 := Lib.hid (ZFr.blk_fr T3.out f4 (fun h => h)); obtain ⟨x4, y4⟩ := whole_cells T4.out; have G4 := Lib.hid g4; have F4 := Lib.hid (F3.out.trans f4 (fun _ h _ => h)); clear g4 f4))
        | ((go_at_call 13; refine (cmp_walk a 1099511627776 _ _ S w2 (fun k hk => Nat.lt_of_lt_of_le (hS k hk) F2.out.size) (Whole.mk (hA.out.fr F2.out (fun _ h => h.elim))) (Whole.mk G2.out) LA.out LC.out).mono ?_; rintro e w3 ⟨rfl, f3⟩; rw [HQ.out]; have T3 := Lib.hid (ZFr.blk_fr T2.out f3 (fun h => h)); obtain ⟨x3, y3⟩ := whole_cells T3.out; have F3 := Lib.hid (F2.out.trans f3 (fun _ h _ => h)); clear f3))
        | ((go_at_call 43; refine (long_c 1099511627776 (by decide) (by decide) S w1.drew (fun k hk => Nat.lt_of_lt_of_le (hS k hk) F0.out.size)).mono ?_; rintro e w2 ⟨v2, rfl, h2, f2⟩; obtain ⟨s2, rfl, g2⟩ := h2; obtain ⟨A2, c2, rfl⟩ := g2.slice; have T2 := Lib.hid (ZFr.blk_fr (w := w1.drew) T0.out f2 (fun h => h)); obtain ⟨x2, y2⟩ := whole_cells T2.out; have G2 := Lib.hid g2; have F2 := Lib.hid (F0.out.drew.trans f2 (fun _ h _ => h)); clear g2 f2)))))
    all_goals
      go_wp2_with fail
      go_ret
      exact ⟨rfl, F5.out⟩
  · have hq1 := hq0.2 hx
    have e1 : decide (-1099511627776 ≤ a ∧ a ≤ 1099511627776) = false := by rw [decide_eq_false_iff_not]; exact fun h => hx (hq0.1.2 h.2)
    rw [e1]
    clear e1 hq0 hr0
    clear hx
    subst hq1
    go_enter Try.func56, Try.ntmps56
    go_wp2_with fail
    generalize hw1 : w.alloc (Obj.cells #[Value.int IntKind.i64 (sg a), Value.slice A (dg a.natAbs).length c] 40) = w1 at T0 F0
    obtain ⟨x0, y0⟩ := whole_cells (w := w1.drew) T0.out
    clear hw1
    go_region_law
      ((go_simp; (first
        | ((go_at_call 13; refine (cmp_walk a 1099511627776 _ _ S w2 (fun k hk => Nat.lt_of_lt_of_le (hS k hk) F2.out.size) (Whole.mk (hA.out.fr F2.out (fun _ h => h.elim))) (Whole.mk G2.out) LA.out LC.out).mono ?_; rintro e w3 ⟨rfl, f3⟩; rw [HQ.out]; have T3 := Lib.hid (ZFr.blk_fr T2.out f3 (fun h => h)); obtain ⟨x3, y3⟩ := whole_cells T3.out; have F3 := Lib.hid (F2.out.trans f3 (fun _ h _ => h)); clear f3))
        | ((go_at_call 43; refine (long_c 1099511627776 (by decide) (by decide) S w1.drew (fun k hk => Nat.lt_of_lt_of_le (hS k hk) F0.out.size)).mono ?_; rintro e w2 ⟨v2, rfl, h2, f2⟩; obtain ⟨s2, rfl, g2⟩ := h2; obtain ⟨A2, c2, rfl⟩ := g2.slice; have T2 := Lib.hid (ZFr.blk_fr (w := w1.drew) T0.out f2 (fun h => h)); obtain ⟨x2, y2⟩ := whole_cells T2.out; have G2 := Lib.hid g2; have F2 := Lib.hid (F0.out.drew.trans f2 (fun _ h _ => h)); clear g2 f2)))))
    all_goals
      go_wp2_with fail
      go_ret
      exact ⟨rfl, F3.out⟩
end Go.Proofs.Ytngmkjgklonfmaa.Big

/- The document's points: which can be one, where they lie in the first square. -/
namespace Go.Proofs.Ytngmkjgklonfmaa.Big
open Go.RowKit Go.Proofs.ZFr Go.Proofs.Ytngmkjgklonfmaa.PNearNearest Go.Proofs.YtngmkjgklonfmaaW.PrintWords

theorem sg_np {n : Int} (h : n ≤ 0) : sg n = -1 ∨ sg n = 0 := by unfold sg; split <;> (try split) <;> first | exact .inr rfl | exact .inl rfl | omega
theorem sg_nn {n : Int} (h : 0 ≤ n) : sg n = 1 ∨ sg n = 0 := by unfold sg; split <;> (try split) <;> first | exact .inr rfl | exact .inl rfl | omega
def inP (a : Int) : Prop := -1099511627776 ≤ a ∧ a ≤ 1099511627776
instance (a : Int) : Decidable (inP a) := inferInstanceAs (Decidable (_ ∧ _))
def i64P (a : Int) : Prop := -9223372036854775808 ≤ a ∧ a < 9223372036854775808
set_option maxRecDepth 100000 in
set_option maxHeartbeats 4000000 in
theorem can_walk (x y : Int) (w : World) (hx : i64P x) (hy : i64P y) : Calls Try.prog 32 #[.agg #[.int .i64 x, .int .i64 y]] w fun e w' => e = .returned (.bool (decide (inP x ∧ inP y))) ∧ Fr (fun _ => False) w w' := by
  obtain ⟨b, hb⟩ : ∃ b, decide (-1099511627776 ≤ x ∧ x ≤ 1099511627776) = b := ⟨_, rfl⟩
  obtain ⟨d, hd⟩ : ∃ d, decide (-1099511627776 ≤ y ∧ y ≤ 1099511627776) = d := ⟨_, rfl⟩
  have e : decide (inP x ∧ inP y) = (b && d) := by rw [← hb, ← hd, Bool.decide_and]; rfl
  rw [e]
  have HB := Lib.hid hb
  have HD := Lib.hid hd
  have LX := Lib.hid (len4 hx.1 hx.2)
  have LY := Lib.hid (len4 hy.1 hy.2)
  have HX := Lib.hid hx
  have HY := Lib.hid hy
  clear hb hd e hx hy
  have F0 := Lib.hid ((Fr.refl (fun _ => False) w).alloc (Obj.cells #[Value.int IntKind.i64 x, Value.int IntKind.i64 y] 24))
  have T0 := Lib.hid (heap_alloc_new w (Obj.cells #[Value.int IntKind.i64 x, Value.int IntKind.i64 y] 24))
  cases b
  · go_enter Try.func32, Try.ntmps32
    go_wp2_with (first
      | (go_at_call 56; refine (in_walk x _ (fun _ => False) w2 (fun _ h => h.elim) (Whole.mk G2.out) LX.out).mono ?_; rintro e w3 ⟨rfl, f3⟩; rw [HB.out]; have F3 := Lib.hid (F2.out.trans f3 (fun _ h _ => h)); clear f3)
      | (go_at_call 43; refine (long_c x HX.out.1 HX.out.2 (fun _ => False) _ (fun _ h => h.elim)).mono ?_; rintro e w2 ⟨v2, rfl, h2, f2⟩; obtain ⟨s2, rfl, g2⟩ := h2; obtain ⟨A2, c2, rfl⟩ := g2.slice; have G2 := Lib.hid g2; have F2 := Lib.hid (F0.out.trans f2 (fun _ h _ => h)); clear g2 f2))
    go_ret
    exact ⟨rfl, F3.out⟩
  · go_enter Try.func32, Try.ntmps32
    go_wp2_with (first
      | (go_at_call 56; refine (in_walk y _ (fun _ => False) w4 (fun _ h => h.elim) (Whole.mk G4.out) LY.out).mono ?_; rintro e w5 ⟨rfl, f5⟩; rw [HD.out]; have F5 := Lib.hid (F4.out.trans f5 (fun _ h _ => h)); clear f5)
      | (go_at_call 43; refine (long_c y HY.out.1 HY.out.2 (fun _ => False) w3 (fun _ h => h.elim)).mono ?_; rintro e w4 ⟨v4, rfl, h4, f4⟩; obtain ⟨s4, rfl, g4⟩ := h4; obtain ⟨A4, c4, rfl⟩ := g4.slice; have G4 := Lib.hid g4; have F4 := Lib.hid (F3.out.trans f4 (fun _ h _ => h)); clear g4 f4)
      | (go_at_call 56; refine (in_walk x _ (fun _ => False) w2 (fun _ h => h.elim) (Whole.mk G2.out) LX.out).mono ?_; rintro e w3 ⟨rfl, f3⟩; rw [HB.out]; have T3 := Lib.hid (ZFr.blk_fr T2.out f3 (fun h => h)); have x3 := ZFr.blk_cell T3.out 0; have y3 := ZFr.blk_cell T3.out 1; simp at x3 y3; have F3 := Lib.hid (F2.out.trans f3 (fun _ h _ => h)); clear f3)
      | (go_at_call 43; refine (long_c x HX.out.1 HX.out.2 (fun _ => False) _ (fun _ h => h.elim)).mono ?_; rintro e w2 ⟨v2, rfl, h2, f2⟩; obtain ⟨s2, rfl, g2⟩ := h2; obtain ⟨A2, c2, rfl⟩ := g2.slice; have T2 := Lib.hid (ZFr.blk_fr T0.out f2 (fun h => h)); have G2 := Lib.hid g2; have F2 := Lib.hid (F0.out.trans f2 (fun _ h _ => h)); clear g2 f2))
    go_ret
    exact ⟨rfl, F5.out⟩
theorem drop_le {l : List Int} (h : Dig l) (k : Nat) : 0 ≤ val (l.drop k) ∧ val (l.drop k) ≤ val l := by
  have h0 : 0 ≤ val (l.drop k) := val_nonneg (fun x hx => h x (List.mem_of_mem_drop hx))
  refine ⟨h0, ?_⟩
  have e := val_append (l.take k) (l.drop k)
  rw [List.take_append_drop] at e
  have h1 := val_nonneg (h.take k)
  have h2 := pow_pos (l.take k).length
  have h3 : 1 * val (l.drop k) ≤ 65536 ^ (l.take k).length * val (l.drop k) := Int.mul_le_mul_of_nonneg_right (by omega) h0
  omega
theorem small_num (a : Int) (h : i64P a) (k : Nat) : ∃ n1 n0 d : Int, n1 = -val ((dg a.natAbs).drop (k + 1)) ∧ n0 = -val ((dg a.natAbs).drop k) ∧ d = (dg a.natAbs).getD k 0 ∧ IntKind.i64.wrap (n1 * 65536) = n1 * 65536 ∧ IntKind.i64.wrap (n1 * 65536 - d) = n0 := by
  obtain ⟨a0, a1⟩ := h
  obtain ⟨b0, b1⟩ := drop_le (dg_dig a.natAbs) k
  obtain ⟨c0, c1⟩ := drop_le (dg_dig a.natAbs) (k + 1)
  have e := drop_at (dg a.natAbs) k
  have hd := (dg_dig a.natAbs).getD k
  rw [dg_val] at b1 c1
  refine ⟨_, _, _, rfl, rfl, rfl, ?_, ?_⟩
  · rw [Go.Proofs.YtngmkjgklonfmaaW.PrintLast.i64_w, w64 (n := -val ((dg a.natAbs).drop (k + 1)) * 65536) (by omega) (by omega)]
  · rw [Go.Proofs.YtngmkjgklonfmaaW.PrintLast.i64_w, w64 (n := -val ((dg a.natAbs).drop (k + 1)) * 65536 - (dg a.natAbs).getD k 0) (by omega) (by omega), e]
    omega
set_option maxRecDepth 100000 in
set_option maxHeartbeats 4000000 in
theorem small_walk (a : Int) (va : Value) (w : World) (h0 : i64P a) (ha : Whole w (fun _ => False) va a) : Calls Try.prog 59 #[va] w fun e w' => e = .returned (.tuple #[.int .i64 a, .bool true]) ∧ Fr (fun _ => False) w w' := by
  obtain ⟨sa, rfl, hda⟩ := ha
  obtain ⟨A, c, rfl⟩ := hda.slice
  have LA := Lib.hid (len4 h0.1 h0.2)
  have LC := Lib.hid (len4 (n := 9223372036854775807) (by decide) (by decide))
  have LD := Lib.hid (len4 (n := -9223372036854775808) (by decide) (by decide))
  have hA := Lib.hid hda
  clear hda
  obtain ⟨q, hq, hq0⟩ : ∃ q, sg (a - 9223372036854775807) = q ∧ (q = -1 ∨ q = 0) := ⟨_, rfl, sg_np (by have := h0.2; omega)⟩
  obtain ⟨r, hr, hr0⟩ : ∃ r, sg (a - -9223372036854775808) = r ∧ (r = 1 ∨ r = 0) := ⟨_, rfl, sg_nn (by have := h0.1; omega)⟩
  have HQ := Lib.hid hq
  have HR := Lib.hid hr
  have H0 := Lib.hid h0
  clear hq hr h0
  have F0 := Lib.hid ((Fr.refl (fun _ => False) w).alloc (Obj.cells #[Value.int IntKind.i64 (sg a), Value.slice A (dg a.natAbs).length c] 40))
  have T0 := Lib.hid (heap_alloc_new w (Obj.cells #[Value.int IntKind.i64 (sg a), Value.slice A (dg a.natAbs).length c] 40))
  go_enter Try.func59, Try.ntmps59
  go_wp2_with fail
  generalize hw1 : w.alloc (Obj.cells #[Value.int IntKind.i64 (sg a), Value.slice A (dg a.natAbs).length c] 40) = w1 at T0 F0
  obtain ⟨x0, y0⟩ := whole_cells (w := w1.drew) T0.out
  clear hw1
  rcases hq0 with rfl | rfl <;> rcases hr0 with rfl | rfl
  all_goals
   go_region_law
    ((go_simp; (first
      | ((go_at_call 13; refine (cmp_walk a (-9223372036854775808) _ _ (fun _ => False) w4 (fun _ h => h.elim) (Whole.mk (hA.out.fr F4.out (fun _ h => h))) (Whole.mk G4.out) LA.out LD.out).mono ?_; rintro e w5 ⟨rfl, f5⟩; rw [HR.out]; have T5 := Lib.hid (ZFr.blk_fr T4.out f5 (fun h => h)); obtain ⟨x5, y5⟩ := whole_cells T5.out; have F5 := Lib.hid (F4.out.trans f5 (fun _ h _ => h)); clear f5))
      | ((go_at_call 43; refine (long_c (-9223372036854775808) (by decide) (by decide) (fun _ => False) w3 (fun _ h => h.elim)).mono ?_; rintro e w4 ⟨v4, rfl, h4, f4⟩; obtain ⟨s4, rfl, g4⟩ := h4; obtain ⟨A4, c4, rfl⟩ := g4.slice; have T4 := Lib.hid (ZFr.blk_fr T3.out f4 (fun h => h)); obtain ⟨x4, y4⟩ := whole_cells T4.out; have G4 := Lib.hid g4; have F4 := Lib.hid (F3.out.trans f4 (fun _ h _ => h)); clear g4 f4))
      | ((go_at_call 13; refine (cmp_walk a 9223372036854775807 _ _ (fun _ => False) w2 (fun _ h => h.elim) (Whole.mk (hA.out.fr F2.out (fun _ h => h))) (Whole.mk G2.out) LA.out LC.out).mono ?_; rintro e w3 ⟨rfl, f3⟩; rw [HQ.out]; have T3 := Lib.hid (ZFr.blk_fr T2.out f3 (fun h => h)); obtain ⟨x3, y3⟩ := whole_cells T3.out; have F3 := Lib.hid (F2.out.trans f3 (fun _ h _ => h)); clear f3))
      | ((go_at_call 43; refine (long_c 9223372036854775807 (by decide) (by decide) (fun _ => False) w1.drew (fun _ h => h.elim)).mono ?_; rintro e w2 ⟨v2, rfl, h2, f2⟩; obtain ⟨s2, rfl, g2⟩ := h2; obtain ⟨A2, c2, rfl⟩ := g2.slice; have T2 := Lib.hid (ZFr.blk_fr (w := w1.drew) T0.out f2 (fun h => h)); obtain ⟨x2, y2⟩ := whole_cells T2.out; have G2 := Lib.hid g2; have F2 := Lib.hid (F0.out.drew.trans f2 (fun _ h _ => h)); clear g2 f2)))))
   all_goals
    go_wp2_with fail
    have hwl : wrap64 (((dg a.natAbs).length : Int) - 1) = (dg a.natAbs).length - 1 := w64 (by have := LA.out; omega) (by have := LA.out; omega)
    rw [hwl]
    clear hwl
    go_loopw [4, 5] (fun n i wr => ∃ k : Nat, k ≤ (dg a.natAbs).length ∧ n = .int .i64 (-val ((dg a.natAbs).drop k)) ∧ i = .int .i64 ((k : Int) - 1) ∧ wr = w5) (fun _ i _ => (intOf i + 1).toNat)
    case atStart => exact ⟨(dg a.natAbs).length, Nat.le_refl _, by rw [List.drop_length]; rfl, rfl, rfl⟩
    case round =>
      obtain ⟨k, hk, rfl, rfl, rfl⟩ := hrel
      cases k with
      | zero =>
        obtain ⟨n9, hn9⟩ : ∃ n9 : Int, -val ((dg a.natAbs).drop 0) = n9 := ⟨_, rfl⟩
        rw [hn9]
        rw [List.drop_zero, dg_val] at hn9
        by_cases hpos : 0 < sg a
        · have hfin : IntKind.i64.wrap (-n9) = a := by
            rw [Go.Proofs.YtngmkjgklonfmaaW.PrintLast.i64_w, w64 (n := -n9) (by have := H0.out.1; have := H0.out.2; omega) (by have := H0.out.1; have := H0.out.2; have := (sg_le a).2.2.2.1 hpos; omega)]
            have := (sg_le a).2.2.2.1 hpos
            omega
          go_wp2_with fail
          go_ret2
          exact ⟨rfl, F5.out⟩
        · have hfin : n9 = a := by
            have : ¬ 0 < a := fun h => hpos ((sg_le a).2.2.2.2 h)
            omega
          subst hfin
          go_wp2_with fail
          go_ret2
          exact ⟨rfl, F5.out⟩
      | succ k =>
        obtain ⟨n1, n0, d, e1, e0, ed, w1, w2⟩ := small_num a H0.out k
        obtain ⟨ad, rfl, hc, _⟩ := dgs_cell (i := k) (hA.out.fr F5.out (fun _ h => h)) (by omega)
        rw [← ed] at hc
        rw [← e1]
        have hkl : (k : Int) < (dg a.natAbs).length := by omega
        rw [show ((k + 1 : Nat) : Int) - 1 = (k : Int) from by omega]
        clear ed e1
        have hwk : wrap64 ((k : Int) - 1) = k - 1 := w64 (by omega) (by have := LA.out; omega)
        go_wp2_with fail
        rw [hwk]
        clear w1 w2 hwk e0
        go_roundw
        case rel => exact ⟨k, by omega, rfl, rfl, trivial⟩
        case measure => simp [intOf]
end Go.Proofs.Ytngmkjgklonfmaa.Big

/- The document's points: where they lie in the first square. -/
namespace Go.Proofs.Ytngmkjgklonfmaa.Big
open Go.RowKit Go.Proofs.ZFr Go.Proofs.Ytngmkjgklonfmaa.PNearNearest Go.Proofs.YtngmkjgklonfmaaW.PrintWords

theorem point_cells {w : World} {b : Nat} {x y : Int} (h : w.heap[b]? = some (.cells #[.int .i64 x, .int .i64 y] 24 (0, 0))) : w.cell? ⟨b, 0, none⟩ = some (.int .i64 x) ∧ w.cell? ⟨b, 1, none⟩ = some (.int .i64 y) := ⟨ZFr.blk_cell h 0, ZFr.blk_cell h 1⟩
theorem pt_store {w : World} {b : Nat} {x y : Int} (h : w.heap[b]? = some (.cells #[.int .i64 x, .int .i64 y] 24 (0, 0))) : w.cell? ⟨b, 0, none⟩ = some (.int .i64 x) ∧ w.cell? ⟨b, 1, none⟩ = some (.int .i64 y) ∧ w.frozen? ⟨b, 0, none⟩ = false ∧ w.frozen? ⟨b, 1, none⟩ = false := ⟨ZFr.blk_cell h 0, ZFr.blk_cell h 1, ZFr.blk_free h 0, ZFr.blk_free h 1⟩
theorem of_store {w : World} {b : Nat} {x y : Int} (h : w.heap[b]? = some (.cells #[.int .i64 x, .int .i64 y] 59 (0, 0))) : w.cell? ⟨b, 0, none⟩ = some (.int .i64 x) ∧ w.cell? ⟨b, 1, none⟩ = some (.int .i64 y) ∧ w.frozen? ⟨b, 0, none⟩ = false ∧ w.frozen? ⟨b, 1, none⟩ = false := ⟨ZFr.blk_cell h 0, ZFr.blk_cell h 1, ZFr.blk_free h 0, ZFr.blk_free h 1⟩
theorem len300 {n : Int} (h0 : -9223372036854775808 ≤ n) (h1 : n < 9223372036854775808) : (dg n.natAbs).length < 300 := by
  have := dg_len_le 4 n.natAbs (by have : (65536 : Nat) ^ 4 = 18446744073709551616 := by decide
                                   omega)
  omega
theorem div_in {x n : Int} (hx : inP x) (hn : 1 ≤ n) : i64P (x / n) := by
  obtain ⟨h0, h1⟩ := hx
  have a1 : -1099511627776 * n ≤ -1099511627776 * 1 := Int.mul_le_mul_of_nonpos_left (by omega) hn
  have a2 : (1099511627776 + 1) * 1 ≤ (1099511627776 + 1) * n := Int.mul_le_mul_of_nonneg_left hn (by omega)
  have h2 : -1099511627776 ≤ x / n := Int.le_ediv_of_mul_le (by omega) (by omega)
  have h3 : x / n < 1099511627776 + 1 := Int.ediv_lt_of_lt_mul (by omega) (by omega)
  exact ⟨by omega, by omega⟩
theorem mod_in {x n : Int} (hn : 1 ≤ n) (hn2 : n ≤ 1073741824) : i64P (x % n) := by
  have h1 := Int.emod_nonneg x (by omega : n ≠ 0)
  have h2 := Int.emod_lt_of_pos x (by omega : 0 < n)
  exact ⟨by omega, by omega⟩
set_option maxRecDepth 100000 in
set_option maxHeartbeats 4000000 in
theorem home_walk (x y n : Int) (w : World) (hx : inP x) (hy : inP y) (hn : 1 ≤ n ∧ n ≤ 1073741824) : Calls Try.prog 33 #[.agg #[.int .i64 x, .int .i64 y], .int .i64 n] w fun e w' => e = .returned (.tuple #[.agg #[.int .i64 (x % n), .int .i64 (y % n)], .agg #[.int .i64 (x / n), .int .i64 (y / n)], .bool true]) ∧ Fr (fun _ => False) w w' := by
  have HX := Lib.hid (show i64P x from ⟨by have := hx.1; omega, by have := hx.2; omega⟩)
  have HY := Lib.hid (show i64P y from ⟨by have := hy.1; omega, by have := hy.2; omega⟩)
  have HCAN := Lib.hid (show decide (inP x ∧ inP y) = true from (decide_eq_true ⟨hx, hy⟩))
  have HTOR := Lib.hid (show zelligeref06_Torus.f n = some true from (by unfold zelligeref06_Torus.f; rw [if_pos (by omega), decide_eq_true (by omega)]))
  have HN := Lib.hid (show i64P n from ⟨by omega, by omega⟩)
  have HN0 := Lib.hid (show 0 < n from by omega)
  have LX := Lib.hid (len300 HX.out.1 HX.out.2)
  have LN := Lib.hid (len300 HN.out.1 HN.out.2)
  have LY := Lib.hid (len300 HY.out.1 HY.out.2)
  have bqx := div_in hx hn.1
  have bqy := div_in hy hn.1
  have brx := mod_in (x := x) hn.1 hn.2
  have bry := mod_in (x := y) hn.1 hn.2
  obtain ⟨qx, hqx⟩ : ∃ q, x / n = q := ⟨_, rfl⟩
  obtain ⟨rx, hrx⟩ : ∃ q, x % n = q := ⟨_, rfl⟩
  obtain ⟨qy, hqy⟩ : ∃ q, y / n = q := ⟨_, rfl⟩
  obtain ⟨ry, hry⟩ : ∃ q, y % n = q := ⟨_, rfl⟩
  rw [hqx] at bqx
  rw [hrx] at brx
  rw [hqy] at bqy
  rw [hry] at bry
  rw [hqx, hrx, hqy, hry]
  have QX := Lib.hid hqx
  have RX := Lib.hid hrx
  have QY := Lib.hid hqy
  have RY := Lib.hid hry
  have BQX := Lib.hid bqx
  have BQY := Lib.hid bqy
  have BRX := Lib.hid brx
  have BRY := Lib.hid bry
  clear hx hy hn hqx hrx hqy hry bqx bqy brx bry
  obtain ⟨t1, t2, t3, f3⟩ := tri w (Obj.cells #[Value.int IntKind.i64 x, Value.int IntKind.i64 y] 24) (Obj.cells #[Value.int IntKind.i64 0, Value.int IntKind.i64 0] 24) (Obj.cells #[Value.int IntKind.i64 0, Value.int IntKind.i64 0] 59)
  go_enter Try.func33, Try.ntmps33
  go_wp2_with fail
  generalize ((w.alloc (Obj.cells #[Value.int IntKind.i64 x, Value.int IntKind.i64 y] 24)).alloc (Obj.cells #[Value.int IntKind.i64 0, Value.int IntKind.i64 0] 24)).alloc (Obj.cells #[Value.int IntKind.i64 0, Value.int IntKind.i64 0] 59) = w3 at t1 t2 t3 f3 ⊢
  have T1 := Lib.hid t1
  have T2 := Lib.hid t2
  have T3 := Lib.hid t3
  have F3 := Lib.hid f3
  clear t1 t2 t3 f3
  refine (zelligeref06_Torus.calls n true w3 HTOR.out).mono ?_
  rintro e w4 ⟨rfl, nd, hw4⟩
  have f4 : Fr (fun _ => False) w3 w4 := by rw [hw4]; exact (Fr.refl _ _).drewN nd
  clear hw4
  have A1 := Lib.hid (ZFr.blk_fr T1.out f4 (fun h => h))
  have A2 := Lib.hid (ZFr.blk_fr T2.out f4 (fun h => h))
  have A3 := Lib.hid (ZFr.blk_fr T3.out f4 (fun h => h))
  have F4 := Lib.hid (F3.out.trans f4 (fun _ h _ => h))
  obtain ⟨x4, y4⟩ := point_cells A1.out
  have B4 := A1
  have C4 := A2
  have D4 := A3
  clear f4
  go_wp2_with (first
    | (go_at_call 59; have hc_ := small_walk qy _ w16 BQY.out (Whole.mk (H12.out.fr N16.out (fun _ h => h.elim))); (with_reducible refine hc_.mono ?_); clear hc_; rintro e w17 ⟨rfl, f17⟩; have B17 := Lib.hid (ZFr.blk_fr B16.out f17 (fun h => h)); obtain ⟨xB17, yB17⟩ := point_cells B17.out; have C17 := Lib.hid (ZFr.blk_fr C16.out f17 (fun h => h)); have D17 := Lib.hid (ZFr.blk_fr D16.out f17 (fun h => h)); have I17 := Lib.hid (ZFr.blk_fr I16.out f17 (fun h => h)); obtain ⟨xI17, yI17⟩ := whole_cells I17.out; have J17 := Lib.hid (ZFr.blk_fr J16.out f17 (fun h => h)); obtain ⟨xJ17, yJ17⟩ := whole_cells J17.out; have L17 := Lib.hid (ZFr.blk_fr L16.out f17 (fun h => h)); obtain ⟨xL17, yL17⟩ := whole_cells L17.out; have M17 := Lib.hid (ZFr.blk_fr M16.out f17 (fun h => h)); obtain ⟨xM17, yM17⟩ := whole_cells M17.out; have F17 := Lib.hid (F16.out.trans f17 (fun _ h _ => h)); have G17 := Lib.hid f17; obtain ⟨o1, o2, o3, o4⟩ := pt_store C17.out; obtain ⟨o5, o6, o7, o8⟩ := of_store D17.out; clear f17)
    | (go_at_call 59; have hc_ := small_walk qx _ w15 BQX.out (Whole.mk (K8.out.fr ((G11.out.trans G12.out (fun _ h _ => h)).trans N15.out (fun _ h _ => h)) (fun _ h => h.elim))); (with_reducible refine hc_.mono ?_); clear hc_; rintro e w16 ⟨rfl, f16⟩; have B16 := Lib.hid (ZFr.blk_fr B15.out f16 (fun h => h)); obtain ⟨xB16, yB16⟩ := point_cells B16.out; have C16 := Lib.hid (ZFr.blk_fr C15.out f16 (fun h => h)); have D16 := Lib.hid (ZFr.blk_fr D15.out f16 (fun h => h)); have I16 := Lib.hid (ZFr.blk_fr I15.out f16 (fun h => h)); obtain ⟨xI16, yI16⟩ := whole_cells I16.out; have J16 := Lib.hid (ZFr.blk_fr J15.out f16 (fun h => h)); obtain ⟨xJ16, yJ16⟩ := whole_cells J16.out; have L16 := Lib.hid (ZFr.blk_fr L15.out f16 (fun h => h)); obtain ⟨xL16, yL16⟩ := whole_cells L16.out; have M16 := Lib.hid (ZFr.blk_fr M15.out f16 (fun h => h)); obtain ⟨xM16, yM16⟩ := whole_cells M16.out; have F16 := Lib.hid (F15.out.trans f16 (fun _ h _ => h)); have G16 := Lib.hid f16; have N16 := Lib.hid (N15.out.trans f16 (fun _ h _ => h)); clear f16)
    | (go_at_call 59; have hc_ := small_walk ry _ w14 BRY.out (Whole.mk (H13.out.fr N14.out (fun _ h => h.elim))); (with_reducible refine hc_.mono ?_); clear hc_; rintro e w15 ⟨rfl, f15⟩; have B15 := Lib.hid (ZFr.blk_fr B14.out f15 (fun h => h)); obtain ⟨xB15, yB15⟩ := point_cells B15.out; have C15 := Lib.hid (ZFr.blk_fr C14.out f15 (fun h => h)); have D15 := Lib.hid (ZFr.blk_fr D14.out f15 (fun h => h)); have I15 := Lib.hid (ZFr.blk_fr I14.out f15 (fun h => h)); obtain ⟨xI15, yI15⟩ := whole_cells I15.out; have J15 := Lib.hid (ZFr.blk_fr J14.out f15 (fun h => h)); obtain ⟨xJ15, yJ15⟩ := whole_cells J15.out; have L15 := Lib.hid (ZFr.blk_fr L14.out f15 (fun h => h)); obtain ⟨xL15, yL15⟩ := whole_cells L15.out; have M15 := Lib.hid (ZFr.blk_fr M14.out f15 (fun h => h)); obtain ⟨xM15, yM15⟩ := whole_cells M15.out; have F15 := Lib.hid (F14.out.trans f15 (fun _ h _ => h)); have G15 := Lib.hid f15; have N15 := Lib.hid (N14.out.trans f15 (fun _ h _ => h)); clear f15)
    | (go_at_call 59; have hc_ := small_walk rx _ ((w12.alloc (Obj.cells #[Value.int IntKind.i64 (sg qy), Value.slice A12 (dg qy.natAbs).length c12] 40)).alloc (Obj.cells #[Value.int IntKind.i64 (sg ry), Value.slice A13 (dg ry.natAbs).length c13] 40)) BRX.out (Whole.mk (K9.out.fr ((G11.out.trans G12.out (fun _ h _ => h)).trans (((Fr.refl (fun _ => False) w12).alloc _).alloc _) (fun _ h _ => h)) (fun _ h => h.elim))); (with_reducible refine hc_.mono ?_); clear hc_; rintro e w14 ⟨rfl, f14⟩; have B14 := Lib.hid (ZFr.blk_fr (ZFr.blk_alloc (ZFr.blk_alloc B12.out _) _) f14 (fun h => h)); obtain ⟨xB14, yB14⟩ := point_cells B14.out; have C14 := Lib.hid (ZFr.blk_fr (ZFr.blk_alloc (ZFr.blk_alloc C12.out _) _) f14 (fun h => h)); have D14 := Lib.hid (ZFr.blk_fr (ZFr.blk_alloc (ZFr.blk_alloc D12.out _) _) f14 (fun h => h)); have I14 := Lib.hid (ZFr.blk_fr (ZFr.blk_alloc (ZFr.blk_alloc I12.out _) _) f14 (fun h => h)); obtain ⟨xI14, yI14⟩ := whole_cells I14.out; have J14 := Lib.hid (ZFr.blk_fr (ZFr.blk_alloc (ZFr.blk_alloc J12.out _) _) f14 (fun h => h)); obtain ⟨xJ14, yJ14⟩ := whole_cells J14.out; have L14 := Lib.hid (ZFr.blk_fr (ZFr.blk_alloc (heap_alloc_new w12 _) _) f14 (fun h => h)); obtain ⟨xL14, yL14⟩ := whole_cells L14.out; have M14 := Lib.hid (ZFr.blk_fr (second w12 _ _) f14 (fun h => h)); obtain ⟨xM14, yM14⟩ := whole_cells M14.out; have F14 := Lib.hid (((F12.out.alloc _).alloc _).trans f14 (fun _ h _ => h)); have G14 := Lib.hid f14; have N14 := Lib.hid ((((Fr.refl (fun _ => False) w12).alloc _).alloc _).trans f14 (fun _ h _ => h)); clear f14)
    | (go_at_call 58; have hc_ := floor_walk y n _ _ (fun _ => False) w11 (fun _ h => h.elim) HN0.out (Whole.mk (H10.out.fr G11.out (fun _ h => h.elim))) (Whole.mk H11.out) LY.out LN.out; (with_reducible refine hc_.mono ?_); clear hc_; rw [QY.out, RY.out]; rintro e w12 ⟨v12, u12, rfl, h12, k12, f12⟩; obtain ⟨s12, rfl, g12⟩ := h12; obtain ⟨A12, c12, rfl⟩ := g12.slice; have H12 := Lib.hid g12; obtain ⟨s13, rfl, g13⟩ := k12; obtain ⟨A13, c13, rfl⟩ := g13.slice; have H13 := Lib.hid g13; clear g12 g13; have B12 := Lib.hid (ZFr.blk_fr B11.out f12 (fun h => h)); obtain ⟨xB12, yB12⟩ := point_cells B12.out; have C12 := Lib.hid (ZFr.blk_fr C11.out f12 (fun h => h)); have D12 := Lib.hid (ZFr.blk_fr D11.out f12 (fun h => h)); have I12 := Lib.hid (ZFr.blk_fr I11.out f12 (fun h => h)); obtain ⟨xI12, yI12⟩ := whole_cells I12.out; have J12 := Lib.hid (ZFr.blk_fr J11.out f12 (fun h => h)); obtain ⟨xJ12, yJ12⟩ := whole_cells J12.out; have F12 := Lib.hid (F11.out.trans f12 (fun _ h _ => h)); have G12 := Lib.hid f12; have zI12 := fun o o' => (whole_cells (ZFr.blk_alloc (ZFr.blk_alloc I12.out o) o')).1; have tI12 := fun o o' => (whole_cells (ZFr.blk_alloc (ZFr.blk_alloc I12.out o) o')).2; have zJ12 := fun o o' => (whole_cells (ZFr.blk_alloc (ZFr.blk_alloc J12.out o) o')).1; have tJ12 := fun o o' => (whole_cells (ZFr.blk_alloc (ZFr.blk_alloc J12.out o) o')).2; clear f12)
    | (go_at_call 43; have hc_ := long_c n HN.out.1 HN.out.2 (fun _ => False) w10 (fun _ h => h.elim); (with_reducible refine hc_.mono ?_); clear hc_; rintro e w11 ⟨v11, rfl, h11, f11⟩; obtain ⟨s11, rfl, g11⟩ := h11; obtain ⟨A11, c11, rfl⟩ := g11.slice; have H11 := Lib.hid g11; clear g11; have B11 := Lib.hid (ZFr.blk_fr B10.out f11 (fun h => h)); obtain ⟨xB11, yB11⟩ := point_cells B11.out; have C11 := Lib.hid (ZFr.blk_fr C10.out f11 (fun h => h)); have D11 := Lib.hid (ZFr.blk_fr D10.out f11 (fun h => h)); have I11 := Lib.hid (ZFr.blk_fr I10.out f11 (fun h => h)); obtain ⟨xI11, yI11⟩ := whole_cells I11.out; have J11 := Lib.hid (ZFr.blk_fr J10.out f11 (fun h => h)); obtain ⟨xJ11, yJ11⟩ := whole_cells J11.out; have F11 := Lib.hid (F10.out.trans f11 (fun _ h _ => h)); have G11 := Lib.hid f11; clear f11)
    | (go_at_call 43; have hc_ := long_c y HY.out.1 HY.out.2 (fun _ => False) ((w8.alloc (Obj.cells #[Value.int IntKind.i64 (sg qx), Value.slice A8 (dg qx.natAbs).length c8] 40)).alloc (Obj.cells #[Value.int IntKind.i64 (sg rx), Value.slice A9 (dg rx.natAbs).length c9] 40)) (fun _ h => h.elim); (with_reducible refine hc_.mono ?_); clear hc_; rintro e w10 ⟨v10, rfl, h10, f10⟩; obtain ⟨s10, rfl, g10⟩ := h10; obtain ⟨A10, c10, rfl⟩ := g10.slice; have H10 := Lib.hid g10; clear g10; have B10 := Lib.hid (ZFr.blk_fr (ZFr.blk_alloc (ZFr.blk_alloc B8.out _) _) f10 (fun h => h)); obtain ⟨xB10, yB10⟩ := point_cells B10.out; have C10 := Lib.hid (ZFr.blk_fr (ZFr.blk_alloc (ZFr.blk_alloc C8.out _) _) f10 (fun h => h)); have D10 := Lib.hid (ZFr.blk_fr (ZFr.blk_alloc (ZFr.blk_alloc D8.out _) _) f10 (fun h => h)); have I10 := Lib.hid (ZFr.blk_fr (ZFr.blk_alloc (heap_alloc_new w8 _) _) f10 (fun h => h)); obtain ⟨xI10, yI10⟩ := whole_cells I10.out; have J10 := Lib.hid (ZFr.blk_fr (second w8 _ _) f10 (fun h => h)); obtain ⟨xJ10, yJ10⟩ := whole_cells J10.out; have F10 := Lib.hid (((F8.out.alloc _).alloc _).trans f10 (fun _ h _ => h)); have G10 := Lib.hid f10; have K8 := Lib.hid (H8.out.fr ((((Fr.refl (fun _ => False) w8).alloc _).alloc _).trans f10 (fun _ h _ => h)) (fun _ h => h.elim)); have K9 := Lib.hid (H9.out.fr ((((Fr.refl (fun _ => False) w8).alloc _).alloc _).trans f10 (fun _ h _ => h)) (fun _ h => h.elim)); clear f10)
    | (go_at_call 58; have hc_ := floor_walk x n _ _ (fun _ => False) w7 (fun _ h => h.elim) HN0.out (Whole.mk (H6.out.fr G7.out (fun _ h => h.elim))) (Whole.mk H7.out) LX.out LN.out; (with_reducible refine hc_.mono ?_); clear hc_; rw [QX.out, RX.out]; rintro e w8 ⟨v8, u8, rfl, h8, k8, f8⟩; obtain ⟨s8, rfl, g8⟩ := h8; obtain ⟨A8, c8, rfl⟩ := g8.slice; have H8 := Lib.hid g8; obtain ⟨s9, rfl, g9⟩ := k8; obtain ⟨A9, c9, rfl⟩ := g9.slice; have H9 := Lib.hid g9; clear g8 g9; have B8 := Lib.hid (ZFr.blk_fr B7.out f8 (fun h => h)); obtain ⟨xB8, yB8⟩ := point_cells B8.out; have C8 := Lib.hid (ZFr.blk_fr C7.out f8 (fun h => h)); have D8 := Lib.hid (ZFr.blk_fr D7.out f8 (fun h => h)); have F8 := Lib.hid (F7.out.trans f8 (fun _ h _ => h)); have G8 := Lib.hid f8; have zB8 := fun o o' => (point_cells (ZFr.blk_alloc (ZFr.blk_alloc B8.out o) o')).1; have tB8 := fun o o' => (point_cells (ZFr.blk_alloc (ZFr.blk_alloc B8.out o) o')).2; clear f8)
    | (go_at_call 43; have hc_ := long_c n HN.out.1 HN.out.2 (fun _ => False) w6 (fun _ h => h.elim); (with_reducible refine hc_.mono ?_); clear hc_; rintro e w7 ⟨v7, rfl, h7, f7⟩; obtain ⟨s7, rfl, g7⟩ := h7; obtain ⟨A7, c7, rfl⟩ := g7.slice; have H7 := Lib.hid g7; clear g7; have B7 := Lib.hid (ZFr.blk_fr B6.out f7 (fun h => h)); obtain ⟨xB7, yB7⟩ := point_cells B7.out; have C7 := Lib.hid (ZFr.blk_fr C6.out f7 (fun h => h)); have D7 := Lib.hid (ZFr.blk_fr D6.out f7 (fun h => h)); have F7 := Lib.hid (F6.out.trans f7 (fun _ h _ => h)); have G7 := Lib.hid f7; clear f7)
    | (go_at_call 43; have hc_ := long_c x HX.out.1 HX.out.2 (fun _ => False) w5 (fun _ h => h.elim); (with_reducible refine hc_.mono ?_); clear hc_; rintro e w6 ⟨v6, rfl, h6, f6⟩; obtain ⟨s6, rfl, g6⟩ := h6; obtain ⟨A6, c6, rfl⟩ := g6.slice; have H6 := Lib.hid g6; clear g6; have B6 := Lib.hid (ZFr.blk_fr B5.out f6 (fun h => h)); obtain ⟨xB6, yB6⟩ := point_cells B6.out; have C6 := Lib.hid (ZFr.blk_fr C5.out f6 (fun h => h)); have D6 := Lib.hid (ZFr.blk_fr D5.out f6 (fun h => h)); have F6 := Lib.hid (F5.out.trans f6 (fun _ h _ => h)); have G6 := Lib.hid f6; clear f6)
    | (go_at_call 32; have hc_ := can_walk x y w4 HX.out HY.out; (with_reducible refine hc_.mono ?_); clear hc_; rintro e w5 ⟨rfl, f5⟩; rw [HCAN.out]; have B5 := Lib.hid (ZFr.blk_fr B4.out f5 (fun h => h)); obtain ⟨xB5, yB5⟩ := point_cells B5.out; have C5 := Lib.hid (ZFr.blk_fr C4.out f5 (fun h => h)); have D5 := Lib.hid (ZFr.blk_fr D4.out f5 (fun h => h)); have F5 := Lib.hid (F4.out.trans f5 (fun _ h _ => h)); have G5 := Lib.hid f5; clear f5)
    )
  have e1 := ZFr.blk_set_other (ZFr.blk_set_other (ZFr.blk_set (ZFr.blk_set C17.out 0 (.int .i64 rx)) 1 (.int .i64 ry)) ⟨w.heap.size + 1 + 1, 0, none⟩ (.int .i64 qx) (by dsimp only; omega)) ⟨w.heap.size + 1 + 1, 1, none⟩ (.int .i64 qy) (by dsimp only; omega)
  have e2 := ZFr.blk_set (ZFr.blk_set (ZFr.blk_set_other (ZFr.blk_set_other D17.out ⟨w.heap.size + 1, 0, none⟩ (.int .i64 rx) (by dsimp only; omega)) ⟨w.heap.size + 1, 1, none⟩ (.int .i64 ry) (by dsimp only; omega)) 0 (.int .i64 qx)) 1 (.int .i64 qy)
  refine bodyPost_ret (results_list (rs := [.cell 4 24, .cell 5 59, .tmp 6]) rfl (by simp) (.cell (w.heap.size + 1) 24 #[.int .i64 rx, .int .i64 ry] (0, 0) _ rfl e1 Try.underlying24 rfl (by kernel_rfl) (.cell (w.heap.size + 1 + 1) 59 #[.int .i64 qx, .int .i64 qy] (0, 0) _ rfl e2 Try.underlying59 rfl (by kernel_rfl) (.tmp .nil)))) rfl ?_
  exact ⟨rfl, (((F17.out.set _ _ (.inr (by dsimp only; omega))).set _ _ (.inr (by dsimp only; omega))).set _ _ (.inr (by dsimp only; omega))).set _ _ (.inr (by dsimp only; omega))⟩
end Go.Proofs.Ytngmkjgklonfmaa.Big

/- The document's distance, squared, as a whole number: walked. -/
namespace Go.Proofs.Ytngmkjgklonfmaa.Big
open Go.RowKit Go.Proofs.ZFr Go.Proofs.Ytngmkjgklonfmaa.PNearNearest Go.Proofs.YtngmkjgklonfmaaW.PrintWords
def d2 (x y x' y' : Int) : Int := (x' - x) * (x' - x) + (y' - y) * (y' - y)
theorem len_diff {a b : Int} (ha : i64P a) (hb : i64P b) : (dg (b - a).natAbs).length ≤ 5 := by
  refine dg_len_le 5 _ ?_
  have : (65536 : Nat) ^ 5 = 1208925819614629174706176 := by decide
  obtain ⟨a1, a2⟩ := ha
  obtain ⟨b1, b2⟩ := hb
  omega
set_option maxRecDepth 100000 in
set_option maxHeartbeats 4000000 in
theorem diff_walk (a b : Int) (ha : i64P a) (hb : i64P b) (S : Nat → Prop) (w : World) (hS : ∀ k, S k → k < w.heap.size) : Calls Try.prog 68 #[.int .i64 a, .int .i64 b] w fun e w' => ∃ v, e = .returned v ∧ Whole w' S v (b - a) ∧ Fr (fun _ => False) w w' := by
  have HA := Lib.hid ha
  have HB := Lib.hid hb
  have LA := Lib.hid (len4 ha.1 ha.2)
  have LB := Lib.hid (len4 hb.1 hb.2)
  obtain ⟨d, hd⟩ : ∃ d, b - a = d := ⟨_, rfl⟩
  have HD := Lib.hid hd
  rw [hd]
  clear ha hb hd
  have T0 := Lib.hid (heap_alloc_new w (Obj.cells #[Value.int IntKind.i64 0, Value.slice none 0 0] 40))
  have F0 := Lib.hid ((Fr.refl (fun _ => False) w).alloc (Obj.cells #[Value.int IntKind.i64 0, Value.slice none 0 0] 40))
  go_enter Try.func68, Try.ntmps68
  go_wp2_with fail
  generalize w.alloc (Obj.cells #[Value.int IntKind.i64 0, Value.slice none 0 0] 40) = w1 at T0 F0 ⊢
  have HS := Lib.hid (show ∀ k, (S k ∨ k = w.heap.size) → k < w1.heap.size from fun k hk => hk.elim (fun h => Nat.lt_of_lt_of_le (hS k h) F0.out.size) (fun h => h ▸ ZFr.blk_lt T0.out))
  go_wp2_with (first
    | (go_at_call 34; have hc_ := sub_walk b a _ _ (fun k => S k ∨ k = w.heap.size) w3 (fun k hk => Nat.lt_of_lt_of_le (HS.out k hk) F3.out.size) (Whole.mk (H2.out.fr G3.out (fun _ h => h.elim))) (Whole.mk H3.out) LB.out LA.out; rw [HD.out] at hc_; (with_reducible refine hc_.mono ?_); clear hc_; rintro e w4 ⟨v4, rfl, h4, f4⟩; obtain ⟨s4, rfl, g4⟩ := h4; obtain ⟨A4, c4, rfl⟩ := g4.slice; have H4 := Lib.hid g4; have F4 := Lib.hid (F3.out.trans f4 (fun _ h _ => h)); have T4 := Lib.hid (ZFr.blk_fr T0.out F4.out (fun h => h)); obtain ⟨i1, i2, i3, i4⟩ := whole_store T4.out; clear g4 f4)
    | (go_at_call 43; have hc_ := long_c a HA.out.1 HA.out.2 (fun k => S k ∨ k = w.heap.size) w2 (fun k hk => Nat.lt_of_lt_of_le (HS.out k hk) F2.out.size); (with_reducible refine hc_.mono ?_); clear hc_; rintro e w3 ⟨v3, rfl, h3, f3⟩; obtain ⟨s3, rfl, g3⟩ := h3; obtain ⟨A3, c3, rfl⟩ := g3.slice; have H3 := Lib.hid g3; have G3 := Lib.hid f3; have F3 := Lib.hid (F2.out.trans f3 (fun _ h _ => h)); clear g3 f3)
    | (go_at_call 43; have hc_ := long_c b HB.out.1 HB.out.2 (fun k => S k ∨ k = w.heap.size) w1 HS.out; (with_reducible refine hc_.mono ?_); clear hc_; rintro e w2 ⟨v2, rfl, h2, f2⟩; obtain ⟨s2, rfl, g2⟩ := h2; obtain ⟨A2, c2, rfl⟩ := g2.slice; have H2 := Lib.hid g2; have F2 := Lib.hid f2; clear g2 f2))
  refine bodyPost_ret (results_cell_row rfl _ _ w.heap.size 40 #[.int .i64 (sg d), .slice A4 (dg d.natAbs).length c4] (0, 0) _ rfl (ZFr.blk_set (ZFr.blk_set T4.out 0 _) 1 _) Try.underlying40 rfl (by kernel_rfl)) rfl ?_
  have B := (((Fr.refl (fun k => S k ∨ k = w.heap.size) w4).set ⟨w.heap.size, 0, none⟩ (.int .i64 (sg d)) (.inl (.inr rfl))).set ⟨w.heap.size, 1, none⟩ (.slice A4 (dg d.natAbs).length c4) (.inl (.inr rfl)))
  exact ⟨_, rfl, ⟨_, rfl, (H4.out.fr B (fun _ h => h)).mono (fun _ h => .inl h)⟩, F0.out.trans (((F4.out.mono (T := fun k => k = w.heap.size) (fun _ h => h.elim)).set _ _ (.inl rfl)).set _ _ (.inl rfl)) (fun i hi hl => by omega)⟩
theorem put2 {w : World} {B : Nat} {s0 s : Int} {l0 l : Value} (h : w.heap[B]? = some (.cells #[.int .i64 s0, l0] 40 (0, 0))) : ((w.setCell ⟨B, 0, none⟩ (.int .i64 s)).setCell ⟨B, 1, none⟩ l).heap[B]? = some (.cells #[.int .i64 s, l] 40 (0, 0)) := ZFr.blk_set (ZFr.blk_set h 0 _) 1 _
theorem put2o {w : World} {B C : Nat} {o : Obj} {s l : Value} (h : w.heap[B]? = some o) (hb : B ≠ C) : ((w.setCell ⟨C, 0, none⟩ s).setCell ⟨C, 1, none⟩ l).heap[B]? = some o := ZFr.blk_set_other (ZFr.blk_set_other h _ _ hb) _ _ hb
theorem dgs_put2 {w : World} {S : Nat → Prop} {C n : Nat} {s l v : Value} (h : Dgs w S v n) (hC : S C) : Dgs ((w.setCell ⟨C, 0, none⟩ s).setCell ⟨C, 1, none⟩ l) S v n := h.fr (((Fr.refl S w).set ⟨C, 0, none⟩ s (.inl hC)).set ⟨C, 1, none⟩ l (.inl hC)) (fun _ h => h)
theorem dgs_alloc {w : World} {S : Nat → Prop} {n : Nat} {v : Value} (h : Dgs w S v n) (o : Obj) : Dgs (w.alloc o) S v n := h.fr ((Fr.refl (fun _ => False) w).alloc o) (fun _ h => h.elim)
theorem new_at {w : World} {b : Nat} {o : Obj} (h : b = w.heap.size) : (w.alloc o).heap[b]? = some o := h ▸ heap_alloc_new w o
theorem fr_put2 {a b : World} {S : Nat → Prop} {C : Nat} {s l : Value} (h : Fr S a b) (hC : a.heap.size ≤ C) : Fr S a ((b.setCell ⟨C, 0, none⟩ s).setCell ⟨C, 1, none⟩ l) := (h.set ⟨C, 0, none⟩ s (.inr hC)).set ⟨C, 1, none⟩ l (.inr hC)
set_option maxRecDepth 100000 in
set_option maxHeartbeats 8000000 in
theorem dist_c (x y x' y' : Int) (h1 : i64P x) (h2 : i64P y) (h3 : i64P x') (h4 : i64P y') (S : Nat → Prop) (w : World) (hS : ∀ k, S k → k < w.heap.size) : Calls Try.prog 38 #[.agg #[.int .i64 x, .int .i64 y], .agg #[.int .i64 x', .int .i64 y']] w fun e w' => ∃ v, e = .returned v ∧ Whole w' S v (d2 x y x' y') ∧ Fr (fun _ => False) w w' := by
  have l1 := len_diff h1 h3
  have l2 := len_diff h2 h4
  have DX := Lib.hid (fun W => diff_walk x x' h1 h3 (fun k => k < W.heap.size) W (fun _ h => h))
  have DY := Lib.hid (fun W => diff_walk y y' h2 h4 (fun k => k < W.heap.size) W (fun _ h => h))
  obtain ⟨dx, hdx⟩ : ∃ d, x' - x = d := ⟨_, rfl⟩
  obtain ⟨dy, hdy⟩ : ∃ d, y' - y = d := ⟨_, rfl⟩
  have e0 : d2 x y x' y' = dx * dx + dy * dy := by unfold d2; rw [hdx, hdy]
  rw [e0]
  rw [hdx] at DX l1
  rw [hdy] at DY l2
  have L1 := Lib.hid l1
  have L2 := Lib.hid l2
  have LX := Lib.hid (show (dg (dx * dx).natAbs).length < 900 from by have := dg_mul L1.out L1.out; rw [Int.natAbs_mul]; omega)
  have LY := Lib.hid (show (dg (dy * dy).natAbs).length < 900 from by have := dg_mul L2.out L2.out; rw [Int.natAbs_mul]; omega)
  have LX5 := Lib.hid (show (dg dx.natAbs).length < 800 from by have := L1.out; omega)
  have LY5 := Lib.hid (show (dg dy.natAbs).length < 800 from by have := L2.out; omega)
  obtain ⟨xx, hxx⟩ : ∃ d, dx * dx = d := ⟨_, rfl⟩
  obtain ⟨yy, hyy⟩ : ∃ d, dy * dy = d := ⟨_, rfl⟩
  obtain ⟨zz, hzz⟩ : ∃ d, xx + yy = d := ⟨_, rfl⟩
  rw [hxx] at LX
  rw [hyy] at LY
  have HX := Lib.hid hxx
  have HY := Lib.hid hyy
  have HZ := Lib.hid hzz
  rw [show dx * dx + dy * dy = zz from by rw [hxx, hyy, hzz]]
  clear hxx hyy hzz
  clear h1 h2 h3 h4 e0 hdx hdy l1 l2
  obtain ⟨t1, t2, t3, f3⟩ := tri w (Obj.cells #[Value.int IntKind.i64 x, Value.int IntKind.i64 y] 24) (Obj.cells #[Value.int IntKind.i64 x', Value.int IntKind.i64 y'] 24) (Obj.cells #[Value.int IntKind.i64 0, Value.slice none 0 0] 40)
  go_enter Try.func38, Try.ntmps38
  go_wp2_with fail
  generalize ((w.alloc (Obj.cells #[Value.int IntKind.i64 x, Value.int IntKind.i64 y] 24)).alloc (Obj.cells #[Value.int IntKind.i64 x', Value.int IntKind.i64 y'] 24)).alloc (Obj.cells #[Value.int IntKind.i64 0, Value.slice none 0 0] 40) = w3 at t1 t2 t3 f3 ⊢
  have T1 := Lib.hid t1
  have T2 := Lib.hid t2
  have T3 := Lib.hid t3
  have F3 := Lib.hid f3
  clear t1 t2 t3 f3
  go_upto_region 1 with fail
  go_cut [5, 6] (fun s5 s6 wx => ∃ g5 g6 A5 c5 A6 c6, s5 = .pointer (some ⟨g5, 0, none⟩) ∧ s6 = .pointer (some ⟨g6, 0, none⟩) ∧ w3.heap.size ≤ g5 ∧ w3.heap.size ≤ g6 ∧ wx.heap[g5]? = some (.cells #[.int .i64 (sg dx), .slice A5 (dg dx.natAbs).length c5] 40 (0, 0)) ∧ wx.heap[g6]? = some (.cells #[.int .i64 (sg dy), .slice A6 (dg dy.natAbs).length c6] 40 (0, 0)) ∧ Dgs wx (fun k => k < w3.heap.size) (.slice A5 (dg dx.natAbs).length c5) dx.natAbs ∧ Dgs wx (fun k => k < w3.heap.size) (.slice A6 (dg dy.natAbs).length c6) dy.natAbs ∧ Fr (fun _ => False) w3 wx)
  case first =>
    obtain ⟨a1, a2⟩ := point_cells (w := w3.drew) T1.out
    obtain ⟨a3, a4⟩ := point_cells (w := w3.drew) T2.out
    have pu0_3 := fun o => (point_cells (ZFr.blk_alloc (ZFr.blk_fr T1.out (Fr.refl (fun _ => False) w3) (fun h => h)) o)).1
    have pv0_3 := fun o o9 => (point_cells (ZFr.blk_alloc (ZFr.blk_alloc (ZFr.blk_fr T1.out (Fr.refl (fun _ => False) w3) (fun h => h)) o) o9)).1
    have pu1_3 := fun o => (point_cells (ZFr.blk_alloc (ZFr.blk_fr T1.out (Fr.refl (fun _ => False) w3) (fun h => h)) o)).2
    have pv1_3 := fun o o9 => (point_cells (ZFr.blk_alloc (ZFr.blk_alloc (ZFr.blk_fr T1.out (Fr.refl (fun _ => False) w3) (fun h => h)) o) o9)).2
    have qu0_3 := fun o => (point_cells (ZFr.blk_alloc (ZFr.blk_fr T2.out (Fr.refl (fun _ => False) w3) (fun h => h)) o)).1
    have qv0_3 := fun o o9 => (point_cells (ZFr.blk_alloc (ZFr.blk_alloc (ZFr.blk_fr T2.out (Fr.refl (fun _ => False) w3) (fun h => h)) o) o9)).1
    have qu1_3 := fun o => (point_cells (ZFr.blk_alloc (ZFr.blk_fr T2.out (Fr.refl (fun _ => False) w3) (fun h => h)) o)).2
    have qv1_3 := fun o o9 => (point_cells (ZFr.blk_alloc (ZFr.blk_alloc (ZFr.blk_fr T2.out (Fr.refl (fun _ => False) w3) (fun h => h)) o) o9)).2
    have low3 := ZFr.blk_lt T3.out
    have ne101 : ¬ w.heap.size = w3.heap.size := by omega
    have ne102 : ¬ w.heap.size = w3.heap.size + 1 := by omega
    have ne103 : ¬ w.heap.size + 1 = w3.heap.size := by omega
    have ne104 : ¬ w.heap.size + 1 = w3.heap.size + 1 := by omega
    go_region_held3 (fun w' => w'.cell? ⟨w.heap.size, 0, none⟩ = some (.int .i64 x) ∧ w'.cell? ⟨w.heap.size, 1, none⟩ = some (.int .i64 y) ∧ w'.cell? ⟨w.heap.size + 1, 0, none⟩ = some (.int .i64 x') ∧ w'.cell? ⟨w.heap.size + 1, 1, none⟩ = some (.int .i64 y'))
      (refine ⟨?_, ?_, ?_, ?_⟩ <;> (repeat (first | with_reducible assumption | with_reducible exact pu0_6 _ | with_reducible exact pu1_6 _ | with_reducible exact qu0_6 _ | with_reducible exact qu1_6 _ | with_reducible exact pu0_5 _ | with_reducible exact pu1_5 _ | with_reducible exact qu0_5 _ | with_reducible exact qu1_5 _ | with_reducible exact pu0_3 _ | with_reducible exact pu1_3 _ | with_reducible exact qu0_3 _ | with_reducible exact qu1_3 _ | with_reducible exact pv0_6 _ _ | with_reducible exact pv1_6 _ _ | with_reducible exact qv0_6 _ _ | with_reducible exact qv1_6 _ _ | with_reducible exact pv0_5 _ _ | with_reducible exact pv1_5 _ _ | with_reducible exact qv0_5 _ _ | with_reducible exact qv1_5 _ _ | with_reducible exact pv0_3 _ _ | with_reducible exact pv1_3 _ _ | with_reducible exact qv0_3 _ _ | with_reducible exact qv1_3 _ _ | (with_reducible refine cell_far ?_ (by dsimp only; omega)) | (with_reducible refine fr_cell ?_ ((Fr.refl (fun _ => False) _).alloc _)) | go_keep)))
      (first
        | ((go_at_call_of 68 (Value.int IntKind.i64 x); (with_reducible refine (DX.out _).mono ?_); rintro e w5 ⟨v5, rfl, h5, f5⟩; obtain ⟨s5, rfl, g5⟩ := h5; obtain ⟨A5, c5, rfl⟩ := g5.slice; have H5 := Lib.hid g5; have F5 := Lib.hid f5; have K5 := Lib.hid (Fr.trans (by ((repeat (first | with_reducible refine Fr.drew ?_ | with_reducible refine Fr.alloc ?_ _)); with_reducible exact Fr.refl _ _)) f5 (fun _ h _ => h) : Fr (fun _ => False) w3 w5); have J5 := Lib.hid ((Fr.refl (fun _ => False) w3).trans K5.out (fun _ h _ => h)); obtain ⟨b1_5, b2_5⟩ := point_cells (ZFr.blk_fr T1.out J5.out (fun h => h)); obtain ⟨b3_5, b4_5⟩ := point_cells (ZFr.blk_fr T2.out J5.out (fun h => h)); (first | (have X1 := Lib.hid (ZFr.blk_fr (w := ((w3.alloc (Obj.cells #[Value.int IntKind.i64 0, Value.slice none 0 0] 40)).alloc (Obj.cells #[Value.int IntKind.i64 0, Value.slice none 0 0] 40)).drew) (ZFr.blk_alloc (heap_alloc_new w3 (Obj.cells #[Value.int IntKind.i64 0, Value.slice none 0 0] 40)) (Obj.cells #[Value.int IntKind.i64 0, Value.slice none 0 0] 40)) f5 (fun h => h)); have Y1 := Lib.hid (ZFr.blk_fr (w := ((w3.alloc (Obj.cells #[Value.int IntKind.i64 0, Value.slice none 0 0] 40)).alloc (Obj.cells #[Value.int IntKind.i64 0, Value.slice none 0 0] 40)).drew) (second w3 (Obj.cells #[Value.int IntKind.i64 0, Value.slice none 0 0] 40) (Obj.cells #[Value.int IntKind.i64 0, Value.slice none 0 0] 40)) f5 (fun h => h)); have xl1 := ZFr.blk_lt X1.out; have yl1 := ZFr.blk_lt Y1.out) | (have X1 := Lib.hid (ZFr.blk_fr (w := (w3.alloc (Obj.cells #[Value.int IntKind.i64 0, Value.slice none 0 0] 40)).drew) (heap_alloc_new w3 (Obj.cells #[Value.int IntKind.i64 0, Value.slice none 0 0] 40)) f5 (fun h => h)); have xl1 := ZFr.blk_lt X1.out) | skip); have sz5 := J5.out.size; have pu0_5 := fun o => (point_cells (ZFr.blk_alloc (ZFr.blk_fr T1.out J5.out (fun h => h)) o)).1; have pv0_5 := fun o o9 => (point_cells (ZFr.blk_alloc (ZFr.blk_alloc (ZFr.blk_fr T1.out J5.out (fun h => h)) o) o9)).1; have pu1_5 := fun o => (point_cells (ZFr.blk_alloc (ZFr.blk_fr T1.out J5.out (fun h => h)) o)).2; have pv1_5 := fun o o9 => (point_cells (ZFr.blk_alloc (ZFr.blk_alloc (ZFr.blk_fr T1.out J5.out (fun h => h)) o) o9)).2; have qu0_5 := fun o => (point_cells (ZFr.blk_alloc (ZFr.blk_fr T2.out J5.out (fun h => h)) o)).1; have qv0_5 := fun o o9 => (point_cells (ZFr.blk_alloc (ZFr.blk_alloc (ZFr.blk_fr T2.out J5.out (fun h => h)) o) o9)).1; have qu1_5 := fun o => (point_cells (ZFr.blk_alloc (ZFr.blk_fr T2.out J5.out (fun h => h)) o)).2; have qv1_5 := fun o o9 => (point_cells (ZFr.blk_alloc (ZFr.blk_alloc (ZFr.blk_fr T2.out J5.out (fun h => h)) o) o9)).2; have ne105 := (show ¬ w.heap.size = w5.heap.size from (by omega)); have ne106 := (show ¬ w.heap.size = w5.heap.size + 1 from (by omega)); have ne107 := (show ¬ w.heap.size + 1 = w5.heap.size from (by omega)); have ne108 := (show ¬ w.heap.size + 1 = w5.heap.size + 1 from (by omega)); clear g5 f5))
        | ((go_at_call_of 68 (Value.int IntKind.i64 y); (with_reducible refine (DY.out _).mono ?_); rintro e w6 ⟨v6, rfl, h6, f6⟩; obtain ⟨s6, rfl, g6⟩ := h6; obtain ⟨A6, c6, rfl⟩ := g6.slice; have H6 := Lib.hid g6; have F6 := Lib.hid f6; have K6 := Lib.hid (Fr.trans (by ((repeat (first | with_reducible refine Fr.drew ?_ | with_reducible refine Fr.alloc ?_ _)); with_reducible exact Fr.refl _ _)) f6 (fun _ h _ => h) : Fr (fun _ => False) w5 w6); have J6 := Lib.hid (J5.out.trans K6.out (fun _ h _ => h)); obtain ⟨b1_6, b2_6⟩ := point_cells (ZFr.blk_fr T1.out J6.out (fun h => h)); obtain ⟨b3_6, b4_6⟩ := point_cells (ZFr.blk_fr T2.out J6.out (fun h => h)); (try (have X2 := ZFr.blk_fr X1.out K6.out (fun h => h); have XH := Lib.hid X2; obtain ⟨x1, x2, x3, x4⟩ := whole_store X2; have x5 := fun o => (whole_store (ZFr.blk_alloc X2 o)).1; have x6 := fun o => (whole_store (ZFr.blk_alloc X2 o)).2.1; have x7 := fun o => (whole_store (ZFr.blk_alloc X2 o)).2.2.1; have x8 := fun o => (whole_store (ZFr.blk_alloc X2 o)).2.2.2; have xl := ZFr.blk_lt X2; clear X2)); (try (have Y2 := ZFr.blk_fr Y1.out K6.out (fun h => h); have YH := Lib.hid Y2; obtain ⟨y1, y2, y3, y4⟩ := whole_store Y2; have y5 := fun o => (whole_store (ZFr.blk_alloc Y2 o)).1; have y6 := fun o => (whole_store (ZFr.blk_alloc Y2 o)).2.1; have y7 := fun o => (whole_store (ZFr.blk_alloc Y2 o)).2.2.1; have y8 := fun o => (whole_store (ZFr.blk_alloc Y2 o)).2.2.2; have yl := ZFr.blk_lt Y2; clear Y2)); (first | (have Z2 := ZFr.blk_fr (w := (w5.alloc (Obj.cells #[Value.int IntKind.i64 0, Value.slice none 0 0] 40)).alloc (Obj.cells #[Value.int IntKind.i64 0, Value.slice none 0 0] 40)) (ZFr.blk_alloc (heap_alloc_new w5 (Obj.cells #[Value.int IntKind.i64 0, Value.slice none 0 0] 40)) (Obj.cells #[Value.int IntKind.i64 0, Value.slice none 0 0] 40)) f6 (fun h => h); obtain ⟨z1, z2, z3, z4⟩ := whole_store Z2; have z5 := fun o => (whole_store (ZFr.blk_alloc Z2 o)).1; have z6 := fun o => (whole_store (ZFr.blk_alloc Z2 o)).2.1; have z7 := fun o => (whole_store (ZFr.blk_alloc Z2 o)).2.2.1; have z8 := fun o => (whole_store (ZFr.blk_alloc Z2 o)).2.2.2; have zl := ZFr.blk_lt Z2; have Z3 := ZFr.blk_fr (w := (w5.alloc (Obj.cells #[Value.int IntKind.i64 0, Value.slice none 0 0] 40)).alloc (Obj.cells #[Value.int IntKind.i64 0, Value.slice none 0 0] 40)) (second w5 (Obj.cells #[Value.int IntKind.i64 0, Value.slice none 0 0] 40) (Obj.cells #[Value.int IntKind.i64 0, Value.slice none 0 0] 40)) f6 (fun h => h); have ZH := Lib.hid Z2; have TH := Lib.hid Z3; obtain ⟨t1, t2, t3, t4⟩ := whole_store Z3; have t5 := fun o => (whole_store (ZFr.blk_alloc Z3 o)).1; have t6 := fun o => (whole_store (ZFr.blk_alloc Z3 o)).2.1; have t7 := fun o => (whole_store (ZFr.blk_alloc Z3 o)).2.2.1; have t8 := fun o => (whole_store (ZFr.blk_alloc Z3 o)).2.2.2; have tl := ZFr.blk_lt Z3; clear Z2 Z3) | (have Z2 := ZFr.blk_fr (w := w5.alloc (Obj.cells #[Value.int IntKind.i64 0, Value.slice none 0 0] 40)) (heap_alloc_new w5 (Obj.cells #[Value.int IntKind.i64 0, Value.slice none 0 0] 40)) f6 (fun h => h); have ZH := Lib.hid Z2; obtain ⟨z1, z2, z3, z4⟩ := whole_store Z2; have z5 := fun o => (whole_store (ZFr.blk_alloc Z2 o)).1; have z6 := fun o => (whole_store (ZFr.blk_alloc Z2 o)).2.1; have z7 := fun o => (whole_store (ZFr.blk_alloc Z2 o)).2.2.1; have z8 := fun o => (whole_store (ZFr.blk_alloc Z2 o)).2.2.2; have zl := ZFr.blk_lt Z2; clear Z2) | skip); have uu1 := (whole_store (second w6 (Obj.cells #[Value.int IntKind.i64 0, Value.slice none 0 0] 40) (Obj.cells #[Value.int IntKind.i64 0, Value.slice none 0 0] 40))).1; have uu2 := (whole_store (second w6 (Obj.cells #[Value.int IntKind.i64 0, Value.slice none 0 0] 40) (Obj.cells #[Value.int IntKind.i64 0, Value.slice none 0 0] 40))).2.1; have uu3 := (whole_store (second w6 (Obj.cells #[Value.int IntKind.i64 0, Value.slice none 0 0] 40) (Obj.cells #[Value.int IntKind.i64 0, Value.slice none 0 0] 40))).2.2.1; have uu4 := (whole_store (second w6 (Obj.cells #[Value.int IntKind.i64 0, Value.slice none 0 0] 40) (Obj.cells #[Value.int IntKind.i64 0, Value.slice none 0 0] 40))).2.2.2; have u1 := fun o => (whole_store (ZFr.blk_alloc (heap_alloc_new w6 (Obj.cells #[Value.int IntKind.i64 0, Value.slice none 0 0] 40)) o)).1; have u2 := fun o => (whole_store (ZFr.blk_alloc (heap_alloc_new w6 (Obj.cells #[Value.int IntKind.i64 0, Value.slice none 0 0] 40)) o)).2.1; have u3 := fun o => (whole_store (ZFr.blk_alloc (heap_alloc_new w6 (Obj.cells #[Value.int IntKind.i64 0, Value.slice none 0 0] 40)) o)).2.2.1; have u4 := fun o => (whole_store (ZFr.blk_alloc (heap_alloc_new w6 (Obj.cells #[Value.int IntKind.i64 0, Value.slice none 0 0] 40)) o)).2.2.2; (try (have ne1 : ¬ w3.heap.size = w6.heap.size := by omega)); (try (have nf1 : ¬ w6.heap.size = w3.heap.size := by omega)); (try (have ne2 : ¬ w3.heap.size = w6.heap.size + 1 := by omega)); (try (have nf2 : ¬ w6.heap.size + 1 = w3.heap.size := by omega)); (try (have ne3 : ¬ w3.heap.size = w5.heap.size := by omega)); (try (have nf3 : ¬ w5.heap.size = w3.heap.size := by omega)); (try (have ne4 : ¬ w3.heap.size = w5.heap.size + 1 := by omega)); (try (have nf4 : ¬ w5.heap.size + 1 = w3.heap.size := by omega)); (try (have ne5 : ¬ w3.heap.size + 1 = w6.heap.size := by omega)); (try (have nf5 : ¬ w6.heap.size = w3.heap.size + 1 := by omega)); (try (have ne6 : ¬ w3.heap.size + 1 = w6.heap.size + 1 := by omega)); (try (have nf6 : ¬ w6.heap.size + 1 = w3.heap.size + 1 := by omega)); (try (have ne7 : ¬ w3.heap.size + 1 = w5.heap.size := by omega)); (try (have nf7 : ¬ w5.heap.size = w3.heap.size + 1 := by omega)); (try (have ne8 : ¬ w3.heap.size + 1 = w5.heap.size + 1 := by omega)); (try (have nf8 : ¬ w5.heap.size + 1 = w3.heap.size + 1 := by omega)); (try (have ne9 : ¬ w5.heap.size = w6.heap.size := by omega)); (try (have nf9 : ¬ w6.heap.size = w5.heap.size := by omega)); (try (have ne10 : ¬ w5.heap.size = w6.heap.size + 1 := by omega)); (try (have nf10 : ¬ w6.heap.size + 1 = w5.heap.size := by omega)); (try (have ne11 : ¬ w5.heap.size + 1 = w6.heap.size := by omega)); (try (have nf11 : ¬ w6.heap.size = w5.heap.size + 1 := by omega)); (try (have ne12 : ¬ w5.heap.size + 1 = w6.heap.size + 1 := by omega)); (try (have nf12 : ¬ w6.heap.size + 1 = w5.heap.size + 1 := by omega)); have sz6 := J6.out.size; have pu0_6 := fun o => (point_cells (ZFr.blk_alloc (ZFr.blk_fr T1.out J6.out (fun h => h)) o)).1; have pv0_6 := fun o o9 => (point_cells (ZFr.blk_alloc (ZFr.blk_alloc (ZFr.blk_fr T1.out J6.out (fun h => h)) o) o9)).1; have pu1_6 := fun o => (point_cells (ZFr.blk_alloc (ZFr.blk_fr T1.out J6.out (fun h => h)) o)).2; have pv1_6 := fun o o9 => (point_cells (ZFr.blk_alloc (ZFr.blk_alloc (ZFr.blk_fr T1.out J6.out (fun h => h)) o) o9)).2; have qu0_6 := fun o => (point_cells (ZFr.blk_alloc (ZFr.blk_fr T2.out J6.out (fun h => h)) o)).1; have qv0_6 := fun o o9 => (point_cells (ZFr.blk_alloc (ZFr.blk_alloc (ZFr.blk_fr T2.out J6.out (fun h => h)) o) o9)).1; have qu1_6 := fun o => (point_cells (ZFr.blk_alloc (ZFr.blk_fr T2.out J6.out (fun h => h)) o)).2; have qv1_6 := fun o o9 => (point_cells (ZFr.blk_alloc (ZFr.blk_alloc (ZFr.blk_fr T2.out J6.out (fun h => h)) o) o9)).2; have ne109 := (show ¬ w.heap.size = w6.heap.size from (by omega)); have ne110 := (show ¬ w.heap.size = w6.heap.size + 1 from (by omega)); have ne111 := (show ¬ w.heap.size + 1 = w6.heap.size from (by omega)); have ne112 := (show ¬ w.heap.size + 1 = w6.heap.size + 1 from (by omega)); clear g6 f6)))
    all_goals
      go_wp2_with fail
      go_meet
      have BD5 := H5.out.up (w' := w6) K6.out
      have BD6 := H6.out
      refine ⟨_, _, A5, c5, A6, c6, rfl, rfl, (by omega), (by omega), ?_, ?_, ?_, ?_, ?_⟩
      · first | (with_reducible refine new_at ?_; simp only [ZFr.size_set]) | with_reducible exact heap_alloc_new _ _ | with_reducible exact second _ _ _ | with_reducible exact ZFr.blk_alloc (heap_alloc_new _ _) _ | (with_reducible refine ZFr.blk_alloc ?_ _; (first | with_reducible exact put2 XH.out | with_reducible exact put2 YH.out | with_reducible exact put2 ZH.out | with_reducible exact put2 TH.out)) | (with_reducible refine put2o (put2 XH.out) ?_ <;> omega) | (with_reducible refine put2o (put2 YH.out) ?_ <;> omega) | (with_reducible refine put2o (put2 ZH.out) ?_ <;> omega) | (with_reducible refine put2o (put2 TH.out) ?_ <;> omega) | (with_reducible refine put2 (put2o XH.out ?_) <;> omega) | (with_reducible refine put2 (put2o YH.out ?_) <;> omega) | (with_reducible refine put2 (put2o ZH.out ?_) <;> omega) | (with_reducible refine put2 (put2o TH.out ?_) <;> omega)
      · first | (with_reducible refine new_at ?_; simp only [ZFr.size_set]) | with_reducible exact heap_alloc_new _ _ | with_reducible exact second _ _ _ | with_reducible exact ZFr.blk_alloc (heap_alloc_new _ _) _ | (with_reducible refine ZFr.blk_alloc ?_ _; (first | with_reducible exact put2 XH.out | with_reducible exact put2 YH.out | with_reducible exact put2 ZH.out | with_reducible exact put2 TH.out)) | (with_reducible refine put2o (put2 XH.out) ?_ <;> omega) | (with_reducible refine put2o (put2 YH.out) ?_ <;> omega) | (with_reducible refine put2o (put2 ZH.out) ?_ <;> omega) | (with_reducible refine put2o (put2 TH.out) ?_ <;> omega) | (with_reducible refine put2 (put2o XH.out ?_) <;> omega) | (with_reducible refine put2 (put2o YH.out ?_) <;> omega) | (with_reducible refine put2 (put2o ZH.out ?_) <;> omega) | (with_reducible refine put2 (put2o TH.out ?_) <;> omega)
      · (first | (with_reducible refine Dgs.mono (dgs_put2 (dgs_put2 BD5 ?_) ?_) ?_) | (with_reducible refine Dgs.mono (dgs_alloc (dgs_put2 BD5 ?_) _) ?_) | (with_reducible refine Dgs.mono (dgs_alloc (dgs_alloc BD5 _) _) ?_)) <;> (first | omega | (unfold Up; simp; omega) | (unfold Up; simp))
      · (first | (with_reducible refine Dgs.mono (dgs_put2 (dgs_put2 BD6 ?_) ?_) ?_) | (with_reducible refine Dgs.mono (dgs_alloc (dgs_put2 BD6 ?_) _) ?_) | (with_reducible refine Dgs.mono (dgs_alloc (dgs_alloc BD6 _) _) ?_)) <;> (first | omega | (simp; omega) | simp)
      · (first | (with_reducible refine fr_put2 (fr_put2 J6.out ?_) ?_) | (with_reducible refine Fr.alloc (fr_put2 J6.out ?_) _) | (with_reducible refine Fr.alloc (Fr.alloc J6.out _) _)) <;> omega
  case rest =>
    obtain ⟨g5, g6, A5, c5, A6, c6, rfl, rfl, m5, m6, b5, b6, d5, d6, fc⟩ := hcut
    have FC := Lib.hid fc
    have B5 := Lib.hid b5
    have B6 := Lib.hid b6
    have D5 := Lib.hid (d5.fr ((Fr.refl (fun _ => False) wc).drew) (fun _ h => h.elim))
    have D6 := Lib.hid (d6.fr ((Fr.refl (fun _ => False) wc).drew) (fun _ h => h.elim))
    have HT := Lib.hid (show ∀ k, k < w3.heap.size → k < wc.drew.heap.size from fun k hk => Nat.lt_of_lt_of_le hk fc.size)
    have R0 := Lib.hid (ZFr.blk_fr T3.out fc (fun h => h))
    have hl3 := ZFr.blk_lt T3.out
    have hne5 : ¬ w.heap.size + 1 + 1 = g5 := by omega
    have hne6 : ¬ w.heap.size + 1 + 1 = g6 := by omega
    clear hl3 m5 m6
    obtain ⟨p1, p2⟩ := whole_cells (w := wc.drew) b5
    obtain ⟨q1, q2⟩ := whole_cells (w := wc.drew) b6
    clear b5 b6 d5 d6 fc
    go_wp2_with fail
    go_region_held3 (fun w' => w'.cell? ⟨g5, 0, none⟩ = some (.int .i64 (sg dx)) ∧ w'.cell? ⟨g5, 1, none⟩ = some (.slice A5 (dg dx.natAbs).length c5) ∧ w'.cell? ⟨g6, 0, none⟩ = some (.int .i64 (sg dy)) ∧ w'.cell? ⟨g6, 1, none⟩ = some (.slice A6 (dg dy.natAbs).length c6))
      (refine ⟨?_, ?_, ?_, ?_⟩ <;> (repeat (first | with_reducible assumption | (with_reducible refine cell_far ?_ (by dsimp only; omega)))))
      (first
        | ((go_at_call 60; have hc_ := add_walk xx yy _ _ (fun k => k < w3.heap.size) w8 (fun k hk => Nat.lt_of_lt_of_le (HT.out k hk) F8.out.size) (Whole.mk (H7.out.fr G8.out (fun _ h => h.elim))) (Whole.mk H8.out) LX.out LY.out; rw [HZ.out] at hc_; (with_reducible refine hc_.mono ?_); clear hc_; rintro e w9 ⟨v9, rfl, h9, f9⟩; obtain ⟨s9, rfl, g9⟩ := h9; obtain ⟨A9, c9, rfl⟩ := g9.slice; have H9 := Lib.hid g9; have F9 := Lib.hid (F8.out.trans f9 (fun _ h _ => h)); obtain ⟨p5, p6⟩ := whole_cells (ZFr.blk_fr B5.out F9.out (fun h => h)); obtain ⟨q5, q6⟩ := whole_cells (ZFr.blk_fr B6.out F9.out (fun h => h)); have R9 := Lib.hid (ZFr.blk_fr R0.out F9.out (fun h => h)); obtain ⟨i1, i2, i3, i4⟩ := whole_store R9.out; clear g9 f9))
        | ((go_at_call_of 69 (Value.agg #[Value.int IntKind.i64 (sg dx), Value.slice A5 (dg dx.natAbs).length c5]); have hc_ := mul_walk dx dx _ _ (fun k => k < w3.heap.size) wc.drew HT.out (Whole.mk D5.out) (Whole.mk D5.out) LX5.out LX5.out; rw [HX.out] at hc_; (with_reducible refine hc_.mono ?_); clear hc_; rintro e w7 ⟨v7, rfl, h7, f7⟩; obtain ⟨s7, rfl, g7⟩ := h7; obtain ⟨A7, c7, rfl⟩ := g7.slice; have H7 := Lib.hid g7; have F7 := Lib.hid (((Fr.refl (fun _ => False) wc).drew).trans f7 (fun _ h _ => h)); have G7 := Lib.hid f7; obtain ⟨p3, p4⟩ := whole_cells (ZFr.blk_fr B5.out F7.out (fun h => h)); obtain ⟨q3, q4⟩ := whole_cells (ZFr.blk_fr B6.out F7.out (fun h => h)); clear g7 f7))
        | ((go_at_call_of 69 (Value.agg #[Value.int IntKind.i64 (sg dy), Value.slice A6 (dg dy.natAbs).length c6]); have hc_ := mul_walk dy dy _ _ (fun k => k < w3.heap.size) w7 (fun k hk => Nat.lt_of_lt_of_le (HT.out k hk) G7.out.size) (Whole.mk (D6.out.fr G7.out (fun _ h => h.elim))) (Whole.mk (D6.out.fr G7.out (fun _ h => h.elim))) LY5.out LY5.out; rw [HY.out] at hc_; (with_reducible refine hc_.mono ?_); clear hc_; rintro e w8 ⟨v8, rfl, h8, f8⟩; obtain ⟨s8, rfl, g8⟩ := h8; obtain ⟨A8, c8, rfl⟩ := g8.slice; have H8 := Lib.hid g8; have G8 := Lib.hid f8; have F8 := Lib.hid (F7.out.trans f8 (fun _ h _ => h)); obtain ⟨p7, p8⟩ := whole_cells (ZFr.blk_fr B5.out F8.out (fun h => h)); obtain ⟨q7, q8⟩ := whole_cells (ZFr.blk_fr B6.out F8.out (fun h => h)); clear g8 f8)))
    all_goals
      go_wp2_with fail
      have hl := ZFr.blk_lt T3.out
      have B := ((Fr.refl (fun k => k < w3.heap.size) w9).set ⟨w.heap.size + 1 + 1, 0, none⟩ (.int .i64 (sg zz)) (.inl hl)).set ⟨w.heap.size + 1 + 1, 1, none⟩ (.slice A9 (dg zz.natAbs).length c9) (.inl hl)
      refine bodyPost_ret (results_cell_row rfl _ _ (w.heap.size + 1 + 1) 40 #[.int .i64 (sg zz), .slice A9 (dg zz.natAbs).length c9] (0, 0) _ rfl (ZFr.blk_set (ZFr.blk_set R9.out 0 _) 1 _) Try.underlying40 rfl (by kernel_rfl)) rfl ?_
      exact ⟨_, rfl, ⟨_, rfl, (H9.out.fr B (fun _ h => h)).mono (fun k h => Nat.lt_of_lt_of_le (hS k h) F3.out.size)⟩, (((F3.out.trans FC.out (fun _ h _ => h)).trans F9.out (fun _ h _ => h)).set _ _ (.inr (by dsimp only; omega))).set _ _ (.inr (by dsimp only; omega))⟩
end Go.Proofs.Ytngmkjgklonfmaa.Big

/- The document's distance over the torus. -/
namespace Go.Proofs.Ytngmkjgklonfmaa.Big
open Go.RowKit Go.Proofs.ZFr Go.Proofs.Ytngmkjgklonfmaa.PNearNearest Go.Proofs.YtngmkjgklonfmaaW.PrintWords

/-- The distance by way of the m-th of nine squares, and the least of the first m. -/
def dAt (x y X Y n : Int) (m : Nat) : Int := d2 x y (X + (((m / 3 : Nat) : Int) - 1) * n) (Y + (((m % 3 : Nat) : Int) - 1) * n)
def mn (x y X Y n : Int) : Nat → Int
  | 0 => 0
  | m + 1 => if m = 0 then dAt x y X Y n 0 else if dAt x y X Y n m < mn x y X Y n m then dAt x y X Y n m else mn x y X Y n m
structure StF (x y X Y n : Int) (S : Nat → Prop) (w w4 wr : World) (m : Nat) : Prop where
  p : wr.heap[w.heap.size]? = some (.cells #[.int .i64 x, .int .i64 y] 24 (0, 0))
  q : wr.heap[w.heap.size + 1]? = some (.cells #[.int .i64 X, .int .i64 Y] 24 (0, 0))
  r : wr.heap[w.heap.size + 1 + 1]? = some (.cells #[.int .i64 0, .slice none 0 0] 40 (0, 0))
  o : ∃ s, wr.heap[w.heap.size + 1 + 1 + 1]? = some (.cells #[.int .i64 (sg (mn x y X Y n m)), s] 40 (0, 0)) ∧ Dgs wr (fun k => S k ∨ k < w4.heap.size) s (mn x y X Y n m).natAbs
  f : Fr (fun _ => False) w wr
  g : w4.heap.size ≤ wr.heap.size
theorem StF.put {x y X Y n : Int} {S : Nat → Prop} {w w4 V : World} {m : Nat} {D M : Int} {A : Option Addr} {c : Nat} {s0 : Value} (hp : V.heap[w.heap.size]? = some (.cells #[.int .i64 x, .int .i64 y] 24 (0, 0))) (hq : V.heap[w.heap.size + 1]? = some (.cells #[.int .i64 X, .int .i64 Y] 24 (0, 0))) (hr : V.heap[w.heap.size + 1 + 1]? = some (.cells #[.int .i64 0, .slice none 0 0] 40 (0, 0))) (ho : V.heap[w.heap.size + 1 + 1 + 1]? = some (.cells #[.int .i64 M, s0] 40 (0, 0))) (hg : Dgs V (fun k => S k ∨ k < w4.heap.size) (.slice A (dg D.natAbs).length c) D.natAbs) (hf : Fr (fun _ => False) w V) (hs : w4.heap.size ≤ V.heap.size) (hbo : w.heap.size + 1 + 1 + 1 < w4.heap.size) (hm : mn x y X Y n m = D) :
    StF x y X Y n S w w4 ((V.setCell ⟨w.heap.size + 1 + 1 + 1, 0, none⟩ (.int .i64 (sg D))).setCell ⟨w.heap.size + 1 + 1 + 1, 1, none⟩ (.slice A (dg D.natAbs).length c)) m := by
  subst hm
  refine ⟨ZFr.blk_set_other (ZFr.blk_set_other hp _ _ (by dsimp only; omega)) _ _ (by dsimp only; omega), ZFr.blk_set_other (ZFr.blk_set_other hq _ _ (by dsimp only; omega)) _ _ (by dsimp only; omega), ZFr.blk_set_other (ZFr.blk_set_other hr _ _ (by dsimp only; omega)) _ _ (by dsimp only; omega), ⟨_, ZFr.blk_set (ZFr.blk_set ho 0 _) 1 _, ?_⟩, (hf.set _ _ (.inr (by dsimp only; omega))).set _ _ (.inr (by dsimp only; omega)), by rw [ZFr.size_set, ZFr.size_set]; exact hs⟩
  exact hg.fr (((Fr.refl (fun k => S k ∨ k < w4.heap.size) V).set ⟨w.heap.size + 1 + 1 + 1, 0, none⟩ _ (.inl (.inr hbo))).set ⟨w.heap.size + 1 + 1 + 1, 1, none⟩ _ (.inl (.inr hbo))) (fun _ h => h)
theorem mul_self_nn (a : Int) : 0 ≤ a * a := by
  by_cases h : 0 ≤ a
  · exact Int.mul_nonneg h h
  · exact Int.mul_nonneg_of_nonpos_of_nonpos (by omega) (by omega)
theorem mn_nn (x y X Y n : Int) : ∀ m, 0 ≤ mn x y X Y n m
  | 0 => Int.le_refl 0
  | m + 1 => by
    have h : ∀ k, 0 ≤ dAt x y X Y n k := fun k => by
      unfold dAt d2
      exact Int.add_nonneg (mul_self_nn _) (mul_self_nn _)
    rw [mn]
    split
    · exact h 0
    · split
      · exact h m
      · exact mn_nn x y X Y n m
def sqP (a n : Int) : Prop := 0 ≤ a ∧ a < n
theorem far_num (x y X Y n : Int) (k j : Nat) (hk : k < 3) (hj : j < 3) (h : (1 ≤ n ∧ n ≤ 1073741824) ∧ sqP x n ∧ sqP y n ∧ sqP X n ∧ sqP Y n) : ∃ px py : Int, IntKind.i64.wrap (((k : Int) - 1) * n) = ((k : Int) - 1) * n ∧ IntKind.i64.wrap (((j : Int) - 1) * n) = ((j : Int) - 1) * n ∧ IntKind.i64.wrap (X + ((k : Int) - 1) * n) = px ∧ IntKind.i64.wrap (Y + ((j : Int) - 1) * n) = py ∧ i64P x ∧ i64P y ∧ i64P px ∧ i64P py ∧ dAt x y X Y n (3 * k + j) = d2 x y px py := by
  obtain ⟨⟨n1, n2⟩, ⟨x1, x2⟩, ⟨y1, y2⟩, ⟨X1, X2⟩, ⟨Y1, Y2⟩⟩ := h
  have b : ∀ t : Nat, t < 3 → -n ≤ ((t : Int) - 1) * n ∧ ((t : Int) - 1) * n ≤ n := fun t ht => by
    match t, ht with
    | 0, _ => simp; omega
    | 1, _ => simp; omega
    | 2, _ => simp; omega
  obtain ⟨k1, k2⟩ := b k hk
  obtain ⟨j1, j2⟩ := b j hj
  have e : dAt x y X Y n (3 * k + j) = d2 x y (X + ((k : Int) - 1) * n) (Y + ((j : Int) - 1) * n) := by
    unfold dAt
    rw [show (3 * k + j) / 3 = k from by omega, show (3 * k + j) % 3 = j from by omega]
  generalize ((k : Int) - 1) * n = U at *
  generalize ((j : Int) - 1) * n = V at *
  refine ⟨X + U, Y + V, ?_, ?_, ?_, ?_, ⟨by omega, by omega⟩, ⟨by omega, by omega⟩, ⟨by omega, by omega⟩, ⟨by omega, by omega⟩, e⟩
  · rw [Go.Proofs.YtngmkjgklonfmaaW.PrintLast.i64_w, w64 (n := U) (by omega) (by omega)]
  · rw [Go.Proofs.YtngmkjgklonfmaaW.PrintLast.i64_w, w64 (n := V) (by omega) (by omega)]
  · rw [Go.Proofs.YtngmkjgklonfmaaW.PrintLast.i64_w, w64 (n := X + U) (by omega) (by omega)]
  · rw [Go.Proofs.YtngmkjgklonfmaaW.PrintLast.i64_w, w64 (n := Y + V) (by omega) (by omega)]
theorem d2_len {x y px py : Int} (h1 : i64P x) (h2 : i64P y) (h3 : i64P px) (h4 : i64P py) : (dg (d2 x y px py).natAbs).length < 800 := by
  have l1 := len_diff h1 h3
  have l2 := len_diff h2 h4
  have l3 : (dg ((px - x) * (px - x)).natAbs).length ≤ 5 + 5 := by rw [Int.natAbs_mul]; exact dg_mul l1 l1
  have l4 : (dg ((py - y) * (py - y)).natAbs).length ≤ 5 + 5 := by rw [Int.natAbs_mul]; exact dg_mul l2 l2
  have := dg_add l3 l4
  unfold d2
  rw [Int.natAbs_add_of_nonneg (mul_self_nn _) (mul_self_nn _)]
  omega
theorem mn_len {x y X Y n : Int} (h : (1 ≤ n ∧ n ≤ 1073741824) ∧ sqP x n ∧ sqP y n ∧ sqP X n ∧ sqP Y n) : ∀ m, m ≤ 9 → (dg (mn x y X Y n m).natAbs).length < 800
  | 0, _ => by rw [mn, show (0 : Int).natAbs = 0 from rfl, dg_zero]; decide
  | m + 1, hm => by
    have hd : ∀ k, k < 9 → (dg (dAt x y X Y n k).natAbs).length < 800 := fun k hk => by
      obtain ⟨px, py, _, _, _, _, a, b, c, d, e⟩ := far_num x y X Y n (k / 3) (k % 3) (by omega) (by omega) h
      rw [show 3 * (k / 3) + k % 3 = k from by omega] at e
      rw [e]; exact d2_len a b c d
    rw [mn]
    split
    · exact hd 0 (by omega)
    · split
      · exact hd m (by omega)
      · exact mn_len h m (by omega)
set_option maxRecDepth 100000 in
set_option maxHeartbeats 8000000 in
theorem far_walk (x y X Y n : Int) (S : Nat → Prop) (w : World) (hS : ∀ k, S k → k < w.heap.size) (hn : 1 ≤ n ∧ n ≤ 1073741824) (hx : sqP x n) (hy : sqP y n) (hX : sqP X n) (hY : sqP Y n) : Calls Try.prog 15 #[.agg #[.int .i64 x, .int .i64 y], .agg #[.int .i64 X, .int .i64 Y], .int .i64 n] w fun e w' => ∃ v, e = .returned v ∧ Whole w' S v (mn x y X Y n 9) ∧ Fr (fun _ => False) w w' := by
  have HP := Lib.hid (And.intro hn (And.intro hx (And.intro hy (And.intro hX hY))))
  clear hn hx hy hX hY
  obtain ⟨t1, t2, t3, t4, f4⟩ := four w (Obj.cells #[Value.int IntKind.i64 x, Value.int IntKind.i64 y] 24) (Obj.cells #[Value.int IntKind.i64 X, Value.int IntKind.i64 Y] 24) (Obj.cells #[Value.int IntKind.i64 0, Value.slice none 0 0] 40) (Obj.cells #[Value.int IntKind.i64 0, Value.slice none 0 0] 40)
  go_enter Try.func15, Try.ntmps15
  go_wp2_with fail
  generalize (((w.alloc (Obj.cells #[Value.int IntKind.i64 x, Value.int IntKind.i64 y] 24)).alloc (Obj.cells #[Value.int IntKind.i64 X, Value.int IntKind.i64 Y] 24)).alloc (Obj.cells #[Value.int IntKind.i64 0, Value.slice none 0 0] 40)).alloc (Obj.cells #[Value.int IntKind.i64 0, Value.slice none 0 0] 40) = w4 at t1 t2 t3 t4 f4 ⊢
  have ST0 := Lib.hid (show StF x y X Y n S w w4 w4 0 from ⟨t1, t2, t3, ⟨_, t4, dgs_zero _ _ _ _⟩, f4, Nat.le_refl _⟩)
  have BO := Lib.hid (show w.heap.size + 1 + 1 + 1 < w4.heap.size from ZFr.blk_lt t4)
  clear t1 t2 t3 t4 f4
  go_loopw [8, 9] (fun b i wr => ∃ k : Nat, k ≤ 3 ∧ b = .bool (decide (0 < k)) ∧ i = .int .i64 ((k : Int) - 1) ∧ StF x y X Y n S w w4 wr (3 * k)) (fun _ i _ => (2 - intOf i).toNat)
  case atStart => exact ⟨0, by omega, rfl, rfl, ST0.out⟩
  case round =>
    obtain ⟨k, hk, rfl, rfl, hst⟩ := hrel
    have HST := Lib.hid hst
    clear hst
    by_cases hk3 : k < 3
    · have hkd : (k : Int) - 1 ≤ 1 := by omega
      obtain ⟨wo, rfl⟩ : ∃ wo : World, wo = wr := ⟨_, rfl⟩
      go_wp2_with fail
      go_loopw [8, 10] (fun b i ws => ∃ j : Nat, j ≤ 3 ∧ b = .bool (decide (0 < 3 * k + j)) ∧ i = .int .i64 ((j : Int) - 1) ∧ StF x y X Y n S w w4 ws (3 * k + j)) (fun _ i _ => (2 - intOf i).toNat)
      case atStart => exact ⟨0, by omega, by congr 2; simp, rfl, HST.out⟩
      case round =>
        obtain ⟨j, hj, rfl, rfl, hst⟩ := hrel
        have HSU := Lib.hid hst
        clear hst
        by_cases hj3 : j < 3
        · obtain ⟨px, py, e1, e2, e3, e4, ix, iy, ipx, ipy, hD⟩ := far_num x y X Y n k j hk3 hj3 HP.out
          have hjd : (j : Int) - 1 ≤ 1 := by omega
          obtain ⟨U, hU⟩ : ∃ U, (k : Int) - 1 = U := ⟨_, rfl⟩
          obtain ⟨V, hV⟩ : ∃ V, (j : Int) - 1 = V := ⟨_, rfl⟩
          rw [hU] at e1 e3 hkd ⊢
          rw [hV] at e2 e4 hjd ⊢
          have HU := Lib.hid hU
          have HV := Lib.hid hV
          have hmn := mn_nn x y X Y n (3 * k + j)
          have hms : mn x y X Y n (3 * k + j + 1) = if 3 * k + j = 0 then dAt x y X Y n 0 else if dAt x y X Y n (3 * k + j) < mn x y X Y n (3 * k + j) then dAt x y X Y n (3 * k + j) else mn x y X Y n (3 * k + j) := rfl
          obtain ⟨m, hm⟩ : ∃ m, 3 * k + j = m := ⟨_, rfl⟩
          have HM := Lib.hid hm
          rw [hm] at hD hmn hms HSU ⊢
          obtain ⟨sO, hO, hOd⟩ := HSU.out.o
          have hDn : 0 ≤ d2 x y px py := by unfold d2; exact Int.add_nonneg (mul_self_nn _) (mul_self_nn _)
          generalize hDD : d2 x y px py = D at hD hDn
          rw [hD] at hms
          generalize hMM : mn x y X Y n m = M at hO hOd hmn hms
          obtain ⟨AO, cO, rfl⟩ := hOd.slice
          obtain ⟨p0, p1⟩ := point_cells HSU.out.p
          obtain ⟨q0, q1⟩ := point_cells HSU.out.q
          have I := Lib.hid (And.intro ix (And.intro iy (And.intro ipx ipy)))
          have HDD := Lib.hid hDD
          have HO := Lib.hid hO
          have HOD := Lib.hid hOd
          have HMS := Lib.hid hms
          have HMM := Lib.hid hMM
          have HST2 := Lib.hid (show ∀ q, (S q ∨ q < w4.heap.size) → q < wr.heap.size from fun q hq => Nat.lt_of_lt_of_le (hq.elim (fun h => Nat.lt_of_lt_of_le (hS q h) (by have := BO.out; omega)) id) HSU.out.g)
          have HJ3 := Lib.hid (show k < 3 ∧ j < 3 from ⟨hk3, hj3⟩)
          have HDA := Lib.hid hD
          have HV1 := Lib.hid (show wrap64 (V + 1) = (j : Int) from by rw [← hV]; rw [show (j : Int) - 1 + 1 = j from by omega]; exact w64 (by omega) (by omega))
          clear hU hV hm hD ix iy ipx ipy hDD hO hOd hms hMM hk3 hj3 hk hj
          have LD := Lib.hid (show (dg D.natAbs).length < 800 from by rw [← HDD.out]; exact d2_len I.out.1 I.out.2.1 I.out.2.2.1 I.out.2.2.2)
          have LM := Lib.hid (show (dg M.natAbs).length < 800 from by rw [← HMM.out]; exact mn_len HP.out m (by have := HM.out; have := HJ3.out; omega))
          by_cases hm0 : m = 0
          · have hdec : decide (0 < m) = false := decide_eq_false (by omega)
            rw [hdec]
            clear hdec hmn hDn
            go_wp2_with (first
              | (go_at_call 38; have hc_ := dist_c x y px py I.out.1 I.out.2.1 I.out.2.2.1 I.out.2.2.2 (fun q => S q ∨ q < w4.heap.size) wr HST2.out; rw [HDD.out] at hc_; (with_reducible refine hc_.mono ?_); clear hc_; rintro e w5 ⟨v5, rfl, h5, f5⟩; obtain ⟨s5, rfl, g5⟩ := h5; obtain ⟨A5, c5, rfl⟩ := g5.slice; have G5 := Lib.hid g5; have P5 := Lib.hid (ZFr.blk_fr HSU.out.p f5 (fun h => h)); have Q5 := Lib.hid (ZFr.blk_fr HSU.out.q f5 (fun h => h)); have R5 := Lib.hid (ZFr.blk_fr HSU.out.r f5 (fun h => h)); have O5 := Lib.hid (ZFr.blk_fr HO.out f5 (fun h => h)); have z1 := fun o => (whole_store (ZFr.blk_alloc O5.out o)).1; have z2 := fun o => (whole_store (ZFr.blk_alloc O5.out o)).2.1; have z3 := fun o => (whole_store (ZFr.blk_alloc O5.out o)).2.2.1; have z4 := fun o => (whole_store (ZFr.blk_alloc O5.out o)).2.2.2; have K5 := Lib.hid f5; clear g5 f5)
              )
            clear e1 e2 e3 e4
            rw [HV1.out]
            go_roundw
            case rel =>
              have h1 := HM.out
              have h2 := HJ3.out
              refine ⟨j + 1, by omega, by rw [decide_eq_true (by omega)], by congr 1; omega, ?_⟩
              rw [show 3 * k + (j + 1) = m + 1 from by omega]
              have hmD : mn x y X Y n (m + 1) = D := by rw [HMS.out, if_pos hm0, ← HDA.out, hm0]
              exact StF.put (ZFr.blk_alloc P5.out _) (ZFr.blk_alloc Q5.out _) (ZFr.blk_alloc R5.out _) (ZFr.blk_alloc O5.out _) (G5.out.fr ((Fr.refl (fun _ => False) w5).alloc _) (fun _ h => h.elim)) ((HSU.out.f.trans K5.out (fun _ h _ => h)).alloc _) (Nat.le_trans HSU.out.g (K5.out.alloc (Obj.cells #[Value.int IntKind.i64 (sg D), Value.slice A5 (dg D.natAbs).length c5] 40)).size) BO.out hmD
            case measure => have h1 := HV.out; have h2 := HJ3.out; simp [intOf]; omega
          · have hdec : decide (0 < m) = true := decide_eq_true (by omega)
            rw [hdec]
            clear hdec
            by_cases hlt : D < M
            · have HQ := Lib.hid (show sg (D - M) = -1 from by unfold sg; rw [if_neg (by omega), if_pos (by omega)])
              have HLT := Lib.hid hlt
              clear hlt hmn hDn
              go_wp2_with (first
                | (go_at_call 13; have hc_ := cmp_walk D M _ _ (fun q => S q ∨ q < w4.heap.size) (w5.alloc (Obj.cells #[Value.int IntKind.i64 (sg D), Value.slice A5 (dg D.natAbs).length c5] 40)) (fun q hq => Nat.lt_of_lt_of_le (HST2.out q hq) (Nat.le_trans K5.out.size ((Fr.refl (fun _ => False) w5).alloc (Obj.cells #[Value.int IntKind.i64 (sg D), Value.slice A5 (dg D.natAbs).length c5] 40)).size)) (Whole.mk (G5.out.fr ((Fr.refl (fun _ => False) w5).alloc (Obj.cells #[Value.int IntKind.i64 (sg D), Value.slice A5 (dg D.natAbs).length c5] 40)) (fun _ h => h.elim))) (Whole.mk (HOD.out.fr (K5.out.alloc (Obj.cells #[Value.int IntKind.i64 (sg D), Value.slice A5 (dg D.natAbs).length c5] 40)) (fun _ h => h.elim))) LD.out LM.out; rw [HQ.out] at hc_; (with_reducible refine hc_.mono ?_); clear hc_; rintro e w6 ⟨rfl, f6⟩; have P6 := Lib.hid (ZFr.blk_fr (ZFr.blk_alloc P5.out _) f6 (fun h => h)); have Q6 := Lib.hid (ZFr.blk_fr (ZFr.blk_alloc Q5.out _) f6 (fun h => h)); have R6 := Lib.hid (ZFr.blk_fr (ZFr.blk_alloc R5.out _) f6 (fun h => h)); have O6 := Lib.hid (ZFr.blk_fr (ZFr.blk_alloc O5.out _) f6 (fun h => h)); have D6 := Lib.hid (ZFr.blk_fr (heap_alloc_new w5 (Obj.cells #[Value.int IntKind.i64 (sg D), Value.slice A5 (dg D.natAbs).length c5] 40)) f6 (fun h => h)); obtain ⟨d0, d1⟩ := whole_cells D6.out; obtain ⟨i1, i2, i3, i4⟩ := whole_store O6.out; have K6 := Lib.hid ((K5.out.alloc (Obj.cells #[Value.int IntKind.i64 (sg D), Value.slice A5 (dg D.natAbs).length c5] 40)).trans f6 (fun _ h _ => h)); have J6 := Lib.hid (((Fr.refl (fun _ => False) w5).alloc (Obj.cells #[Value.int IntKind.i64 (sg D), Value.slice A5 (dg D.natAbs).length c5] 40)).trans f6 (fun _ h _ => h)); clear f6)
                | (go_at_call 38; have hc_ := dist_c x y px py I.out.1 I.out.2.1 I.out.2.2.1 I.out.2.2.2 (fun q => S q ∨ q < w4.heap.size) wr HST2.out; rw [HDD.out] at hc_; (with_reducible refine hc_.mono ?_); clear hc_; rintro e w5 ⟨v5, rfl, h5, f5⟩; obtain ⟨s5, rfl, g5⟩ := h5; obtain ⟨A5, c5, rfl⟩ := g5.slice; have G5 := Lib.hid g5; have P5 := Lib.hid (ZFr.blk_fr HSU.out.p f5 (fun h => h)); have Q5 := Lib.hid (ZFr.blk_fr HSU.out.q f5 (fun h => h)); have R5 := Lib.hid (ZFr.blk_fr HSU.out.r f5 (fun h => h)); have O5 := Lib.hid (ZFr.blk_fr HO.out f5 (fun h => h)); have z1 := fun o => (whole_store (ZFr.blk_alloc O5.out o)).1; have z2 := fun o => (whole_store (ZFr.blk_alloc O5.out o)).2.1; have z3 := fun o => (whole_store (ZFr.blk_alloc O5.out o)).2.2.1; have z4 := fun o => (whole_store (ZFr.blk_alloc O5.out o)).2.2.2; have K5 := Lib.hid f5; clear g5 f5)
                )
              clear e1 e2 e3 e4
              rw [HV1.out]
              go_roundw
              case rel =>
                have h1 := HM.out
                have h2 := HJ3.out
                refine ⟨j + 1, by omega, by rw [decide_eq_true (by omega)], by congr 1; omega, ?_⟩
                rw [show 3 * k + (j + 1) = m + 1 from by omega]
                have hmD : mn x y X Y n (m + 1) = D := by rw [HMS.out, if_neg hm0, if_pos HLT.out]
                exact StF.put P6.out Q6.out R6.out O6.out (G5.out.fr J6.out (fun _ h => h.elim)) (HSU.out.f.trans K6.out (fun _ h _ => h)) (Nat.le_trans HSU.out.g K6.out.size) BO.out hmD
              case measure => have h1 := HV.out; have h2 := HJ3.out; simp [intOf]; omega
            · obtain ⟨q, HQ0, hq⟩ : ∃ q, sg (D - M) = q ∧ (q = 1 ∨ q = 0) := ⟨_, rfl, sg_nn (by omega)⟩
              have HQ := Lib.hid HQ0
              have HLT := Lib.hid hlt
              clear hlt hmn hDn HQ0
              rcases hq with rfl | rfl
              all_goals
                go_wp2_with (first
                  | (go_at_call 13; have hc_ := cmp_walk D M _ _ (fun q => S q ∨ q < w4.heap.size) (w5.alloc (Obj.cells #[Value.int IntKind.i64 (sg D), Value.slice A5 (dg D.natAbs).length c5] 40)) (fun q hq => Nat.lt_of_lt_of_le (HST2.out q hq) (Nat.le_trans K5.out.size ((Fr.refl (fun _ => False) w5).alloc (Obj.cells #[Value.int IntKind.i64 (sg D), Value.slice A5 (dg D.natAbs).length c5] 40)).size)) (Whole.mk (G5.out.fr ((Fr.refl (fun _ => False) w5).alloc (Obj.cells #[Value.int IntKind.i64 (sg D), Value.slice A5 (dg D.natAbs).length c5] 40)) (fun _ h => h.elim))) (Whole.mk (HOD.out.fr (K5.out.alloc (Obj.cells #[Value.int IntKind.i64 (sg D), Value.slice A5 (dg D.natAbs).length c5] 40)) (fun _ h => h.elim))) LD.out LM.out; rw [HQ.out] at hc_; (with_reducible refine hc_.mono ?_); clear hc_; rintro e w6 ⟨rfl, f6⟩; have P6 := Lib.hid (ZFr.blk_fr (ZFr.blk_alloc P5.out _) f6 (fun h => h)); have Q6 := Lib.hid (ZFr.blk_fr (ZFr.blk_alloc Q5.out _) f6 (fun h => h)); have R6 := Lib.hid (ZFr.blk_fr (ZFr.blk_alloc R5.out _) f6 (fun h => h)); have O6 := Lib.hid (ZFr.blk_fr (ZFr.blk_alloc O5.out _) f6 (fun h => h)); have D6 := Lib.hid (ZFr.blk_fr (heap_alloc_new w5 (Obj.cells #[Value.int IntKind.i64 (sg D), Value.slice A5 (dg D.natAbs).length c5] 40)) f6 (fun h => h)); obtain ⟨d0, d1⟩ := whole_cells D6.out; obtain ⟨i1, i2, i3, i4⟩ := whole_store O6.out; have K6 := Lib.hid ((K5.out.alloc (Obj.cells #[Value.int IntKind.i64 (sg D), Value.slice A5 (dg D.natAbs).length c5] 40)).trans f6 (fun _ h _ => h)); have J6 := Lib.hid (((Fr.refl (fun _ => False) w5).alloc (Obj.cells #[Value.int IntKind.i64 (sg D), Value.slice A5 (dg D.natAbs).length c5] 40)).trans f6 (fun _ h _ => h)); clear f6)
                  | (go_at_call 38; have hc_ := dist_c x y px py I.out.1 I.out.2.1 I.out.2.2.1 I.out.2.2.2 (fun q => S q ∨ q < w4.heap.size) wr HST2.out; rw [HDD.out] at hc_; (with_reducible refine hc_.mono ?_); clear hc_; rintro e w5 ⟨v5, rfl, h5, f5⟩; obtain ⟨s5, rfl, g5⟩ := h5; obtain ⟨A5, c5, rfl⟩ := g5.slice; have G5 := Lib.hid g5; have P5 := Lib.hid (ZFr.blk_fr HSU.out.p f5 (fun h => h)); have Q5 := Lib.hid (ZFr.blk_fr HSU.out.q f5 (fun h => h)); have R5 := Lib.hid (ZFr.blk_fr HSU.out.r f5 (fun h => h)); have O5 := Lib.hid (ZFr.blk_fr HO.out f5 (fun h => h)); have z1 := fun o => (whole_store (ZFr.blk_alloc O5.out o)).1; have z2 := fun o => (whole_store (ZFr.blk_alloc O5.out o)).2.1; have z3 := fun o => (whole_store (ZFr.blk_alloc O5.out o)).2.2.1; have z4 := fun o => (whole_store (ZFr.blk_alloc O5.out o)).2.2.2; have K5 := Lib.hid f5; clear g5 f5)
                  )
                clear e1 e2 e3 e4
                rw [HV1.out]
                go_roundw
                case rel =>
                  have h1 := HM.out
                  have h2 := HJ3.out
                  refine ⟨j + 1, by omega, by rw [decide_eq_true (by omega)], by congr 1; omega, ?_⟩
                  rw [show 3 * k + (j + 1) = m + 1 from by omega]
                  have hmD : mn x y X Y n (m + 1) = M := by rw [HMS.out, if_neg hm0, if_neg (Int.not_lt.2 HLT.out)]
                  exact ⟨P6.out, Q6.out, R6.out, ⟨_, by rw [hmD]; exact O6.out, by rw [hmD]; exact HOD.out.fr K6.out (fun _ h => h.elim)⟩, HSU.out.f.trans K6.out (fun _ h _ => h), Nat.le_trans HSU.out.g K6.out.size⟩
                case measure => have h1 := HV.out; have h2 := HJ3.out; simp [intOf]; omega
        · obtain rfl : j = 3 := by omega
          have HK := Lib.hid hk3
          clear hk3 hk hj
          go_wp2_with fail
          go_roundw
          case rel =>
            have h1 := HK.out
            exact ⟨k + 1, by omega, by rw [decide_eq_true (by omega), decide_eq_true (by omega)], by congr 1; omega, by rw [show 3 * (k + 1) = 3 * k + 3 from by omega]; exact HSU.out⟩
          case measure => have h1 := HK.out; simp [intOf]; omega
    · obtain rfl : k = 3 := by omega
      obtain ⟨sO, hO, hOd⟩ := HST.out.o
      obtain ⟨AO, cO, rfl⟩ := hOd.slice
      have HO := Lib.hid hO
      have HOD := Lib.hid hOd
      obtain ⟨i1, i2, i3, i4⟩ := whole_store HST.out.r
      obtain ⟨o1, o2⟩ := whole_cells hO
      clear hO hOd hk3 hk
      go_wp2_with fail
      refine bodyPost_ret (results_cell_row rfl _ _ (w.heap.size + 1 + 1) 40 #[.int .i64 (sg (mn x y X Y n 9)), .slice AO (dg (mn x y X Y n 9).natAbs).length cO] (0, 0) _ rfl (ZFr.blk_set (ZFr.blk_set HST.out.r 0 _) 1 _) Try.underlying40 rfl (by kernel_rfl)) rfl ?_
      have hb2 : w.heap.size + 1 + 1 < w4.heap.size := by have := BO.out; omega
      exact ⟨_, rfl, Whole.mk ((HOD.out.fr (((Fr.refl (fun k => S k ∨ k < w4.heap.size) wr).set ⟨w.heap.size + 1 + 1, 0, none⟩ _ (.inl (.inr hb2))).set ⟨w.heap.size + 1 + 1, 1, none⟩ _ (.inl (.inr hb2))) (fun _ h => h)).mono (fun _ h => .inl h)), (HST.out.f.set _ _ (.inr (by dsimp only; omega))).set _ _ (.inr (by dsimp only; omega))⟩
end Go.Proofs.Ytngmkjgklonfmaa.Big

/- The document's word on which places can be asked for. -/
namespace Go.Proofs.Ytngmkjgklonfmaa.Big
open Go.RowKit Go.Proofs.ZFr Go.Proofs.Ytngmkjgklonfmaa.PNearNearest Go.Proofs.YtngmkjgklonfmaaW.PrintWords

/-- Places in memory: their ids and where they lie. -/
def Pls (w : World) (A : Option Addr) (l : List (Int × Int × Int)) : Prop :=
  ∀ i (h : i < l.length), ∃ ad, A = some ad ∧ w.cell? (ad.add (i * 3)) = some (.int .i64 l[i].1) ∧ w.cell? ⟨(ad.add (i * 3)).block, (ad.add (i * 3)).off + 1, none⟩ = some (.int .i64 l[i].2.1) ∧ w.cell? ⟨(ad.add (i * 3)).block, (ad.add (i * 3)).off + 2, none⟩ = some (.int .i64 l[i].2.2)
theorem Pls.fr {w w' : World} {A : Option Addr} {l : List (Int × Int × Int)} (h : Pls w A l) (hf : Fr (fun _ => False) w w') : Pls w' A l := fun i hi => by
  obtain ⟨ad, e, h1, h2, h3⟩ := h i hi
  exact ⟨ad, e, fr_cell h1 hf, fr_cell h2 hf, fr_cell h3 hf⟩
def okP (n : Int) (p : Int × Int × Int) : Prop := sqP p.2.1 n ∧ sqP p.2.2 n
instance (a n : Int) : Decidable (sqP a n) := inferInstanceAs (Decidable (_ ∧ _))
instance (n : Int) (p : Int × Int × Int) : Decidable (okP n p) := inferInstanceAs (Decidable (_ ∧ _))
def canD (l : List (Int × Int × Int)) (n x y : Int) : Prop := (1 ≤ n ∧ n ≤ 1073741824) ∧ (inP x ∧ inP y) ∧ ∀ p ∈ l, okP n p
instance (l : List (Int × Int × Int)) (n x y : Int) : Decidable (canD l n x y) := inferInstanceAs (Decidable (_ ∧ _))
set_option maxRecDepth 100000 in
set_option maxHeartbeats 4000000 in
theorem can28_walk (A : Option Addr) (c : Nat) (l : List (Int × Int × Int)) (n x y : Int) (w : World) (hl : l.length ≤ 100) (hp : Pls w A l) (hx : i64P x) (hy : i64P y) : Calls Try.prog 10 #[.slice A l.length c, .int .i64 n, .agg #[.int .i64 x, .int .i64 y]] w fun e w' => e = .returned (.bool (decide (canD l n x y))) ∧ Fr (fun _ => False) w w' := by
  have HP := Lib.hid hp
  have HX := Lib.hid hx
  have HY := Lib.hid hy
  clear hp hx hy
  have F0 := Lib.hid ((Fr.refl (fun _ => False) w).alloc (Obj.cells #[Value.int IntKind.i64 x, Value.int IntKind.i64 y] 24))
  have hcan : ∀ W, Calls Try.prog 32 #[.agg #[.int .i64 x, .int .i64 y]] W fun e w' => e = .returned (.bool (decide (inP x ∧ inP y))) ∧ Fr (fun _ => False) W w' := fun W => can_walk x y W HX.out HY.out
  by_cases hn1 : n < 1
  · rw [decide_eq_false (show ¬ canD l n x y from fun h => by have := h.1.1; omega)]
    go_enter Try.func10, Try.ntmps10
    go_wp2_with fail
    go_ret
    exact ⟨rfl, F0.out⟩
  · by_cases hn2 : 1073741824 < n
    · rw [decide_eq_false (show ¬ canD l n x y from fun h => by have := h.1.2; omega)]
      go_enter Try.func10, Try.ntmps10
      go_wp2_with fail
      go_ret
      exact ⟨rfl, F0.out⟩
    · by_cases hc : inP x ∧ inP y
      · have hd : decide (canD l n x y) = decide (∀ p ∈ l, okP n p) := by
          rw [decide_eq_decide]; exact ⟨fun h => h.2.2, fun h => ⟨⟨by omega, by omega⟩, hc, h⟩⟩
        rw [hd]
        obtain ⟨b, hb⟩ : ∃ b, decide (∀ p ∈ l, okP n p) = b := ⟨_, rfl⟩
        rw [hb]
        have HBB := Lib.hid hb
        clear hb
        simp only [decide_eq_true hc] at hcan
        have HC := Lib.hid hcan
        clear hd hcan hc
        go_enter Try.func10, Try.ntmps10
        go_wp2_with (go_at_call 32; have hc_ := HC.out (w.alloc (Obj.cells #[Value.int IntKind.i64 x, Value.int IntKind.i64 y] 24)); (with_reducible refine hc_.mono ?_); clear hc_; rintro e w2 ⟨rfl, f2⟩; have F2 := Lib.hid (F0.out.trans f2 (fun _ h _ => h)); clear f2)
        go_loopw [7] (fun i wr => ∃ k : Nat, k ≤ l.length ∧ i = .int .i64 (k : Int) ∧ (∀ j (h : j < l.length), j < k → okP n l[j]) ∧ Fr (fun _ => False) w wr) (fun i _ => (l.length - intOf i).toNat)
        case atStart => exact ⟨0, Nat.zero_le _, rfl, fun j h h0 => absurd h0 (Nat.not_lt_zero _), F2.out⟩
        case round =>
          obtain ⟨k, hk, rfl, hok, hf⟩ := hrel
          have HF := Lib.hid hf
          by_cases hkl : k < l.length
          · obtain ⟨ad, rfl, h1, h2, h3⟩ := (HP.out.fr hf) k hkl
            have h3' : wr.cell? ⟨(ad.add (k * 3)).block, (ad.add (k * 3)).off + 1 + 1, none⟩ = some (.int .i64 l[k].2.2) := h3
            obtain ⟨Z, hZ⟩ : ∃ Z, l[k].1 = Z := ⟨_, rfl⟩
            rw [hZ] at h1
            clear hZ
            obtain ⟨X, hX⟩ : ∃ X, l[k].2.1 = X := ⟨_, rfl⟩
            obtain ⟨Y, hY⟩ : ∃ Y, l[k].2.2 = Y := ⟨_, rfl⟩
            rw [hX] at h2
            rw [hY] at h3 h3'
            have hkl' : (k : Int) < l.length := by omega
            clear hf
            by_cases c1 : X < 0
            · have HBF := Lib.hid (show b = false from HBB.out ▸ decide_eq_false (show ¬ ∀ p ∈ l, okP n p from fun h => by have h9 := h _ (List.getElem_mem hkl); have a1 := h9.1.1; have a2 := h9.1.2; have a3 := h9.2.1; have a4 := h9.2.2; rw [hX] at a1 a2; rw [hY] at a3 a4; omega))
              clear hX hY hkl hk hok
              go_wp2_with fail
              go_ret
              exact ⟨by rw [HBF.out]; rfl, HF.out.alloc _⟩
            by_cases c2 : X ≥ n
            · have HBF := Lib.hid (show b = false from HBB.out ▸ decide_eq_false (show ¬ ∀ p ∈ l, okP n p from fun h => by have h9 := h _ (List.getElem_mem hkl); have a1 := h9.1.1; have a2 := h9.1.2; have a3 := h9.2.1; have a4 := h9.2.2; rw [hX] at a1 a2; rw [hY] at a3 a4; omega))
              clear hX hY hkl hk hok
              go_wp2_with fail
              go_ret
              exact ⟨by rw [HBF.out]; rfl, HF.out.alloc _⟩
            by_cases c3 : Y < 0
            · have HBF := Lib.hid (show b = false from HBB.out ▸ decide_eq_false (show ¬ ∀ p ∈ l, okP n p from fun h => by have h9 := h _ (List.getElem_mem hkl); have a1 := h9.1.1; have a2 := h9.1.2; have a3 := h9.2.1; have a4 := h9.2.2; rw [hX] at a1 a2; rw [hY] at a3 a4; omega))
              clear hX hY hkl hk hok
              go_wp2_with fail
              go_ret
              exact ⟨by rw [HBF.out]; rfl, HF.out.alloc _⟩
            by_cases c4 : Y ≥ n
            · have HBF := Lib.hid (show b = false from HBB.out ▸ decide_eq_false (show ¬ ∀ p ∈ l, okP n p from fun h => by have h9 := h _ (List.getElem_mem hkl); have a1 := h9.1.1; have a2 := h9.1.2; have a3 := h9.2.1; have a4 := h9.2.2; rw [hX] at a1 a2; rw [hY] at a3 a4; omega))
              clear hX hY hkl hk hok
              go_wp2_with fail
              go_ret
              exact ⟨by rw [HBF.out]; rfl, HF.out.alloc _⟩
            have HOK := Lib.hid (show ∀ j (h : j < l.length), j < k + 1 → okP n l[j] from fun j h hj => by
              by_cases hjk : j = k
              · subst hjk; exact ⟨⟨by rw [hX]; omega, by rw [hX]; omega⟩, ⟨by rw [hY]; omega, by rw [hY]; omega⟩⟩
              · exact hok j h (by omega))
            have HKL := Lib.hid hkl
            clear hX hY hok hk hkl
            go_wp2_with fail
            go_roundw
            case rel => exact ⟨k + 1, HKL.out, by go_num, HOK.out, HF.out.alloc _⟩
            case measure => have := HKL.out; simp [intOf]; omega
          · have hok' : ∀ p ∈ l, okP n p := fun p hp => by
              obtain ⟨j, hj, rfl⟩ := List.mem_iff_getElem.1 hp
              exact hok j hj (by omega)
            have HBT := Lib.hid (show b = true from HBB.out ▸ decide_eq_true hok')
            have hkl' : ¬ (k : Int) < l.length := by omega
            clear hok hok' hf
            go_wp2_with fail
            go_ret
            exact ⟨by rw [HBT.out]; rfl, HF.out⟩
      · rw [decide_eq_false (show ¬ canD l n x y from fun h => hc h.2.1)]
        simp only [decide_eq_false hc] at hcan
        have HC := Lib.hid hcan
        clear hcan hc
        go_enter Try.func10, Try.ntmps10
        go_wp2_with (go_at_call 32; have hc_ := HC.out (w.alloc (Obj.cells #[Value.int IntKind.i64 x, Value.int IntKind.i64 y] 24)); (with_reducible refine hc_.mono ?_); clear hc_; rintro e w2 ⟨rfl, f2⟩; have F2 := Lib.hid (F0.out.trans f2 (fun _ h _ => h)); clear f2)
        go_ret
        exact ⟨rfl, F2.out⟩
end Go.Proofs.Ytngmkjgklonfmaa.Big

/- The document's nearest place. -/
namespace Go.Proofs.Ytngmkjgklonfmaa.Big
open Go.RowKit Go.Proofs.ZFr Go.Proofs.Ytngmkjgklonfmaa.PNearNearest Go.Proofs.YtngmkjgklonfmaaW.PrintWords

def zP : Int × Int × Int := (0, 0, 0)
def fv (l : List (Int × Int × Int)) (n x y : Int) (i : Nat) : Int := mn (x % n) (y % n) (l.getD i zP).2.1 (l.getD i zP).2.2 n 9
def better (l : List (Int × Int × Int)) (n x y : Int) (i a : Nat) : Prop := fv l n x y i < fv l n x y a ∨ (fv l n x y i = fv l n x y a ∧ (l.getD i zP).1 < (l.getD a zP).1)
instance (l : List (Int × Int × Int)) (n x y : Int) (i a : Nat) : Decidable (better l n x y i a) := inferInstanceAs (Decidable (_ ∨ _))
/-- The nearest of the first k + 1 places. -/
def nb (l : List (Int × Int × Int)) (n x y : Int) : Nat → Nat
  | 0 => 0
  | k + 1 => if better l n x y (k + 1) (nb l n x y k) then k + 1 else nb l n x y k
theorem nb_le (l : List (Int × Int × Int)) (n x y : Int) : ∀ k, nb l n x y k ≤ k
  | 0 => Nat.le_refl 0
  | k + 1 => by rw [nb]; split; omega; have := nb_le l n x y k; omega
set_option maxRecDepth 100000 in
set_option maxHeartbeats 4000000 in
theorem nearest28_walk (A : Option Addr) (c : Nat) (l : List (Int × Int × Int)) (n x y : Int) (w : World) (hl : l.length ≤ 100) (h0 : 0 < l.length) (hp : Pls w A l) (hc : canD l n x y) : Calls Try.prog 12 #[.slice A l.length c, .int .i64 n, .agg #[.int .i64 x, .int .i64 y]] w fun e w' => e = .returned (.int .i64 (nb l n x y (l.length - 1) : Nat)) ∧ Fr (fun _ => False) w w' := by
  have HP := Lib.hid hp
  have HC := Lib.hid hc
  clear hp hc
  have HN := Lib.hid HC.out.1
  have HU0 := Lib.hid (show sqP (x % n) n from ⟨Int.emod_nonneg _ (by have := HN.out; omega), Int.emod_lt_of_pos _ (by have := HN.out; omega)⟩)
  have HV0 := Lib.hid (show sqP (y % n) n from ⟨Int.emod_nonneg _ (by have := HN.out; omega), Int.emod_lt_of_pos _ (by have := HN.out; omega)⟩)
  have hfv : ∀ i (h : i < l.length), fv l n x y i = mn (x % n) (y % n) l[i].2.1 l[i].2.2 n 9 := fun i h => by unfold fv; rw [show l.getD i zP = l[i] from by simp [List.getD, h]]
  have hid : ∀ i (h : i < l.length), (l.getD i zP).1 = l[i].1 := fun i h => by rw [show l.getD i zP = l[i] from by simp [List.getD, h]]
  have hhome := fun W => home_walk x y n W HC.out.2.1.1 HC.out.2.1.2 HC.out.1
  obtain ⟨u, hu⟩ : ∃ u, x % n = u := ⟨_, rfl⟩
  obtain ⟨v, hv⟩ : ∃ v, y % n = v := ⟨_, rfl⟩
  obtain ⟨ou, hou⟩ : ∃ u, x / n = u := ⟨_, rfl⟩
  obtain ⟨ov, hov⟩ : ∃ v, y / n = v := ⟨_, rfl⟩
  rw [hu] at HU0 hfv
  rw [hv] at HV0 hfv
  rw [hu, hv, hou, hov] at hhome
  have HU := HU0
  have HV := HV0
  have HH := Lib.hid hhome
  have HFV := Lib.hid hfv
  have HID := Lib.hid hid
  clear hhome hfv hid hu hv hou hov
  have F0 := Lib.hid ((Fr.refl (fun _ => False) w).alloc (Obj.cells #[Value.int IntKind.i64 x, Value.int IntKind.i64 y] 24))
  go_enter Try.func12, Try.ntmps12
  go_wp2_with (go_at_call 33; have hc_ := HH.out (w.alloc (Obj.cells #[Value.int IntKind.i64 x, Value.int IntKind.i64 y] 24)); (with_reducible refine hc_.mono ?_); clear hc_; rintro e w2 ⟨rfl, f2⟩; have F2 := Lib.hid (F0.out.trans f2 (fun _ h _ => h)); clear f2)
  have t3 := ZFr.blk_alloc (heap_alloc_new w2 (Obj.cells #[Value.int IntKind.i64 u, Value.int IntKind.i64 v] 24)) (Obj.cells #[Value.int IntKind.i64 ou, Value.int IntKind.i64 ov] 59)
  have f3 := (F2.out.alloc (Obj.cells #[Value.int IntKind.i64 u, Value.int IntKind.i64 v] 24)).alloc (Obj.cells #[Value.int IntKind.i64 ou, Value.int IntKind.i64 ov] 59)
  generalize (w2.alloc (Obj.cells #[Value.int IntKind.i64 u, Value.int IntKind.i64 v] 24)).alloc (Obj.cells #[Value.int IntKind.i64 ou, Value.int IntKind.i64 ov] 59) = w3 at t3 f3 ⊢
  have T3 := Lib.hid t3
  have F3 := Lib.hid f3
  clear t3 f3
  go_loopw [10, 11] (fun b i wr => ∃ k : Nat, k ≤ l.length ∧ i = .int .i64 (k : Int) ∧ b = .int .i64 (if k = 0 then -1 else ((nb l n x y (k - 1) : Nat) : Int)) ∧ wr.heap[w2.heap.size]? = some (.cells #[.int .i64 u, .int .i64 v] 24 (0, 0)) ∧ Fr (fun _ => False) w wr) (fun _ i _ => (l.length - intOf i).toNat)
  case atStart => exact ⟨0, Nat.zero_le _, rfl, rfl, T3.out, F3.out⟩
  case round =>
    obtain ⟨k, hk, rfl, rfl, hg, hf⟩ := hrel
    have HF := Lib.hid hf
    have HG := Lib.hid hg
    obtain ⟨g1, g2⟩ := point_cells hg
    by_cases hkl : k < l.length
    · have hkl' : (k : Int) < l.length := by omega
      have HKL := Lib.hid hkl
      obtain ⟨ad, rfl, k1, k2, k3⟩ := (HP.out.fr hf) k hkl
      by_cases hk0 : k = 0
      · subst hk0
        rw [if_pos rfl]
        clear hg hf k1 k2 k3
        go_wp2_with fail
        go_roundw
        case rel => exact ⟨1, HKL.out, rfl, rfl, HG.out, HF.out⟩
        case measure => have := HKL.out; simp [intOf]; omega
      · rw [if_neg hk0]
        obtain ⟨a, ha⟩ : ∃ a, nb l n x y (k - 1) = a := ⟨_, rfl⟩
        have hak : a < k := by have := nb_le l n x y (k - 1); omega
        have hal : a < l.length := by omega
        have hal' : (a : Int) < l.length := by omega
        have ha0 : ¬ (a : Int) < 0 := by omega
        rw [ha]
        obtain ⟨ad', he, a1, a2, a3⟩ := (HP.out.fr hf) a hal
        cases he
        have hnb : nb l n x y k = if better l n x y k a then k else a := by
          obtain ⟨k', rfl⟩ : ∃ k', k = k' + 1 := ⟨k - 1, by omega⟩
          rw [nb, ← ha]; rfl
        have hF1 := HFV.out k hkl
        have hF2 := HFV.out a hal
        have OK1 := Lib.hid (HC.out.2.2 _ (List.getElem_mem hkl))
        have OK2 := Lib.hid (HC.out.2.2 _ (List.getElem_mem hal))
        have hI1 := HID.out k hkl
        have hI2 := HID.out a hal
        have hbt : better l n x y k a ↔ (fv l n x y k < fv l n x y a ∨ (fv l n x y k = fv l n x y a ∧ l[k].1 < l[a].1)) := by unfold better; rw [hI1, hI2]; exact Iff.rfl
        unfold okP at OK1 OK2
        generalize l[k].1 = I1 at k1 hbt
        generalize l[a].1 = I2 at a1 hbt
        generalize l[k].2.1 = X1 at k2 hF1 OK1
        generalize l[k].2.2 = Y1 at k3 hF1 OK1
        generalize l[a].2.1 = X2 at a2 hF2 OK2
        generalize l[a].2.2 = Y2 at a3 hF2 OK2
        generalize fv l n x y k = D1 at hbt hF1
        generalize fv l n x y a = D2 at hbt hF2
        have M1 := Lib.hid hF1.symm
        have M2 := Lib.hid hF2.symm
        have L1 := Lib.hid (show (dg D1.natAbs).length < 800 from by rw [hF1]; exact mn_len ⟨HN.out, HU.out, HV.out, OK1.out.1, OK1.out.2⟩ 9 (by decide))
        have L2 := Lib.hid (show (dg D2.natAbs).length < 800 from by rw [hF2]; exact mn_len ⟨HN.out, HU.out, HV.out, OK2.out.1, OK2.out.2⟩ 9 (by decide))
        have HNB := Lib.hid hnb
        have HBT := Lib.hid hbt
        have d1 : wr.drew.cell? ⟨w2.heap.size, 0, none⟩ = some (.int .i64 u) := g1
        have d2 : wr.drew.cell? ⟨w2.heap.size, 1, none⟩ = some (.int .i64 v) := g2
        have d3 : wr.drew.cell? ⟨(ad.add (k * 3)).block, (ad.add (k * 3)).off + 1, none⟩ = some (.int .i64 X1) := k2
        have d4 : wr.drew.cell? ⟨(ad.add (k * 3)).block, (ad.add (k * 3)).off + 1 + 1, none⟩ = some (.int .i64 Y1) := k3
        have d5 : wr.drew.cell? ⟨(ad.add (a * 3)).block, (ad.add (a * 3)).off + 1, none⟩ = some (.int .i64 X2) := a2
        have d6 : wr.drew.cell? ⟨(ad.add (a * 3)).block, (ad.add (a * 3)).off + 1 + 1, none⟩ = some (.int .i64 Y2) := a3
        replace k3 : wr.cell? ⟨(ad.add (k * 3)).block, (ad.add (k * 3)).off + 1 + 1, none⟩ = some (.int .i64 Y1) := k3
        replace a3 : wr.cell? ⟨(ad.add (a * 3)).block, (ad.add (a * 3)).off + 1 + 1, none⟩ = some (.int .i64 Y2) := a3
        clear hF1 hF2 hI1 hI2 hnb hbt ha hak hal hkl hg hf hk
        by_cases c1 : D1 < D2
        · have HQ := Lib.hid (show sg (D1 - D2) = -1 from by unfold sg; rw [if_neg (by omega), if_pos (by omega)])
          have HB := Lib.hid (HBT.out.2 (.inl c1))
          clear c1
          go_wp2_with fail
          go_region_held3 (fun w' => w'.cell? ⟨w2.heap.size, 0, none⟩ = some (.int .i64 u) ∧ w'.cell? ⟨w2.heap.size, 1, none⟩ = some (.int .i64 v) ∧ w'.cell? ⟨(ad.add (k * 3)).block, (ad.add (k * 3)).off + 1, none⟩ = some (.int .i64 X1) ∧ w'.cell? ⟨(ad.add (k * 3)).block, (ad.add (k * 3)).off + 1 + 1, none⟩ = some (.int .i64 Y1) ∧ w'.cell? ⟨(ad.add (a * 3)).block, (ad.add (a * 3)).off + 1, none⟩ = some (.int .i64 X2) ∧ w'.cell? ⟨(ad.add (a * 3)).block, (ad.add (a * 3)).off + 1 + 1, none⟩ = some (.int .i64 Y2))
            (refine ⟨?_, ?_, ?_, ?_, ?_, ?_⟩ <;> first | with_reducible assumption)
            (first
              | ((go_at_call 13; have hc_ := cmp_walk D1 D2 _ _ (fun _ => False) w6 (fun _ h => h.elim) (Whole.mk (G5.out.fr K6.out (fun _ h => h))) (Whole.mk G6.out) L1.out L2.out; rw [HQ.out] at hc_; (with_reducible refine hc_.mono ?_); clear hc_; rintro e w7 ⟨rfl, f7⟩; have F7 := Lib.hid (F6.out.trans f7 (fun _ h _ => h)); have s71 := fr_cell g1 F7.out; have s72 := fr_cell g2 F7.out; have s73 := fr_cell k2 F7.out; have s74 := fr_cell k3 F7.out; have s75 := fr_cell a2 F7.out; have s76 := fr_cell a3 F7.out; have s77 := fr_cell k1 F7.out; have s78 := fr_cell a1 F7.out; clear f7))
              | ((go_at_call 15; have hc_ := far_walk u v X2 Y2 n (fun _ => False) w5 (fun _ h => h.elim) HN.out HU.out HV.out OK2.out.1 OK2.out.2; rw [M2.out] at hc_; (with_reducible refine hc_.mono ?_); clear hc_; rintro e w6 ⟨v6, rfl, h6, f6⟩; obtain ⟨z6, rfl, h6⟩ := h6; obtain ⟨A6, c6, rfl⟩ := h6.slice; have G6 := Lib.hid h6; have K6 := Lib.hid f6; have F6 := Lib.hid (F5.out.trans f6 (fun _ h _ => h)); have s61 := fr_cell g1 F6.out; have s62 := fr_cell g2 F6.out; have s63 := fr_cell k2 F6.out; have s64 := fr_cell k3 F6.out; have s65 := fr_cell a2 F6.out; have s66 := fr_cell a3 F6.out; have s67 := fr_cell k1 F6.out; have s68 := fr_cell a1 F6.out; clear h6 f6))
              | ((go_at_call 15; have hc_ := far_walk u v X1 Y1 n (fun _ => False) wr.drew (fun _ h => h.elim) HN.out HU.out HV.out OK1.out.1 OK1.out.2; rw [M1.out] at hc_; (with_reducible refine hc_.mono ?_); clear hc_; rintro e w5 ⟨v5, rfl, h5, f5⟩; obtain ⟨z5, rfl, h5⟩ := h5; obtain ⟨A5, c5, rfl⟩ := h5.slice; have G5 := Lib.hid h5; have F5 := Lib.hid ((Fr.refl (fun _ => False) wr).drew.trans f5 (fun _ h _ => h)); have s51 := fr_cell g1 F5.out; have s52 := fr_cell g2 F5.out; have s53 := fr_cell k2 F5.out; have s54 := fr_cell k3 F5.out; have s55 := fr_cell a2 F5.out; have s56 := fr_cell a3 F5.out; have s57 := fr_cell k1 F5.out; have s58 := fr_cell a1 F5.out; clear h5 f5)))
          all_goals
            have FW := F7
            go_wp2_with fail
            go_quiet (fail)
            have HR9 := Lib.hid (show nb l n x y k = k from by rw [HNB.out]; exact if_pos HB.out)
            go_wp2_with fail
            go_roundw
            case rel => exact ⟨k + 1, HKL.out, rfl, (by rw [if_neg (Nat.succ_ne_zero k), Nat.add_sub_cancel, HR9.out]), ZFr.blk_fr HG.out (FW.out.drewN _) (fun h => h), HF.out.trans (FW.out.drewN _) (fun _ h _ => h)⟩
            case measure => have := HKL.out; simp [intOf]; omega
        by_cases c2 : D1 = D2
        · by_cases c3 : I1 < I2
          · have HQ := Lib.hid (show sg (D1 - D2) = 0 from by unfold sg; rw [if_pos (by omega)])
            have HB := Lib.hid (HBT.out.2 (.inr ⟨c2, c3⟩))
            clear c1 c2
            go_wp2_with fail
            go_region_held3 (fun w' => w'.cell? ⟨w2.heap.size, 0, none⟩ = some (.int .i64 u) ∧ w'.cell? ⟨w2.heap.size, 1, none⟩ = some (.int .i64 v) ∧ w'.cell? ⟨(ad.add (k * 3)).block, (ad.add (k * 3)).off + 1, none⟩ = some (.int .i64 X1) ∧ w'.cell? ⟨(ad.add (k * 3)).block, (ad.add (k * 3)).off + 1 + 1, none⟩ = some (.int .i64 Y1) ∧ w'.cell? ⟨(ad.add (a * 3)).block, (ad.add (a * 3)).off + 1, none⟩ = some (.int .i64 X2) ∧ w'.cell? ⟨(ad.add (a * 3)).block, (ad.add (a * 3)).off + 1 + 1, none⟩ = some (.int .i64 Y2))
              (refine ⟨?_, ?_, ?_, ?_, ?_, ?_⟩ <;> first | with_reducible assumption)
              (first
                | ((go_at_call 13; have hc_ := cmp_walk D1 D2 _ _ (fun _ => False) w6 (fun _ h => h.elim) (Whole.mk (G5.out.fr K6.out (fun _ h => h))) (Whole.mk G6.out) L1.out L2.out; rw [HQ.out] at hc_; (with_reducible refine hc_.mono ?_); clear hc_; rintro e w7 ⟨rfl, f7⟩; have F7 := Lib.hid (F6.out.trans f7 (fun _ h _ => h)); have s71 := fr_cell g1 F7.out; have s72 := fr_cell g2 F7.out; have s73 := fr_cell k2 F7.out; have s74 := fr_cell k3 F7.out; have s75 := fr_cell a2 F7.out; have s76 := fr_cell a3 F7.out; have s77 := fr_cell k1 F7.out; have s78 := fr_cell a1 F7.out; clear f7))
                | ((go_at_call 15; have hc_ := far_walk u v X2 Y2 n (fun _ => False) w5 (fun _ h => h.elim) HN.out HU.out HV.out OK2.out.1 OK2.out.2; rw [M2.out] at hc_; (with_reducible refine hc_.mono ?_); clear hc_; rintro e w6 ⟨v6, rfl, h6, f6⟩; obtain ⟨z6, rfl, h6⟩ := h6; obtain ⟨A6, c6, rfl⟩ := h6.slice; have G6 := Lib.hid h6; have K6 := Lib.hid f6; have F6 := Lib.hid (F5.out.trans f6 (fun _ h _ => h)); have s61 := fr_cell g1 F6.out; have s62 := fr_cell g2 F6.out; have s63 := fr_cell k2 F6.out; have s64 := fr_cell k3 F6.out; have s65 := fr_cell a2 F6.out; have s66 := fr_cell a3 F6.out; have s67 := fr_cell k1 F6.out; have s68 := fr_cell a1 F6.out; clear h6 f6))
                | ((go_at_call 15; have hc_ := far_walk u v X1 Y1 n (fun _ => False) wr.drew (fun _ h => h.elim) HN.out HU.out HV.out OK1.out.1 OK1.out.2; rw [M1.out] at hc_; (with_reducible refine hc_.mono ?_); clear hc_; rintro e w5 ⟨v5, rfl, h5, f5⟩; obtain ⟨z5, rfl, h5⟩ := h5; obtain ⟨A5, c5, rfl⟩ := h5.slice; have G5 := Lib.hid h5; have F5 := Lib.hid ((Fr.refl (fun _ => False) wr).drew.trans f5 (fun _ h _ => h)); have s51 := fr_cell g1 F5.out; have s52 := fr_cell g2 F5.out; have s53 := fr_cell k2 F5.out; have s54 := fr_cell k3 F5.out; have s55 := fr_cell a2 F5.out; have s56 := fr_cell a3 F5.out; have s57 := fr_cell k1 F5.out; have s58 := fr_cell a1 F5.out; clear h5 f5)))
            all_goals
              have FW := F7
              go_wp2_with fail
              go_quiet (fail)
              have HR9 := Lib.hid (show nb l n x y k = k from by rw [HNB.out]; exact if_pos HB.out)
              go_wp2_with fail
              go_roundw
              case rel => exact ⟨k + 1, HKL.out, rfl, (by rw [if_neg (Nat.succ_ne_zero k), Nat.add_sub_cancel, HR9.out]), ZFr.blk_fr HG.out (FW.out.drewN _) (fun h => h), HF.out.trans (FW.out.drewN _) (fun _ h _ => h)⟩
              case measure => have := HKL.out; simp [intOf]; omega
          · have HQ := Lib.hid (show sg (D1 - D2) = 0 from by unfold sg; rw [if_pos (by omega)])
            have HB := Lib.hid (fun h => (HBT.out.1 h).elim c1 (fun h => c3 h.2))
            clear c1 c2
            go_wp2_with fail
            go_region_held3 (fun w' => w'.cell? ⟨w2.heap.size, 0, none⟩ = some (.int .i64 u) ∧ w'.cell? ⟨w2.heap.size, 1, none⟩ = some (.int .i64 v) ∧ w'.cell? ⟨(ad.add (k * 3)).block, (ad.add (k * 3)).off + 1, none⟩ = some (.int .i64 X1) ∧ w'.cell? ⟨(ad.add (k * 3)).block, (ad.add (k * 3)).off + 1 + 1, none⟩ = some (.int .i64 Y1) ∧ w'.cell? ⟨(ad.add (a * 3)).block, (ad.add (a * 3)).off + 1, none⟩ = some (.int .i64 X2) ∧ w'.cell? ⟨(ad.add (a * 3)).block, (ad.add (a * 3)).off + 1 + 1, none⟩ = some (.int .i64 Y2))
              (refine ⟨?_, ?_, ?_, ?_, ?_, ?_⟩ <;> first | with_reducible assumption)
              (first
                | ((go_at_call 13; have hc_ := cmp_walk D1 D2 _ _ (fun _ => False) w6 (fun _ h => h.elim) (Whole.mk (G5.out.fr K6.out (fun _ h => h))) (Whole.mk G6.out) L1.out L2.out; rw [HQ.out] at hc_; (with_reducible refine hc_.mono ?_); clear hc_; rintro e w7 ⟨rfl, f7⟩; have F7 := Lib.hid (F6.out.trans f7 (fun _ h _ => h)); have s71 := fr_cell g1 F7.out; have s72 := fr_cell g2 F7.out; have s73 := fr_cell k2 F7.out; have s74 := fr_cell k3 F7.out; have s75 := fr_cell a2 F7.out; have s76 := fr_cell a3 F7.out; have s77 := fr_cell k1 F7.out; have s78 := fr_cell a1 F7.out; clear f7))
                | ((go_at_call 15; have hc_ := far_walk u v X2 Y2 n (fun _ => False) w5 (fun _ h => h.elim) HN.out HU.out HV.out OK2.out.1 OK2.out.2; rw [M2.out] at hc_; (with_reducible refine hc_.mono ?_); clear hc_; rintro e w6 ⟨v6, rfl, h6, f6⟩; obtain ⟨z6, rfl, h6⟩ := h6; obtain ⟨A6, c6, rfl⟩ := h6.slice; have G6 := Lib.hid h6; have K6 := Lib.hid f6; have F6 := Lib.hid (F5.out.trans f6 (fun _ h _ => h)); have s61 := fr_cell g1 F6.out; have s62 := fr_cell g2 F6.out; have s63 := fr_cell k2 F6.out; have s64 := fr_cell k3 F6.out; have s65 := fr_cell a2 F6.out; have s66 := fr_cell a3 F6.out; have s67 := fr_cell k1 F6.out; have s68 := fr_cell a1 F6.out; clear h6 f6))
                | ((go_at_call 15; have hc_ := far_walk u v X1 Y1 n (fun _ => False) wr.drew (fun _ h => h.elim) HN.out HU.out HV.out OK1.out.1 OK1.out.2; rw [M1.out] at hc_; (with_reducible refine hc_.mono ?_); clear hc_; rintro e w5 ⟨v5, rfl, h5, f5⟩; obtain ⟨z5, rfl, h5⟩ := h5; obtain ⟨A5, c5, rfl⟩ := h5.slice; have G5 := Lib.hid h5; have F5 := Lib.hid ((Fr.refl (fun _ => False) wr).drew.trans f5 (fun _ h _ => h)); have s51 := fr_cell g1 F5.out; have s52 := fr_cell g2 F5.out; have s53 := fr_cell k2 F5.out; have s54 := fr_cell k3 F5.out; have s55 := fr_cell a2 F5.out; have s56 := fr_cell a3 F5.out; have s57 := fr_cell k1 F5.out; have s58 := fr_cell a1 F5.out; clear h5 f5)))
            all_goals
              have FW := F7
              go_wp2_with fail
              go_quiet (fail)
              have HR9 := Lib.hid (show nb l n x y k = a from by rw [HNB.out]; exact if_neg HB.out)
              go_wp2_with fail
              go_roundw
              case rel => exact ⟨k + 1, HKL.out, rfl, (by rw [if_neg (Nat.succ_ne_zero k), Nat.add_sub_cancel, HR9.out]), ZFr.blk_fr HG.out (FW.out.drewN _) (fun h => h), HF.out.trans (FW.out.drewN _) (fun _ h _ => h)⟩
              case measure => have := HKL.out; simp [intOf]; omega
        · have HQ := Lib.hid (show sg (D1 - D2) = 1 from by unfold sg; rw [if_neg (by omega), if_neg (by omega)])
          have HB := Lib.hid (fun h => (HBT.out.1 h).elim c1 (fun h => c2 h.1))
          clear c1 c2
          go_wp2_with fail
          go_region_held3 (fun w' => w'.cell? ⟨w2.heap.size, 0, none⟩ = some (.int .i64 u) ∧ w'.cell? ⟨w2.heap.size, 1, none⟩ = some (.int .i64 v) ∧ w'.cell? ⟨(ad.add (k * 3)).block, (ad.add (k * 3)).off + 1, none⟩ = some (.int .i64 X1) ∧ w'.cell? ⟨(ad.add (k * 3)).block, (ad.add (k * 3)).off + 1 + 1, none⟩ = some (.int .i64 Y1) ∧ w'.cell? ⟨(ad.add (a * 3)).block, (ad.add (a * 3)).off + 1, none⟩ = some (.int .i64 X2) ∧ w'.cell? ⟨(ad.add (a * 3)).block, (ad.add (a * 3)).off + 1 + 1, none⟩ = some (.int .i64 Y2))
            (refine ⟨?_, ?_, ?_, ?_, ?_, ?_⟩ <;> first | with_reducible assumption)
            (first
              | ((go_at_call 13; have hc_ := cmp_walk D1 D2 _ _ (fun _ => False) w6 (fun _ h => h.elim) (Whole.mk (G5.out.fr K6.out (fun _ h => h))) (Whole.mk G6.out) L1.out L2.out; rw [HQ.out] at hc_; (with_reducible refine hc_.mono ?_); clear hc_; rintro e w7 ⟨rfl, f7⟩; have F7 := Lib.hid (F6.out.trans f7 (fun _ h _ => h)); have s71 := fr_cell g1 F7.out; have s72 := fr_cell g2 F7.out; have s73 := fr_cell k2 F7.out; have s74 := fr_cell k3 F7.out; have s75 := fr_cell a2 F7.out; have s76 := fr_cell a3 F7.out; have s77 := fr_cell k1 F7.out; have s78 := fr_cell a1 F7.out; clear f7))
              | ((go_at_call 15; have hc_ := far_walk u v X2 Y2 n (fun _ => False) w5 (fun _ h => h.elim) HN.out HU.out HV.out OK2.out.1 OK2.out.2; rw [M2.out] at hc_; (with_reducible refine hc_.mono ?_); clear hc_; rintro e w6 ⟨v6, rfl, h6, f6⟩; obtain ⟨z6, rfl, h6⟩ := h6; obtain ⟨A6, c6, rfl⟩ := h6.slice; have G6 := Lib.hid h6; have K6 := Lib.hid f6; have F6 := Lib.hid (F5.out.trans f6 (fun _ h _ => h)); have s61 := fr_cell g1 F6.out; have s62 := fr_cell g2 F6.out; have s63 := fr_cell k2 F6.out; have s64 := fr_cell k3 F6.out; have s65 := fr_cell a2 F6.out; have s66 := fr_cell a3 F6.out; have s67 := fr_cell k1 F6.out; have s68 := fr_cell a1 F6.out; clear h6 f6))
              | ((go_at_call 15; have hc_ := far_walk u v X1 Y1 n (fun _ => False) wr.drew (fun _ h => h.elim) HN.out HU.out HV.out OK1.out.1 OK1.out.2; rw [M1.out] at hc_; (with_reducible refine hc_.mono ?_); clear hc_; rintro e w5 ⟨v5, rfl, h5, f5⟩; obtain ⟨z5, rfl, h5⟩ := h5; obtain ⟨A5, c5, rfl⟩ := h5.slice; have G5 := Lib.hid h5; have F5 := Lib.hid ((Fr.refl (fun _ => False) wr).drew.trans f5 (fun _ h _ => h)); have s51 := fr_cell g1 F5.out; have s52 := fr_cell g2 F5.out; have s53 := fr_cell k2 F5.out; have s54 := fr_cell k3 F5.out; have s55 := fr_cell a2 F5.out; have s56 := fr_cell a3 F5.out; have s57 := fr_cell k1 F5.out; have s58 := fr_cell a1 F5.out; clear h5 f5)))
          all_goals
            have FW := F7
            go_wp2_with fail
            go_quiet (fail)
            have HR9 := Lib.hid (show nb l n x y k = a from by rw [HNB.out]; exact if_neg HB.out)
            go_wp2_with fail
            go_roundw
            case rel => exact ⟨k + 1, HKL.out, rfl, (by rw [if_neg (Nat.succ_ne_zero k), Nat.add_sub_cancel, HR9.out]), ZFr.blk_fr HG.out (FW.out.drewN _) (fun h => h), HF.out.trans (FW.out.drewN _) (fun _ h _ => h)⟩
            case measure => have := HKL.out; simp [intOf]; omega
    · obtain rfl : k = l.length := by omega
      have hkl' : ¬ (l.length : Int) < l.length := by omega
      rw [if_neg (by omega)]
      clear hg hf hk hkl g1 g2
      go_wp2_with fail
      go_ret
      exact ⟨rfl, HF.out⟩
end Go.Proofs.Ytngmkjgklonfmaa.Big
