/- The document's whole numbers of any length: the greatest number that is not above a quotient, and the rest. -/
import Derived.Test.YtngmkjgklonfmaaBigQ
import Derived.Deep.RegionLaw

namespace Go.Proofs.Ytngmkjgklonfmaa.Big
open Go.RowKit Go.Proofs.ZFr Go.Proofs.Ytngmkjgklonfmaa.PNearNearest Go.Proofs.YtngmkjgklonfmaaW.PrintWords
theorem four (w : World) (o1 o2 o3 o4 : Obj) : ((((w.alloc o1).alloc o2).alloc o3).alloc o4).heap[w.heap.size]? = some o1 ∧ ((((w.alloc o1).alloc o2).alloc o3).alloc o4).heap[w.heap.size + 1]? = some o2 ∧ ((((w.alloc o1).alloc o2).alloc o3).alloc o4).heap[w.heap.size + 1 + 1]? = some o3 ∧ ((((w.alloc o1).alloc o2).alloc o3).alloc o4).heap[w.heap.size + 1 + 1 + 1]? = some o4 ∧ Fr (fun _ => False) w ((((w.alloc o1).alloc o2).alloc o3).alloc o4) := by
  obtain ⟨h1, h2, h3, f⟩ := tri w o1 o2 o3
  have h4 := (tri (w.alloc o1) o2 o3 o4).2.2.1
  rw [show (w.alloc o1).heap.size = w.heap.size + 1 from Array.size_push ..] at h4
  exact ⟨ZFr.blk_alloc h1 _, ZFr.blk_alloc h2 _, ZFr.blk_alloc h3 _, h4, f.alloc _⟩
theorem floor_num (a b : Int) (hb : 0 < b) : ∃ q0 : Int, q0.natAbs = a.natAbs / b.natAbs ∧ (a.natAbs / b.natAbs ≠ 0 → sg a = sg q0) ∧ (sg a < 0 ∧ a.natAbs % b.natAbs ≠ 0 → a / b = q0 - 1) ∧ (¬ (sg a < 0 ∧ a.natAbs % b.natAbs ≠ 0) → a / b = q0) := by
  obtain ⟨B, rfl⟩ := Int.eq_ofNat_of_zero_le (Int.le_of_lt hb)
  rw [Int.natAbs_natCast]
  have hB : 0 < B := by omega
  by_cases ha : 0 ≤ a
  · obtain ⟨A, rfl⟩ := Int.eq_ofNat_of_zero_le ha
    rw [Int.natAbs_natCast]
    have hs : ¬ sg (A : Int) < 0 := by unfold sg; split; omega; split <;> omega
    refine ⟨((A / B : Nat) : Int), Int.natAbs_natCast _, fun h => ?_, fun h => absurd h.1 hs, fun _ => rfl⟩
    have h0 : A ≠ 0 := fun h0 => h (by rw [h0, Nat.zero_div])
    generalize A / B = D at h
    unfold sg
    rw [if_neg (by omega), if_neg (by omega), if_neg (by omega), if_neg (by omega)]
  · obtain ⟨A, hA⟩ : ∃ A : Nat, a = -(A : Int) := ⟨a.natAbs, by omega⟩
    subst hA
    have hs : sg (-(A : Int)) = -1 := by unfold sg; rw [if_neg (by omega), if_pos (by omega)]
    rw [hs, Int.natAbs_neg, Int.natAbs_natCast]
    have e := Nat.div_add_mod A B
    have hm := Nat.mod_lt A hB
    have e2 : ((B * (A / B) : Nat) : Int) = (B : Int) * ((A / B : Nat) : Int) := Int.natCast_mul ..
    generalize A / B = D at *
    generalize A % B = M at *
    have e3 : (B : Int) * D + M = A := by rw [← e2]; omega
    refine ⟨-(D : Int), by rw [Int.natAbs_neg, Int.natAbs_natCast], fun h => ?_, fun h => ?_, fun h => ?_⟩
    · unfold sg
      rw [if_neg (by omega), if_pos (by omega)]
    · refine ((Int.ediv_emod_unique (r := (B : Int) - M) (q := -(D : Int) - 1) hb).2 ⟨?_, by omega, by omega⟩).1
      rw [Int.mul_sub, Int.mul_neg]
      omega
    · have h0 : M = 0 := by
        by_cases h0 : M = 0
        · exact h0
        · exact absurd ⟨by omega, h0⟩ h
      refine ((Int.ediv_emod_unique (r := 0) (q := -(D : Int)) hb).2 ⟨?_, by omega, by omega⟩).1
      rw [Int.mul_neg]
      omega
theorem Dgs.new {w W : World} {S : Nat → Prop} {v : Value} {n : Nat} (h : Dgs w S v n) (hf : Fr (fun _ => False) w W) : Dgs W (fun k => S k ∨ k = w.heap.size) v n :=
  (h.up (w' := w.alloc (.cells #[] 3)) hf).mono (fun k hk => hk.imp id (fun h => ⟨Nat.le_of_eq h.symm, by rw [h]; simp⟩))
theorem len_sub_one {q : Int} {k : Nat} (h : (dg q.natAbs).length ≤ k) (hk : 1 ≤ k) : (dg (q - 1).natAbs).length ≤ k + 1 :=
  Nat.le_trans (dg_mono (by omega : (q - 1).natAbs ≤ q.natAbs + 1)) (dg_add h (by rw [dg, dif_neg (by decide), show 1 / 65536 = 0 from rfl, dg_zero]; exact hk))
theorem dg_mul {m n a b : Nat} (hm : (dg m).length ≤ a) (hn : (dg n).length ≤ b) : (dg (m * n)).length ≤ a + b := by
  refine dg_len_le (a + b) (m * n) ?_
  have h1 := val_lt (dg_dig m)
  have h2 := val_lt (dg_dig n)
  rw [dg_val] at h1 h2
  have h3 : (65536 : Int) ^ (dg m).length ≤ 65536 ^ a := pow_le hm
  have h4 : (65536 : Int) ^ (dg n).length ≤ 65536 ^ b := pow_le hn
  have e1 : ((65536 ^ a : Nat) : Int) = 65536 ^ a := by rw [Int.natCast_pow]; rfl
  have e2 : ((65536 ^ b : Nat) : Int) = 65536 ^ b := by rw [Int.natCast_pow]; rfl
  have h5 : m < 65536 ^ a := by omega
  have h6 : n < 65536 ^ b := by omega
  rw [Nat.pow_add]
  exact Nat.mul_lt_mul'' h5 h6
set_option maxRecDepth 100000 in
set_option maxHeartbeats 8000000 in
theorem floor_walk (a b : Int) (va vb : Value) (S : Nat → Prop) (w : World) (hS : ∀ k, S k → k < w.heap.size) (hb0 : 0 < b) (ha : Whole w S va a) (hb : Whole w S vb b) (la : (dg a.natAbs).length < 300) (lb : (dg b.natAbs).length < 300) : Calls Try.prog 58 #[va, vb] w fun e w' => ∃ v1 v2, e = .returned (.tuple #[v1, v2]) ∧ Whole w' S v1 (a / b) ∧ Whole w' S v2 (a % b) ∧ Fr (fun _ => False) w w' := by
  obtain ⟨sa, rfl, hda⟩ := ha
  obtain ⟨A, c, rfl⟩ := hda.slice
  obtain ⟨sb, rfl, hdb⟩ := hb
  obtain ⟨A', c', rfl⟩ := hdb.slice
  have hA := Lib.hid hda
  have hB := Lib.hid hdb
  clear hda hdb
  have hm1 : IntKind.i64.wrap (sg a * sg b) = sg a := by
    rw [show sg b = 1 from by unfold sg; rw [if_neg (by omega), if_neg (by omega)], Int.mul_one, Go.Proofs.YtngmkjgklonfmaaW.PrintLast.i64_w]
    have e : wrap64 0 = 0 ∧ wrap64 1 = 1 ∧ wrap64 (-1) = -1 := by unfold wrap64; omega
    unfold sg
    split
    · exact e.1
    · split
      · exact e.2.2
      · exact e.2.1
  have hn1 : 0 < b.natAbs := by omega
  have la8 : (dg a.natAbs).length < 800 := by omega
  have lb8 : (dg b.natAbs).length < 800 := by omega
  obtain ⟨q0, hq1, hq2, hq3, hq4⟩ := floor_num a b hb0
  have hlq : (dg q0.natAbs).length ≤ 299 := by rw [hq1]; exact Nat.le_trans (dg_mono (Nat.div_le_self _ _)) (by omega)
  obtain ⟨Q, hQ⟩ : ∃ Q, a / b = Q := ⟨_, rfl⟩
  obtain ⟨R, hR⟩ : ∃ R, a % b = R := ⟨_, rfl⟩
  obtain ⟨m, hm⟩ : ∃ m, Q * b = m := ⟨_, rfl⟩
  have hrn : a - m = R := by
    have := Int.emod_def a b
    rw [← hm, ← hQ, ← hR, Int.mul_comm]
    omega
  rw [hQ] at hq3 hq4 ⊢
  rw [hR]
  have hlQ : (dg Q.natAbs).length ≤ 300 := by
    by_cases hx : sg a < 0 ∧ a.natAbs % b.natAbs ≠ 0
    · rw [hq3 hx]; exact len_sub_one hlq (by omega)
    · rw [hq4 hx]; omega
  have hlm : (dg m.natAbs).length < 800 := by
    rw [← hm, Int.natAbs_mul]
    have := dg_mul hlQ (Nat.le_of_lt lb)
    omega
  have LA := Lib.hid la8
  have LB := Lib.hid lb8
  have LQ := Lib.hid (show (dg Q.natAbs).length < 800 from by omega)
  have LM := Lib.hid hlm
  have MN := Lib.hid hm
  have RN := Lib.hid hrn
  have LQ0 := Lib.hid (show (dg q0.natAbs).length < 800 from by omega)
  have L1 := Lib.hid (show (dg (1 : Int).natAbs).length < 800 from by rw [show (1 : Int).natAbs = 1 from rfl, dg, dif_neg (by decide), show 1 / 65536 = 0 from rfl, dg_zero]; decide)
  generalize hu : a.natAbs / b.natAbs = u at hq1 hq2
  generalize hr : a.natAbs % b.natAbs = r at hq3 hq4
  have HN := Lib.hid (And.intro hq1 hq2)
  have HU := Lib.hid hu
  have HRR := Lib.hid hr
  have HN1 := Lib.hid hn1
  clear hq1 hq2 hlq hlQ hlm hm hrn hQ hR la8 lb8 hu hr hn1
  go_enter Try.func58, Try.ntmps58
  go_wp2_with fail
  obtain ⟨t1, t2, t3, t4, f4⟩ := four w (Obj.cells #[Value.int IntKind.i64 (sg a), Value.slice A (dg a.natAbs).length c] 40) (Obj.cells #[Value.int IntKind.i64 (sg b), Value.slice A' (dg b.natAbs).length c'] 40) (Obj.cells #[Value.int IntKind.i64 0, Value.slice none 0 0] 40) (Obj.cells #[Value.int IntKind.i64 0, Value.slice none 0 0] 40)
  generalize (((w.alloc (Obj.cells #[Value.int IntKind.i64 (sg a), Value.slice A (dg a.natAbs).length c] 40)).alloc (Obj.cells #[Value.int IntKind.i64 (sg b), Value.slice A' (dg b.natAbs).length c'] 40)).alloc (Obj.cells #[Value.int IntKind.i64 0, Value.slice none 0 0] 40)).alloc (Obj.cells #[Value.int IntKind.i64 0, Value.slice none 0 0] 40) = w4 at t1 t2 t3 t4 f4 ⊢
  have T1 := Lib.hid t1
  have T2 := Lib.hid t2
  have T3 := Lib.hid t3
  have T4 := Lib.hid t4
  have F4 := Lib.hid f4
  clear t1 t2 t3 t4 f4
  refine (divmod_walk a.natAbs b.natAbs _ _ (Up S w w4) _ (Up.lt hS F4.out.size) (hA.out.up F4.out) (hB.out.up F4.out) LA.out LB.out HN1.out).mono ?_
  rw [HU.out, HRR.out]
  rintro e w5 ⟨v1, v2, rfl, h1, h2, f5⟩
  obtain ⟨A1, c1, rfl⟩ := h1.slice
  obtain ⟨A2, c2, rfl⟩ := h2.slice
  have S1 := Lib.hid (ZFr.blk_fr T1.out f5 (fun h => h))
  have S2 := Lib.hid (ZFr.blk_fr T2.out f5 (fun h => h))
  have S3 := Lib.hid (ZFr.blk_fr T3.out f5 (fun h => h))
  have S4 := Lib.hid (ZFr.blk_fr T4.out f5 (fun h => h))
  obtain ⟨x1, y1⟩ := whole_cells S1.out
  obtain ⟨x2, y2⟩ := whole_cells S2.out
  have H1 := Lib.hid h1
  have F45 := Lib.hid f5.size
  have F5 := Lib.hid (F4.out.trans f5 (fun _ h _ => h))
  clear h1 h2 f5
  by_cases hneg : sg a < 0
  · by_cases hr0 : r = 0
    · subst hr0
      have hlr : (dg 0).length = 0 := by rw [dg_zero]; rfl
      have hQ0 := hq4 (fun h => h.2 rfl)
      subst hQ0
      go_wp2_with (first
        | (go_at_call 65; refine (make1_walk a u _ _ _ H1.out).mono ?_; rintro e w6 ⟨v6, rfl, h6, f6⟩; obtain ⟨s6, rfl, g6⟩ := h6 Q HN.out.1 HN.out.2; obtain ⟨A6, c6, rfl⟩ := g6.slice; have R1 := Lib.hid (ZFr.blk_fr S1.out f6 (fun h => h)); have R2 := Lib.hid (ZFr.blk_fr S2.out f6 (fun h => h)); have R3 := Lib.hid (ZFr.blk_fr S3.out f6 (fun h => h)); have R4 := Lib.hid (ZFr.blk_fr S4.out f6 (fun h => h)); have x3 := fun o => (whole_cells (ZFr.blk_alloc R1.out o)).1; have y3 := fun o => (whole_cells (ZFr.blk_alloc R1.out o)).2; have x4 := fun o => (whole_cells (ZFr.blk_alloc R2.out o)).1; have y4 := fun o => (whole_cells (ZFr.blk_alloc R2.out o)).2; have G6 := Lib.hid g6; have F46 := Lib.hid (Nat.le_trans F45.out f6.size); have F6 := Lib.hid (F5.out.trans f6 (fun _ h _ => h)); clear h6 g6 f6))
      clear x3 y3 x4 y4 hm1
      have hgq := ZFr.blk_lt R4.out
      have TUP := Lib.hid (show ∀ (v : Value) (n : Nat), Dgs w S v n → ∀ W, Fr (fun _ => False) w W → Dgs W (fun k => Up S w w4 k ∨ k = w6.heap.size) v n from fun v n h W hf => (h.up (w' := w6.alloc (.cells #[] 3)) hf).mono (fun k hk => hk.elim (fun h => h.elim .inl (fun h => .inr ⟨h.1, Nat.lt_of_lt_of_le h.2 (Nat.le_trans F46.out (by simp))⟩)) (fun h => .inr ⟨by omega, by rw [h]; simp⟩)))
      have p1 := ZFr.blk_alloc R1.out (Obj.cells #[Value.int IntKind.i64 (sg Q), Value.slice A6 (dg Q.natAbs).length c6] 40)
      have p2 := ZFr.blk_alloc R2.out (Obj.cells #[Value.int IntKind.i64 (sg Q), Value.slice A6 (dg Q.natAbs).length c6] 40)
      have p3 := ZFr.blk_alloc R3.out (Obj.cells #[Value.int IntKind.i64 (sg Q), Value.slice A6 (dg Q.natAbs).length c6] 40)
      have p4 := ZFr.blk_alloc R4.out (Obj.cells #[Value.int IntKind.i64 (sg Q), Value.slice A6 (dg Q.natAbs).length c6] 40)
      have pq := heap_alloc_new w6 (Obj.cells #[Value.int IntKind.i64 (sg Q), Value.slice A6 (dg Q.natAbs).length c6] 40)
      have f7 := F6.out.alloc (Obj.cells #[Value.int IntKind.i64 (sg Q), Value.slice A6 (dg Q.natAbs).length c6] 40)
      have g7 := G6.out.new ((Fr.refl (fun _ => False) w6).alloc (Obj.cells #[Value.int IntKind.i64 (sg Q), Value.slice A6 (dg Q.natAbs).length c6] 40))
      have u7 := Nat.le_trans F46.out ((Fr.refl (fun _ => False) w6).alloc (Obj.cells #[Value.int IntKind.i64 (sg Q), Value.slice A6 (dg Q.natAbs).length c6] 40)).size
      have ut7 : ∀ k, (Up S w w4 k ∨ k = w6.heap.size) → k < (w6.alloc (Obj.cells #[Value.int IntKind.i64 (sg Q), Value.slice A6 (dg Q.natAbs).length c6] 40)).heap.size := fun k hk => hk.elim (fun h => Nat.lt_of_lt_of_le (Up.lt hS F4.out.size k h) u7) (fun h => h ▸ ZFr.blk_lt pq)
      generalize hw7 : w6.alloc (Obj.cells #[Value.int IntKind.i64 (sg Q), Value.slice A6 (dg Q.natAbs).length c6] 40) = w7 at p1 p2 p3 p4 pq f7 g7 u7 ut7 ⊢
      clear hw7
      have P1 := Lib.hid p1
      have P2 := Lib.hid p2
      have P3 := Lib.hid p3
      have P4 := Lib.hid p4
      have PQ := Lib.hid pq
      have F7 := Lib.hid f7
      have G7 := Lib.hid g7
      have UT := Lib.hid ut7
      clear p1 p2 p3 p4 pq f7 g7 u7 ut7
      obtain ⟨x1, y1⟩ := whole_cells (w := w7.drew) P1.out
      obtain ⟨x2, y2⟩ := whole_cells (w := w7.drew) P2.out
      obtain ⟨x5, y5⟩ := whole_cells (w := w7.drew) PQ.out
      go_region_held3 (fun w' => w'.cell? ⟨w.heap.size, 0, none⟩ = some (.int .i64 (sg a)) ∧ w'.cell? ⟨w.heap.size, 1, none⟩ = some (Value.slice A (dg a.natAbs).length c) ∧ w'.cell? ⟨w.heap.size + 1, 0, none⟩ = some (.int .i64 (sg b)) ∧ w'.cell? ⟨w.heap.size + 1, 1, none⟩ = some (Value.slice A' (dg b.natAbs).length c') ∧ w'.cell? ⟨w6.heap.size, 0, none⟩ = some (.int .i64 (sg Q)) ∧ w'.cell? ⟨w6.heap.size, 1, none⟩ = some (Value.slice A6 (dg Q.natAbs).length c6))
        (refine ⟨?_, ?_, ?_, ?_, ?_, ?_⟩ <;> first | with_reducible assumption | exact cell_far (by with_reducible assumption) (by dsimp only; omega) | exact cell_far (cell_far (by with_reducible assumption) (by dsimp only; omega)) (by dsimp only; omega) | exact cell_far (cell_far (cell_far (by with_reducible assumption) (by dsimp only; omega)) (by dsimp only; omega)) (by dsimp only; omega) | exact cell_far (cell_far (cell_far (cell_far (by with_reducible assumption) (by dsimp only; omega)) (by dsimp only; omega)) (by dsimp only; omega)) (by dsimp only; omega))
        (first
          | ((go_at_call 69; refine (mul_walk Q b _ _ (fun k => Up S w w4 k ∨ k = w6.heap.size) w7.drew UT.out (Whole.mk (G7.out.fr (Fr.refl (fun _ => False) w7).drew (fun _ h => h.elim))) (Whole.mk (TUP.out _ _ hB.out _ F7.out.drew)) LQ.out LB.out).mono ?_; rintro e w10 ⟨v10, rfl, h10, f10⟩; rw [MN.out] at h10; obtain ⟨s10, rfl, g10⟩ := h10; obtain ⟨A10, c10, rfl⟩ := g10.slice; have M1 := Lib.hid (ZFr.blk_fr (w := w7.drew) P1.out f10 (fun h => h)); have M2 := Lib.hid (ZFr.blk_fr (w := w7.drew) P2.out f10 (fun h => h)); have M3 := Lib.hid (ZFr.blk_fr (w := w7.drew) P3.out f10 (fun h => h)); have M4 := Lib.hid (ZFr.blk_fr (w := w7.drew) P4.out f10 (fun h => h)); have MQ := Lib.hid (ZFr.blk_fr (w := w7.drew) PQ.out f10 (fun h => h)); obtain ⟨z1, z2⟩ := whole_cells M1.out; obtain ⟨z3, z4⟩ := whole_cells M2.out; obtain ⟨z5, z6⟩ := whole_cells MQ.out; have G10 := Lib.hid g10; have F10 := Lib.hid (F7.out.drew.trans f10 (fun _ h _ => h)); have Z10 := Lib.hid ((Fr.refl (fun _ => False) w7).drew.trans f10 (fun _ h _ => h)); clear g10 f10))
          | ((go_at_call 34; refine (sub_walk a m _ _ (fun k => Up S w w4 k ∨ k = w6.heap.size) _ (fun k hk => Nat.lt_of_lt_of_le (UT.out k hk) Z10.out.size) (Whole.mk (TUP.out _ _ hA.out _ F10.out)) (Whole.mk G10.out) LA.out LM.out).mono ?_; rintro e w11 ⟨v11, rfl, h11, f11⟩; rw [RN.out] at h11; obtain ⟨s11, rfl, g11⟩ := h11; obtain ⟨A11, c11, rfl⟩ := g11.slice; obtain ⟨u1, u2⟩ := whole_cells (ZFr.blk_fr M1.out f11 (fun h => h)); obtain ⟨u3, u4⟩ := whole_cells (ZFr.blk_fr M2.out f11 (fun h => h)); obtain ⟨u5, u6⟩ := whole_cells (ZFr.blk_fr MQ.out f11 (fun h => h)); have K3 := Lib.hid (ZFr.blk_fr M3.out f11 (fun h => h)); have K4 := Lib.hid (ZFr.blk_fr M4.out f11 (fun h => h)); obtain ⟨i1, i2, i3, i4⟩ := whole_store K3.out; obtain ⟨i5, i6, i7, i8⟩ := whole_store K4.out; have G11 := Lib.hid g11; have F11 := Lib.hid (F10.out.trans f11 (fun _ h _ => h)); have Z11 := Lib.hid (Z10.out.trans f11 (fun _ h _ => h)); clear g11 f11)))
      all_goals
        go_wp2_with fail
        have m2 : (fun k => Up S w w4 k ∨ k = w6.heap.size) (w.heap.size + 1 + 1) := .inl (.inr ⟨by omega, ZFr.blk_lt T3.out⟩)
        have m3 : (fun k => Up S w w4 k ∨ k = w6.heap.size) (w.heap.size + 1 + 1 + 1) := .inl (.inr ⟨by omega, ZFr.blk_lt T4.out⟩)
        have f12 := (((F11.out.set ⟨w.heap.size + 1 + 1, 0, none⟩ (.int .i64 (sg Q)) (.inr (by dsimp only; omega))).set ⟨w.heap.size + 1 + 1, 1, none⟩ (Value.slice A6 (dg Q.natAbs).length c6) (.inr (by dsimp only; omega))).set ⟨w.heap.size + 1 + 1 + 1, 0, none⟩ (.int .i64 (sg R)) (.inr (by dsimp only; omega))).set ⟨w.heap.size + 1 + 1 + 1, 1, none⟩ (Value.slice A11 (dg R.natAbs).length c11) (.inr (by dsimp only; omega))
        have f13 := ((((Fr.refl (fun k => Up S w w4 k ∨ k = w6.heap.size) w11).set ⟨w.heap.size + 1 + 1, 0, none⟩ (.int .i64 (sg Q)) (.inl m2)).set ⟨w.heap.size + 1 + 1, 1, none⟩ (Value.slice A6 (dg Q.natAbs).length c6) (.inl m2)).set ⟨w.heap.size + 1 + 1 + 1, 0, none⟩ (.int .i64 (sg R)) (.inl m3)).set ⟨w.heap.size + 1 + 1 + 1, 1, none⟩ (Value.slice A11 (dg R.natAbs).length c11) (.inl m3)
        have b3 := ZFr.blk_set (ZFr.blk_set (ZFr.blk_set_other (ZFr.blk_set_other K4.out ⟨w.heap.size + 1 + 1, 0, none⟩ (.int .i64 (sg Q)) (by dsimp only; omega)) ⟨w.heap.size + 1 + 1, 1, none⟩ (Value.slice A6 (dg Q.natAbs).length c6) (by dsimp only; omega)) 0 (.int .i64 (sg R))) 1 (Value.slice A11 (dg R.natAbs).length c11)
        have b2 := ZFr.blk_set_other (ZFr.blk_set_other (ZFr.blk_set (ZFr.blk_set K3.out 0 (.int .i64 (sg Q))) 1 (Value.slice A6 (dg Q.natAbs).length c6)) ⟨w.heap.size + 1 + 1 + 1, 0, none⟩ (.int .i64 (sg R)) (by dsimp only; omega)) ⟨w.heap.size + 1 + 1 + 1, 1, none⟩ (Value.slice A11 (dg R.natAbs).length c11) (by dsimp only; omega)
        refine bodyPost_ret (results_cc rfl _ _ (w.heap.size + 1 + 1) (w.heap.size + 1 + 1 + 1) 40 40 #[.int .i64 (sg Q), Value.slice A6 (dg Q.natAbs).length c6] #[.int .i64 (sg R), Value.slice A11 (dg R.natAbs).length c11] (0, 0) (0, 0) _ _ rfl b2 Try.underlying40 rfl (by kernel_rfl) rfl b3 Try.underlying40 rfl (by kernel_rfl)) rfl ?_
        exact ⟨_, _, rfl, (Whole.mk ((G7.out.fr Z11.out (fun _ h => h.elim)).fr f13 (fun _ h => h))).mono (fun _ h => .inl (.inl h)), (Whole.mk (G11.out.fr f13 (fun _ h => h))).mono (fun _ h => .inl (.inl h)), f12⟩
    · have hlr : (0 : Int) < (dg r).length := by
        have := Nat.pos_of_ne_zero (fun h => hr0 (dg_nil (n := r) (List.length_eq_zero_iff.1 h)))
        omega
      have hqn := (hq3 ⟨hneg, hr0⟩).symm
      have QN := Lib.hid hqn
      clear hqn hq3 hq4
      go_wp2_with (first
        | (go_at_call 65; refine (make1_walk a u _ _ _ H1.out).mono ?_; rintro e w6 ⟨v6, rfl, h6, f6⟩; obtain ⟨s6, rfl, g6⟩ := h6 q0 HN.out.1 HN.out.2; obtain ⟨A6, c6, rfl⟩ := g6.slice; have R1 := Lib.hid (ZFr.blk_fr S1.out f6 (fun h => h)); have R2 := Lib.hid (ZFr.blk_fr S2.out f6 (fun h => h)); have R3 := Lib.hid (ZFr.blk_fr S3.out f6 (fun h => h)); have R4 := Lib.hid (ZFr.blk_fr S4.out f6 (fun h => h)); have x3 := fun o => (whole_cells (ZFr.blk_alloc R1.out o)).1; have y3 := fun o => (whole_cells (ZFr.blk_alloc R1.out o)).2; have x4 := fun o => (whole_cells (ZFr.blk_alloc R2.out o)).1; have y4 := fun o => (whole_cells (ZFr.blk_alloc R2.out o)).2; have G6 := Lib.hid g6; have F46 := Lib.hid (Nat.le_trans F45.out f6.size); have F6 := Lib.hid (F5.out.trans f6 (fun _ h _ => h)); clear h6 g6 f6))
      clear x3 y3 x4 y4 hm1
      have hgq := ZFr.blk_lt R4.out
      have TUP := Lib.hid (show ∀ (v : Value) (n : Nat), Dgs w S v n → ∀ W, Fr (fun _ => False) w W → Dgs W (fun k => Up S w w4 k ∨ k = w6.heap.size) v n from fun v n h W hf => (h.up (w' := w6.alloc (.cells #[] 3)) hf).mono (fun k hk => hk.elim (fun h => h.elim .inl (fun h => .inr ⟨h.1, Nat.lt_of_lt_of_le h.2 (Nat.le_trans F46.out (by simp))⟩)) (fun h => .inr ⟨by omega, by rw [h]; simp⟩)))
      have p1 := ZFr.blk_alloc R1.out (Obj.cells #[Value.int IntKind.i64 (sg q0), Value.slice A6 (dg q0.natAbs).length c6] 40)
      have p2 := ZFr.blk_alloc R2.out (Obj.cells #[Value.int IntKind.i64 (sg q0), Value.slice A6 (dg q0.natAbs).length c6] 40)
      have p3 := ZFr.blk_alloc R3.out (Obj.cells #[Value.int IntKind.i64 (sg q0), Value.slice A6 (dg q0.natAbs).length c6] 40)
      have p4 := ZFr.blk_alloc R4.out (Obj.cells #[Value.int IntKind.i64 (sg q0), Value.slice A6 (dg q0.natAbs).length c6] 40)
      have pq := heap_alloc_new w6 (Obj.cells #[Value.int IntKind.i64 (sg q0), Value.slice A6 (dg q0.natAbs).length c6] 40)
      have f7 := F6.out.alloc (Obj.cells #[Value.int IntKind.i64 (sg q0), Value.slice A6 (dg q0.natAbs).length c6] 40)
      have g7 := G6.out.new ((Fr.refl (fun _ => False) w6).alloc (Obj.cells #[Value.int IntKind.i64 (sg q0), Value.slice A6 (dg q0.natAbs).length c6] 40))
      have u7 := Nat.le_trans F46.out ((Fr.refl (fun _ => False) w6).alloc (Obj.cells #[Value.int IntKind.i64 (sg q0), Value.slice A6 (dg q0.natAbs).length c6] 40)).size
      have ut7 : ∀ k, (Up S w w4 k ∨ k = w6.heap.size) → k < (w6.alloc (Obj.cells #[Value.int IntKind.i64 (sg q0), Value.slice A6 (dg q0.natAbs).length c6] 40)).heap.size := fun k hk => hk.elim (fun h => Nat.lt_of_lt_of_le (Up.lt hS F4.out.size k h) u7) (fun h => h ▸ ZFr.blk_lt pq)
      generalize hw7 : w6.alloc (Obj.cells #[Value.int IntKind.i64 (sg q0), Value.slice A6 (dg q0.natAbs).length c6] 40) = w7 at p1 p2 p3 p4 pq f7 g7 u7 ut7 ⊢
      clear hw7
      have P1 := Lib.hid p1
      have P2 := Lib.hid p2
      have P3 := Lib.hid p3
      have P4 := Lib.hid p4
      have PQ := Lib.hid pq
      have F7 := Lib.hid f7
      have G7 := Lib.hid g7
      have UT := Lib.hid ut7
      clear p1 p2 p3 p4 pq f7 g7 u7 ut7
      obtain ⟨x5, y5⟩ := whole_cells (w := w7.drew) PQ.out
      go_region_law
        ((go_simp; (first
          | ((go_at_call 43; refine (long_c 1 (by decide) (by decide) (fun k => Up S w w4 k ∨ k = w6.heap.size) w7.drew UT.out).mono ?_; rintro e w10 ⟨v10, rfl, h10, f10⟩; obtain ⟨s10, rfl, g10⟩ := h10; obtain ⟨A10, c10, rfl⟩ := g10.slice; have M1 := Lib.hid (ZFr.blk_fr (w := w7.drew) P1.out f10 (fun h => h)); have M2 := Lib.hid (ZFr.blk_fr (w := w7.drew) P2.out f10 (fun h => h)); have M3 := Lib.hid (ZFr.blk_fr (w := w7.drew) P3.out f10 (fun h => h)); have M4 := Lib.hid (ZFr.blk_fr (w := w7.drew) P4.out f10 (fun h => h)); have MQ := Lib.hid (ZFr.blk_fr (w := w7.drew) PQ.out f10 (fun h => h)); obtain ⟨z5, z6⟩ := whole_cells MQ.out; have G10 := Lib.hid g10; have F10 := Lib.hid (F7.out.drew.trans f10 (fun _ h _ => h)); have Z10 := Lib.hid ((Fr.refl (fun _ => False) w7).drew.trans f10 (fun _ h _ => h)); clear g10 f10))
          | ((go_at_call 34; refine (sub_walk q0 1 _ _ (fun k => Up S w w4 k ∨ k = w6.heap.size) _ (fun k hk => Nat.lt_of_lt_of_le (UT.out k hk) Z10.out.size) (Whole.mk (G7.out.fr Z10.out (fun _ h => h.elim))) (Whole.mk G10.out) LQ0.out L1.out).mono ?_; rintro e w11 ⟨v11, rfl, h11, f11⟩; rw [QN.out] at h11; obtain ⟨s11, rfl, g11⟩ := h11; obtain ⟨B8, b8, rfl⟩ := g11.slice; have K1 := Lib.hid (ZFr.blk_fr M1.out f11 (fun h => h)); have K2 := Lib.hid (ZFr.blk_fr M2.out f11 (fun h => h)); have K3 := Lib.hid (ZFr.blk_fr M3.out f11 (fun h => h)); have K4 := Lib.hid (ZFr.blk_fr M4.out f11 (fun h => h)); have KQ := Lib.hid (ZFr.blk_fr MQ.out f11 (fun h => h)); obtain ⟨i1, i2, i3, i4⟩ := whole_store KQ.out; have G11 := Lib.hid g11; have F11 := Lib.hid (F10.out.trans f11 (fun _ h _ => h)); have Z11 := Lib.hid (Z10.out.trans f11 (fun _ h _ => h)); clear g11 f11)))))
      all_goals
        go_wp2_with fail
        have e1 := ZFr.blk_set_other (ZFr.blk_set_other K1.out ⟨w6.heap.size, 0, none⟩ (.int .i64 (sg Q)) (by dsimp only; omega)) ⟨w6.heap.size, 1, none⟩ (Value.slice B8 (dg Q.natAbs).length b8) (by dsimp only; omega)
        have e2 := ZFr.blk_set_other (ZFr.blk_set_other K2.out ⟨w6.heap.size, 0, none⟩ (.int .i64 (sg Q)) (by dsimp only; omega)) ⟨w6.heap.size, 1, none⟩ (Value.slice B8 (dg Q.natAbs).length b8) (by dsimp only; omega)
        have e3 := ZFr.blk_set_other (ZFr.blk_set_other K3.out ⟨w6.heap.size, 0, none⟩ (.int .i64 (sg Q)) (by dsimp only; omega)) ⟨w6.heap.size, 1, none⟩ (Value.slice B8 (dg Q.natAbs).length b8) (by dsimp only; omega)
        have e4 := ZFr.blk_set_other (ZFr.blk_set_other K4.out ⟨w6.heap.size, 0, none⟩ (.int .i64 (sg Q)) (by dsimp only; omega)) ⟨w6.heap.size, 1, none⟩ (Value.slice B8 (dg Q.natAbs).length b8) (by dsimp only; omega)
        have eq : ((w11.setCell ⟨w6.heap.size, 0, none⟩ (.int .i64 (sg Q))).setCell ⟨w6.heap.size, 1, none⟩ (Value.slice B8 (dg Q.natAbs).length b8)).heap[w6.heap.size]? = some (.cells #[.int .i64 (sg Q), Value.slice B8 (dg Q.natAbs).length b8] 40 (0, 0)) := ZFr.blk_set (ZFr.blk_set KQ.out 0 (.int .i64 (sg Q))) 1 (Value.slice B8 (dg Q.natAbs).length b8)
        have e5 := (F11.out.set ⟨w6.heap.size, 0, none⟩ (.int .i64 (sg Q)) (.inr (by dsimp only; omega))).set ⟨w6.heap.size, 1, none⟩ (Value.slice B8 (dg Q.natAbs).length b8) (.inr (by dsimp only; omega))
        have e6 := G11.out.fr (((Fr.refl (fun k => Up S w w4 k ∨ k = w6.heap.size) w11).set ⟨w6.heap.size, 0, none⟩ (.int .i64 (sg Q)) (.inl (.inr rfl))).set ⟨w6.heap.size, 1, none⟩ (Value.slice B8 (dg Q.natAbs).length b8) (.inl (.inr rfl))) (fun _ h => h)
        have e7 : ∀ k, (Up S w w4 k ∨ k = w6.heap.size) → k < ((w11.setCell ⟨w6.heap.size, 0, none⟩ (.int .i64 (sg Q))).setCell ⟨w6.heap.size, 1, none⟩ (Value.slice B8 (dg Q.natAbs).length b8)).heap.size := fun k hk => by rw [ZFr.size_set, ZFr.size_set]; exact Nat.lt_of_lt_of_le (UT.out k hk) Z11.out.size
        generalize (w11.setCell ⟨w6.heap.size, 0, none⟩ (.int .i64 (sg Q))).setCell ⟨w6.heap.size, 1, none⟩ (Value.slice B8 (dg Q.natAbs).length b8) = w8 at e1 e2 e3 e4 eq e5 e6 e7 ⊢
        clear P1 P2 P3 P4 PQ F7 G7 UT M1 M2 M3 M4 MQ K1 K2 K3 K4 KQ G10 F10 Z10 G11 F11 Z11 x5 y5 i1 i2 i3 i4
        have P1 := Lib.hid e1
        have P2 := Lib.hid e2
        have P3 := Lib.hid e3
        have P4 := Lib.hid e4
        have PQ := Lib.hid eq
        have F7 := Lib.hid e5
        have G7 := Lib.hid e6
        have UT := Lib.hid e7
        clear e1 e2 e3 e4 eq e5 e6 e7
        obtain ⟨x1, y1⟩ := whole_cells (w := w8.drew) P1.out
        obtain ⟨x2, y2⟩ := whole_cells (w := w8.drew) P2.out
        obtain ⟨x5, y5⟩ := whole_cells (w := w8.drew) PQ.out
        go_region_held3 (fun w' => w'.cell? ⟨w.heap.size, 0, none⟩ = some (.int .i64 (sg a)) ∧ w'.cell? ⟨w.heap.size, 1, none⟩ = some (Value.slice A (dg a.natAbs).length c) ∧ w'.cell? ⟨w.heap.size + 1, 0, none⟩ = some (.int .i64 (sg b)) ∧ w'.cell? ⟨w.heap.size + 1, 1, none⟩ = some (Value.slice A' (dg b.natAbs).length c') ∧ w'.cell? ⟨w6.heap.size, 0, none⟩ = some (.int .i64 (sg Q)) ∧ w'.cell? ⟨w6.heap.size, 1, none⟩ = some (Value.slice B8 (dg Q.natAbs).length b8))
          (refine ⟨?_, ?_, ?_, ?_, ?_, ?_⟩ <;> first | with_reducible assumption | exact cell_far (by with_reducible assumption) (by dsimp only; omega) | exact cell_far (cell_far (by with_reducible assumption) (by dsimp only; omega)) (by dsimp only; omega) | exact cell_far (cell_far (cell_far (by with_reducible assumption) (by dsimp only; omega)) (by dsimp only; omega)) (by dsimp only; omega) | exact cell_far (cell_far (cell_far (cell_far (by with_reducible assumption) (by dsimp only; omega)) (by dsimp only; omega)) (by dsimp only; omega)) (by dsimp only; omega))
          (first
            | ((go_at_call 69; refine (mul_walk Q b _ _ (fun k => Up S w w4 k ∨ k = w6.heap.size) w8.drew UT.out (Whole.mk (G7.out.fr (Fr.refl (fun _ => False) w8).drew (fun _ h => h.elim))) (Whole.mk (TUP.out _ _ hB.out _ F7.out.drew)) LQ.out LB.out).mono ?_; rintro e w10 ⟨v10, rfl, h10, f10⟩; rw [MN.out] at h10; obtain ⟨s10, rfl, g10⟩ := h10; obtain ⟨A10, c10, rfl⟩ := g10.slice; have M1 := Lib.hid (ZFr.blk_fr (w := w8.drew) P1.out f10 (fun h => h)); have M2 := Lib.hid (ZFr.blk_fr (w := w8.drew) P2.out f10 (fun h => h)); have M3 := Lib.hid (ZFr.blk_fr (w := w8.drew) P3.out f10 (fun h => h)); have M4 := Lib.hid (ZFr.blk_fr (w := w8.drew) P4.out f10 (fun h => h)); have MQ := Lib.hid (ZFr.blk_fr (w := w8.drew) PQ.out f10 (fun h => h)); obtain ⟨z1, z2⟩ := whole_cells M1.out; obtain ⟨z3, z4⟩ := whole_cells M2.out; obtain ⟨z5, z6⟩ := whole_cells MQ.out; have G10 := Lib.hid g10; have F10 := Lib.hid (F7.out.drew.trans f10 (fun _ h _ => h)); have Z10 := Lib.hid ((Fr.refl (fun _ => False) w8).drew.trans f10 (fun _ h _ => h)); clear g10 f10))
            | ((go_at_call 34; refine (sub_walk a m _ _ (fun k => Up S w w4 k ∨ k = w6.heap.size) _ (fun k hk => Nat.lt_of_lt_of_le (UT.out k hk) Z10.out.size) (Whole.mk (TUP.out _ _ hA.out _ F10.out)) (Whole.mk G10.out) LA.out LM.out).mono ?_; rintro e w11 ⟨v11, rfl, h11, f11⟩; rw [RN.out] at h11; obtain ⟨s11, rfl, g11⟩ := h11; obtain ⟨A11, c11, rfl⟩ := g11.slice; obtain ⟨u1, u2⟩ := whole_cells (ZFr.blk_fr M1.out f11 (fun h => h)); obtain ⟨u3, u4⟩ := whole_cells (ZFr.blk_fr M2.out f11 (fun h => h)); obtain ⟨u5, u6⟩ := whole_cells (ZFr.blk_fr MQ.out f11 (fun h => h)); have K3 := Lib.hid (ZFr.blk_fr M3.out f11 (fun h => h)); have K4 := Lib.hid (ZFr.blk_fr M4.out f11 (fun h => h)); obtain ⟨i1, i2, i3, i4⟩ := whole_store K3.out; obtain ⟨i5, i6, i7, i8⟩ := whole_store K4.out; have G11 := Lib.hid g11; have F11 := Lib.hid (F10.out.trans f11 (fun _ h _ => h)); have Z11 := Lib.hid (Z10.out.trans f11 (fun _ h _ => h)); clear g11 f11)))
        all_goals
          go_wp2_with fail
          have m2 : (fun k => Up S w w4 k ∨ k = w6.heap.size) (w.heap.size + 1 + 1) := .inl (.inr ⟨by omega, ZFr.blk_lt T3.out⟩)
          have m3 : (fun k => Up S w w4 k ∨ k = w6.heap.size) (w.heap.size + 1 + 1 + 1) := .inl (.inr ⟨by omega, ZFr.blk_lt T4.out⟩)
          have f12 := (((F11.out.set ⟨w.heap.size + 1 + 1, 0, none⟩ (.int .i64 (sg Q)) (.inr (by dsimp only; omega))).set ⟨w.heap.size + 1 + 1, 1, none⟩ (Value.slice B8 (dg Q.natAbs).length b8) (.inr (by dsimp only; omega))).set ⟨w.heap.size + 1 + 1 + 1, 0, none⟩ (.int .i64 (sg R)) (.inr (by dsimp only; omega))).set ⟨w.heap.size + 1 + 1 + 1, 1, none⟩ (Value.slice A11 (dg R.natAbs).length c11) (.inr (by dsimp only; omega))
          have f13 := ((((Fr.refl (fun k => Up S w w4 k ∨ k = w6.heap.size) w11).set ⟨w.heap.size + 1 + 1, 0, none⟩ (.int .i64 (sg Q)) (.inl m2)).set ⟨w.heap.size + 1 + 1, 1, none⟩ (Value.slice B8 (dg Q.natAbs).length b8) (.inl m2)).set ⟨w.heap.size + 1 + 1 + 1, 0, none⟩ (.int .i64 (sg R)) (.inl m3)).set ⟨w.heap.size + 1 + 1 + 1, 1, none⟩ (Value.slice A11 (dg R.natAbs).length c11) (.inl m3)
          have b3 := ZFr.blk_set (ZFr.blk_set (ZFr.blk_set_other (ZFr.blk_set_other K4.out ⟨w.heap.size + 1 + 1, 0, none⟩ (.int .i64 (sg Q)) (by dsimp only; omega)) ⟨w.heap.size + 1 + 1, 1, none⟩ (Value.slice B8 (dg Q.natAbs).length b8) (by dsimp only; omega)) 0 (.int .i64 (sg R))) 1 (Value.slice A11 (dg R.natAbs).length c11)
          have b2 := ZFr.blk_set_other (ZFr.blk_set_other (ZFr.blk_set (ZFr.blk_set K3.out 0 (.int .i64 (sg Q))) 1 (Value.slice B8 (dg Q.natAbs).length b8)) ⟨w.heap.size + 1 + 1 + 1, 0, none⟩ (.int .i64 (sg R)) (by dsimp only; omega)) ⟨w.heap.size + 1 + 1 + 1, 1, none⟩ (Value.slice A11 (dg R.natAbs).length c11) (by dsimp only; omega)
          refine bodyPost_ret (results_cc rfl _ _ (w.heap.size + 1 + 1) (w.heap.size + 1 + 1 + 1) 40 40 #[.int .i64 (sg Q), Value.slice B8 (dg Q.natAbs).length b8] #[.int .i64 (sg R), Value.slice A11 (dg R.natAbs).length c11] (0, 0) (0, 0) _ _ rfl b2 Try.underlying40 rfl (by kernel_rfl) rfl b3 Try.underlying40 rfl (by kernel_rfl)) rfl ?_
          exact ⟨_, _, rfl, (Whole.mk ((G7.out.fr Z11.out (fun _ h => h.elim)).fr f13 (fun _ h => h))).mono (fun _ h => .inl (.inl h)), (Whole.mk (G11.out.fr f13 (fun _ h => h))).mono (fun _ h => .inl (.inl h)), f12⟩
  · have hQ0 := hq4 (fun h => hneg h.1)
    subst hQ0
    go_wp2_with (first
      | (go_at_call 65; refine (make1_walk a u _ _ _ H1.out).mono ?_; rintro e w6 ⟨v6, rfl, h6, f6⟩; obtain ⟨s6, rfl, g6⟩ := h6 Q HN.out.1 HN.out.2; obtain ⟨A6, c6, rfl⟩ := g6.slice; have R1 := Lib.hid (ZFr.blk_fr S1.out f6 (fun h => h)); have R2 := Lib.hid (ZFr.blk_fr S2.out f6 (fun h => h)); have R3 := Lib.hid (ZFr.blk_fr S3.out f6 (fun h => h)); have R4 := Lib.hid (ZFr.blk_fr S4.out f6 (fun h => h)); have x3 := fun o => (whole_cells (ZFr.blk_alloc R1.out o)).1; have y3 := fun o => (whole_cells (ZFr.blk_alloc R1.out o)).2; have x4 := fun o => (whole_cells (ZFr.blk_alloc R2.out o)).1; have y4 := fun o => (whole_cells (ZFr.blk_alloc R2.out o)).2; have G6 := Lib.hid g6; have F46 := Lib.hid (Nat.le_trans F45.out f6.size); have F6 := Lib.hid (F5.out.trans f6 (fun _ h _ => h)); clear h6 g6 f6))
    clear x3 y3 x4 y4 hm1
    have hgq := ZFr.blk_lt R4.out
    have TUP := Lib.hid (show ∀ (v : Value) (n : Nat), Dgs w S v n → ∀ W, Fr (fun _ => False) w W → Dgs W (fun k => Up S w w4 k ∨ k = w6.heap.size) v n from fun v n h W hf => (h.up (w' := w6.alloc (.cells #[] 3)) hf).mono (fun k hk => hk.elim (fun h => h.elim .inl (fun h => .inr ⟨h.1, Nat.lt_of_lt_of_le h.2 (Nat.le_trans F46.out (by simp))⟩)) (fun h => .inr ⟨by omega, by rw [h]; simp⟩)))
    have p1 := ZFr.blk_alloc R1.out (Obj.cells #[Value.int IntKind.i64 (sg Q), Value.slice A6 (dg Q.natAbs).length c6] 40)
    have p2 := ZFr.blk_alloc R2.out (Obj.cells #[Value.int IntKind.i64 (sg Q), Value.slice A6 (dg Q.natAbs).length c6] 40)
    have p3 := ZFr.blk_alloc R3.out (Obj.cells #[Value.int IntKind.i64 (sg Q), Value.slice A6 (dg Q.natAbs).length c6] 40)
    have p4 := ZFr.blk_alloc R4.out (Obj.cells #[Value.int IntKind.i64 (sg Q), Value.slice A6 (dg Q.natAbs).length c6] 40)
    have pq := heap_alloc_new w6 (Obj.cells #[Value.int IntKind.i64 (sg Q), Value.slice A6 (dg Q.natAbs).length c6] 40)
    have f7 := F6.out.alloc (Obj.cells #[Value.int IntKind.i64 (sg Q), Value.slice A6 (dg Q.natAbs).length c6] 40)
    have g7 := G6.out.new ((Fr.refl (fun _ => False) w6).alloc (Obj.cells #[Value.int IntKind.i64 (sg Q), Value.slice A6 (dg Q.natAbs).length c6] 40))
    have u7 := Nat.le_trans F46.out ((Fr.refl (fun _ => False) w6).alloc (Obj.cells #[Value.int IntKind.i64 (sg Q), Value.slice A6 (dg Q.natAbs).length c6] 40)).size
    have ut7 : ∀ k, (Up S w w4 k ∨ k = w6.heap.size) → k < (w6.alloc (Obj.cells #[Value.int IntKind.i64 (sg Q), Value.slice A6 (dg Q.natAbs).length c6] 40)).heap.size := fun k hk => hk.elim (fun h => Nat.lt_of_lt_of_le (Up.lt hS F4.out.size k h) u7) (fun h => h ▸ ZFr.blk_lt pq)
    generalize hw7 : w6.alloc (Obj.cells #[Value.int IntKind.i64 (sg Q), Value.slice A6 (dg Q.natAbs).length c6] 40) = w7 at p1 p2 p3 p4 pq f7 g7 u7 ut7 ⊢
    clear hw7
    have P1 := Lib.hid p1
    have P2 := Lib.hid p2
    have P3 := Lib.hid p3
    have P4 := Lib.hid p4
    have PQ := Lib.hid pq
    have F7 := Lib.hid f7
    have G7 := Lib.hid g7
    have UT := Lib.hid ut7
    clear p1 p2 p3 p4 pq f7 g7 u7 ut7
    obtain ⟨x1, y1⟩ := whole_cells (w := w7.drew) P1.out
    obtain ⟨x2, y2⟩ := whole_cells (w := w7.drew) P2.out
    obtain ⟨x5, y5⟩ := whole_cells (w := w7.drew) PQ.out
    go_region_held3 (fun w' => w'.cell? ⟨w.heap.size, 0, none⟩ = some (.int .i64 (sg a)) ∧ w'.cell? ⟨w.heap.size, 1, none⟩ = some (Value.slice A (dg a.natAbs).length c) ∧ w'.cell? ⟨w.heap.size + 1, 0, none⟩ = some (.int .i64 (sg b)) ∧ w'.cell? ⟨w.heap.size + 1, 1, none⟩ = some (Value.slice A' (dg b.natAbs).length c') ∧ w'.cell? ⟨w6.heap.size, 0, none⟩ = some (.int .i64 (sg Q)) ∧ w'.cell? ⟨w6.heap.size, 1, none⟩ = some (Value.slice A6 (dg Q.natAbs).length c6))
      (refine ⟨?_, ?_, ?_, ?_, ?_, ?_⟩ <;> first | with_reducible assumption | exact cell_far (by with_reducible assumption) (by dsimp only; omega) | exact cell_far (cell_far (by with_reducible assumption) (by dsimp only; omega)) (by dsimp only; omega) | exact cell_far (cell_far (cell_far (by with_reducible assumption) (by dsimp only; omega)) (by dsimp only; omega)) (by dsimp only; omega) | exact cell_far (cell_far (cell_far (cell_far (by with_reducible assumption) (by dsimp only; omega)) (by dsimp only; omega)) (by dsimp only; omega)) (by dsimp only; omega))
      (first
        | ((go_at_call 69; refine (mul_walk Q b _ _ (fun k => Up S w w4 k ∨ k = w6.heap.size) w7.drew UT.out (Whole.mk (G7.out.fr (Fr.refl (fun _ => False) w7).drew (fun _ h => h.elim))) (Whole.mk (TUP.out _ _ hB.out _ F7.out.drew)) LQ.out LB.out).mono ?_; rintro e w10 ⟨v10, rfl, h10, f10⟩; rw [MN.out] at h10; obtain ⟨s10, rfl, g10⟩ := h10; obtain ⟨A10, c10, rfl⟩ := g10.slice; have M1 := Lib.hid (ZFr.blk_fr (w := w7.drew) P1.out f10 (fun h => h)); have M2 := Lib.hid (ZFr.blk_fr (w := w7.drew) P2.out f10 (fun h => h)); have M3 := Lib.hid (ZFr.blk_fr (w := w7.drew) P3.out f10 (fun h => h)); have M4 := Lib.hid (ZFr.blk_fr (w := w7.drew) P4.out f10 (fun h => h)); have MQ := Lib.hid (ZFr.blk_fr (w := w7.drew) PQ.out f10 (fun h => h)); obtain ⟨z1, z2⟩ := whole_cells M1.out; obtain ⟨z3, z4⟩ := whole_cells M2.out; obtain ⟨z5, z6⟩ := whole_cells MQ.out; have G10 := Lib.hid g10; have F10 := Lib.hid (F7.out.drew.trans f10 (fun _ h _ => h)); have Z10 := Lib.hid ((Fr.refl (fun _ => False) w7).drew.trans f10 (fun _ h _ => h)); clear g10 f10))
        | ((go_at_call 34; refine (sub_walk a m _ _ (fun k => Up S w w4 k ∨ k = w6.heap.size) _ (fun k hk => Nat.lt_of_lt_of_le (UT.out k hk) Z10.out.size) (Whole.mk (TUP.out _ _ hA.out _ F10.out)) (Whole.mk G10.out) LA.out LM.out).mono ?_; rintro e w11 ⟨v11, rfl, h11, f11⟩; rw [RN.out] at h11; obtain ⟨s11, rfl, g11⟩ := h11; obtain ⟨A11, c11, rfl⟩ := g11.slice; obtain ⟨u1, u2⟩ := whole_cells (ZFr.blk_fr M1.out f11 (fun h => h)); obtain ⟨u3, u4⟩ := whole_cells (ZFr.blk_fr M2.out f11 (fun h => h)); obtain ⟨u5, u6⟩ := whole_cells (ZFr.blk_fr MQ.out f11 (fun h => h)); have K3 := Lib.hid (ZFr.blk_fr M3.out f11 (fun h => h)); have K4 := Lib.hid (ZFr.blk_fr M4.out f11 (fun h => h)); obtain ⟨i1, i2, i3, i4⟩ := whole_store K3.out; obtain ⟨i5, i6, i7, i8⟩ := whole_store K4.out; have G11 := Lib.hid g11; have F11 := Lib.hid (F10.out.trans f11 (fun _ h _ => h)); have Z11 := Lib.hid (Z10.out.trans f11 (fun _ h _ => h)); clear g11 f11)))
    all_goals
      go_wp2_with fail
      have m2 : (fun k => Up S w w4 k ∨ k = w6.heap.size) (w.heap.size + 1 + 1) := .inl (.inr ⟨by omega, ZFr.blk_lt T3.out⟩)
      have m3 : (fun k => Up S w w4 k ∨ k = w6.heap.size) (w.heap.size + 1 + 1 + 1) := .inl (.inr ⟨by omega, ZFr.blk_lt T4.out⟩)
      have f12 := (((F11.out.set ⟨w.heap.size + 1 + 1, 0, none⟩ (.int .i64 (sg Q)) (.inr (by dsimp only; omega))).set ⟨w.heap.size + 1 + 1, 1, none⟩ (Value.slice A6 (dg Q.natAbs).length c6) (.inr (by dsimp only; omega))).set ⟨w.heap.size + 1 + 1 + 1, 0, none⟩ (.int .i64 (sg R)) (.inr (by dsimp only; omega))).set ⟨w.heap.size + 1 + 1 + 1, 1, none⟩ (Value.slice A11 (dg R.natAbs).length c11) (.inr (by dsimp only; omega))
      have f13 := ((((Fr.refl (fun k => Up S w w4 k ∨ k = w6.heap.size) w11).set ⟨w.heap.size + 1 + 1, 0, none⟩ (.int .i64 (sg Q)) (.inl m2)).set ⟨w.heap.size + 1 + 1, 1, none⟩ (Value.slice A6 (dg Q.natAbs).length c6) (.inl m2)).set ⟨w.heap.size + 1 + 1 + 1, 0, none⟩ (.int .i64 (sg R)) (.inl m3)).set ⟨w.heap.size + 1 + 1 + 1, 1, none⟩ (Value.slice A11 (dg R.natAbs).length c11) (.inl m3)
      have b3 := ZFr.blk_set (ZFr.blk_set (ZFr.blk_set_other (ZFr.blk_set_other K4.out ⟨w.heap.size + 1 + 1, 0, none⟩ (.int .i64 (sg Q)) (by dsimp only; omega)) ⟨w.heap.size + 1 + 1, 1, none⟩ (Value.slice A6 (dg Q.natAbs).length c6) (by dsimp only; omega)) 0 (.int .i64 (sg R))) 1 (Value.slice A11 (dg R.natAbs).length c11)
      have b2 := ZFr.blk_set_other (ZFr.blk_set_other (ZFr.blk_set (ZFr.blk_set K3.out 0 (.int .i64 (sg Q))) 1 (Value.slice A6 (dg Q.natAbs).length c6)) ⟨w.heap.size + 1 + 1 + 1, 0, none⟩ (.int .i64 (sg R)) (by dsimp only; omega)) ⟨w.heap.size + 1 + 1 + 1, 1, none⟩ (Value.slice A11 (dg R.natAbs).length c11) (by dsimp only; omega)
      refine bodyPost_ret (results_cc rfl _ _ (w.heap.size + 1 + 1) (w.heap.size + 1 + 1 + 1) 40 40 #[.int .i64 (sg Q), Value.slice A6 (dg Q.natAbs).length c6] #[.int .i64 (sg R), Value.slice A11 (dg R.natAbs).length c11] (0, 0) (0, 0) _ _ rfl b2 Try.underlying40 rfl (by kernel_rfl) rfl b3 Try.underlying40 rfl (by kernel_rfl)) rfl ?_
      exact ⟨_, _, rfl, (Whole.mk ((G7.out.fr Z11.out (fun _ h => h.elim)).fr f13 (fun _ h => h))).mono (fun _ h => .inl (.inl h)), (Whole.mk (G11.out.fr f13 (fun _ h => h))).mono (fun _ h => .inl (.inl h)), f12⟩
end Go.Proofs.Ytngmkjgklonfmaa.Big
