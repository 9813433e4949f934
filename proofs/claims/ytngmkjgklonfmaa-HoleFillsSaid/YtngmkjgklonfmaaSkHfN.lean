/- What is used of HfN. -/
import Derived.Test.YtngmkjgklonfmaaSkHfM
namespace Go.Proofs.Ytngmkjgklonfmaa.Wd
open Go.RowKit Go.Proofs.ZFr Go.Proofs.Ytngmkjgklonfmaa.PNearNearest Go.Proofs.Ytngmkjgklonfmaa.Big Go.Proofs.YtngmkjgklonfmaaW.PrintWords
attribute [local go_sem ↓] Go.wp_at_zero Go.wp_at_succ
theorem sg_sgn (n : Int) : sg n = sgn n := by unfold sg sgn; split <;> (try split) <;> (try split) <;> omega
theorem nearB_bd {x y : Int} (h : nearB x y = true) : -8192 < x ∧ x < 8192 ∧ -8192 < y ∧ y < 8192 := by
  unfold nearB at h
  split at h
  · split at h
    · split at h
      · simp at h; omega
      · cases h
    · cases h
  · cases h
theorem mul_bd {x y m n : Int} (hx : -m ≤ x ∧ x ≤ m) (hy : -n ≤ y ∧ y ≤ n) : -(m * n) ≤ x * y ∧ x * y ≤ m * n := by
  have hm : 0 ≤ m := by omega
  have hn : 0 ≤ n := by omega
  have e := Int.natAbs_mul x y
  have h1 : x.natAbs * y.natAbs ≤ m.natAbs * n.natAbs := Nat.mul_le_mul (by omega) (by omega)
  rw [← Int.natAbs_mul, ← Int.natAbs_mul] at h1
  have h2 : ((m * n).natAbs : Int) = m * n := Int.natAbs_of_nonneg (Int.mul_nonneg hm hn)
  omega
theorem triE (W : World) (o1 o2 o3 : Obj) : ∃ w3, ((W.alloc o1).alloc o2).alloc o3 = w3 ∧ w3.heap[W.heap.size]? = some o1 ∧ w3.heap[W.heap.size + 1]? = some o2 ∧ w3.heap[W.heap.size + 1 + 1]? = some o3 ∧ Fr (fun _ => False) W w3 := by
  obtain ⟨h1, h2, h3, h4⟩ := tri W o1 o2 o3
  exact ⟨_, rfl, h1, h2, h3, h4⟩
set_option maxRecDepth 100000 in
set_option maxHeartbeats 4000000 in
theorem orr_walk (ax ay bx bY cx cy p q r t R : Int) (n1 n2 : Bool) (W : World) (h : (inP ax ∧ inP ay) ∧ (inP bx ∧ inP bY) ∧ inP cx ∧ inP cy) (hp : bx - ax = p) (hq : cy - ay = q) (hr : bY - ay = r) (ht : cx - ax = t) (hR : sgn (p * q - r * t) = R) (hn1 : nearB p r = n1) (hn2 : nearB t q = n2) :
    Calls Try.prog 95 #[pt ax ay, pt bx bY, pt cx cy] W fun e w' => e = .returned (.int .i64 R) ∧ Fr (fun _ => False) W w' := by
  obtain ⟨⟨h1, h2⟩, ⟨h3, h4⟩, h5, h6⟩ := h
  unfold inP at h1 h2 h3 h4 h5 h6
  have wp : IntKind.i64.wrap (bx - ax) = p := by rw [hp]; exact wr (by omega) (by omega)
  have wq : IntKind.i64.wrap (cy - ay) = q := by rw [hq]; exact wr (by omega) (by omega)
  have wr' : IntKind.i64.wrap (bY - ay) = r := by rw [hr]; exact wr (by omega) (by omega)
  have wt : IntKind.i64.wrap (cx - ax) = t := by rw [ht]; exact wr (by omega) (by omega)
  have N1 := Lib.hid (fun w => near_walk ax ay bx bY p r wp wr' w)
  have N2 := Lib.hid (fun w => near_walk ax ay cx cy t q wt wq w)
  have AR := Lib.hid (fun w => area_walk ax ay bx bY cx cy ⟨by omega, by omega⟩ ⟨by omega, by omega⟩ ⟨by omega, by omega⟩ ⟨by omega, by omega⟩ ⟨by omega, by omega⟩ ⟨by omega, by omega⟩ (fun _ => False) w (fun _ h => h.elim))
  unfold ac at AR
  rw [hp, hq, hr, ht] at AR
  rw [hn1] at N1
  rw [hn2] at N2
  have HW := Lib.hid (And.intro wp (And.intro wq (And.intro wr' wt)))
  have SG := Lib.hid (sign_walk (p * q - r * t))
  rw [hR] at SG
  have HR := Lib.hid hR
  have HQ := Lib.hid (triE W (Obj.cells #[Value.int IntKind.i64 ax, Value.int IntKind.i64 ay] 24) (Obj.cells #[Value.int IntKind.i64 bx, Value.int IntKind.i64 bY] 24) (Obj.cells #[Value.int IntKind.i64 cx, Value.int IntKind.i64 cy] 24))
  have BD := Lib.hid (show n1 = true → n2 = true → IntKind.i64.wrap (p * q) = p * q ∧ IntKind.i64.wrap (r * t) = r * t ∧ IntKind.i64.wrap (p * q - r * t) = p * q - r * t from fun e1 e2 => by
    have b1 := nearB_bd (hn1.trans e1)
    have b2 := nearB_bd (hn2.trans e2)
    clear HW wp wq wr' wt
    have m1 := mul_bd (x := p) (y := q) (m := 8192) (n := 8192) (by omega) (by omega)
    have m2 := mul_bd (x := r) (y := t) (m := 8192) (n := 8192) (by omega) (by omega)
    exact ⟨wr (by omega) (by omega), wr (by omega) (by omega), wr (by omega) (by omega)⟩)
  clear h1 h2 h3 h4 h5 h6 hp hq hr ht hR hn1 hn2 wp wq wr' wt
  unfold pt at N1 N2 AR ⊢
  cases n1
  · clear BD
    have hfd := field0
    go_enter Try.func95, Try.ntmps95
    go_wp2_with fail
    obtain ⟨w4, hw4, t1, t2, t3, f4⟩ := HQ.out
    rw [hw4]
    have T1 := Lib.hid t1
    have T2 := Lib.hid t2
    have T3 := Lib.hid t3
    have F4 := Lib.hid f4
    clear hw4 t1 t2 t3 f4 HQ
    have PC := Lib.hid (fun w (h : Fr (fun _ => False) w4 w) => And.intro (point_cells (ZFr.blk_fr T1.out h (fun h => h))) (And.intro (point_cells (ZFr.blk_fr T2.out h (fun h => h))) (point_cells (ZFr.blk_fr T3.out h (fun h => h)))))
    obtain ⟨⟨q1, q2⟩, ⟨q3, q4⟩, q5, q6⟩ := PC.out w4 (Fr.refl _ w4)
    go_wp2_with (first
      | (go_at_call 128; have hc_ := AR.out w6; (with_reducible refine hc_.mono ?_); clear hc_; rintro e w7 ⟨v7, rfl, hv7, f7⟩; obtain ⟨x7, rfl, g7⟩ := hv7; obtain ⟨A7, c7, rfl⟩ := g7.slice; clear g7; have E7 := Lib.hid (E6.out.trans f7 (fun _ h _ => h)); clear f7)
      | (go_at_call 128; have hc_ := AR.out w5; (with_reducible refine hc_.mono ?_); clear hc_; rintro e w7 ⟨v7, rfl, hv7, f7⟩; obtain ⟨x7, rfl, g7⟩ := hv7; obtain ⟨A7, c7, rfl⟩ := g7.slice; clear g7; have E7 := Lib.hid (E5.out.trans f7 (fun _ h _ => h)); clear f7)
      | (go_at_call 127; have hc_ := SG.out w6; (with_reducible refine hc_.mono ?_); clear hc_; rintro e w7 ⟨rfl, f7⟩; have E7 := Lib.hid (E6.out.trans f7 (fun _ h _ => h)); clear f7)
      | (go_at_call 126; have hc_ := N2.out w5; (with_reducible refine hc_.mono ?_); clear hc_; rintro e w6 ⟨rfl, f6⟩; have E6 := Lib.hid (E5.out.trans f6 (fun _ h _ => h)); obtain ⟨⟨q1, q2⟩, ⟨q3, q4⟩, q5, q6⟩ := PC.out w6 E6.out; clear f6)
      | (go_at_call 126; have hc_ := N1.out w4; (with_reducible refine hc_.mono ?_); clear hc_; rintro e w5 ⟨rfl, f5⟩; have E5 := Lib.hid f5; obtain ⟨⟨q1, q2⟩, ⟨q3, q4⟩, q5, q6⟩ := PC.out w5 E5.out; clear f5))
    go_ret
    exact ⟨by rw [sg_sgn, HR.out]; rfl, F4.out.trans E7.out (fun _ h _ => h)⟩
  · cases n2
    · clear BD
      have hfd := field0
      go_enter Try.func95, Try.ntmps95
      go_wp2_with fail
      obtain ⟨w4, hw4, t1, t2, t3, f4⟩ := HQ.out
      rw [hw4]
      have T1 := Lib.hid t1
      have T2 := Lib.hid t2
      have T3 := Lib.hid t3
      have F4 := Lib.hid f4
      clear hw4 t1 t2 t3 f4 HQ
      have PC := Lib.hid (fun w (h : Fr (fun _ => False) w4 w) => And.intro (point_cells (ZFr.blk_fr T1.out h (fun h => h))) (And.intro (point_cells (ZFr.blk_fr T2.out h (fun h => h))) (point_cells (ZFr.blk_fr T3.out h (fun h => h)))))
      obtain ⟨⟨q1, q2⟩, ⟨q3, q4⟩, q5, q6⟩ := PC.out w4 (Fr.refl _ w4)
      go_wp2_with (first
        | (go_at_call 128; have hc_ := AR.out w6; (with_reducible refine hc_.mono ?_); clear hc_; rintro e w7 ⟨v7, rfl, hv7, f7⟩; obtain ⟨x7, rfl, g7⟩ := hv7; obtain ⟨A7, c7, rfl⟩ := g7.slice; clear g7; have E7 := Lib.hid (E6.out.trans f7 (fun _ h _ => h)); clear f7)
        | (go_at_call 128; have hc_ := AR.out w5; (with_reducible refine hc_.mono ?_); clear hc_; rintro e w7 ⟨v7, rfl, hv7, f7⟩; obtain ⟨x7, rfl, g7⟩ := hv7; obtain ⟨A7, c7, rfl⟩ := g7.slice; clear g7; have E7 := Lib.hid (E5.out.trans f7 (fun _ h _ => h)); clear f7)
        | (go_at_call 127; have hc_ := SG.out w6; (with_reducible refine hc_.mono ?_); clear hc_; rintro e w7 ⟨rfl, f7⟩; have E7 := Lib.hid (E6.out.trans f7 (fun _ h _ => h)); clear f7)
        | (go_at_call 126; have hc_ := N2.out w5; (with_reducible refine hc_.mono ?_); clear hc_; rintro e w6 ⟨rfl, f6⟩; have E6 := Lib.hid (E5.out.trans f6 (fun _ h _ => h)); obtain ⟨⟨q1, q2⟩, ⟨q3, q4⟩, q5, q6⟩ := PC.out w6 E6.out; clear f6)
        | (go_at_call 126; have hc_ := N1.out w4; (with_reducible refine hc_.mono ?_); clear hc_; rintro e w5 ⟨rfl, f5⟩; have E5 := Lib.hid f5; obtain ⟨⟨q1, q2⟩, ⟨q3, q4⟩, q5, q6⟩ := PC.out w5 E5.out; clear f5))
      go_ret
      exact ⟨by rw [sg_sgn, HR.out]; rfl, F4.out.trans E7.out (fun _ h _ => h)⟩
    · obtain ⟨m1, m2, m3⟩ := BD.out rfl rfl
      obtain ⟨k1, k2, k3, k4⟩ := HW.out
      clear BD HW
      have hfd := field0
      go_enter Try.func95, Try.ntmps95
      go_wp2_with fail
      obtain ⟨w4, hw4, t1, t2, t3, f4⟩ := HQ.out
      rw [hw4]
      have T1 := Lib.hid t1
      have T2 := Lib.hid t2
      have T3 := Lib.hid t3
      have F4 := Lib.hid f4
      clear hw4 t1 t2 t3 f4 HQ
      have PC := Lib.hid (fun w (h : Fr (fun _ => False) w4 w) => And.intro (point_cells (ZFr.blk_fr T1.out h (fun h => h))) (And.intro (point_cells (ZFr.blk_fr T2.out h (fun h => h))) (point_cells (ZFr.blk_fr T3.out h (fun h => h)))))
      obtain ⟨⟨q1, q2⟩, ⟨q3, q4⟩, q5, q6⟩ := PC.out w4 (Fr.refl _ w4)
      go_wp2_with (first
        | (go_at_call 128; have hc_ := AR.out w6; (with_reducible refine hc_.mono ?_); clear hc_; rintro e w7 ⟨v7, rfl, hv7, f7⟩; obtain ⟨x7, rfl, g7⟩ := hv7; obtain ⟨A7, c7, rfl⟩ := g7.slice; clear g7; have E7 := Lib.hid (E6.out.trans f7 (fun _ h _ => h)); clear f7)
        | (go_at_call 128; have hc_ := AR.out w5; (with_reducible refine hc_.mono ?_); clear hc_; rintro e w7 ⟨v7, rfl, hv7, f7⟩; obtain ⟨x7, rfl, g7⟩ := hv7; obtain ⟨A7, c7, rfl⟩ := g7.slice; clear g7; have E7 := Lib.hid (E5.out.trans f7 (fun _ h _ => h)); clear f7)
        | (go_at_call 127; have hc_ := SG.out w6; (with_reducible refine hc_.mono ?_); clear hc_; rintro e w7 ⟨rfl, f7⟩; have E7 := Lib.hid (E6.out.trans f7 (fun _ h _ => h)); clear f7)
        | (go_at_call 126; have hc_ := N2.out w5; (with_reducible refine hc_.mono ?_); clear hc_; rintro e w6 ⟨rfl, f6⟩; have E6 := Lib.hid (E5.out.trans f6 (fun _ h _ => h)); obtain ⟨⟨q1, q2⟩, ⟨q3, q4⟩, q5, q6⟩ := PC.out w6 E6.out; clear f6)
        | (go_at_call 126; have hc_ := N1.out w4; (with_reducible refine hc_.mono ?_); clear hc_; rintro e w5 ⟨rfl, f5⟩; have E5 := Lib.hid f5; obtain ⟨⟨q1, q2⟩, ⟨q3, q4⟩, q5, q6⟩ := PC.out w5 E5.out; clear f5))
      go_ret
      exact ⟨rfl, F4.out.trans E7.out (fun _ h _ => h)⟩
theorem orr_c (a b c : Hf.P) (ha : Hf.can a) (hb : Hf.can b) (hc : Hf.can c) (W : World) : Calls Try.prog 95 #[pt a.1 a.2, pt b.1 b.2, pt c.1 c.2] W fun e w' => e = .returned (.int .i64 (sgn (Hf.ar a b c))) ∧ Fr (fun _ => False) W w' :=
  orr_walk a.1 a.2 b.1 b.2 c.1 c.2 _ _ _ _ _ _ _ W ⟨ha, hb, hc⟩ rfl rfl rfl rfl rfl rfl rfl
end Go.Proofs.Ytngmkjgklonfmaa.Wd

