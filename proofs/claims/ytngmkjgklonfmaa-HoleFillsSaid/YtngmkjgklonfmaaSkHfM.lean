/- What is used of HfM. -/
import Derived.Test.YtngmkjgklonfmaaSkHfK
import Derived.Test.YtngmkjgklonfmaaSkHfL
namespace Go.Proofs.Ytngmkjgklonfmaa.Wd
open Go.RowKit Go.Proofs.ZFr Go.Proofs.Ytngmkjgklonfmaa.PNearNearest Go.Proofs.Ytngmkjgklonfmaa.Big Go.Proofs.YtngmkjgklonfmaaW.PrintWords Go.Proofs.Ytngmkjgklonfmaa.Inv
set_option linter.unusedVariables false
attribute [local go_sem ↓] Go.wp_at_zero Go.wp_at_succ
theorem len_mul5 {p q : Int} (hp : (dg p.natAbs).length ≤ 5) (hq : (dg q.natAbs).length ≤ 5) : (dg (p * q).natAbs).length < 800 := by
  have := dg_mul hp hq; rw [Int.natAbs_mul]; omega
set_option maxRecDepth 100000 in
set_option maxHeartbeats 8000000 in
theorem area_walk (ax ay bx bY cx cy : Int) (h1 : i64P ax) (h2 : i64P ay) (h3 : i64P bx) (h4 : i64P bY) (h5 : i64P cx) (h6 : i64P cy) (S : Nat → Prop) (W : World) (hS : ∀ k, S k → k < W.heap.size) : Calls Try.prog 128 #[pt ax ay, pt bx bY, pt cx cy] W fun e w' => ∃ v, e = .returned v ∧ Whole w' S v (ac (bx - ax) (bY - ay) (cx - ax) (cy - ay)) ∧ Fr (fun _ => False) W w' := by
  have DP := Lib.hid (fun S w hS => diff_walk ax bx h1 h3 S w hS)
  have DQ := Lib.hid (fun S w hS => diff_walk ay cy h2 h6 S w hS)
  have DR := Lib.hid (fun S w hS => diff_walk ay bY h2 h4 S w hS)
  have DT := Lib.hid (fun S w hS => diff_walk ax cx h1 h5 S w hS)
  have l1 := len_diff h1 h3
  have l2 := len_diff h2 h6
  have l3 := len_diff h2 h4
  have l4 := len_diff h1 h5
  have HS := Lib.hid hS
  unfold ac pt
  clear h1 h2 h3 h4 h5 h6 hS
  generalize bx - ax = p at DP l1 ⊢
  generalize cy - ay = q at DQ l2 ⊢
  generalize bY - ay = r at DR l3 ⊢
  generalize cx - ax = t at DT l4 ⊢
  have LP := Lib.hid (show (dg p.natAbs).length < 800 from by omega)
  have LQ := Lib.hid (show (dg q.natAbs).length < 800 from by omega)
  have LR := Lib.hid (show (dg r.natAbs).length < 800 from by omega)
  have LT := Lib.hid (show (dg t.natAbs).length < 800 from by omega)
  have LM := Lib.hid (len_mul5 l1 l2)
  have LN := Lib.hid (len_mul5 l3 l4)
  clear l1 l2 l3 l4
  have HQ := Lib.hid (quad4 W (Obj.cells #[Value.int IntKind.i64 ax, Value.int IntKind.i64 ay] 24) (Obj.cells #[Value.int IntKind.i64 bx, Value.int IntKind.i64 bY] 24) (Obj.cells #[Value.int IntKind.i64 cx, Value.int IntKind.i64 cy] 24) (Obj.cells #[Value.int IntKind.i64 0, Value.slice none 0 0] 40))
  go_enter Try.func128, Try.ntmps128
  go_wp2_with fail
  obtain ⟨w4, hw4, t1, t2, t3, t4, f4⟩ := HQ.out
  rw [hw4]
  have T1 := Lib.hid t1
  have T2 := Lib.hid t2
  have T3 := Lib.hid t3
  have T4 := Lib.hid t4
  have F4 := Lib.hid f4
  clear hw4 t1 t2 t3 t4 f4 HQ
  have PC := Lib.hid (fun w (h : Fr (fun k => ∃ i c, (kl [.val (.pointer (some ⟨W.heap.size, 0, none⟩)), .val (.int .i64 ax), .val (.pointer (some ⟨W.heap.size + 1, 0, none⟩)), .val (.int .i64 bx), .who (p), .val (.pointer (some ⟨W.heap.size, 1, none⟩)), .val (.int .i64 ay), .val (.pointer (some ⟨W.heap.size + 1 + 1, 1, none⟩)), .val (.int .i64 cy), .who (q), .who (p * q), .val (.pointer (some ⟨W.heap.size, 1, none⟩)), .val (.int .i64 ay), .val (.pointer (some ⟨W.heap.size + 1, 1, none⟩)), .val (.int .i64 bY), .who (r), .val (.pointer (some ⟨W.heap.size, 0, none⟩)), .val (.int .i64 ax), .val (.pointer (some ⟨W.heap.size + 1 + 1, 0, none⟩)), .val (.int .i64 cx), .who (t), .who (r * t), .who (p * q - r * t), .puto (W.heap.size + 1 + 1 + 1) 22]) i = .puto k c) w4.drew w) => (show _ from by
    have h2 : Fr (fun k => k = (W.heap.size + 1 + 1 + 1)) w4 w := (Fr.refl (fun k => k = (W.heap.size + 1 + 1 + 1)) w4).drew.trans h (fun k h _ => by obtain ⟨i, c, e⟩ := h; exact List.mem_singleton.1 (kl_puto (ts := [(W.heap.size + 1 + 1 + 1)]) rfl e))
    exact And.intro (point_cells (ZFr.blk_fr T1.out h2 (by omega))) (And.intro (point_cells (ZFr.blk_fr T2.out h2 (by omega))) (point_cells (ZFr.blk_fr T3.out h2 (by omega))))))
  refine wp_region_inv (fun L a w => ∃ vs : Nat → Value, a = ({ tmps := #[.agg #[.int .i64 ax, .int .i64 ay], .agg #[.int .i64 bx, .int .i64 bY], .agg #[.int .i64 cx, .int .i64 cy], .pointer (some ⟨W.heap.size, 0, none⟩), .pointer (some ⟨W.heap.size + 1, 0, none⟩), .pointer (some ⟨W.heap.size + 1 + 1, 0, none⟩), .pointer (some ⟨W.heap.size + 1 + 1 + 1, 0, none⟩), vs 0, vs 1, vs 2, vs 3, vs 4, vs 5, vs 6, vs 7, vs 8, vs 9, vs 10, vs 11, vs 12, vs 13, vs 14, vs 15, vs 16, vs 17, vs 18, vs 19, vs 20, vs 21, vs 22], defers := [] } : Act) ∧ Bag (kl [.val (.pointer (some ⟨W.heap.size, 0, none⟩)), .val (.int .i64 ax), .val (.pointer (some ⟨W.heap.size + 1, 0, none⟩)), .val (.int .i64 bx), .who (p), .val (.pointer (some ⟨W.heap.size, 1, none⟩)), .val (.int .i64 ay), .val (.pointer (some ⟨W.heap.size + 1 + 1, 1, none⟩)), .val (.int .i64 cy), .who (q), .who (p * q), .val (.pointer (some ⟨W.heap.size, 1, none⟩)), .val (.int .i64 ay), .val (.pointer (some ⟨W.heap.size + 1, 1, none⟩)), .val (.int .i64 bY), .who (r), .val (.pointer (some ⟨W.heap.size, 0, none⟩)), .val (.int .i64 ax), .val (.pointer (some ⟨W.heap.size + 1 + 1, 0, none⟩)), .val (.int .i64 cx), .who (t), .who (r * t), .who (p * q - r * t), .puto (W.heap.size + 1 + 1 + 1) 22]) (fun j => ([[], [0], [], [2], [1, 3], [], [5], [], [7], [6, 8], [4, 9], [], [11], [], [13], [12, 14], [], [16], [], [18], [17, 19], [15, 20], [10, 21], [22]] : List (List Nat)).getD j []) (fun k => S k ∨ k = W.heap.size + 1 + 1 + 1) w4.drew L w vs) (by kernel_rfl) (by kernel_rfl) ?_ ?_ ?_
  rotate_left 1
  · intro L a w h hall
    obtain ⟨vs, rfl, b⟩ := h
    obtain ⟨_, s_, x_, e_, hb_⟩ := b.puto 23 _ 22 rfl (hall 23 (by decide))
    have W22 := b.who 22 _ rfl (hall 22 (by decide))
    rw [e_] at W22
    have FB := Lib.hid b.fr
    have WB := Lib.hid (W22.mono (T := S) (fun k h => .inl (.inl h)))
    have HB := Lib.hid hb_
    clear W22 hb_ hall e_ b
    go_wp2_with fail
    refine bodyPost_ret (results_cell_row rfl _ _ (W.heap.size + 1 + 1 + 1) 40 #[.int .i64 s_, x_] (0, 0) _ rfl HB.out Try.underlying40 rfl (by kernel_rfl)) rfl ?_
    exact ⟨_, rfl, WB.out, F4.out.trans ((Fr.refl (fun k => k = W.heap.size + 1 + 1 + 1) w4).drew.trans FB.out (fun k h _ => by obtain ⟨i, c, e⟩ := h; exact List.mem_singleton.1 (kl_puto (ts := [W.heap.size + 1 + 1 + 1]) rfl e))) (fun k h hlt => by subst h; omega)⟩
  · exact ⟨fun j => ([undef, undef, undef, undef, undef, undef, undef, undef, undef, undef, undef, undef, undef, undef, undef, undef, undef, undef, undef, undef, undef, undef, undef, undef] : List Value).getD j undef, rfl, Bag.start (fun k h => by rcases h with h | h; exact Nat.lt_of_lt_of_le (HS.out k h) F4.out.size; subst h; exact ZFr.blk_lt T4.out) (fun i g c e => .inr (List.mem_singleton.1 (kl_puto (ts := [W.heap.size + 1 + 1 + 1]) rfl e))) (put_ok (by kernel_rfl)).1 (put_ok (by kernel_rfl)).2⟩
  refine Each.cons ?_ ?_
  · intro L a w h hi hno hn K hK; obtain ⟨vs, rfl, b⟩ := h
    go_simp
    exact hK.out _ _ ⟨_, rfl, b.quiet hi hno (List.forall_mem_nil _) (Fr.refl _ _) rfl⟩
  refine Each.cons ?_ ?_
  · intro L a w h hi hno hn K hK; obtain ⟨vs, rfl, b⟩ := h
    have e0 := b.val 0 _ rfl (hn 0 (by decide))
    obtain ⟨⟨p1, p2⟩, ⟨p3, p4⟩, p5, p6⟩ := PC.out w b.fr
    go_simp
    exact hK.out _ _ ⟨_, rfl, Bag.same (j := 0) (b.quiet hi hno (List.forall_mem_cons.2 ⟨hn 0 (by decide), (List.forall_mem_nil _)⟩) (Fr.refl _ _) rfl) e0⟩
  refine Each.cons ?_ ?_
  · intro L a w h hi hno hn K hK; obtain ⟨vs, rfl, b⟩ := h
    go_simp
    exact hK.out _ _ ⟨_, rfl, b.quiet hi hno (List.forall_mem_nil _) (Fr.refl _ _) rfl⟩
  refine Each.cons ?_ ?_
  · intro L a w h hi hno hn K hK; obtain ⟨vs, rfl, b⟩ := h
    have e2 := b.val 2 _ rfl (hn 2 (by decide))
    obtain ⟨⟨p1, p2⟩, ⟨p3, p4⟩, p5, p6⟩ := PC.out w b.fr
    go_simp
    exact hK.out _ _ ⟨_, rfl, Bag.same (j := 2) (b.quiet hi hno (List.forall_mem_cons.2 ⟨hn 2 (by decide), (List.forall_mem_nil _)⟩) (Fr.refl _ _) rfl) e2⟩
  refine Each.cons ?_ ?_
  · intro L a w h hi hno hn K hK; obtain ⟨vs, rfl, b⟩ := h
    have e1 := b.val 1 _ rfl (hn 1 (by decide))
    have e3 := b.val 3 _ rfl (hn 3 (by decide))
    go_simp
    go_at_call 68
    (with_reducible refine (DP.out _ w b.slt).mono ?_)
    rintro e w9 ⟨v9_, rfl, hv_, f9⟩
    exact hK.out _ _ ⟨_, rfl, Bag.same (j := 3) (Bag.same (j := 1) (b.quiet hi hno (List.forall_mem_cons.2 ⟨hn 1 (by decide), (List.forall_mem_cons.2 ⟨hn 3 (by decide), (List.forall_mem_nil _)⟩)⟩) f9 hv_) e1) e3⟩
  refine Each.cons ?_ ?_
  · intro L a w h hi hno hn K hK; obtain ⟨vs, rfl, b⟩ := h
    go_simp
    exact hK.out _ _ ⟨_, rfl, b.quiet hi hno (List.forall_mem_nil _) (Fr.refl _ _) rfl⟩
  refine Each.cons ?_ ?_
  · intro L a w h hi hno hn K hK; obtain ⟨vs, rfl, b⟩ := h
    have e5 := b.val 5 _ rfl (hn 5 (by decide))
    obtain ⟨⟨p1, p2⟩, ⟨p3, p4⟩, p5, p6⟩ := PC.out w b.fr
    go_simp
    exact hK.out _ _ ⟨_, rfl, Bag.same (j := 5) (b.quiet hi hno (List.forall_mem_cons.2 ⟨hn 5 (by decide), (List.forall_mem_nil _)⟩) (Fr.refl _ _) rfl) e5⟩
  refine Each.cons ?_ ?_
  · intro L a w h hi hno hn K hK; obtain ⟨vs, rfl, b⟩ := h
    go_simp
    exact hK.out _ _ ⟨_, rfl, b.quiet hi hno (List.forall_mem_nil _) (Fr.refl _ _) rfl⟩
  refine Each.cons ?_ ?_
  · intro L a w h hi hno hn K hK; obtain ⟨vs, rfl, b⟩ := h
    have e7 := b.val 7 _ rfl (hn 7 (by decide))
    obtain ⟨⟨p1, p2⟩, ⟨p3, p4⟩, p5, p6⟩ := PC.out w b.fr
    go_simp
    exact hK.out _ _ ⟨_, rfl, Bag.same (j := 7) (b.quiet hi hno (List.forall_mem_cons.2 ⟨hn 7 (by decide), (List.forall_mem_nil _)⟩) (Fr.refl _ _) rfl) e7⟩
  refine Each.cons ?_ ?_
  · intro L a w h hi hno hn K hK; obtain ⟨vs, rfl, b⟩ := h
    have e6 := b.val 6 _ rfl (hn 6 (by decide))
    have e8 := b.val 8 _ rfl (hn 8 (by decide))
    go_simp
    go_at_call 68
    (with_reducible refine (DQ.out _ w b.slt).mono ?_)
    rintro e w9 ⟨v9_, rfl, hv_, f9⟩
    exact hK.out _ _ ⟨_, rfl, Bag.same (j := 8) (Bag.same (j := 6) (b.quiet hi hno (List.forall_mem_cons.2 ⟨hn 6 (by decide), (List.forall_mem_cons.2 ⟨hn 8 (by decide), (List.forall_mem_nil _)⟩)⟩) f9 hv_) e6) e8⟩
  refine Each.cons ?_ ?_
  · intro L a w h hi hno hn K hK; obtain ⟨vs, rfl, b⟩ := h
    have W4 := b.who 4 _ rfl (hn 4 (by decide))
    have W9 := b.who 9 _ rfl (hn 9 (by decide))
    go_simp
    go_at_call 69
    (with_reducible refine (Big.mul_walk p q _ _ _ w b.slt W4 W9 LP.out LQ.out).mono ?_)
    rintro e w9 ⟨v9_, rfl, hv_, f9⟩
    exact hK.out _ _ ⟨_, rfl, b.quiet hi hno (List.forall_mem_cons.2 ⟨hn 4 (by decide), (List.forall_mem_cons.2 ⟨hn 9 (by decide), (List.forall_mem_nil _)⟩)⟩) f9 hv_⟩
  refine Each.cons ?_ ?_
  · intro L a w h hi hno hn K hK; obtain ⟨vs, rfl, b⟩ := h
    go_simp
    exact hK.out _ _ ⟨_, rfl, b.quiet hi hno (List.forall_mem_nil _) (Fr.refl _ _) rfl⟩
  refine Each.cons ?_ ?_
  · intro L a w h hi hno hn K hK; obtain ⟨vs, rfl, b⟩ := h
    have e11 := b.val 11 _ rfl (hn 11 (by decide))
    obtain ⟨⟨p1, p2⟩, ⟨p3, p4⟩, p5, p6⟩ := PC.out w b.fr
    go_simp
    exact hK.out _ _ ⟨_, rfl, Bag.same (j := 11) (b.quiet hi hno (List.forall_mem_cons.2 ⟨hn 11 (by decide), (List.forall_mem_nil _)⟩) (Fr.refl _ _) rfl) e11⟩
  refine Each.cons ?_ ?_
  · intro L a w h hi hno hn K hK; obtain ⟨vs, rfl, b⟩ := h
    go_simp
    exact hK.out _ _ ⟨_, rfl, b.quiet hi hno (List.forall_mem_nil _) (Fr.refl _ _) rfl⟩
  refine Each.cons ?_ ?_
  · intro L a w h hi hno hn K hK; obtain ⟨vs, rfl, b⟩ := h
    have e13 := b.val 13 _ rfl (hn 13 (by decide))
    obtain ⟨⟨p1, p2⟩, ⟨p3, p4⟩, p5, p6⟩ := PC.out w b.fr
    go_simp
    exact hK.out _ _ ⟨_, rfl, Bag.same (j := 13) (b.quiet hi hno (List.forall_mem_cons.2 ⟨hn 13 (by decide), (List.forall_mem_nil _)⟩) (Fr.refl _ _) rfl) e13⟩
  refine Each.cons ?_ ?_
  · intro L a w h hi hno hn K hK; obtain ⟨vs, rfl, b⟩ := h
    have e12 := b.val 12 _ rfl (hn 12 (by decide))
    have e14 := b.val 14 _ rfl (hn 14 (by decide))
    go_simp
    go_at_call 68
    (with_reducible refine (DR.out _ w b.slt).mono ?_)
    rintro e w9 ⟨v9_, rfl, hv_, f9⟩
    exact hK.out _ _ ⟨_, rfl, Bag.same (j := 14) (Bag.same (j := 12) (b.quiet hi hno (List.forall_mem_cons.2 ⟨hn 12 (by decide), (List.forall_mem_cons.2 ⟨hn 14 (by decide), (List.forall_mem_nil _)⟩)⟩) f9 hv_) e12) e14⟩
  refine Each.cons ?_ ?_
  · intro L a w h hi hno hn K hK; obtain ⟨vs, rfl, b⟩ := h
    go_simp
    exact hK.out _ _ ⟨_, rfl, b.quiet hi hno (List.forall_mem_nil _) (Fr.refl _ _) rfl⟩
  refine Each.cons ?_ ?_
  · intro L a w h hi hno hn K hK; obtain ⟨vs, rfl, b⟩ := h
    have e16 := b.val 16 _ rfl (hn 16 (by decide))
    obtain ⟨⟨p1, p2⟩, ⟨p3, p4⟩, p5, p6⟩ := PC.out w b.fr
    go_simp
    exact hK.out _ _ ⟨_, rfl, Bag.same (j := 16) (b.quiet hi hno (List.forall_mem_cons.2 ⟨hn 16 (by decide), (List.forall_mem_nil _)⟩) (Fr.refl _ _) rfl) e16⟩
  refine Each.cons ?_ ?_
  · intro L a w h hi hno hn K hK; obtain ⟨vs, rfl, b⟩ := h
    go_simp
    exact hK.out _ _ ⟨_, rfl, b.quiet hi hno (List.forall_mem_nil _) (Fr.refl _ _) rfl⟩
  refine Each.cons ?_ ?_
  · intro L a w h hi hno hn K hK; obtain ⟨vs, rfl, b⟩ := h
    have e18 := b.val 18 _ rfl (hn 18 (by decide))
    obtain ⟨⟨p1, p2⟩, ⟨p3, p4⟩, p5, p6⟩ := PC.out w b.fr
    go_simp
    exact hK.out _ _ ⟨_, rfl, Bag.same (j := 18) (b.quiet hi hno (List.forall_mem_cons.2 ⟨hn 18 (by decide), (List.forall_mem_nil _)⟩) (Fr.refl _ _) rfl) e18⟩
  refine Each.cons ?_ ?_
  · intro L a w h hi hno hn K hK; obtain ⟨vs, rfl, b⟩ := h
    have e17 := b.val 17 _ rfl (hn 17 (by decide))
    have e19 := b.val 19 _ rfl (hn 19 (by decide))
    go_simp
    go_at_call 68
    (with_reducible refine (DT.out _ w b.slt).mono ?_)
    rintro e w9 ⟨v9_, rfl, hv_, f9⟩
    exact hK.out _ _ ⟨_, rfl, Bag.same (j := 19) (Bag.same (j := 17) (b.quiet hi hno (List.forall_mem_cons.2 ⟨hn 17 (by decide), (List.forall_mem_cons.2 ⟨hn 19 (by decide), (List.forall_mem_nil _)⟩)⟩) f9 hv_) e17) e19⟩
  refine Each.cons ?_ ?_
  · intro L a w h hi hno hn K hK; obtain ⟨vs, rfl, b⟩ := h
    have W15 := b.who 15 _ rfl (hn 15 (by decide))
    have W20 := b.who 20 _ rfl (hn 20 (by decide))
    go_simp
    go_at_call 69
    (with_reducible refine (Big.mul_walk r t _ _ _ w b.slt W15 W20 LR.out LT.out).mono ?_)
    rintro e w9 ⟨v9_, rfl, hv_, f9⟩
    exact hK.out _ _ ⟨_, rfl, b.quiet hi hno (List.forall_mem_cons.2 ⟨hn 15 (by decide), (List.forall_mem_cons.2 ⟨hn 20 (by decide), (List.forall_mem_nil _)⟩)⟩) f9 hv_⟩
  refine Each.cons ?_ ?_
  · intro L a w h hi hno hn K hK; obtain ⟨vs, rfl, b⟩ := h
    have W10 := b.who 10 _ rfl (hn 10 (by decide))
    have W21 := b.who 21 _ rfl (hn 21 (by decide))
    go_simp
    go_at_call 34
    (with_reducible refine (Big.sub_walk (p * q) (r * t) _ _ _ w b.slt W10 W21 LM.out LN.out).mono ?_)
    rintro e w9 ⟨v9_, rfl, hv_, f9⟩
    exact hK.out _ _ ⟨_, rfl, b.quiet hi hno (List.forall_mem_cons.2 ⟨hn 10 (by decide), (List.forall_mem_cons.2 ⟨hn 21 (by decide), (List.forall_mem_nil _)⟩)⟩) f9 hv_⟩
  refine Each.cons ?_ ?_
  · intro L a w h hi hno hn K hK; obtain ⟨vs, rfl, b⟩ := h
    obtain ⟨x22, e22, w22⟩ := b.who 22 _ rfl (hn 22 (by decide))
    obtain ⟨A22, c22, rfl⟩ := w22.slice
    have hz : w.heap[W.heap.size + 1 + 1 + 1]? = some (.cells #[.int .i64 0, .slice none 0 0] 40 (0, 0)) := by rw [b.pre 23 _ _ rfl hno]; exact T4.out
    have z0 := ZFr.blk_cell hz 0
    have z1 := ZFr.blk_cell hz 1
    have z2 := ZFr.blk_free hz 0
    have z3 := ZFr.blk_free hz 1
    go_simp
    exact hK.out _ _ ⟨_, rfl, Bag.same (j := 22) (b.store (v := undef) hi hno (List.forall_mem_cons.2 ⟨hn 22 (by decide), (List.forall_mem_nil _)⟩) (.inr ⟨rfl, fun i' c' e => List.mem_singleton.1 (kl_one (is := [23]) (by kernel_rfl) e), 0, .slice none 0 0, T4.out⟩) (hn 22 (by decide)) e22) e22⟩
  exact trivial
end Go.Proofs.Ytngmkjgklonfmaa.Wd

