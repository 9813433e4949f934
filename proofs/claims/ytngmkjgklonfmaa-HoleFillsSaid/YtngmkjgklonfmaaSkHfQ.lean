/- What is used of HfQ. -/
import Derived.Test.YtngmkjgklonfmaaSkHfO
namespace Go.Proofs.Ytngmkjgklonfmaa.Inv
open Go.RowKit Go.Proofs.ZFr Go.Proofs.Ytngmkjgklonfmaa.Big
variable {kd : Nat → Kd} {deps : Nat → List Nat} {So : Nat → Prop} {w0 w w' : World} {L : Array Bool} {l : Nat → Value} {i : Nat} {v : Value}
/-- A whole number that was there ahead of the region. -/
theorem Bag.keep (b : Bag kd deps So w0 L w l) {n : Int} (h : Whole w0 So v n) : Whole w (wset kd So L l) v n := by
  obtain ⟨s, e, hd⟩ := h
  have h1 := hd.up (w' := w) (Fr.refl (fun _ => False) w0)
  refine ⟨s, e, (h1.fr b.fr (fun k hk => ?_)).mono (fun k hk => ?_)⟩
  · obtain ⟨i, c, e⟩ := hk
    exact .inl (b.so i k c e).1
  · rcases hk with hk | ⟨j, h1, h2, h3⟩
    · exact .inl hk
    · obtain ⟨g, s', x, h4, h5, h6⟩ := b.cel j h1 h2
      rw [h3] at h4
      have : k = g := by simpa [ptr] using h4
      subst this
      exact .inr ⟨h5, ZFr.blk_lt h6⟩
theorem Bag.only (_ : Bag kd deps So w0 L w l) {j g : Nat} (h1 : kd j = .cel) (h2 : On L j) (h3 : l j = ptr g) : ∀ k, k = g → wset kd So L l k := fun k hk => by subst hk; exact .inr ⟨j, h1, h2, h3⟩
theorem Bag.outer (_ : Bag kd deps So w0 L w l) {g : Nat} (h : So g) : ∀ k, k = g → wset kd So L l k := fun k hk => by subst hk; exact .inl h
end Go.Proofs.Ytngmkjgklonfmaa.Inv
namespace Go.Proofs.Ytngmkjgklonfmaa.Wd
open Go.RowKit Go.Proofs.ZFr Go.Proofs.Ytngmkjgklonfmaa.PNearNearest Go.Proofs.Ytngmkjgklonfmaa.Big Go.Proofs.YtngmkjgklonfmaaW.PrintWords Go.Proofs.Ytngmkjgklonfmaa.Inv
set_option linter.unusedVariables false
set_option linter.unusedSimpArgs false
attribute [local go_sem ↓] Go.wp_at_zero Go.wp_at_succ
theorem d2_sq (x y x' y' : Int) : d2 x y x' y' = sq2 (x - x') (y - y') := by unfold d2 sq2; grind
theorem whole_cells' {w : World} {b : Nat} {s : Int} {x : Value} (h : w.heap[b]? = some (.cells #[.int .i64 s, x] 40 (0, 0))) : w.cell? ⟨b, 0, none⟩ = some (.int .i64 s) ∧ w.cell? ⟨b, 1, none⟩ = some x := ⟨ZFr.blk_cell h 0, ZFr.blk_cell h 1⟩
set_option maxRecDepth 100000 in
set_option maxHeartbeats 8000000 in
theorem inr_walk (ax ay bx bY cx cy dx dy x1 x2 y1 y2 z1 z2 R : Int) (n1 n2 n3 : Bool) (W : World) (h : ((inP ax ∧ inP ay) ∧ (inP bx ∧ inP bY) ∧ (inP cx ∧ inP cy) ∧ inP dx ∧ inP dy)) (hx1 : ax - dx = x1) (hx2 : ay - dy = x2) (hy1 : bx - dx = y1) (hy2 : bY - dy = y2) (hz1 : cx - dx = z1) (hz2 : cy - dy = z2) (hR : sgn (icv x1 x2 y1 y2 z1 z2) = R)
    (hn1 : nearB (dx - ax) (dy - ay) = n1) (hn2 : nearB (dx - bx) (dy - bY) = n2) (hn3 : nearB (dx - cx) (dy - cy) = n3) :
    Calls Try.prog 97 #[pt ax ay, pt bx bY, pt cx cy, pt dx dy] W fun e w' => e = .returned (.int .i64 R) ∧ Fr (fun _ => False) W w' := by
  obtain ⟨⟨h1, h2⟩, ⟨h3, h4⟩, ⟨h5, h6⟩, h7, h8⟩ := h
  have i64 : ∀ {n : Int}, inP n → i64P n := fun h => by unfold inP at h; exact ⟨by omega, by omega⟩
  have N1 := Lib.hid (fun w => near_walk ax ay dx dy (dx - ax) (dy - ay) (wr (by unfold inP at *; omega) (by unfold inP at *; omega)) (wr (by unfold inP at *; omega) (by unfold inP at *; omega)) w)
  have N2 := Lib.hid (fun w => near_walk bx bY dx dy (dx - bx) (dy - bY) (wr (by unfold inP at *; omega) (by unfold inP at *; omega)) (wr (by unfold inP at *; omega) (by unfold inP at *; omega)) w)
  have N3 := Lib.hid (fun w => near_walk cx cy dx dy (dx - cx) (dy - cy) (wr (by unfold inP at *; omega) (by unfold inP at *; omega)) (wr (by unfold inP at *; omega) (by unfold inP at *; omega)) w)
  rw [hn1] at N1
  rw [hn2] at N2
  rw [hn3] at N3
  have FL := Lib.hid (fun (e1 : n1 = true) (e2 : n2 = true) (e3 : n3 = true) w => (show Calls Try.prog 129 #[pt ax ay, pt bx bY, pt cx cy, pt dx dy] w (fun e w' => e = .returned (.int .i64 R) ∧ Fr (fun _ => False) w w') from by
    have b1 := nearB_bd (hn1.trans e1)
    have b2 := nearB_bd (hn2.trans e2)
    have b3 := nearB_bd (hn3.trans e3)
    have h := flat_walk ax ay bx bY cx cy dx dy x1 x2 y1 y2 z1 z2 (by rw [← hx1]; exact wr (by omega) (by omega)) (by rw [← hx2]; exact wr (by omega) (by omega)) (by rw [← hy1]; exact wr (by omega) (by omega)) (by rw [← hy2]; exact wr (by omega) (by omega)) (by rw [← hz1]; exact wr (by omega) (by omega)) (by rw [← hz2]; exact wr (by omega) (by omega)) ⟨⟨by omega, by omega⟩, ⟨by omega, by omega⟩, ⟨by omega, by omega⟩, ⟨by omega, by omega⟩, ⟨by omega, by omega⟩, ⟨by omega, by omega⟩⟩ w
    rw [fl3_icv, hR] at h
    exact h))
  have LN := Lib.hid (lens (hx1 ▸ df_bw h7 h1) (hx2 ▸ df_bw h8 h2) (hy1 ▸ df_bw h7 h3) (hy2 ▸ df_bw h8 h4) (hz1 ▸ df_bw h7 h5) (hz2 ▸ df_bw h8 h6))
  have D0 := Lib.hid (fun S w hS => diff_walk dx ax (i64 h7) (i64 h1) S w hS)
  have D1 := Lib.hid (fun S w hS => diff_walk dy ay (i64 h8) (i64 h2) S w hS)
  have D2 := Lib.hid (fun S w hS => diff_walk dx bx (i64 h7) (i64 h3) S w hS)
  have D3 := Lib.hid (fun S w hS => diff_walk dy bY (i64 h8) (i64 h4) S w hS)
  have D4 := Lib.hid (fun S w hS => diff_walk dx cx (i64 h7) (i64 h5) S w hS)
  have D5 := Lib.hid (fun S w hS => diff_walk dy cy (i64 h8) (i64 h6) S w hS)
  have DA := Lib.hid (fun S w hS => dist_c ax ay dx dy (i64 h1) (i64 h2) (i64 h7) (i64 h8) S w hS)
  have DB := Lib.hid (fun S w hS => dist_c bx bY dx dy (i64 h3) (i64 h4) (i64 h7) (i64 h8) S w hS)
  have DC := Lib.hid (fun S w hS => dist_c cx cy dx dy (i64 h5) (i64 h6) (i64 h7) (i64 h8) S w hS)
  rw [d2_sq, hx1, hx2] at DA
  rw [d2_sq, hy1, hy2] at DB
  rw [d2_sq, hz1, hz2] at DC
  rw [hx1] at D0
  rw [hx2] at D1
  rw [hy1] at D2
  rw [hy2] at D3
  rw [hz1] at D4
  rw [hz2] at D5
  rw [icv_m] at hR
  have HR := Lib.hid hR
  clear h1 h2 h3 h4 h5 h6 h7 h8 hx1 hx2 hy1 hy2 hz1 hz2 hn1 hn2 hn3 hR i64
  have L0 := Lib.hid LN.out.lx1
  have L1 := Lib.hid LN.out.lx2
  have L2 := Lib.hid LN.out.ly1
  have L3 := Lib.hid LN.out.ly2
  have L4 := Lib.hid LN.out.lz1
  have L5 := Lib.hid LN.out.lz2
  have LA0 := Lib.hid LN.out.la0
  have LA1 := Lib.hid LN.out.la1
  have LB0 := Lib.hid LN.out.lb0
  have LB1 := Lib.hid LN.out.lb1
  have LC0 := Lib.hid LN.out.lc0
  have LC1 := Lib.hid LN.out.lc1
  have LS0 := Lib.hid LN.out.ls0
  have LS1 := Lib.hid LN.out.ls1
  have LS2 := Lib.hid LN.out.ls2
  have LM0 := Lib.hid LN.out.lm0
  have LM1 := Lib.hid LN.out.lm1
  have LM2 := Lib.hid LN.out.lm2
  have LT0 := Lib.hid LN.out.lt0
  have LT1 := Lib.hid LN.out.lt1
  have LT2 := Lib.hid (Nat.lt_trans LN.out.lt2 (by decide : 800 < 900))
  have LT := Lib.hid (Nat.lt_trans LN.out.lt01 (by decide : 800 < 900))
  clear LN
  generalize sq2 x1 x2 = s0 at *
  generalize sq2 y1 y2 = s1 at *
  generalize sq2 z1 z2 = s2 at *
  unfold pt at N1 N2 N3 FL ⊢
  have HQ := Lib.hid (quad4 W (pb ax ay) (pb bx bY) (pb cx cy) (pb dx dy))
  unfold pb at HQ
  have hfd := field0
  go_enter Try.func97, Try.ntmps97
  go_upto_region 1 with fail
  obtain ⟨w4, hw4, t1, t2, t3, t4, f4⟩ := HQ.out
  rw [hw4]
  have T1 := Lib.hid t1
  have T2 := Lib.hid t2
  have T3 := Lib.hid t3
  have T4 := Lib.hid t4
  have F4 := Lib.hid f4
  clear hw4 t1 t2 t3 t4 f4 HQ
  have PC := Lib.hid (fun w (h : Fr (fun _ => False) w4 w) => And.intro (point_cells (ZFr.blk_fr T1.out h (fun h => h))) (And.intro (point_cells (ZFr.blk_fr T2.out h (fun h => h))) (And.intro (point_cells (ZFr.blk_fr T3.out h (fun h => h))) (point_cells (ZFr.blk_fr T4.out h (fun h => h))))))
  generalize W.heap.size = g0 at T1 T2 T3 T4 PC ⊢
  obtain ⟨⟨p1, p2⟩, ⟨p3, p4⟩, ⟨p5, p6⟩, p7, p8⟩ := PC.out w4 (Fr.refl _ w4)
  go_cut [28] (fun s28 wx => s28 = .bool (n1 && n2 && n3) ∧ Fr (fun _ => False) w4 wx)
  case first =>
    cases n1 <;> cases n2 <;> cases n3
    all_goals
      go_upto_region 2 with (first
        | (go_at_call 126; have hc_ := N3.out w6; (with_reducible refine hc_.mono ?_); clear hc_; rintro e w7 ⟨rfl, f7⟩; have E7 := Lib.hid (E6.out.trans f7 (fun _ h _ => h)); clear f7)
        | (go_at_call 126; have hc_ := N2.out w5; (with_reducible refine hc_.mono ?_); clear hc_; rintro e w6 ⟨rfl, f6⟩; have E6 := Lib.hid (E5.out.trans f6 (fun _ h _ => h)); obtain ⟨⟨q1, q2⟩, ⟨q3, q4⟩, ⟨q5, q6⟩, q7, q8⟩ := PC.out w6 E6.out; clear f6)
        | (go_at_call 126; have hc_ := N1.out w4; (with_reducible refine hc_.mono ?_); clear hc_; rintro e w5 ⟨rfl, f5⟩; have E5 := Lib.hid f5; obtain ⟨⟨q1, q2⟩, ⟨q3, q4⟩, ⟨q5, q6⟩, q7, q8⟩ := PC.out w5 E5.out; clear f5))
      all_goals
        go_meet
        first
          | exact ⟨rfl, E7.out⟩
          | exact ⟨rfl, E6.out⟩
          | exact ⟨rfl, E5.out⟩
  case rest =>
    obtain ⟨rfl, hf5⟩ := hcut
    have F5 := Lib.hid hf5
    clear hf5 p1 p2 p3 p4 p5 p6 p7 p8
    cases hnn : (n1 && n2 && n3)
    · clear N1 N2 N3 FL hnn
      go_upto_region 3 with fail
      refine wp_region_inv (fun L a w => ∃ vs : Nat → Value, a = ({ tmps := #[.agg #[.int .i64 ax, .int .i64 ay], .agg #[.int .i64 bx, .int .i64 bY], .agg #[.int .i64 cx, .int .i64 cy], .agg #[.int .i64 dx, .int .i64 dy], .pointer (some ⟨g0, 0, none⟩), .pointer (some ⟨g0 + 1, 0, none⟩), .pointer (some ⟨g0 + 1 + 1, 0, none⟩), .pointer (some ⟨g0 + 1 + 1 + 1, 0, none⟩), .int .i64 0, vs 30, vs 31, vs 32, vs 33, vs 34, vs 35, undef, u16, u17, u18, u19, u20, u21, u22, u23, u24, u25, u26, u27, .bool false, u29, u30, u31, u32, u33, vs 0, vs 1, vs 2, vs 3, vs 4, vs 5, vs 6, vs 7, vs 8, vs 9, vs 10, vs 11, vs 12, vs 13, vs 14, vs 15, vs 16, vs 17, vs 18, vs 19, vs 20, vs 21, vs 22, vs 23, vs 24, vs 25, vs 26, vs 27, vs 28, vs 29, u64, u65, u66, u67, u68, u69, u70, u71, u72, u73, u74, u75, u76, u77, u78, u79, u80, u81, u82, u83, u84, u85, u86, u87, u88, u89, u90, u91, u92, u93, u94, u95, u96, u97, u98, u99, u100, u101, u102], defers := [] } : Act) ∧ Bag (kl [.val (.pointer (some ⟨g0 + 1 + 1 + 1, 0, none⟩)), .val (.int .i64 dx), .val (.pointer (some ⟨g0, 0, none⟩)), .val (.int .i64 ax), .who (x1), .val (.pointer (some ⟨g0 + 1 + 1 + 1, 1, none⟩)), .val (.int .i64 dy), .val (.pointer (some ⟨g0, 1, none⟩)), .val (.int .i64 ay), .who (x2), .val (.pointer (some ⟨g0 + 1 + 1 + 1, 0, none⟩)), .val (.int .i64 dx), .val (.pointer (some ⟨g0 + 1, 0, none⟩)), .val (.int .i64 bx), .who (y1), .val (.pointer (some ⟨g0 + 1 + 1 + 1, 1, none⟩)), .val (.int .i64 dy), .val (.pointer (some ⟨g0 + 1, 1, none⟩)), .val (.int .i64 bY), .who (y2), .val (.pointer (some ⟨g0 + 1 + 1 + 1, 0, none⟩)), .val (.int .i64 dx), .val (.pointer (some ⟨g0 + 1 + 1, 0, none⟩)), .val (.int .i64 cx), .who (z1), .val (.pointer (some ⟨g0 + 1 + 1 + 1, 1, none⟩)), .val (.int .i64 dy), .val (.pointer (some ⟨g0 + 1 + 1, 1, none⟩)), .val (.int .i64 cy), .who (z2), .cel, .cel, .cel, .cel, .cel, .cel, .put 30 4, .put 31 9, .put 32 14, .put 33 19, .put 34 24, .put 35 29]) (fun j => ([[], [0], [], [2], [1, 3], [], [5], [], [7], [6, 8], [], [10], [], [12], [11, 13], [], [15], [], [17], [16, 18], [], [20], [], [22], [21, 23], [], [25], [], [27], [26, 28], [], [], [], [], [], [], [30, 4], [31, 9], [32, 14], [33, 19], [34, 24], [35, 29]] : List (List Nat)).getD j []) (fun _ => False) wc.drew L w vs) (by kernel_rfl) (by kernel_rfl) ?_ ?_ ?_
      rotate_left 1
      · intro L a w h hall
        obtain ⟨vs, rfl, b⟩ := h
        obtain ⟨w5, rfl⟩ : ∃ x, x = w := ⟨w, rfl⟩
        have F6 := Lib.hid (F5.out.trans ((Fr.refl (fun _ => False) _).drew.trans b.fr (fun k h _ => by obtain ⟨i, c, e⟩ := h; cases (kl_puto (ts := []) rfl e))) (fun _ h _ => h))
        obtain ⟨_, _, h0, s_0, y_0, e_0, ec_0, hb_0⟩ := b.put 36 30 4 rfl (hall 36 (by decide))
        have W_0 := Inv.Whole.mono (T := fun _ => False) (b.who 4 _ rfl (hall 4 (by decide))) (fun _ h => h.elim)
        obtain ⟨_, _, h1, s_1, y_1, e_1, ec_1, hb_1⟩ := b.put 37 31 9 rfl (hall 37 (by decide))
        have W_1 := Inv.Whole.mono (T := fun _ => False) (b.who 9 _ rfl (hall 9 (by decide))) (fun _ h => h.elim)
        obtain ⟨_, _, h2, s_2, y_2, e_2, ec_2, hb_2⟩ := b.put 38 32 14 rfl (hall 38 (by decide))
        have W_2 := Inv.Whole.mono (T := fun _ => False) (b.who 14 _ rfl (hall 14 (by decide))) (fun _ h => h.elim)
        obtain ⟨_, _, h3, s_3, y_3, e_3, ec_3, hb_3⟩ := b.put 39 33 19 rfl (hall 39 (by decide))
        have W_3 := Inv.Whole.mono (T := fun _ => False) (b.who 19 _ rfl (hall 19 (by decide))) (fun _ h => h.elim)
        obtain ⟨_, _, h4, s_4, y_4, e_4, ec_4, hb_4⟩ := b.put 40 34 24 rfl (hall 40 (by decide))
        have W_4 := Inv.Whole.mono (T := fun _ => False) (b.who 24 _ rfl (hall 24 (by decide))) (fun _ h => h.elim)
        obtain ⟨_, _, h5, s_5, y_5, e_5, ec_5, hb_5⟩ := b.put 41 35 29 rfl (hall 41 (by decide))
        have W_5 := Inv.Whole.mono (T := fun _ => False) (b.who 29 _ rfl (hall 29 (by decide))) (fun _ h => h.elim)
        clear b hall
        replace e_0 : vs 30 = .pointer (some ⟨h0, 0, none⟩) := e_0
        rw [e_0]
        rw [ec_0] at W_0
        obtain ⟨yy_0, he_0, hd_0⟩ := W_0
        cases he_0
        obtain ⟨A0, c0, rfl⟩ := hd_0.slice
        have B0 := Lib.hid hb_0
        have H0 := Lib.hid (Whole.mk hd_0)
        clear hb_0 hd_0 e_0 ec_0
        replace e_1 : vs 31 = .pointer (some ⟨h1, 0, none⟩) := e_1
        rw [e_1]
        rw [ec_1] at W_1
        obtain ⟨yy_1, he_1, hd_1⟩ := W_1
        cases he_1
        obtain ⟨A1, c1, rfl⟩ := hd_1.slice
        have B1 := Lib.hid hb_1
        have H1 := Lib.hid (Whole.mk hd_1)
        clear hb_1 hd_1 e_1 ec_1
        replace e_2 : vs 32 = .pointer (some ⟨h2, 0, none⟩) := e_2
        rw [e_2]
        rw [ec_2] at W_2
        obtain ⟨yy_2, he_2, hd_2⟩ := W_2
        cases he_2
        obtain ⟨A2, c2, rfl⟩ := hd_2.slice
        have B2 := Lib.hid hb_2
        have H2 := Lib.hid (Whole.mk hd_2)
        clear hb_2 hd_2 e_2 ec_2
        replace e_3 : vs 33 = .pointer (some ⟨h3, 0, none⟩) := e_3
        rw [e_3]
        rw [ec_3] at W_3
        obtain ⟨yy_3, he_3, hd_3⟩ := W_3
        cases he_3
        obtain ⟨A3, c3, rfl⟩ := hd_3.slice
        have B3 := Lib.hid hb_3
        have H3 := Lib.hid (Whole.mk hd_3)
        clear hb_3 hd_3 e_3 ec_3
        replace e_4 : vs 34 = .pointer (some ⟨h4, 0, none⟩) := e_4
        rw [e_4]
        rw [ec_4] at W_4
        obtain ⟨yy_4, he_4, hd_4⟩ := W_4
        cases he_4
        obtain ⟨A4, c4, rfl⟩ := hd_4.slice
        have B4 := Lib.hid hb_4
        have H4 := Lib.hid (Whole.mk hd_4)
        clear hb_4 hd_4 e_4 ec_4
        replace e_5 : vs 35 = .pointer (some ⟨h5, 0, none⟩) := e_5
        rw [e_5]
        rw [ec_5] at W_5
        obtain ⟨yy_5, he_5, hd_5⟩ := W_5
        cases he_5
        obtain ⟨A5, c5, rfl⟩ := hd_5.slice
        have B5 := Lib.hid hb_5
        have H5 := Lib.hid (Whole.mk hd_5)
        clear hb_5 hd_5 e_5 ec_5
        have WC := Lib.hid (fun w (h : Fr (fun _ => False) w5 w) => And.intro (whole_cells' (ZFr.blk_fr B0.out h (fun h => h))) (And.intro (whole_cells' (ZFr.blk_fr B1.out h (fun h => h))) (And.intro (whole_cells' (ZFr.blk_fr B2.out h (fun h => h))) (And.intro (whole_cells' (ZFr.blk_fr B3.out h (fun h => h))) (And.intro (whole_cells' (ZFr.blk_fr B4.out h (fun h => h))) (whole_cells' (ZFr.blk_fr B5.out h (fun h => h))))))))
        obtain ⟨vs3, rfl⟩ : ∃ x, x = vs := ⟨vs, rfl⟩
        go_upto_region 4 with fail
        refine wp_region_inv (fun L a w => ∃ vs : Nat → Value, a = ({ tmps := #[.agg #[.int .i64 ax, .int .i64 ay], .agg #[.int .i64 bx, .int .i64 bY], .agg #[.int .i64 cx, .int .i64 cy], .agg #[.int .i64 dx, .int .i64 dy], .pointer (some ⟨g0, 0, none⟩), .pointer (some ⟨g0 + 1, 0, none⟩), .pointer (some ⟨g0 + 1 + 1, 0, none⟩), .pointer (some ⟨g0 + 1 + 1 + 1, 0, none⟩), .int .i64 0, .pointer (some ⟨h0, 0, none⟩), .pointer (some ⟨h1, 0, none⟩), .pointer (some ⟨h2, 0, none⟩), .pointer (some ⟨h3, 0, none⟩), .pointer (some ⟨h4, 0, none⟩), .pointer (some ⟨h5, 0, none⟩), vs 11, u16, u17, u18, u19, u20, u21, u22, u23, u24, u25, u26, u27, .bool false, u29, u30, u31, u32, u33, vs3 0, vs3 1, vs3 2, vs3 3, vs3 4, vs3 5, vs3 6, vs3 7, vs3 8, vs3 9, vs3 10, vs3 11, vs3 12, vs3 13, vs3 14, vs3 15, vs3 16, vs3 17, vs3 18, vs3 19, vs3 20, vs3 21, vs3 22, vs3 23, vs3 24, vs3 25, vs3 26, vs3 27, vs3 28, vs3 29, vs 0, vs 1, vs 2, vs 3, vs 4, vs 5, vs 6, vs 7, vs 8, vs 9, vs 10, u75, u76, u77, u78, u79, u80, u81, u82, u83, u84, u85, u86, u87, u88, u89, u90, u91, u92, u93, u94, u95, u96, u97, u98, u99, u100, u101, u102], defers := [] } : Act) ∧ Bag (kl [.val (.agg #[.int .i64 ax, .int .i64 ay]), .val (.agg #[.int .i64 dx, .int .i64 dy]), .who (s0), .who (y1), .who (z2), .who (y1 * z2), .who (y2), .who (z1), .who (y2 * z1), .who (y1 * z2 - y2 * z1), .who (s0 * (y1 * z2 - y2 * z1)), .cel, .put 11 10]) (fun j => ([[], [], [0, 1], [], [], [3, 4], [], [], [6, 7], [5, 8], [2, 9], [], [11, 10]] : List (List Nat)).getD j []) (fun _ => False) w5.drew L w vs) (by kernel_rfl) (by kernel_rfl) ?_ ?_ ?_
        rotate_left 1
        · intro L a w h hall
          obtain ⟨vs, rfl, b⟩ := h
          obtain ⟨w6, rfl⟩ : ∃ x, x = w := ⟨w, rfl⟩
          have F7 := Lib.hid (F6.out.trans ((Fr.refl (fun _ => False) _).drew.trans b.fr (fun k h _ => by obtain ⟨i, c, e⟩ := h; cases (kl_puto (ts := []) rfl e))) (fun _ h _ => h))
          have G7 := Lib.hid ((Fr.refl (fun _ => False) _).drew.trans b.fr (fun k h _ => by obtain ⟨i, c, e⟩ := h; cases (kl_puto (ts := []) rfl e)))
          obtain ⟨_, _, h9, s_, y_, e_, ec_, hb_⟩ := b.put 12 11 10 rfl (hall 12 (by decide))
          obtain ⟨g_, _, _, eg_, lg_, _⟩ := b.cel 11 rfl (hall 11 (by decide))
          have NW9 := Lib.hid (show w5.heap.size ≤ h9 from by have e2 := eg_.symm.trans e_; have e3 : g_ = h9 := (by simpa [ptr] using e2); subst e3; exact lg_)
          have hk9 := b.only (j := 11) rfl (hall 11 (by decide)) e_
          have J0 := Lib.hid ((b.keep H0.out).mono hk9)
          have J1 := Lib.hid ((b.keep H1.out).mono hk9)
          have J2 := Lib.hid ((b.keep H2.out).mono hk9)
          have J3 := Lib.hid ((b.keep H3.out).mono hk9)
          have J4 := Lib.hid ((b.keep H4.out).mono hk9)
          have J5 := Lib.hid ((b.keep H5.out).mono hk9)
          have W_ := Inv.Whole.mono (b.who 10 _ rfl (hall 10 (by decide))) hk9
          have LT9 := Lib.hid (b.slt h9 (hk9 h9 rfl))
          clear b hall hk9
          replace e_ : vs 11 = .pointer (some ⟨h9, 0, none⟩) := e_
          rw [e_]
          rw [ec_] at W_
          obtain ⟨yy_, he_, hd_⟩ := W_
          cases he_
          obtain ⟨A6, c6, rfl⟩ := hd_.slice
          have B6 := Lib.hid hb_
          have J6 := Lib.hid (Whole.mk hd_)
          clear hb_ hd_ e_ ec_ eg_ lg_
          have NE0 := Lib.hid (show ¬ h0 = h9 from by rintro rfl; have := ZFr.blk_lt B0.out; have := NW9.out; omega)
          have NE1 := Lib.hid (show ¬ h1 = h9 from by rintro rfl; have := ZFr.blk_lt B1.out; have := NW9.out; omega)
          have NE2 := Lib.hid (show ¬ h2 = h9 from by rintro rfl; have := ZFr.blk_lt B2.out; have := NW9.out; omega)
          have NE3 := Lib.hid (show ¬ h3 = h9 from by rintro rfl; have := ZFr.blk_lt B3.out; have := NW9.out; omega)
          have NE4 := Lib.hid (show ¬ h4 = h9 from by rintro rfl; have := ZFr.blk_lt B4.out; have := NW9.out; omega)
          have NE5 := Lib.hid (show ¬ h5 = h9 from by rintro rfl; have := ZFr.blk_lt B5.out; have := NW9.out; omega)
          have WC := Lib.hid (fun w (h : Fr (fun k => k = h9) w6 w) => And.intro (whole_cells' (ZFr.blk_fr (ZFr.blk_fr B0.out G7.out (fun h => h)) h (NE0.out))) (And.intro (whole_cells' (ZFr.blk_fr (ZFr.blk_fr B1.out G7.out (fun h => h)) h (NE1.out))) (And.intro (whole_cells' (ZFr.blk_fr (ZFr.blk_fr B2.out G7.out (fun h => h)) h (NE2.out))) (And.intro (whole_cells' (ZFr.blk_fr (ZFr.blk_fr B3.out G7.out (fun h => h)) h (NE3.out))) (And.intro (whole_cells' (ZFr.blk_fr (ZFr.blk_fr B4.out G7.out (fun h => h)) h (NE4.out))) (whole_cells' (ZFr.blk_fr (ZFr.blk_fr B5.out G7.out (fun h => h)) h (NE5.out))))))))
          have PC5 := Lib.hid (fun w (h : Fr (fun k => k = h9) w6 w) => And.intro (point_cells (ZFr.blk_fr (ZFr.blk_fr T1.out F7.out (fun h => h)) h (fun e => by have h1 := ZFr.blk_lt T1.out; have h2 := F6.out.size; have h3 := NW9.out; omega))) (And.intro (point_cells (ZFr.blk_fr (ZFr.blk_fr T2.out F7.out (fun h => h)) h (fun e => by have h1 := ZFr.blk_lt T2.out; have h2 := F6.out.size; have h3 := NW9.out; omega))) (And.intro (point_cells (ZFr.blk_fr (ZFr.blk_fr T3.out F7.out (fun h => h)) h (fun e => by have h1 := ZFr.blk_lt T3.out; have h2 := F6.out.size; have h3 := NW9.out; omega))) (point_cells (ZFr.blk_fr (ZFr.blk_fr T4.out F7.out (fun h => h)) h (fun e => by have h1 := ZFr.blk_lt T4.out; have h2 := F6.out.size; have h3 := NW9.out; omega))))))
          obtain ⟨vs4, rfl⟩ : ∃ x, x = vs := ⟨vs, rfl⟩
          go_upto_region 5 with fail
          refine wp_region_inv (fun L a w => ∃ vs : Nat → Value, a = ({ tmps := #[.agg #[.int .i64 ax, .int .i64 ay], .agg #[.int .i64 bx, .int .i64 bY], .agg #[.int .i64 cx, .int .i64 cy], .agg #[.int .i64 dx, .int .i64 dy], .pointer (some ⟨g0, 0, none⟩), .pointer (some ⟨g0 + 1, 0, none⟩), .pointer (some ⟨g0 + 1 + 1, 0, none⟩), .pointer (some ⟨g0 + 1 + 1 + 1, 0, none⟩), .int .i64 0, .pointer (some ⟨h0, 0, none⟩), .pointer (some ⟨h1, 0, none⟩), .pointer (some ⟨h2, 0, none⟩), .pointer (some ⟨h3, 0, none⟩), .pointer (some ⟨h4, 0, none⟩), .pointer (some ⟨h5, 0, none⟩), .pointer (some ⟨h9, 0, none⟩), u16, u17, u18, u19, u20, u21, u22, u23, u24, u25, u26, u27, .bool false, u29, u30, u31, u32, u33, vs3 0, vs3 1, vs3 2, vs3 3, vs3 4, vs3 5, vs3 6, vs3 7, vs3 8, vs3 9, vs3 10, vs3 11, vs3 12, vs3 13, vs3 14, vs3 15, vs3 16, vs3 17, vs3 18, vs3 19, vs3 20, vs3 21, vs3 22, vs3 23, vs3 24, vs3 25, vs3 26, vs3 27, vs3 28, vs3 29, vs4 0, vs4 1, vs4 2, vs4 3, vs4 4, vs4 5, vs4 6, vs4 7, vs4 8, vs4 9, vs4 10, vs 0, vs 1, vs 2, vs 3, vs 4, vs 5, vs 6, vs 7, vs 8, vs 9, vs 10, vs 11, vs 12, u88, u89, u90, u91, u92, u93, u94, u95, u96, u97, u98, u99, u100, u101, u102], defers := [] } : Act) ∧ Bag (kl [.who (s0 * (y1 * z2 - y2 * z1)), .val (.agg #[.int .i64 bx, .int .i64 bY]), .val (.agg #[.int .i64 dx, .int .i64 dy]), .who (s1), .who (x1), .who (z2), .who (x1 * z2), .who (x2), .who (z1), .who (x2 * z1), .who (x1 * z2 - x2 * z1), .who (s1 * (x1 * z2 - x2 * z1)), .who (s0 * (y1 * z2 - y2 * z1) - s1 * (x1 * z2 - x2 * z1)), .puto (h9) 12]) (fun j => ([[], [], [], [1, 2], [], [], [4, 5], [], [], [7, 8], [6, 9], [3, 10], [0, 11], [12]] : List (List Nat)).getD j []) (fun k => k = h9) w6.drew L w vs) (by kernel_rfl) (by kernel_rfl) ?_ ?_ ?_
          rotate_left 1
          · intro L a w h hall
            obtain ⟨vs, rfl, b⟩ := h
            obtain ⟨w7, rfl⟩ : ∃ x, x = w := ⟨w, rfl⟩
            obtain ⟨_, s_, y_, ec_, hb_⟩ := b.puto 13 _ 12 rfl (hall 13 (by decide))
            have GA := Lib.hid ((Fr.refl (fun k => k = h9) _).drew.trans b.fr (fun k h _ => by obtain ⟨i, c, e⟩ := h; exact List.mem_singleton.1 (kl_puto (ts := [h9]) rfl e)))
            have hk9 := b.outer (g := h9) rfl
            have K0 := Lib.hid ((b.keep J0.out).mono hk9)
            have K1 := Lib.hid ((b.keep J1.out).mono hk9)
            have K2 := Lib.hid ((b.keep J2.out).mono hk9)
            have K3 := Lib.hid ((b.keep J3.out).mono hk9)
            have K4 := Lib.hid ((b.keep J4.out).mono hk9)
            have K5 := Lib.hid ((b.keep J5.out).mono hk9)
            have W_ := Inv.Whole.mono (b.who 12 _ rfl (hall 12 (by decide))) hk9
            have LT7 := Lib.hid (b.slt h9 (hk9 h9 rfl))
            clear b hall hk9
            rw [ec_] at W_
            obtain ⟨yy_, he_, hd_⟩ := W_
            cases he_
            obtain ⟨A7, c7, rfl⟩ := hd_.slice
            have BN := Lib.hid hb_
            have K6 := Lib.hid (Whole.mk hd_)
            clear hb_ hd_ ec_
            obtain ⟨vs5, rfl⟩ : ∃ x, x = vs := ⟨vs, rfl⟩
            go_upto_region 6 with fail
            refine wp_region_inv (fun L a w => ∃ vs : Nat → Value, a = ({ tmps := #[.agg #[.int .i64 ax, .int .i64 ay], .agg #[.int .i64 bx, .int .i64 bY], .agg #[.int .i64 cx, .int .i64 cy], .agg #[.int .i64 dx, .int .i64 dy], .pointer (some ⟨g0, 0, none⟩), .pointer (some ⟨g0 + 1, 0, none⟩), .pointer (some ⟨g0 + 1 + 1, 0, none⟩), .pointer (some ⟨g0 + 1 + 1 + 1, 0, none⟩), .int .i64 0, .pointer (some ⟨h0, 0, none⟩), .pointer (some ⟨h1, 0, none⟩), .pointer (some ⟨h2, 0, none⟩), .pointer (some ⟨h3, 0, none⟩), .pointer (some ⟨h4, 0, none⟩), .pointer (some ⟨h5, 0, none⟩), .pointer (some ⟨h9, 0, none⟩), u16, u17, u18, u19, u20, u21, u22, u23, u24, u25, u26, u27, .bool false, u29, u30, u31, u32, u33, vs3 0, vs3 1, vs3 2, vs3 3, vs3 4, vs3 5, vs3 6, vs3 7, vs3 8, vs3 9, vs3 10, vs3 11, vs3 12, vs3 13, vs3 14, vs3 15, vs3 16, vs3 17, vs3 18, vs3 19, vs3 20, vs3 21, vs3 22, vs3 23, vs3 24, vs3 25, vs3 26, vs3 27, vs3 28, vs3 29, vs4 0, vs4 1, vs4 2, vs4 3, vs4 4, vs4 5, vs4 6, vs4 7, vs4 8, vs4 9, vs4 10, vs5 0, vs5 1, vs5 2, vs5 3, vs5 4, vs5 5, vs5 6, vs5 7, vs5 8, vs5 9, vs5 10, vs5 11, vs5 12, vs 0, vs 1, vs 2, vs 3, vs 4, vs 5, vs 6, vs 7, vs 8, vs 9, vs 10, vs 11, vs 12, u101, u102], defers := [] } : Act) ∧ Bag (kl [.who (s0 * (y1 * z2 - y2 * z1) - s1 * (x1 * z2 - x2 * z1)), .val (.agg #[.int .i64 cx, .int .i64 cy]), .val (.agg #[.int .i64 dx, .int .i64 dy]), .who (s2), .who (x1), .who (y2), .who (x1 * y2), .who (x2), .who (y1), .who (x2 * y1), .who (x1 * y2 - x2 * y1), .who (s2 * (x1 * y2 - x2 * y1)), .who (s0 * (y1 * z2 - y2 * z1) - s1 * (x1 * z2 - x2 * z1) + s2 * (x1 * y2 - x2 * y1)), .puto (h9) 12]) (fun j => ([[], [], [], [1, 2], [], [], [4, 5], [], [], [7, 8], [6, 9], [3, 10], [0, 11], [12]] : List (List Nat)).getD j []) (fun k => k = h9) w7.drew L w vs) (by kernel_rfl) (by kernel_rfl) ?_ ?_ ?_
            rotate_left 1
            · intro L a w h hall
              obtain ⟨vs, rfl, b⟩ := h
              obtain ⟨w8, rfl⟩ : ∃ x, x = w := ⟨w, rfl⟩
              obtain ⟨_, s_, y_, ec_, hb_⟩ := b.puto 13 _ 12 rfl (hall 13 (by decide))
              have GB := Lib.hid (GA.out.trans ((Fr.refl (fun k => k = h9) _).drew.trans b.fr (fun k h _ => by obtain ⟨i, c, e⟩ := h; exact List.mem_singleton.1 (kl_puto (ts := [h9]) rfl e))) (fun _ h _ => h))
              have W_ := Inv.Whole.mono (T := fun _ => False) (b.who 12 _ rfl (hall 12 (by decide))) (fun _ h => h.elim)
              clear b hall
              rw [ec_] at W_
              obtain ⟨yy_, he_, hd_⟩ := W_
              cases he_
              obtain ⟨A7, c7, rfl⟩ := hd_.slice
              have BN := Lib.hid hb_
              have K6 := Lib.hid (Whole.mk hd_)
              clear hb_ hd_ ec_
              obtain ⟨vs6, rfl⟩ : ∃ x, x = vs := ⟨vs, rfl⟩
              have f0_ := ZFr.blk_cell BN.out 0
              go_wp2_with fail
              go_ret
              exact ⟨by rw [sg_sgn, HR.out]; rfl, F4.out.trans ((F7.out.mono (T := fun k => k = h9) (fun _ h => h.elim)).trans GB.out (fun _ h _ => h)) (fun k h hlt => by have h1 := NW9.out; have h2 := F6.out.size; have h3 := F4.out.size; omega)⟩
            · exact ⟨fun j => ([u88, u89, u90, u91, u92, u93, u94, u95, u96, u97, u98, u99, u100, undef] : List Value).getD j undef, rfl, Bag.start (fun k h => by subst h; exact LT7.out) (fun i g c e => List.mem_singleton.1 (kl_puto (ts := [h9]) rfl e)) (put_ok (by kernel_rfl)).1 (put_ok (by kernel_rfl)).2⟩
            refine Each.cons ?_ ?_
            · intro L a w h hi hno hn K hK; obtain ⟨vs, rfl, b⟩ := h
              have h13 : ¬ On L 13 := fun h => hno (b.clo 12 0 (b.clo 13 12 h (by decide)) (by decide))
              have hz := (b.pre 13 _ _ rfl h13).trans BN.out
              have f0_ := ZFr.blk_cell hz 0
              have f1_ := ZFr.blk_cell hz 1
              go_simp
              exact hK.out _ _ ⟨_, rfl, b.quiet hi hno (List.forall_mem_nil _) (Fr.refl _ _) (b.keep K6.out)⟩
            refine Each.cons ?_ ?_
            · intro L a w h hi hno hn K hK; obtain ⟨vs, rfl, b⟩ := h
              obtain ⟨⟨p1, p2⟩, ⟨p3, p4⟩, ⟨p5, p6⟩, p7, p8⟩ := PC5.out w ((GA.out.trans ((Fr.refl (fun k => k = h9) _).drew.trans b.fr (fun k h _ => by obtain ⟨i, c, e⟩ := h; exact List.mem_singleton.1 (kl_puto (ts := [h9]) rfl e))) (fun _ h _ => h)))
              go_simp
              exact hK.out _ _ ⟨_, rfl, b.quiet hi hno (List.forall_mem_nil _) (Fr.refl _ _) rfl⟩
            refine Each.cons ?_ ?_
            · intro L a w h hi hno hn K hK; obtain ⟨vs, rfl, b⟩ := h
              obtain ⟨⟨p1, p2⟩, ⟨p3, p4⟩, ⟨p5, p6⟩, p7, p8⟩ := PC5.out w ((GA.out.trans ((Fr.refl (fun k => k = h9) _).drew.trans b.fr (fun k h _ => by obtain ⟨i, c, e⟩ := h; exact List.mem_singleton.1 (kl_puto (ts := [h9]) rfl e))) (fun _ h _ => h)))
              go_simp
              exact hK.out _ _ ⟨_, rfl, b.quiet hi hno (List.forall_mem_nil _) (Fr.refl _ _) rfl⟩
            refine Each.cons ?_ ?_
            · intro L a w h hi hno hn K hK; obtain ⟨vs, rfl, b⟩ := h
              have e1 := b.val 1 _ rfl (hn 1 (by decide))
              have e2 := b.val 2 _ rfl (hn 2 (by decide))
              go_simp
              go_at_call 38
              (with_reducible refine (DC.out _ w b.slt).mono ?_)
              rintro e w9 ⟨v9_, rfl, hv_, f9⟩
              exact hK.out _ _ ⟨_, rfl, Bag.same (j := 2) (Bag.same (j := 1) (b.quiet hi hno (List.forall_mem_cons.2 ⟨hn 1 (by decide), (List.forall_mem_cons.2 ⟨hn 2 (by decide), (List.forall_mem_nil _)⟩)⟩) f9 hv_) e1) e2⟩
            refine Each.cons ?_ ?_
            · intro L a w h hi hno hn K hK; obtain ⟨vs, rfl, b⟩ := h
              obtain ⟨⟨k0a, k0b⟩, ⟨k1a, k1b⟩, ⟨k2a, k2b⟩, ⟨k3a, k3b⟩, ⟨k4a, k4b⟩, k5a, k5b⟩ := WC.out w ((GA.out.trans ((Fr.refl (fun k => k = h9) _).drew.trans b.fr (fun k h _ => by obtain ⟨i, c, e⟩ := h; exact List.mem_singleton.1 (kl_puto (ts := [h9]) rfl e))) (fun _ h _ => h)))
              go_simp
              exact hK.out _ _ ⟨_, rfl, b.quiet hi hno (List.forall_mem_nil _) (Fr.refl _ _) (b.keep K0.out)⟩
            refine Each.cons ?_ ?_
            · intro L a w h hi hno hn K hK; obtain ⟨vs, rfl, b⟩ := h
              obtain ⟨⟨k0a, k0b⟩, ⟨k1a, k1b⟩, ⟨k2a, k2b⟩, ⟨k3a, k3b⟩, ⟨k4a, k4b⟩, k5a, k5b⟩ := WC.out w ((GA.out.trans ((Fr.refl (fun k => k = h9) _).drew.trans b.fr (fun k h _ => by obtain ⟨i, c, e⟩ := h; exact List.mem_singleton.1 (kl_puto (ts := [h9]) rfl e))) (fun _ h _ => h)))
              go_simp
              exact hK.out _ _ ⟨_, rfl, b.quiet hi hno (List.forall_mem_nil _) (Fr.refl _ _) (b.keep K3.out)⟩
            refine Each.cons ?_ ?_
            · intro L a w h hi hno hn K hK; obtain ⟨vs, rfl, b⟩ := h
              have W4 := b.who 4 _ rfl (hn 4 (by decide))
              have W5 := b.who 5 _ rfl (hn 5 (by decide))
              go_simp
              go_at_call 69
              (with_reducible refine (Big.mul_walk (x1) (y2) _ _ _ w b.slt W4 W5 L0.out L3.out).mono ?_)
              rintro e w9 ⟨v9_, rfl, hv_, f9⟩
              exact hK.out _ _ ⟨_, rfl, b.quiet hi hno (List.forall_mem_cons.2 ⟨hn 4 (by decide), (List.forall_mem_cons.2 ⟨hn 5 (by decide), (List.forall_mem_nil _)⟩)⟩) f9 hv_⟩
            refine Each.cons ?_ ?_
            · intro L a w h hi hno hn K hK; obtain ⟨vs, rfl, b⟩ := h
              obtain ⟨⟨k0a, k0b⟩, ⟨k1a, k1b⟩, ⟨k2a, k2b⟩, ⟨k3a, k3b⟩, ⟨k4a, k4b⟩, k5a, k5b⟩ := WC.out w ((GA.out.trans ((Fr.refl (fun k => k = h9) _).drew.trans b.fr (fun k h _ => by obtain ⟨i, c, e⟩ := h; exact List.mem_singleton.1 (kl_puto (ts := [h9]) rfl e))) (fun _ h _ => h)))
              go_simp
              exact hK.out _ _ ⟨_, rfl, b.quiet hi hno (List.forall_mem_nil _) (Fr.refl _ _) (b.keep K1.out)⟩
            refine Each.cons ?_ ?_
            · intro L a w h hi hno hn K hK; obtain ⟨vs, rfl, b⟩ := h
              obtain ⟨⟨k0a, k0b⟩, ⟨k1a, k1b⟩, ⟨k2a, k2b⟩, ⟨k3a, k3b⟩, ⟨k4a, k4b⟩, k5a, k5b⟩ := WC.out w ((GA.out.trans ((Fr.refl (fun k => k = h9) _).drew.trans b.fr (fun k h _ => by obtain ⟨i, c, e⟩ := h; exact List.mem_singleton.1 (kl_puto (ts := [h9]) rfl e))) (fun _ h _ => h)))
              go_simp
              exact hK.out _ _ ⟨_, rfl, b.quiet hi hno (List.forall_mem_nil _) (Fr.refl _ _) (b.keep K2.out)⟩
            refine Each.cons ?_ ?_
            · intro L a w h hi hno hn K hK; obtain ⟨vs, rfl, b⟩ := h
              have W7 := b.who 7 _ rfl (hn 7 (by decide))
              have W8 := b.who 8 _ rfl (hn 8 (by decide))
              go_simp
              go_at_call 69
              (with_reducible refine (Big.mul_walk (x2) (y1) _ _ _ w b.slt W7 W8 L1.out L2.out).mono ?_)
              rintro e w9 ⟨v9_, rfl, hv_, f9⟩
              exact hK.out _ _ ⟨_, rfl, b.quiet hi hno (List.forall_mem_cons.2 ⟨hn 7 (by decide), (List.forall_mem_cons.2 ⟨hn 8 (by decide), (List.forall_mem_nil _)⟩)⟩) f9 hv_⟩
            refine Each.cons ?_ ?_
            · intro L a w h hi hno hn K hK; obtain ⟨vs, rfl, b⟩ := h
              have W6 := b.who 6 _ rfl (hn 6 (by decide))
              have W9 := b.who 9 _ rfl (hn 9 (by decide))
              go_simp
              go_at_call 34
              (with_reducible refine (Big.sub_walk (x1 * y2) (x2 * y1) _ _ _ w b.slt W6 W9 LC0.out LC1.out).mono ?_)
              rintro e w9 ⟨v9_, rfl, hv_, f9⟩
              exact hK.out _ _ ⟨_, rfl, b.quiet hi hno (List.forall_mem_cons.2 ⟨hn 6 (by decide), (List.forall_mem_cons.2 ⟨hn 9 (by decide), (List.forall_mem_nil _)⟩)⟩) f9 hv_⟩
            refine Each.cons ?_ ?_
            · intro L a w h hi hno hn K hK; obtain ⟨vs, rfl, b⟩ := h
              have W3 := b.who 3 _ rfl (hn 3 (by decide))
              have W10 := b.who 10 _ rfl (hn 10 (by decide))
              go_simp
              go_at_call 69
              (with_reducible refine (Big.mul_walk (s2) (x1 * y2 - x2 * y1) _ _ _ w b.slt W3 W10 LS2.out LM2.out).mono ?_)
              rintro e w9 ⟨v9_, rfl, hv_, f9⟩
              exact hK.out _ _ ⟨_, rfl, b.quiet hi hno (List.forall_mem_cons.2 ⟨hn 3 (by decide), (List.forall_mem_cons.2 ⟨hn 10 (by decide), (List.forall_mem_nil _)⟩)⟩) f9 hv_⟩
            refine Each.cons ?_ ?_
            · intro L a w h hi hno hn K hK; obtain ⟨vs, rfl, b⟩ := h
              have W0 := b.who 0 _ rfl (hn 0 (by decide))
              have W11 := b.who 11 _ rfl (hn 11 (by decide))
              go_simp
              go_at_call 60
              (with_reducible refine (Big.add_walk (s0 * (y1 * z2 - y2 * z1) - s1 * (x1 * z2 - x2 * z1)) (s2 * (x1 * y2 - x2 * y1)) _ _ _ w b.slt W0 W11 LT.out LT2.out).mono ?_)
              rintro e w9 ⟨v9_, rfl, hv_, f9⟩
              exact hK.out _ _ ⟨_, rfl, b.quiet hi hno (List.forall_mem_cons.2 ⟨hn 0 (by decide), (List.forall_mem_cons.2 ⟨hn 11 (by decide), (List.forall_mem_nil _)⟩)⟩) f9 hv_⟩
            refine Each.cons ?_ ?_
            · intro L a w h hi hno hn K hK; obtain ⟨vs, rfl, b⟩ := h
              obtain ⟨xc, ec, wc_⟩ := b.who 12 _ rfl (hn 12 (by decide))
              obtain ⟨Ac, cc, rfl⟩ := wc_.slice
              have hz := (b.pre 13 _ _ rfl hno).trans BN.out
              have f0_ := ZFr.blk_cell hz 0
              have f1_ := ZFr.blk_cell hz 1
              have f2_ := ZFr.blk_free hz 0
              have f3_ := ZFr.blk_free hz 1
              go_simp
              exact hK.out _ _ ⟨_, rfl, Bag.same (j := 12) (b.store (v := undef) hi hno (List.forall_mem_cons.2 ⟨hn 12 (by decide), (List.forall_mem_nil _)⟩) (.inr ⟨rfl, fun i' c' e => List.mem_singleton.1 (kl_one (is := [13]) (by kernel_rfl) e), _, _, BN.out⟩) (hn 12 (by decide)) ec) ec⟩
            exact trivial
          · exact ⟨fun j => ([u75, u76, u77, u78, u79, u80, u81, u82, u83, u84, u85, u86, u87, undef] : List Value).getD j undef, rfl, Bag.start (fun k h => by subst h; exact LT9.out) (fun i g c e => List.mem_singleton.1 (kl_puto (ts := [h9]) rfl e)) (put_ok (by kernel_rfl)).1 (put_ok (by kernel_rfl)).2⟩
          refine Each.cons ?_ ?_
          · intro L a w h hi hno hn K hK; obtain ⟨vs, rfl, b⟩ := h
            have h13 : ¬ On L 13 := fun h => hno (b.clo 12 0 (b.clo 13 12 h (by decide)) (by decide))
            have hz := (b.pre 13 _ _ rfl h13).trans B6.out
            have f0_ := ZFr.blk_cell hz 0
            have f1_ := ZFr.blk_cell hz 1
            go_simp
            exact hK.out _ _ ⟨_, rfl, b.quiet hi hno (List.forall_mem_nil _) (Fr.refl _ _) (b.keep J6.out)⟩
          refine Each.cons ?_ ?_
          · intro L a w h hi hno hn K hK; obtain ⟨vs, rfl, b⟩ := h
            obtain ⟨⟨p1, p2⟩, ⟨p3, p4⟩, ⟨p5, p6⟩, p7, p8⟩ := PC5.out w (((Fr.refl (fun k => k = h9) _).drew.trans b.fr (fun k h _ => by obtain ⟨i, c, e⟩ := h; exact List.mem_singleton.1 (kl_puto (ts := [h9]) rfl e))))
            go_simp
            exact hK.out _ _ ⟨_, rfl, b.quiet hi hno (List.forall_mem_nil _) (Fr.refl _ _) rfl⟩
          refine Each.cons ?_ ?_
          · intro L a w h hi hno hn K hK; obtain ⟨vs, rfl, b⟩ := h
            obtain ⟨⟨p1, p2⟩, ⟨p3, p4⟩, ⟨p5, p6⟩, p7, p8⟩ := PC5.out w (((Fr.refl (fun k => k = h9) _).drew.trans b.fr (fun k h _ => by obtain ⟨i, c, e⟩ := h; exact List.mem_singleton.1 (kl_puto (ts := [h9]) rfl e))))
            go_simp
            exact hK.out _ _ ⟨_, rfl, b.quiet hi hno (List.forall_mem_nil _) (Fr.refl _ _) rfl⟩
          refine Each.cons ?_ ?_
          · intro L a w h hi hno hn K hK; obtain ⟨vs, rfl, b⟩ := h
            have e1 := b.val 1 _ rfl (hn 1 (by decide))
            have e2 := b.val 2 _ rfl (hn 2 (by decide))
            go_simp
            go_at_call 38
            (with_reducible refine (DB.out _ w b.slt).mono ?_)
            rintro e w9 ⟨v9_, rfl, hv_, f9⟩
            exact hK.out _ _ ⟨_, rfl, Bag.same (j := 2) (Bag.same (j := 1) (b.quiet hi hno (List.forall_mem_cons.2 ⟨hn 1 (by decide), (List.forall_mem_cons.2 ⟨hn 2 (by decide), (List.forall_mem_nil _)⟩)⟩) f9 hv_) e1) e2⟩
          refine Each.cons ?_ ?_
          · intro L a w h hi hno hn K hK; obtain ⟨vs, rfl, b⟩ := h
            obtain ⟨⟨k0a, k0b⟩, ⟨k1a, k1b⟩, ⟨k2a, k2b⟩, ⟨k3a, k3b⟩, ⟨k4a, k4b⟩, k5a, k5b⟩ := WC.out w (((Fr.refl (fun k => k = h9) _).drew.trans b.fr (fun k h _ => by obtain ⟨i, c, e⟩ := h; exact List.mem_singleton.1 (kl_puto (ts := [h9]) rfl e))))
            go_simp
            exact hK.out _ _ ⟨_, rfl, b.quiet hi hno (List.forall_mem_nil _) (Fr.refl _ _) (b.keep J0.out)⟩
          refine Each.cons ?_ ?_
          · intro L a w h hi hno hn K hK; obtain ⟨vs, rfl, b⟩ := h
            obtain ⟨⟨k0a, k0b⟩, ⟨k1a, k1b⟩, ⟨k2a, k2b⟩, ⟨k3a, k3b⟩, ⟨k4a, k4b⟩, k5a, k5b⟩ := WC.out w (((Fr.refl (fun k => k = h9) _).drew.trans b.fr (fun k h _ => by obtain ⟨i, c, e⟩ := h; exact List.mem_singleton.1 (kl_puto (ts := [h9]) rfl e))))
            go_simp
            exact hK.out _ _ ⟨_, rfl, b.quiet hi hno (List.forall_mem_nil _) (Fr.refl _ _) (b.keep J5.out)⟩
          refine Each.cons ?_ ?_
          · intro L a w h hi hno hn K hK; obtain ⟨vs, rfl, b⟩ := h
            have W4 := b.who 4 _ rfl (hn 4 (by decide))
            have W5 := b.who 5 _ rfl (hn 5 (by decide))
            go_simp
            go_at_call 69
            (with_reducible refine (Big.mul_walk (x1) (z2) _ _ _ w b.slt W4 W5 L0.out L5.out).mono ?_)
            rintro e w9 ⟨v9_, rfl, hv_, f9⟩
            exact hK.out _ _ ⟨_, rfl, b.quiet hi hno (List.forall_mem_cons.2 ⟨hn 4 (by decide), (List.forall_mem_cons.2 ⟨hn 5 (by decide), (List.forall_mem_nil _)⟩)⟩) f9 hv_⟩
          refine Each.cons ?_ ?_
          · intro L a w h hi hno hn K hK; obtain ⟨vs, rfl, b⟩ := h
            obtain ⟨⟨k0a, k0b⟩, ⟨k1a, k1b⟩, ⟨k2a, k2b⟩, ⟨k3a, k3b⟩, ⟨k4a, k4b⟩, k5a, k5b⟩ := WC.out w (((Fr.refl (fun k => k = h9) _).drew.trans b.fr (fun k h _ => by obtain ⟨i, c, e⟩ := h; exact List.mem_singleton.1 (kl_puto (ts := [h9]) rfl e))))
            go_simp
            exact hK.out _ _ ⟨_, rfl, b.quiet hi hno (List.forall_mem_nil _) (Fr.refl _ _) (b.keep J1.out)⟩
          refine Each.cons ?_ ?_
          · intro L a w h hi hno hn K hK; obtain ⟨vs, rfl, b⟩ := h
            obtain ⟨⟨k0a, k0b⟩, ⟨k1a, k1b⟩, ⟨k2a, k2b⟩, ⟨k3a, k3b⟩, ⟨k4a, k4b⟩, k5a, k5b⟩ := WC.out w (((Fr.refl (fun k => k = h9) _).drew.trans b.fr (fun k h _ => by obtain ⟨i, c, e⟩ := h; exact List.mem_singleton.1 (kl_puto (ts := [h9]) rfl e))))
            go_simp
            exact hK.out _ _ ⟨_, rfl, b.quiet hi hno (List.forall_mem_nil _) (Fr.refl _ _) (b.keep J4.out)⟩
          refine Each.cons ?_ ?_
          · intro L a w h hi hno hn K hK; obtain ⟨vs, rfl, b⟩ := h
            have W7 := b.who 7 _ rfl (hn 7 (by decide))
            have W8 := b.who 8 _ rfl (hn 8 (by decide))
            go_simp
            go_at_call 69
            (with_reducible refine (Big.mul_walk (x2) (z1) _ _ _ w b.slt W7 W8 L1.out L4.out).mono ?_)
            rintro e w9 ⟨v9_, rfl, hv_, f9⟩
            exact hK.out _ _ ⟨_, rfl, b.quiet hi hno (List.forall_mem_cons.2 ⟨hn 7 (by decide), (List.forall_mem_cons.2 ⟨hn 8 (by decide), (List.forall_mem_nil _)⟩)⟩) f9 hv_⟩
          refine Each.cons ?_ ?_
          · intro L a w h hi hno hn K hK; obtain ⟨vs, rfl, b⟩ := h
            have W6 := b.who 6 _ rfl (hn 6 (by decide))
            have W9 := b.who 9 _ rfl (hn 9 (by decide))
            go_simp
            go_at_call 34
            (with_reducible refine (Big.sub_walk (x1 * z2) (x2 * z1) _ _ _ w b.slt W6 W9 LB0.out LB1.out).mono ?_)
            rintro e w9 ⟨v9_, rfl, hv_, f9⟩
            exact hK.out _ _ ⟨_, rfl, b.quiet hi hno (List.forall_mem_cons.2 ⟨hn 6 (by decide), (List.forall_mem_cons.2 ⟨hn 9 (by decide), (List.forall_mem_nil _)⟩)⟩) f9 hv_⟩
          refine Each.cons ?_ ?_
          · intro L a w h hi hno hn K hK; obtain ⟨vs, rfl, b⟩ := h
            have W3 := b.who 3 _ rfl (hn 3 (by decide))
            have W10 := b.who 10 _ rfl (hn 10 (by decide))
            go_simp
            go_at_call 69
            (with_reducible refine (Big.mul_walk (s1) (x1 * z2 - x2 * z1) _ _ _ w b.slt W3 W10 LS1.out LM1.out).mono ?_)
            rintro e w9 ⟨v9_, rfl, hv_, f9⟩
            exact hK.out _ _ ⟨_, rfl, b.quiet hi hno (List.forall_mem_cons.2 ⟨hn 3 (by decide), (List.forall_mem_cons.2 ⟨hn 10 (by decide), (List.forall_mem_nil _)⟩)⟩) f9 hv_⟩
          refine Each.cons ?_ ?_
          · intro L a w h hi hno hn K hK; obtain ⟨vs, rfl, b⟩ := h
            have W0 := b.who 0 _ rfl (hn 0 (by decide))
            have W11 := b.who 11 _ rfl (hn 11 (by decide))
            go_simp
            go_at_call 34
            (with_reducible refine (Big.sub_walk (s0 * (y1 * z2 - y2 * z1)) (s1 * (x1 * z2 - x2 * z1)) _ _ _ w b.slt W0 W11 LT0.out LT1.out).mono ?_)
            rintro e w9 ⟨v9_, rfl, hv_, f9⟩
            exact hK.out _ _ ⟨_, rfl, b.quiet hi hno (List.forall_mem_cons.2 ⟨hn 0 (by decide), (List.forall_mem_cons.2 ⟨hn 11 (by decide), (List.forall_mem_nil _)⟩)⟩) f9 hv_⟩
          refine Each.cons ?_ ?_
          · intro L a w h hi hno hn K hK; obtain ⟨vs, rfl, b⟩ := h
            obtain ⟨xc, ec, wc_⟩ := b.who 12 _ rfl (hn 12 (by decide))
            obtain ⟨Ac, cc, rfl⟩ := wc_.slice
            have hz := (b.pre 13 _ _ rfl hno).trans B6.out
            have f0_ := ZFr.blk_cell hz 0
            have f1_ := ZFr.blk_cell hz 1
            have f2_ := ZFr.blk_free hz 0
            have f3_ := ZFr.blk_free hz 1
            go_simp
            exact hK.out _ _ ⟨_, rfl, Bag.same (j := 12) (b.store (v := undef) hi hno (List.forall_mem_cons.2 ⟨hn 12 (by decide), (List.forall_mem_nil _)⟩) (.inr ⟨rfl, fun i' c' e => List.mem_singleton.1 (kl_one (is := [13]) (by kernel_rfl) e), _, _, B6.out⟩) (hn 12 (by decide)) ec) ec⟩
          exact trivial
        · exact ⟨fun j => ([u64, u65, u66, u67, u68, u69, u70, u71, u72, u73, u74, undef, undef] : List Value).getD j undef, rfl, Bag.start (fun k h => h.elim) (fun i g c e => by cases (kl_puto (ts := []) rfl e)) (put_ok (by kernel_rfl)).1 (put_ok (by kernel_rfl)).2⟩
        refine Each.cons ?_ ?_
        · intro L a w h hi hno hn K hK; obtain ⟨vs, rfl, b⟩ := h
          obtain ⟨⟨p1, p2⟩, ⟨p3, p4⟩, ⟨p5, p6⟩, p7, p8⟩ := PC.out w (F6.out.trans ((Fr.refl (fun _ => False) _).drew.trans b.fr (fun k h _ => by obtain ⟨i, c, e⟩ := h; cases (kl_puto (ts := []) rfl e))) (fun _ h _ => h))
          go_simp
          exact hK.out _ _ ⟨_, rfl, b.quiet hi hno (List.forall_mem_nil _) (Fr.refl _ _) rfl⟩
        refine Each.cons ?_ ?_
        · intro L a w h hi hno hn K hK; obtain ⟨vs, rfl, b⟩ := h
          obtain ⟨⟨p1, p2⟩, ⟨p3, p4⟩, ⟨p5, p6⟩, p7, p8⟩ := PC.out w (F6.out.trans ((Fr.refl (fun _ => False) _).drew.trans b.fr (fun k h _ => by obtain ⟨i, c, e⟩ := h; cases (kl_puto (ts := []) rfl e))) (fun _ h _ => h))
          go_simp
          exact hK.out _ _ ⟨_, rfl, b.quiet hi hno (List.forall_mem_nil _) (Fr.refl _ _) rfl⟩
        refine Each.cons ?_ ?_
        · intro L a w h hi hno hn K hK; obtain ⟨vs, rfl, b⟩ := h
          have e0 := b.val 0 _ rfl (hn 0 (by decide))
          have e1 := b.val 1 _ rfl (hn 1 (by decide))
          go_simp
          go_at_call 38
          (with_reducible refine (DA.out _ w b.slt).mono ?_)
          rintro e w9 ⟨v9_, rfl, hv_, f9⟩
          exact hK.out _ _ ⟨_, rfl, Bag.same (j := 1) (Bag.same (j := 0) (b.quiet hi hno (List.forall_mem_cons.2 ⟨hn 0 (by decide), (List.forall_mem_cons.2 ⟨hn 1 (by decide), (List.forall_mem_nil _)⟩)⟩) f9 hv_) e0) e1⟩
        refine Each.cons ?_ ?_
        · intro L a w h hi hno hn K hK; obtain ⟨vs, rfl, b⟩ := h
          obtain ⟨⟨k0a, k0b⟩, ⟨k1a, k1b⟩, ⟨k2a, k2b⟩, ⟨k3a, k3b⟩, ⟨k4a, k4b⟩, k5a, k5b⟩ := WC.out w (((Fr.refl (fun _ => False) _).drew.trans b.fr (fun k h _ => by obtain ⟨i, c, e⟩ := h; cases (kl_puto (ts := []) rfl e))))
          go_simp
          exact hK.out _ _ ⟨_, rfl, b.quiet hi hno (List.forall_mem_nil _) (Fr.refl _ _) (b.keep H2.out)⟩
        refine Each.cons ?_ ?_
        · intro L a w h hi hno hn K hK; obtain ⟨vs, rfl, b⟩ := h
          obtain ⟨⟨k0a, k0b⟩, ⟨k1a, k1b⟩, ⟨k2a, k2b⟩, ⟨k3a, k3b⟩, ⟨k4a, k4b⟩, k5a, k5b⟩ := WC.out w (((Fr.refl (fun _ => False) _).drew.trans b.fr (fun k h _ => by obtain ⟨i, c, e⟩ := h; cases (kl_puto (ts := []) rfl e))))
          go_simp
          exact hK.out _ _ ⟨_, rfl, b.quiet hi hno (List.forall_mem_nil _) (Fr.refl _ _) (b.keep H5.out)⟩
        refine Each.cons ?_ ?_
        · intro L a w h hi hno hn K hK; obtain ⟨vs, rfl, b⟩ := h
          have W3 := b.who 3 _ rfl (hn 3 (by decide))
          have W4 := b.who 4 _ rfl (hn 4 (by decide))
          go_simp
          go_at_call 69
          (with_reducible refine (Big.mul_walk (y1) (z2) _ _ _ w b.slt W3 W4 L2.out L5.out).mono ?_)
          rintro e w9 ⟨v9_, rfl, hv_, f9⟩
          exact hK.out _ _ ⟨_, rfl, b.quiet hi hno (List.forall_mem_cons.2 ⟨hn 3 (by decide), (List.forall_mem_cons.2 ⟨hn 4 (by decide), (List.forall_mem_nil _)⟩)⟩) f9 hv_⟩
        refine Each.cons ?_ ?_
        · intro L a w h hi hno hn K hK; obtain ⟨vs, rfl, b⟩ := h
          obtain ⟨⟨k0a, k0b⟩, ⟨k1a, k1b⟩, ⟨k2a, k2b⟩, ⟨k3a, k3b⟩, ⟨k4a, k4b⟩, k5a, k5b⟩ := WC.out w (((Fr.refl (fun _ => False) _).drew.trans b.fr (fun k h _ => by obtain ⟨i, c, e⟩ := h; cases (kl_puto (ts := []) rfl e))))
          go_simp
          exact hK.out _ _ ⟨_, rfl, b.quiet hi hno (List.forall_mem_nil _) (Fr.refl _ _) (b.keep H3.out)⟩
        refine Each.cons ?_ ?_
        · intro L a w h hi hno hn K hK; obtain ⟨vs, rfl, b⟩ := h
          obtain ⟨⟨k0a, k0b⟩, ⟨k1a, k1b⟩, ⟨k2a, k2b⟩, ⟨k3a, k3b⟩, ⟨k4a, k4b⟩, k5a, k5b⟩ := WC.out w (((Fr.refl (fun _ => False) _).drew.trans b.fr (fun k h _ => by obtain ⟨i, c, e⟩ := h; cases (kl_puto (ts := []) rfl e))))
          go_simp
          exact hK.out _ _ ⟨_, rfl, b.quiet hi hno (List.forall_mem_nil _) (Fr.refl _ _) (b.keep H4.out)⟩
        refine Each.cons ?_ ?_
        · intro L a w h hi hno hn K hK; obtain ⟨vs, rfl, b⟩ := h
          have W6 := b.who 6 _ rfl (hn 6 (by decide))
          have W7 := b.who 7 _ rfl (hn 7 (by decide))
          go_simp
          go_at_call 69
          (with_reducible refine (Big.mul_walk (y2) (z1) _ _ _ w b.slt W6 W7 L3.out L4.out).mono ?_)
          rintro e w9 ⟨v9_, rfl, hv_, f9⟩
          exact hK.out _ _ ⟨_, rfl, b.quiet hi hno (List.forall_mem_cons.2 ⟨hn 6 (by decide), (List.forall_mem_cons.2 ⟨hn 7 (by decide), (List.forall_mem_nil _)⟩)⟩) f9 hv_⟩
        refine Each.cons ?_ ?_
        · intro L a w h hi hno hn K hK; obtain ⟨vs, rfl, b⟩ := h
          have W5 := b.who 5 _ rfl (hn 5 (by decide))
          have W8 := b.who 8 _ rfl (hn 8 (by decide))
          go_simp
          go_at_call 34
          (with_reducible refine (Big.sub_walk (y1 * z2) (y2 * z1) _ _ _ w b.slt W5 W8 LA0.out LA1.out).mono ?_)
          rintro e w9 ⟨v9_, rfl, hv_, f9⟩
          exact hK.out _ _ ⟨_, rfl, b.quiet hi hno (List.forall_mem_cons.2 ⟨hn 5 (by decide), (List.forall_mem_cons.2 ⟨hn 8 (by decide), (List.forall_mem_nil _)⟩)⟩) f9 hv_⟩
        refine Each.cons ?_ ?_
        · intro L a w h hi hno hn K hK; obtain ⟨vs, rfl, b⟩ := h
          have W2 := b.who 2 _ rfl (hn 2 (by decide))
          have W9 := b.who 9 _ rfl (hn 9 (by decide))
          go_simp
          go_at_call 69
          (with_reducible refine (Big.mul_walk (s0) (y1 * z2 - y2 * z1) _ _ _ w b.slt W2 W9 LS0.out LM0.out).mono ?_)
          rintro e w9 ⟨v9_, rfl, hv_, f9⟩
          exact hK.out _ _ ⟨_, rfl, b.quiet hi hno (List.forall_mem_cons.2 ⟨hn 2 (by decide), (List.forall_mem_cons.2 ⟨hn 9 (by decide), (List.forall_mem_nil _)⟩)⟩) f9 hv_⟩
        refine Each.cons ?_ ?_
        · intro L a w h hi hno hn K hK; obtain ⟨vs, rfl, b⟩ := h
          go_simp
          exact hK.out _ _ ⟨_, rfl, b.lay hi hno (List.forall_mem_nil _) rfl⟩
        refine Each.cons ?_ ?_
        · intro L a w h hi hno hn K hK; obtain ⟨vs, rfl, b⟩ := h
          obtain ⟨xc, ec, wc_⟩ := b.who 10 _ rfl (hn 10 (by decide))
          obtain ⟨Ac, cc, rfl⟩ := wc_.slice
          obtain ⟨g, s, x, eg, _, hz⟩ := b.cel 11 rfl (hn 11 (by decide))
          replace eg : vs 11 = .pointer (some ⟨g, 0, none⟩) := eg
          have f0_ := ZFr.blk_cell hz 0
          have f1_ := ZFr.blk_cell hz 1
          have f2_ := ZFr.blk_free hz 0
          have f3_ := ZFr.blk_free hz 1
          go_simp
          exact hK.out _ _ ⟨_, rfl, Bag.same (j := 11) (Bag.same (j := 10) (b.store (v := undef) hi hno (List.forall_mem_cons.2 ⟨hn 11 (by decide), (List.forall_mem_cons.2 ⟨hn 10 (by decide), (List.forall_mem_nil _)⟩)⟩) (.inl ⟨11, rfl, hn 11 (by decide), rfl, eg⟩) (hn 10 (by decide)) ec) ec) eg⟩
        exact trivial
      · exact ⟨fun j => ([u34, u35, u36, u37, u38, u39, u40, u41, u42, u43, u44, u45, u46, u47, u48, u49, u50, u51, u52, u53, u54, u55, u56, u57, u58, u59, u60, u61, u62, u63, undef, undef, undef, undef, undef, undef, undef, undef, undef, undef, undef, undef] : List Value).getD j undef, rfl, Bag.start (fun k h => h.elim) (fun i g c e => by cases (kl_puto (ts := []) rfl e)) (put_ok (by kernel_rfl)).1 (put_ok (by kernel_rfl)).2⟩
      refine Each.cons ?_ ?_
      · intro L a w h hi hno hn K hK; obtain ⟨vs, rfl, b⟩ := h
        go_simp
        exact hK.out _ _ ⟨_, rfl, b.quiet hi hno (List.forall_mem_nil _) (Fr.refl _ _) rfl⟩
      refine Each.cons ?_ ?_
      · intro L a w h hi hno hn K hK; obtain ⟨vs, rfl, b⟩ := h
        have e0 := b.val 0 _ rfl (hn 0 (by decide))
        obtain ⟨⟨p1, p2⟩, ⟨p3, p4⟩, ⟨p5, p6⟩, p7, p8⟩ := PC.out w (F5.out.trans ((Fr.refl (fun _ => False) _).drew.trans b.fr (fun k h _ => by obtain ⟨i, c, e⟩ := h; cases (kl_puto (ts := []) rfl e))) (fun _ h _ => h))
        go_simp
        exact hK.out _ _ ⟨_, rfl, Bag.same (j := 0) (b.quiet hi hno (List.forall_mem_cons.2 ⟨hn 0 (by decide), (List.forall_mem_nil _)⟩) (Fr.refl _ _) rfl) e0⟩
      refine Each.cons ?_ ?_
      · intro L a w h hi hno hn K hK; obtain ⟨vs, rfl, b⟩ := h
        go_simp
        exact hK.out _ _ ⟨_, rfl, b.quiet hi hno (List.forall_mem_nil _) (Fr.refl _ _) rfl⟩
      refine Each.cons ?_ ?_
      · intro L a w h hi hno hn K hK; obtain ⟨vs, rfl, b⟩ := h
        have e2 := b.val 2 _ rfl (hn 2 (by decide))
        obtain ⟨⟨p1, p2⟩, ⟨p3, p4⟩, ⟨p5, p6⟩, p7, p8⟩ := PC.out w (F5.out.trans ((Fr.refl (fun _ => False) _).drew.trans b.fr (fun k h _ => by obtain ⟨i, c, e⟩ := h; cases (kl_puto (ts := []) rfl e))) (fun _ h _ => h))
        go_simp
        exact hK.out _ _ ⟨_, rfl, Bag.same (j := 2) (b.quiet hi hno (List.forall_mem_cons.2 ⟨hn 2 (by decide), (List.forall_mem_nil _)⟩) (Fr.refl _ _) rfl) e2⟩
      refine Each.cons ?_ ?_
      · intro L a w h hi hno hn K hK; obtain ⟨vs, rfl, b⟩ := h
        have e1 := b.val 1 _ rfl (hn 1 (by decide))
        have e3 := b.val 3 _ rfl (hn 3 (by decide))
        go_simp
        go_at_call 68
        (with_reducible refine (D0.out _ w b.slt).mono ?_)
        rintro e w9 ⟨v9_, rfl, hv_, f9⟩
        exact hK.out _ _ ⟨_, rfl, Bag.same (j := 3) (Bag.same (j := 1) (b.quiet hi hno (List.forall_mem_cons.2 ⟨hn 1 (by decide), (List.forall_mem_cons.2 ⟨hn 3 (by decide), (List.forall_mem_nil _)⟩)⟩) f9 hv_) e1) e3⟩
      refine Each.cons ?_ ?_
      · intro L a w h hi hno hn K hK; obtain ⟨vs, rfl, b⟩ := h
        go_simp
        exact hK.out _ _ ⟨_, rfl, b.quiet hi hno (List.forall_mem_nil _) (Fr.refl _ _) rfl⟩
      refine Each.cons ?_ ?_
      · intro L a w h hi hno hn K hK; obtain ⟨vs, rfl, b⟩ := h
        have e5 := b.val 5 _ rfl (hn 5 (by decide))
        obtain ⟨⟨p1, p2⟩, ⟨p3, p4⟩, ⟨p5, p6⟩, p7, p8⟩ := PC.out w (F5.out.trans ((Fr.refl (fun _ => False) _).drew.trans b.fr (fun k h _ => by obtain ⟨i, c, e⟩ := h; cases (kl_puto (ts := []) rfl e))) (fun _ h _ => h))
        go_simp
        exact hK.out _ _ ⟨_, rfl, Bag.same (j := 5) (b.quiet hi hno (List.forall_mem_cons.2 ⟨hn 5 (by decide), (List.forall_mem_nil _)⟩) (Fr.refl _ _) rfl) e5⟩
      refine Each.cons ?_ ?_
      · intro L a w h hi hno hn K hK; obtain ⟨vs, rfl, b⟩ := h
        go_simp
        exact hK.out _ _ ⟨_, rfl, b.quiet hi hno (List.forall_mem_nil _) (Fr.refl _ _) rfl⟩
      refine Each.cons ?_ ?_
      · intro L a w h hi hno hn K hK; obtain ⟨vs, rfl, b⟩ := h
        have e7 := b.val 7 _ rfl (hn 7 (by decide))
        obtain ⟨⟨p1, p2⟩, ⟨p3, p4⟩, ⟨p5, p6⟩, p7, p8⟩ := PC.out w (F5.out.trans ((Fr.refl (fun _ => False) _).drew.trans b.fr (fun k h _ => by obtain ⟨i, c, e⟩ := h; cases (kl_puto (ts := []) rfl e))) (fun _ h _ => h))
        go_simp
        exact hK.out _ _ ⟨_, rfl, Bag.same (j := 7) (b.quiet hi hno (List.forall_mem_cons.2 ⟨hn 7 (by decide), (List.forall_mem_nil _)⟩) (Fr.refl _ _) rfl) e7⟩
      refine Each.cons ?_ ?_
      · intro L a w h hi hno hn K hK; obtain ⟨vs, rfl, b⟩ := h
        have e6 := b.val 6 _ rfl (hn 6 (by decide))
        have e8 := b.val 8 _ rfl (hn 8 (by decide))
        go_simp
        go_at_call 68
        (with_reducible refine (D1.out _ w b.slt).mono ?_)
        rintro e w9 ⟨v9_, rfl, hv_, f9⟩
        exact hK.out _ _ ⟨_, rfl, Bag.same (j := 8) (Bag.same (j := 6) (b.quiet hi hno (List.forall_mem_cons.2 ⟨hn 6 (by decide), (List.forall_mem_cons.2 ⟨hn 8 (by decide), (List.forall_mem_nil _)⟩)⟩) f9 hv_) e6) e8⟩
      refine Each.cons ?_ ?_
      · intro L a w h hi hno hn K hK; obtain ⟨vs, rfl, b⟩ := h
        go_simp
        exact hK.out _ _ ⟨_, rfl, b.quiet hi hno (List.forall_mem_nil _) (Fr.refl _ _) rfl⟩
      refine Each.cons ?_ ?_
      · intro L a w h hi hno hn K hK; obtain ⟨vs, rfl, b⟩ := h
        have e10 := b.val 10 _ rfl (hn 10 (by decide))
        obtain ⟨⟨p1, p2⟩, ⟨p3, p4⟩, ⟨p5, p6⟩, p7, p8⟩ := PC.out w (F5.out.trans ((Fr.refl (fun _ => False) _).drew.trans b.fr (fun k h _ => by obtain ⟨i, c, e⟩ := h; cases (kl_puto (ts := []) rfl e))) (fun _ h _ => h))
        go_simp
        exact hK.out _ _ ⟨_, rfl, Bag.same (j := 10) (b.quiet hi hno (List.forall_mem_cons.2 ⟨hn 10 (by decide), (List.forall_mem_nil _)⟩) (Fr.refl _ _) rfl) e10⟩
      refine Each.cons ?_ ?_
      · intro L a w h hi hno hn K hK; obtain ⟨vs, rfl, b⟩ := h
        go_simp
        exact hK.out _ _ ⟨_, rfl, b.quiet hi hno (List.forall_mem_nil _) (Fr.refl _ _) rfl⟩
      refine Each.cons ?_ ?_
      · intro L a w h hi hno hn K hK; obtain ⟨vs, rfl, b⟩ := h
        have e12 := b.val 12 _ rfl (hn 12 (by decide))
        obtain ⟨⟨p1, p2⟩, ⟨p3, p4⟩, ⟨p5, p6⟩, p7, p8⟩ := PC.out w (F5.out.trans ((Fr.refl (fun _ => False) _).drew.trans b.fr (fun k h _ => by obtain ⟨i, c, e⟩ := h; cases (kl_puto (ts := []) rfl e))) (fun _ h _ => h))
        go_simp
        exact hK.out _ _ ⟨_, rfl, Bag.same (j := 12) (b.quiet hi hno (List.forall_mem_cons.2 ⟨hn 12 (by decide), (List.forall_mem_nil _)⟩) (Fr.refl _ _) rfl) e12⟩
      refine Each.cons ?_ ?_
      · intro L a w h hi hno hn K hK; obtain ⟨vs, rfl, b⟩ := h
        have e11 := b.val 11 _ rfl (hn 11 (by decide))
        have e13 := b.val 13 _ rfl (hn 13 (by decide))
        go_simp
        go_at_call 68
        (with_reducible refine (D2.out _ w b.slt).mono ?_)
        rintro e w9 ⟨v9_, rfl, hv_, f9⟩
        exact hK.out _ _ ⟨_, rfl, Bag.same (j := 13) (Bag.same (j := 11) (b.quiet hi hno (List.forall_mem_cons.2 ⟨hn 11 (by decide), (List.forall_mem_cons.2 ⟨hn 13 (by decide), (List.forall_mem_nil _)⟩)⟩) f9 hv_) e11) e13⟩
      refine Each.cons ?_ ?_
      · intro L a w h hi hno hn K hK; obtain ⟨vs, rfl, b⟩ := h
        go_simp
        exact hK.out _ _ ⟨_, rfl, b.quiet hi hno (List.forall_mem_nil _) (Fr.refl _ _) rfl⟩
      refine Each.cons ?_ ?_
      · intro L a w h hi hno hn K hK; obtain ⟨vs, rfl, b⟩ := h
        have e15 := b.val 15 _ rfl (hn 15 (by decide))
        obtain ⟨⟨p1, p2⟩, ⟨p3, p4⟩, ⟨p5, p6⟩, p7, p8⟩ := PC.out w (F5.out.trans ((Fr.refl (fun _ => False) _).drew.trans b.fr (fun k h _ => by obtain ⟨i, c, e⟩ := h; cases (kl_puto (ts := []) rfl e))) (fun _ h _ => h))
        go_simp
        exact hK.out _ _ ⟨_, rfl, Bag.same (j := 15) (b.quiet hi hno (List.forall_mem_cons.2 ⟨hn 15 (by decide), (List.forall_mem_nil _)⟩) (Fr.refl _ _) rfl) e15⟩
      refine Each.cons ?_ ?_
      · intro L a w h hi hno hn K hK; obtain ⟨vs, rfl, b⟩ := h
        go_simp
        exact hK.out _ _ ⟨_, rfl, b.quiet hi hno (List.forall_mem_nil _) (Fr.refl _ _) rfl⟩
      refine Each.cons ?_ ?_
      · intro L a w h hi hno hn K hK; obtain ⟨vs, rfl, b⟩ := h
        have e17 := b.val 17 _ rfl (hn 17 (by decide))
        obtain ⟨⟨p1, p2⟩, ⟨p3, p4⟩, ⟨p5, p6⟩, p7, p8⟩ := PC.out w (F5.out.trans ((Fr.refl (fun _ => False) _).drew.trans b.fr (fun k h _ => by obtain ⟨i, c, e⟩ := h; cases (kl_puto (ts := []) rfl e))) (fun _ h _ => h))
        go_simp
        exact hK.out _ _ ⟨_, rfl, Bag.same (j := 17) (b.quiet hi hno (List.forall_mem_cons.2 ⟨hn 17 (by decide), (List.forall_mem_nil _)⟩) (Fr.refl _ _) rfl) e17⟩
      refine Each.cons ?_ ?_
      · intro L a w h hi hno hn K hK; obtain ⟨vs, rfl, b⟩ := h
        have e16 := b.val 16 _ rfl (hn 16 (by decide))
        have e18 := b.val 18 _ rfl (hn 18 (by decide))
        go_simp
        go_at_call 68
        (with_reducible refine (D3.out _ w b.slt).mono ?_)
        rintro e w9 ⟨v9_, rfl, hv_, f9⟩
        exact hK.out _ _ ⟨_, rfl, Bag.same (j := 18) (Bag.same (j := 16) (b.quiet hi hno (List.forall_mem_cons.2 ⟨hn 16 (by decide), (List.forall_mem_cons.2 ⟨hn 18 (by decide), (List.forall_mem_nil _)⟩)⟩) f9 hv_) e16) e18⟩
      refine Each.cons ?_ ?_
      · intro L a w h hi hno hn K hK; obtain ⟨vs, rfl, b⟩ := h
        go_simp
        exact hK.out _ _ ⟨_, rfl, b.quiet hi hno (List.forall_mem_nil _) (Fr.refl _ _) rfl⟩
      refine Each.cons ?_ ?_
      · intro L a w h hi hno hn K hK; obtain ⟨vs, rfl, b⟩ := h
        have e20 := b.val 20 _ rfl (hn 20 (by decide))
        obtain ⟨⟨p1, p2⟩, ⟨p3, p4⟩, ⟨p5, p6⟩, p7, p8⟩ := PC.out w (F5.out.trans ((Fr.refl (fun _ => False) _).drew.trans b.fr (fun k h _ => by obtain ⟨i, c, e⟩ := h; cases (kl_puto (ts := []) rfl e))) (fun _ h _ => h))
        go_simp
        exact hK.out _ _ ⟨_, rfl, Bag.same (j := 20) (b.quiet hi hno (List.forall_mem_cons.2 ⟨hn 20 (by decide), (List.forall_mem_nil _)⟩) (Fr.refl _ _) rfl) e20⟩
      refine Each.cons ?_ ?_
      · intro L a w h hi hno hn K hK; obtain ⟨vs, rfl, b⟩ := h
        go_simp
        exact hK.out _ _ ⟨_, rfl, b.quiet hi hno (List.forall_mem_nil _) (Fr.refl _ _) rfl⟩
      refine Each.cons ?_ ?_
      · intro L a w h hi hno hn K hK; obtain ⟨vs, rfl, b⟩ := h
        have e22 := b.val 22 _ rfl (hn 22 (by decide))
        obtain ⟨⟨p1, p2⟩, ⟨p3, p4⟩, ⟨p5, p6⟩, p7, p8⟩ := PC.out w (F5.out.trans ((Fr.refl (fun _ => False) _).drew.trans b.fr (fun k h _ => by obtain ⟨i, c, e⟩ := h; cases (kl_puto (ts := []) rfl e))) (fun _ h _ => h))
        go_simp
        exact hK.out _ _ ⟨_, rfl, Bag.same (j := 22) (b.quiet hi hno (List.forall_mem_cons.2 ⟨hn 22 (by decide), (List.forall_mem_nil _)⟩) (Fr.refl _ _) rfl) e22⟩
      refine Each.cons ?_ ?_
      · intro L a w h hi hno hn K hK; obtain ⟨vs, rfl, b⟩ := h
        have e21 := b.val 21 _ rfl (hn 21 (by decide))
        have e23 := b.val 23 _ rfl (hn 23 (by decide))
        go_simp
        go_at_call 68
        (with_reducible refine (D4.out _ w b.slt).mono ?_)
        rintro e w9 ⟨v9_, rfl, hv_, f9⟩
        exact hK.out _ _ ⟨_, rfl, Bag.same (j := 23) (Bag.same (j := 21) (b.quiet hi hno (List.forall_mem_cons.2 ⟨hn 21 (by decide), (List.forall_mem_cons.2 ⟨hn 23 (by decide), (List.forall_mem_nil _)⟩)⟩) f9 hv_) e21) e23⟩
      refine Each.cons ?_ ?_
      · intro L a w h hi hno hn K hK; obtain ⟨vs, rfl, b⟩ := h
        go_simp
        exact hK.out _ _ ⟨_, rfl, b.quiet hi hno (List.forall_mem_nil _) (Fr.refl _ _) rfl⟩
      refine Each.cons ?_ ?_
      · intro L a w h hi hno hn K hK; obtain ⟨vs, rfl, b⟩ := h
        have e25 := b.val 25 _ rfl (hn 25 (by decide))
        obtain ⟨⟨p1, p2⟩, ⟨p3, p4⟩, ⟨p5, p6⟩, p7, p8⟩ := PC.out w (F5.out.trans ((Fr.refl (fun _ => False) _).drew.trans b.fr (fun k h _ => by obtain ⟨i, c, e⟩ := h; cases (kl_puto (ts := []) rfl e))) (fun _ h _ => h))
        go_simp
        exact hK.out _ _ ⟨_, rfl, Bag.same (j := 25) (b.quiet hi hno (List.forall_mem_cons.2 ⟨hn 25 (by decide), (List.forall_mem_nil _)⟩) (Fr.refl _ _) rfl) e25⟩
      refine Each.cons ?_ ?_
      · intro L a w h hi hno hn K hK; obtain ⟨vs, rfl, b⟩ := h
        go_simp
        exact hK.out _ _ ⟨_, rfl, b.quiet hi hno (List.forall_mem_nil _) (Fr.refl _ _) rfl⟩
      refine Each.cons ?_ ?_
      · intro L a w h hi hno hn K hK; obtain ⟨vs, rfl, b⟩ := h
        have e27 := b.val 27 _ rfl (hn 27 (by decide))
        obtain ⟨⟨p1, p2⟩, ⟨p3, p4⟩, ⟨p5, p6⟩, p7, p8⟩ := PC.out w (F5.out.trans ((Fr.refl (fun _ => False) _).drew.trans b.fr (fun k h _ => by obtain ⟨i, c, e⟩ := h; cases (kl_puto (ts := []) rfl e))) (fun _ h _ => h))
        go_simp
        exact hK.out _ _ ⟨_, rfl, Bag.same (j := 27) (b.quiet hi hno (List.forall_mem_cons.2 ⟨hn 27 (by decide), (List.forall_mem_nil _)⟩) (Fr.refl _ _) rfl) e27⟩
      refine Each.cons ?_ ?_
      · intro L a w h hi hno hn K hK; obtain ⟨vs, rfl, b⟩ := h
        have e26 := b.val 26 _ rfl (hn 26 (by decide))
        have e28 := b.val 28 _ rfl (hn 28 (by decide))
        go_simp
        go_at_call 68
        (with_reducible refine (D5.out _ w b.slt).mono ?_)
        rintro e w9 ⟨v9_, rfl, hv_, f9⟩
        exact hK.out _ _ ⟨_, rfl, Bag.same (j := 28) (Bag.same (j := 26) (b.quiet hi hno (List.forall_mem_cons.2 ⟨hn 26 (by decide), (List.forall_mem_cons.2 ⟨hn 28 (by decide), (List.forall_mem_nil _)⟩)⟩) f9 hv_) e26) e28⟩
      refine Each.cons ?_ ?_
      · intro L a w h hi hno hn K hK; obtain ⟨vs, rfl, b⟩ := h
        go_simp
        exact hK.out _ _ ⟨_, rfl, b.lay hi hno (List.forall_mem_nil _) rfl⟩
      refine Each.cons ?_ ?_
      · intro L a w h hi hno hn K hK; obtain ⟨vs, rfl, b⟩ := h
        go_simp
        exact hK.out _ _ ⟨_, rfl, b.lay hi hno (List.forall_mem_nil _) rfl⟩
      refine Each.cons ?_ ?_
      · intro L a w h hi hno hn K hK; obtain ⟨vs, rfl, b⟩ := h
        go_simp
        exact hK.out _ _ ⟨_, rfl, b.lay hi hno (List.forall_mem_nil _) rfl⟩
      refine Each.cons ?_ ?_
      · intro L a w h hi hno hn K hK; obtain ⟨vs, rfl, b⟩ := h
        go_simp
        exact hK.out _ _ ⟨_, rfl, b.lay hi hno (List.forall_mem_nil _) rfl⟩
      refine Each.cons ?_ ?_
      · intro L a w h hi hno hn K hK; obtain ⟨vs, rfl, b⟩ := h
        go_simp
        exact hK.out _ _ ⟨_, rfl, b.lay hi hno (List.forall_mem_nil _) rfl⟩
      refine Each.cons ?_ ?_
      · intro L a w h hi hno hn K hK; obtain ⟨vs, rfl, b⟩ := h
        go_simp
        exact hK.out _ _ ⟨_, rfl, b.lay hi hno (List.forall_mem_nil _) rfl⟩
      refine Each.cons ?_ ?_
      · intro L a w h hi hno hn K hK; obtain ⟨vs, rfl, b⟩ := h
        obtain ⟨xc, ec, wc_⟩ := b.who 4 _ rfl (hn 4 (by decide))
        obtain ⟨Ac, cc, rfl⟩ := wc_.slice
        obtain ⟨g, s, x, eg, _, hz⟩ := b.cel 30 rfl (hn 30 (by decide))
        replace eg : vs 30 = .pointer (some ⟨g, 0, none⟩) := eg
        have f0_ := ZFr.blk_cell hz 0
        have f1_ := ZFr.blk_cell hz 1
        have f2_ := ZFr.blk_free hz 0
        have f3_ := ZFr.blk_free hz 1
        go_simp
        exact hK.out _ _ ⟨_, rfl, Bag.same (j := 30) (Bag.same (j := 4) (b.store (v := undef) hi hno (List.forall_mem_cons.2 ⟨hn 30 (by decide), (List.forall_mem_cons.2 ⟨hn 4 (by decide), (List.forall_mem_nil _)⟩)⟩) (.inl ⟨30, rfl, hn 30 (by decide), rfl, eg⟩) (hn 4 (by decide)) ec) ec) eg⟩
      refine Each.cons ?_ ?_
      · intro L a w h hi hno hn K hK; obtain ⟨vs, rfl, b⟩ := h
        obtain ⟨xc, ec, wc_⟩ := b.who 9 _ rfl (hn 9 (by decide))
        obtain ⟨Ac, cc, rfl⟩ := wc_.slice
        obtain ⟨g, s, x, eg, _, hz⟩ := b.cel 31 rfl (hn 31 (by decide))
        replace eg : vs 31 = .pointer (some ⟨g, 0, none⟩) := eg
        have f0_ := ZFr.blk_cell hz 0
        have f1_ := ZFr.blk_cell hz 1
        have f2_ := ZFr.blk_free hz 0
        have f3_ := ZFr.blk_free hz 1
        go_simp
        exact hK.out _ _ ⟨_, rfl, Bag.same (j := 31) (Bag.same (j := 9) (b.store (v := undef) hi hno (List.forall_mem_cons.2 ⟨hn 31 (by decide), (List.forall_mem_cons.2 ⟨hn 9 (by decide), (List.forall_mem_nil _)⟩)⟩) (.inl ⟨31, rfl, hn 31 (by decide), rfl, eg⟩) (hn 9 (by decide)) ec) ec) eg⟩
      refine Each.cons ?_ ?_
      · intro L a w h hi hno hn K hK; obtain ⟨vs, rfl, b⟩ := h
        obtain ⟨xc, ec, wc_⟩ := b.who 14 _ rfl (hn 14 (by decide))
        obtain ⟨Ac, cc, rfl⟩ := wc_.slice
        obtain ⟨g, s, x, eg, _, hz⟩ := b.cel 32 rfl (hn 32 (by decide))
        replace eg : vs 32 = .pointer (some ⟨g, 0, none⟩) := eg
        have f0_ := ZFr.blk_cell hz 0
        have f1_ := ZFr.blk_cell hz 1
        have f2_ := ZFr.blk_free hz 0
        have f3_ := ZFr.blk_free hz 1
        go_simp
        exact hK.out _ _ ⟨_, rfl, Bag.same (j := 32) (Bag.same (j := 14) (b.store (v := undef) hi hno (List.forall_mem_cons.2 ⟨hn 32 (by decide), (List.forall_mem_cons.2 ⟨hn 14 (by decide), (List.forall_mem_nil _)⟩)⟩) (.inl ⟨32, rfl, hn 32 (by decide), rfl, eg⟩) (hn 14 (by decide)) ec) ec) eg⟩
      refine Each.cons ?_ ?_
      · intro L a w h hi hno hn K hK; obtain ⟨vs, rfl, b⟩ := h
        obtain ⟨xc, ec, wc_⟩ := b.who 19 _ rfl (hn 19 (by decide))
        obtain ⟨Ac, cc, rfl⟩ := wc_.slice
        obtain ⟨g, s, x, eg, _, hz⟩ := b.cel 33 rfl (hn 33 (by decide))
        replace eg : vs 33 = .pointer (some ⟨g, 0, none⟩) := eg
        have f0_ := ZFr.blk_cell hz 0
        have f1_ := ZFr.blk_cell hz 1
        have f2_ := ZFr.blk_free hz 0
        have f3_ := ZFr.blk_free hz 1
        go_simp
        exact hK.out _ _ ⟨_, rfl, Bag.same (j := 33) (Bag.same (j := 19) (b.store (v := undef) hi hno (List.forall_mem_cons.2 ⟨hn 33 (by decide), (List.forall_mem_cons.2 ⟨hn 19 (by decide), (List.forall_mem_nil _)⟩)⟩) (.inl ⟨33, rfl, hn 33 (by decide), rfl, eg⟩) (hn 19 (by decide)) ec) ec) eg⟩
      refine Each.cons ?_ ?_
      · intro L a w h hi hno hn K hK; obtain ⟨vs, rfl, b⟩ := h
        obtain ⟨xc, ec, wc_⟩ := b.who 24 _ rfl (hn 24 (by decide))
        obtain ⟨Ac, cc, rfl⟩ := wc_.slice
        obtain ⟨g, s, x, eg, _, hz⟩ := b.cel 34 rfl (hn 34 (by decide))
        replace eg : vs 34 = .pointer (some ⟨g, 0, none⟩) := eg
        have f0_ := ZFr.blk_cell hz 0
        have f1_ := ZFr.blk_cell hz 1
        have f2_ := ZFr.blk_free hz 0
        have f3_ := ZFr.blk_free hz 1
        go_simp
        exact hK.out _ _ ⟨_, rfl, Bag.same (j := 34) (Bag.same (j := 24) (b.store (v := undef) hi hno (List.forall_mem_cons.2 ⟨hn 34 (by decide), (List.forall_mem_cons.2 ⟨hn 24 (by decide), (List.forall_mem_nil _)⟩)⟩) (.inl ⟨34, rfl, hn 34 (by decide), rfl, eg⟩) (hn 24 (by decide)) ec) ec) eg⟩
      refine Each.cons ?_ ?_
      · intro L a w h hi hno hn K hK; obtain ⟨vs, rfl, b⟩ := h
        obtain ⟨xc, ec, wc_⟩ := b.who 29 _ rfl (hn 29 (by decide))
        obtain ⟨Ac, cc, rfl⟩ := wc_.slice
        obtain ⟨g, s, x, eg, _, hz⟩ := b.cel 35 rfl (hn 35 (by decide))
        replace eg : vs 35 = .pointer (some ⟨g, 0, none⟩) := eg
        have f0_ := ZFr.blk_cell hz 0
        have f1_ := ZFr.blk_cell hz 1
        have f2_ := ZFr.blk_free hz 0
        have f3_ := ZFr.blk_free hz 1
        go_simp
        exact hK.out _ _ ⟨_, rfl, Bag.same (j := 35) (Bag.same (j := 29) (b.store (v := undef) hi hno (List.forall_mem_cons.2 ⟨hn 35 (by decide), (List.forall_mem_cons.2 ⟨hn 29 (by decide), (List.forall_mem_nil _)⟩)⟩) (.inl ⟨35, rfl, hn 35 (by decide), rfl, eg⟩) (hn 29 (by decide)) ec) ec) eg⟩
      exact trivial
    · simp only [Bool.and_eq_true] at hnn
      obtain ⟨⟨e1, e2⟩, e3⟩ := hnn
      obtain ⟨⟨p1, p2⟩, ⟨p3, p4⟩, ⟨p5, p6⟩, p7, p8⟩ := PC.out wc F5.out
      go_wp2_with (go_at_call 129; have hc_ := FL.out e1 e2 e3 wc; (with_reducible refine hc_.mono ?_); clear hc_; rintro e w6 ⟨rfl, f6⟩; have E6 := Lib.hid f6; clear f6)
      go_ret
      exact ⟨rfl, F4.out.trans (F5.out.trans E6.out (fun _ h _ => h)) (fun _ h _ => h)⟩
end Go.Proofs.Ytngmkjgklonfmaa.Wd

