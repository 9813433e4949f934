/- Joined texts. -/
import Derived.Test.YtngmkjgklonfmaaJF
import Derived.Test.YtngmkjgklonfmaaSkHLP
/- What is used of HoA. -/
namespace Go.Proofs.Ytngmkjgklonfmaa.Wd
open Go.RowKit Go.Proofs.ZFr Go.Proofs.Ytngmkjgklonfmaa.PNearNearest Go.Proofs.Ytngmkjgklonfmaa.Big
set_option maxRecDepth 100000 in
set_option maxHeartbeats 4000000 in
theorem Sub_walk (a b : Int) (h0 : -170141183460469231731687303715884105728 ≤ a - b) (h1 : a - b < 170141183460469231731687303715884105728) (W : World) : Calls Try.prog 154 #[encW a, encW b] W fun e w' => e = .returned (encW (a - b)) ∧ Fr (fun _ => False) W w' := by
  have hadd := fun w => sub_walk a b h0 h1 w
  have HA := Lib.hid hadd
  clear hadd h0 h1
  unfold encW at HA ⊢
  generalize hiW a = xa at HA ⊢
  generalize loW a = ya at HA ⊢
  generalize hiW b = xb at HA ⊢
  generalize loW b = yb at HA ⊢
  generalize hiW (a - b) = xs at HA ⊢
  generalize loW (a - b) = ys at HA ⊢
  obtain ⟨t1, t2, t3, f3⟩ := tri W (Obj.cells #[Value.int IntKind.i64 xa, Value.int IntKind.u64 ya] 28) (Obj.cells #[Value.int IntKind.i64 xb, Value.int IntKind.u64 yb] 28) (Obj.cells #[Value.int IntKind.i64 0, Value.int IntKind.u64 0] 28)
  go_enter Try.func154, Try.ntmps154
  go_wp2_with fail
  generalize ((W.alloc (Obj.cells #[Value.int IntKind.i64 xa, Value.int IntKind.u64 ya] 28)).alloc (Obj.cells #[Value.int IntKind.i64 xb, Value.int IntKind.u64 yb] 28)).alloc (Obj.cells #[Value.int IntKind.i64 0, Value.int IntKind.u64 0] 28) = w3 at t1 t2 t3 f3 ⊢
  have T3 := Lib.hid t3
  have F3 := Lib.hid f3
  clear t1 t2 t3 f3
  go_wp2_with (first
    | (go_at_call 160; have hc_ := HA.out w3; (with_reducible refine hc_.mono ?_); clear hc_; rintro e w4 ⟨rfl, f4⟩; have T4 := Lib.hid (ZFr.blk_fr T3.out f4 (fun h => h)); obtain ⟨i1, i2, i3, i4⟩ := wide_store T4.out; have F4 := Lib.hid (F3.out.trans f4 (fun _ h _ => h)); clear f4))
  refine bodyPost_ret (results_cell_row rfl _ _ (W.heap.size + 1 + 1) 28 #[.int .i64 xs, .int .u64 ys] (0, 0) _ rfl (ZFr.blk_set (ZFr.blk_set T4.out 0 _) 1 _) Try.underlying28 rfl (by kernel_rfl)) rfl ?_
  exact ⟨rfl, (F4.out.set _ _ (.inr (by dsimp only; omega))).set _ _ (.inr (by dsimp only; omega))⟩
theorem ml_bd {x y : Int} (hx : -4611686018427387904 ≤ x ∧ x ≤ 4611686018427387904) (hy : -4611686018427387904 ≤ y ∧ y ≤ 4611686018427387904) : -21267647932558653966460912964485513216 ≤ x * y ∧ x * y ≤ 21267647932558653966460912964485513216 := by
  have e := Int.natAbs_mul x y
  have h1 : x.natAbs * y.natAbs ≤ 4611686018427387904 * 4611686018427387904 := Nat.mul_le_mul (by omega) (by omega)
  omega
/-- The area that two ways span. -/
def ac (ux uy vx vy : Int) : Int := ux * vy - uy * vx
set_option maxRecDepth 100000 in
set_option maxHeartbeats 4000000 in
theorem across_walk (ux uy vx vy : Int) (W : World) (hux : -4611686018427387904 ≤ ux ∧ ux ≤ 4611686018427387904) (huy : -4611686018427387904 ≤ uy ∧ uy ≤ 4611686018427387904) (hvx : -4611686018427387904 ≤ vx ∧ vx ≤ 4611686018427387904) (hvy : -4611686018427387904 ≤ vy ∧ vy ≤ 4611686018427387904) : Calls Try.prog 148 #[.agg #[.int .i64 ux, .int .i64 uy], .agg #[.int .i64 vx, .int .i64 vy]] W fun e w' => e = .returned (encW (ac ux uy vx vy)) ∧ Fr (fun _ => False) W w' := by
  have b1 := ml_bd hux hvy
  have b2 := ml_bd huy hvx
  have MX := Lib.hid (fun w => mul_c ux vy ⟨by omega, by omega⟩ ⟨by omega, by omega⟩ w)
  have MY := Lib.hid (fun w => mul_c uy vx ⟨by omega, by omega⟩ ⟨by omega, by omega⟩ w)
  have AD := Lib.hid (fun w => Sub_walk (ux * vy) (uy * vx) (by omega) (by omega) w)
  unfold ac
  unfold encW at MX MY AD ⊢
  clear b1 b2 hux huy hvx hvy
  generalize hiW (ux * vy) = x1 at MX AD
  generalize loW (ux * vy) = y1 at MX AD
  generalize hiW (uy * vx) = x2 at MY AD
  generalize loW (uy * vx) = y2 at MY AD
  generalize hiW (ux * vy - uy * vx) = xs at AD ⊢
  generalize loW (ux * vy - uy * vx) = ys at AD ⊢
  obtain ⟨t1, t2, t3, f3⟩ := tri W (Obj.cells #[Value.int IntKind.i64 ux, Value.int IntKind.i64 uy] 24) (Obj.cells #[Value.int IntKind.i64 vx, Value.int IntKind.i64 vy] 24) (Obj.cells #[Value.int IntKind.i64 0, Value.int IntKind.u64 0] 28)
  go_enter Try.func148, Try.ntmps148
  go_wp2_with fail
  generalize ((W.alloc (Obj.cells #[Value.int IntKind.i64 ux, Value.int IntKind.i64 uy] 24)).alloc (Obj.cells #[Value.int IntKind.i64 vx, Value.int IntKind.i64 vy] 24)).alloc (Obj.cells #[Value.int IntKind.i64 0, Value.int IntKind.u64 0] 28) = w3 at t1 t2 t3 f3 ⊢
  have T1 := Lib.hid t1
  have T2 := Lib.hid t2
  have T3 := Lib.hid t3
  have F3 := Lib.hid f3
  have PC := Lib.hid (fun w (h : Fr (fun _ => False) w3 w) => And.intro (point_cells (ZFr.blk_fr T1.out h (fun h => h))) (point_cells (ZFr.blk_fr T2.out h (fun h => h))))
  obtain ⟨⟨p1, p2⟩, p3, p4⟩ := PC.out w3.drew (Fr.refl _ w3).drew
  clear t1 t2 t3 f3
  go_region_held3 (fun w' => w'.cell? ⟨W.heap.size, 0, none⟩ = some (.int .i64 ux) ∧ w'.cell? ⟨W.heap.size, 1, none⟩ = some (.int .i64 uy) ∧ w'.cell? ⟨W.heap.size + 1, 0, none⟩ = some (.int .i64 vx) ∧ w'.cell? ⟨W.heap.size + 1, 1, none⟩ = some (.int .i64 vy))
    (refine ⟨?_, ?_, ?_, ?_⟩ <;> first | with_reducible assumption | exact cell_far (by with_reducible assumption) (by dsimp only; omega) | exact cell_far (cell_far (by with_reducible assumption) (by dsimp only; omega)) (by dsimp only; omega))
    (first
      | ((go_at_call 154; have hc_ := AD.out w5; (with_reducible refine hc_.mono ?_); clear hc_; rintro e w6 ⟨rfl, f6⟩; have E6 := Lib.hid (E5.out.trans f6 (fun _ h _ => h)); obtain ⟨⟨q61, q62⟩, q63, q64⟩ := PC.out w6 E6.out; have S6 := Lib.hid (ZFr.blk_fr T3.out E6.out (fun h => h)); obtain ⟨i1, i2, i3, i4⟩ := wide_store S6.out; clear f6))
      | ((go_at_call 123; have hc_ := MY.out w4; (with_reducible refine hc_.mono ?_); clear hc_; rintro e w5 ⟨rfl, f5⟩; have E5 := Lib.hid (E4.out.trans f5 (fun _ h _ => h)); obtain ⟨⟨q51, q52⟩, q53, q54⟩ := PC.out w5 E5.out; clear f5))
      | ((go_at_call 123; have hc_ := MX.out w3.drew; (with_reducible refine hc_.mono ?_); clear hc_; rintro e w4 ⟨rfl, f4⟩; have E4 := Lib.hid ((Fr.refl (fun _ => False) w3).drew.trans f4 (fun _ h _ => h)); obtain ⟨⟨q41, q42⟩, q43, q44⟩ := PC.out w4 E4.out; clear f4)))
  all_goals
    go_wp2_with fail
    refine bodyPost_ret (results_cell_row rfl _ _ (W.heap.size + 1 + 1) 28 #[.int .i64 xs, .int .u64 ys] (0, 0) _ rfl (ZFr.blk_set (ZFr.blk_set S6.out 0 _) 1 _) Try.underlying28 rfl (by kernel_rfl)) rfl ?_
    exact ⟨rfl, ((F3.out.trans E6.out (fun _ h _ => h)).set _ _ (.inr (by dsimp only; omega))).set _ _ (.inr (by dsimp only; omega))⟩
/-- A number's sign. -/
def sgn (n : Int) : Int := if n < 0 then -1 else if n = 0 then 0 else 1
theorem sign_c (n : Int) (W : World) : Calls Try.prog 147 #[encW n] W fun e w' => e = .returned (.int .i64 (sgn n)) ∧ Fr (fun _ => False) W w' := by
  obtain ⟨h1, h2, h3⟩ := hi_lo n
  refine (PHoleLong.wide_Sign.calls (hiW n) (loW n) (sgn n) W ?_).mono ?_
  · unfold PHoleLong.wide_Sign.f PHoleLong.wide_sign.f sgn
    by_cases a : hiW n < 0
    · rw [if_pos a, if_pos (by omega)]; rfl
    · rw [if_neg a]
      by_cases b : hiW n = 0
      · rw [if_pos b]
        by_cases c : loW n = 0
        · rw [if_pos c, if_neg (by omega), if_pos (by omega)]; rfl
        · rw [if_neg c, if_neg (by omega), if_neg (by omega)]; rfl
      · rw [if_neg b, if_neg (by omega), if_neg (by omega)]; rfl
  · rintro e w' ⟨rfl, hb⟩
    exact ⟨rfl, Fr.of_below hb⟩
theorem way_c (x y X Y : Int) (hx : inP x) (hy : inP y) (hX : inP X) (hY : inP Y) (W : World) : Calls Try.prog 86 #[.agg #[.int .i64 x, .int .i64 y], .agg #[.int .i64 X, .int .i64 Y]] W fun e w' => e = .returned (.agg #[.int .i64 (X - x), .int .i64 (Y - y)]) ∧ Fr (fun _ => False) W w' := by
  refine (pred_way.calls x y X Y (X - x) (Y - y) W ?_).mono ?_
  · unfold pred_way.f
    rw [w64 (n := X - x) (by have := hx.1; have := hx.2; have := hX.1; have := hX.2; omega) (by have := hx.1; have := hx.2; have := hX.1; have := hX.2; omega), w64 (n := Y - y) (by have := hy.1; have := hy.2; have := hY.1; have := hY.2; omega) (by have := hy.1; have := hy.2; have := hY.1; have := hY.2; omega)]
  · rintro e w' ⟨rfl, hb⟩
    exact ⟨rfl, Fr.of_below hb⟩
theorem df_bd {x X : Int} (hx : inP x) (hX : inP X) : -4611686018427387904 ≤ X - x ∧ X - x ≤ 4611686018427387904 := by
  have := hx.1; have := hx.2; have := hX.1; have := hX.2; omega
/-- How three points turn. -/
def ori (ax ay bx bY cx cy : Int) : Int := sgn (ac (bx - ax) (bY - ay) (cx - ax) (cy - ay))
set_option maxRecDepth 100000 in
set_option maxHeartbeats 4000000 in
theorem orient_walk (ax ay bx bY cx cy : Int) (W : World) (h1 : inP ax) (h2 : inP ay) (h3 : inP bx) (h4 : inP bY) (h5 : inP cx) (h6 : inP cy) : Calls Try.prog 141 #[.agg #[.int .i64 ax, .int .i64 ay], .agg #[.int .i64 bx, .int .i64 bY], .agg #[.int .i64 cx, .int .i64 cy]] W fun e w' => e = .returned (.int .i64 (ori ax ay bx bY cx cy)) ∧ Fr (fun _ => False) W w' := by
  have W1 := Lib.hid (way_c ax ay bx bY h1 h2 h3 h4)
  have W2 := Lib.hid (way_c ax ay cx cy h1 h2 h5 h6)
  have AC := Lib.hid (fun w => across_walk (bx - ax) (bY - ay) (cx - ax) (cy - ay) w (df_bd h1 h3) (df_bd h2 h4) (df_bd h1 h5) (df_bd h2 h6))
  have SG := Lib.hid (sign_c (ac (bx - ax) (bY - ay) (cx - ax) (cy - ay)))
  unfold ori
  clear h1 h2 h3 h4 h5 h6
  generalize bx - ax = ux at W1 AC SG ⊢
  generalize bY - ay = uy at W1 AC SG ⊢
  generalize cx - ax = vx at W2 AC SG ⊢
  generalize cy - ay = vy at W2 AC SG ⊢
  generalize ac ux uy vx vy = D at AC SG ⊢
  unfold encW at AC SG
  obtain ⟨t1, t2, t3, f3⟩ := tri W (Obj.cells #[Value.int IntKind.i64 ax, Value.int IntKind.i64 ay] 24) (Obj.cells #[Value.int IntKind.i64 bx, Value.int IntKind.i64 bY] 24) (Obj.cells #[Value.int IntKind.i64 cx, Value.int IntKind.i64 cy] 24)
  go_enter Try.func141, Try.ntmps141
  go_wp2_with fail
  generalize ((W.alloc (Obj.cells #[Value.int IntKind.i64 ax, Value.int IntKind.i64 ay] 24)).alloc (Obj.cells #[Value.int IntKind.i64 bx, Value.int IntKind.i64 bY] 24)).alloc (Obj.cells #[Value.int IntKind.i64 cx, Value.int IntKind.i64 cy] 24) = w3 at t1 t2 t3 f3 ⊢
  have T1 := Lib.hid t1
  have T2 := Lib.hid t2
  have T3 := Lib.hid t3
  have F3 := Lib.hid f3
  have PC := Lib.hid (fun w (h : Fr (fun _ => False) w3 w) => And.intro (point_cells (ZFr.blk_fr T1.out h (fun h => h))) (And.intro (point_cells (ZFr.blk_fr T2.out h (fun h => h))) (point_cells (ZFr.blk_fr T3.out h (fun h => h)))))
  obtain ⟨⟨p1, p2⟩, ⟨p3, p4⟩, p5, p6⟩ := PC.out w3.drew (Fr.refl _ w3).drew
  clear t1 t2 t3 f3
  go_region_held3 (fun w' => w'.cell? ⟨W.heap.size, 0, none⟩ = some (.int .i64 ax) ∧ w'.cell? ⟨W.heap.size, 1, none⟩ = some (.int .i64 ay) ∧ w'.cell? ⟨W.heap.size + 1, 0, none⟩ = some (.int .i64 bx) ∧ w'.cell? ⟨W.heap.size + 1, 1, none⟩ = some (.int .i64 bY) ∧ w'.cell? ⟨W.heap.size + 1 + 1, 0, none⟩ = some (.int .i64 cx) ∧ w'.cell? ⟨W.heap.size + 1 + 1, 1, none⟩ = some (.int .i64 cy))
    (refine ⟨?_, ?_, ?_, ?_, ?_, ?_⟩ <;> with_reducible assumption)
    (first
      | ((go_at_call 147; have hc_ := SG.out w6; (with_reducible refine hc_.mono ?_); clear hc_; rintro e w7 ⟨rfl, f7⟩; have E7 := Lib.hid (E6.out.trans f7 (fun _ h _ => h)); obtain ⟨⟨q71, q72⟩, ⟨q73, q74⟩, q75, q76⟩ := PC.out w7 E7.out; clear f7))
      | ((go_at_call 148; have hc_ := AC.out w5; (with_reducible refine hc_.mono ?_); clear hc_; rintro e w6 ⟨rfl, f6⟩; have E6 := Lib.hid (E5.out.trans f6 (fun _ h _ => h)); obtain ⟨⟨q61, q62⟩, ⟨q63, q64⟩, q65, q66⟩ := PC.out w6 E6.out; clear f6))
      | ((go_at_call 86; have hc_ := W2.out w4; (with_reducible refine hc_.mono ?_); clear hc_; rintro e w5 ⟨rfl, f5⟩; have E5 := Lib.hid (E4.out.trans f5 (fun _ h _ => h)); obtain ⟨⟨q51, q52⟩, ⟨q53, q54⟩, q55, q56⟩ := PC.out w5 E5.out; clear f5))
      | ((go_at_call 86; have hc_ := W1.out w3.drew; (with_reducible refine hc_.mono ?_); clear hc_; rintro e w4 ⟨rfl, f4⟩; have E4 := Lib.hid ((Fr.refl (fun _ => False) w3).drew.trans f4 (fun _ h _ => h)); obtain ⟨⟨q41, q42⟩, ⟨q43, q44⟩, q45, q46⟩ := PC.out w4 E4.out; clear f4)))
  all_goals
    go_wp2_with fail
    go_ret
    exact ⟨rfl, F3.out.trans E7.out (fun _ h _ => h)⟩
end Go.Proofs.Ytngmkjgklonfmaa.Wd


/- What is used of HoB. -/
namespace Go.Proofs.Ytngmkjgklonfmaa.Wd
open Go.RowKit Go.Proofs.ZFr Go.Proofs.Ytngmkjgklonfmaa.PNearNearest Go.Proofs.Ytngmkjgklonfmaa.Big Go.Proofs.YtngmkjgklonfmaaW.PrintWords
theorem pts_n {w : World} {g : Nat} (L : List S24) (hl : L.length ≤ 100) (h : ∀ i (hi : i < L.length), w.cell? ⟨g, i * 2, none⟩ = some (.int .i64 L[i].f0) ∧ w.cell? ⟨g, i * 2 + 1, none⟩ = some (.int .i64 L[i].f1)) : Kd.C k24 w (some ⟨g, 0, none⟩) L.length L := by
  refine ⟨rfl, by omega, fun _ => ⟨_, rfl, fun j p hj => ?_⟩⟩
  obtain ⟨hjl, hx⟩ := List.getElem?_eq_some_iff.1 hj
  obtain ⟨h0, h1⟩ := h j hjl
  rw [hx] at h0 h1
  refine ⟨_, rfl, k24_mk w p, fun i u hu => ?_⟩
  have ea : ∀ i, (⟨g, 0, none⟩ : Addr).add (j * k24.sz + i) = ⟨g, j * 2 + i, none⟩ := fun i => by
    rw [show k24.sz = 2 from rfl]; unfold Addr.add; split <;> simp_all
  rw [ea]
  match i, hu with
  | 0, hu => simp at hu; subst hu; exact h0
  | 1, hu => simp at hu; subst hu; exact h1
theorem can_go (L : List S24) (hl : L.length ≤ 100) (h : ∀ p ∈ L, inP p.f0 ∧ inP p.f1) : ∀ (e i k : Nat), i + e = L.length → e < k → pred_can.l0 k L (L.length : Int) (i : Int) = some true
  | 0, i, k, hi, hk => by
    obtain ⟨k, rfl⟩ : ∃ m, k = m + 1 := ⟨k - 1, by omega⟩
    rw [pred_can.l0, if_neg (by omega)]
  | e + 1, i, k, hi, hk => by
    obtain ⟨k, rfl⟩ : ∃ m, k = m + 1 := ⟨k - 1, by omega⟩
    have hil : i < L.length := by omega
    have hw : wrap64 ((i : Int) + 1) = ((i + 1 : Nat) : Int) := by unfold wrap64; omega
    have hr : rd_T24 L (i : Int) = L[i] := by unfold rd_T24; rw [Int.toNat_natCast, List.getD_eq_getElem?_getD, List.getElem?_eq_getElem hil]; rfl
    obtain ⟨h0, h1⟩ := h L[i] (List.getElem_mem hil)
    rw [pred_can.l0, if_pos (by omega), if_pos (by omega), if_pos (by omega), hr, lcan_f _ _ h0 h1, Option.bind_some, if_pos rfl, hw, can_go L hl h e (i + 1) k (by omega) (by omega)]
theorem pcan_n (L : List S24) (hl : L.length ≤ 100) (h : ∀ p ∈ L, inP p.f0 ∧ inP p.f1) : pred_can.f 200 L = some true := by
  unfold pred_can.f
  exact can_go L hl h L.length 0 200 (by omega) (by omega)
theorem six {w : World} {g : Nat} {a b c d e f : Int} (h : w.heap[g]? = some (.cells #[.int .i64 a, .int .i64 b, .int .i64 c, .int .i64 d, .int .i64 e, .int .i64 f] 24 (0, 0))) : Kd.C k24 w (some ⟨g, 0, none⟩) 3 [⟨a, b⟩, ⟨c, d⟩, ⟨e, f⟩] := by
  refine pts_n [⟨a, b⟩, ⟨c, d⟩, ⟨e, f⟩] (by simp) (fun i hi => ?_)
  match i, hi with
  | 0, _ => exact ⟨ZFr.blk_cell h 0, ZFr.blk_cell h 1⟩
  | 1, _ => exact ⟨ZFr.blk_cell h 2, ZFr.blk_cell h 3⟩
  | 2, _ => exact ⟨ZFr.blk_cell h 4, ZFr.blk_cell h 5⟩
theorem quad4 (W : World) (o1 o2 o3 o4 : Obj) : ∃ w4, (((W.alloc o1).alloc o2).alloc o3).alloc o4 = w4 ∧ w4.heap[W.heap.size]? = some o1 ∧ w4.heap[W.heap.size + 1]? = some o2 ∧ w4.heap[W.heap.size + 1 + 1]? = some o3 ∧ w4.heap[W.heap.size + 1 + 1 + 1]? = some o4 ∧ Fr (fun _ => False) W w4 := by
  obtain ⟨t1, t2, t3, f3⟩ := tri W o1 o2 o3
  refine ⟨_, rfl, ZFr.blk_alloc t1 o4, ZFr.blk_alloc t2 o4, ZFr.blk_alloc t3 o4, ?_, f3.alloc o4⟩
  have h := heap_alloc_new (((W.alloc o1).alloc o2).alloc o3) o4
  rw [show (((W.alloc o1).alloc o2).alloc o3).heap.size = W.heap.size + 1 + 1 + 1 from (Array.size_push ..).trans (congrArg (· + 1) ((Array.size_push ..).trans (congrArg (· + 1) (Array.size_push ..))))] at h
  exact h
set_option maxRecDepth 100000 in
set_option maxHeartbeats 4000000 in
theorem Orient_walk (ax ay bx bY cx cy : Int) (W : World) (h1 : inP ax) (h2 : inP ay) (h3 : inP bx) (h4 : inP bY) (h5 : inP cx) (h6 : inP cy) : Calls Try.prog 124 #[.agg #[.int .i64 ax, .int .i64 ay], .agg #[.int .i64 bx, .int .i64 bY], .agg #[.int .i64 cx, .int .i64 cy]] W fun e w' => e = .returned (.int .i64 (ori ax ay bx bY cx cy)) ∧ Fr (fun _ => False) W w' := by
  have OR := Lib.hid (fun w => orient_walk ax ay bx bY cx cy w h1 h2 h3 h4 h5 h6)
  have PN := Lib.hid (pcan_n [⟨ax, ay⟩, ⟨bx, bY⟩, ⟨cx, cy⟩] (by simp) (fun p hp => by simp at hp; rcases hp with rfl | rfl | rfl; exact ⟨h1, h2⟩; exact ⟨h3, h4⟩; exact ⟨h5, h6⟩))
  clear h1 h2 h3 h4 h5 h6
  generalize ori ax ay bx bY cx cy = R at OR ⊢
  have HQ := Lib.hid (quad4 W (Obj.cells #[Value.int IntKind.i64 ax, Value.int IntKind.i64 ay] 24) (Obj.cells #[Value.int IntKind.i64 bx, Value.int IntKind.i64 bY] 24) (Obj.cells #[Value.int IntKind.i64 cx, Value.int IntKind.i64 cy] 24) (Obj.cells #[Value.int IntKind.i64 ax, Value.int IntKind.i64 ay, Value.int IntKind.i64 bx, Value.int IntKind.i64 bY, Value.int IntKind.i64 cx, Value.int IntKind.i64 cy] 24))
  go_enter Try.func124, Try.ntmps124
  go_wp2_with fail
  obtain ⟨w4, hw4, t1, t2, t3, t4, f4⟩ := HQ.out
  rw [hw4]
  have T1 := Lib.hid t1
  have T2 := Lib.hid t2
  have T3 := Lib.hid t3
  have T4 := Lib.hid t4
  have F4 := Lib.hid f4
  clear hw4 t1 t2 t3 t4 f4 HQ
  have PC := Lib.hid (fun w (h : Fr (fun _ => False) w4 w) => And.intro (point_cells (ZFr.blk_fr T1.out h (fun h => h))) (And.intro (point_cells (ZFr.blk_fr T2.out h (fun h => h))) (point_cells (ZFr.blk_fr T3.out h (fun h => h)))))
  go_wp2_with (first
    | (go_at_call 141; have hc_ := OR.out w5; (with_reducible refine hc_.mono ?_); clear hc_; rintro e w6 ⟨rfl, f6⟩; have E6 := Lib.hid (E5.out.trans f6 (fun _ h _ => h)); clear f6)
    | (go_at_call 84; have hc_ := (show Calls Try.prog 84 #[.slice (some ⟨W.heap.size + 1 + 1 + 1, 0, none⟩) 3 3] w4 (fun e w' => e = .returned (.bool true) ∧ Below w4.heap.size w4 w') from pred_can.calls 200 (some ⟨W.heap.size + 1 + 1 + 1, 0, none⟩) 3 [⟨ax, ay⟩, ⟨bx, bY⟩, ⟨cx, cy⟩] true w4 (six T4.out) (Nat.le_refl 3) PN.out); (with_reducible refine hc_.mono ?_); clear hc_; rintro e w5 ⟨rfl, b5⟩; have E5 := Lib.hid (Fr.of_below b5); obtain ⟨⟨q51, q52⟩, ⟨q53, q54⟩, q55, q56⟩ := PC.out w5 E5.out; clear b5))
  go_ret
  exact ⟨rfl, F4.out.trans E6.out (fun _ h _ => h)⟩
end Go.Proofs.Ytngmkjgklonfmaa.Wd

