/- Joined texts. -/
import Derived.Test.YtgaicbodpneeoaaSkMulW
import Derived.Test.YtgaicbodpneeoaaJI
import Derived.Deep.RegionLaw
import Derived.Test.YtgaicbodpneeoaaSkPRasterImagesx0
import Derived.Test.YtgaicbodpneeoaaSkNP4
/- What is used of Dist2W. -/
namespace Go.Proofs.Ytgaicbodpneeoaa.Wd
open Go.RowKit Go.Proofs.ZFr Go.Proofs.Ytgaicbodpneeoaa.PRasterImages Go.Proofs.Ytgaicbodpneeoaa.Big
theorem wide_store {w : World} {b : Nat} {x y : Int} (h : w.heap[b]? = some (.cells #[.int .i64 x, .int .u64 y] 54 (0, 0))) : w.cell? ⟨b, 0, none⟩ = some (.int .i64 x) ∧ w.cell? ⟨b, 1, none⟩ = some (.int .u64 y) ∧ w.frozen? ⟨b, 0, none⟩ = false ∧ w.frozen? ⟨b, 1, none⟩ = false := ⟨ZFr.blk_cell h 0, ZFr.blk_cell h 1, ZFr.blk_free h 0, ZFr.blk_free h 1⟩
set_option maxRecDepth 100000 in
set_option maxHeartbeats 4000000 in
theorem Add_walk (a b : Int) (h0 : -170141183460469231731687303715884105728 ≤ a + b) (h1 : a + b < 170141183460469231731687303715884105728) (W : World) : Calls Try.prog 81 #[encW a, encW b] W fun e w' => e = .returned (encW (a + b)) ∧ Fr (fun _ => False) W w' := by
  have hadd := fun w => add_walk a b h0 h1 w
  have HA := Lib.hid hadd
  clear hadd h0 h1
  unfold encW at HA ⊢
  generalize hiW a = xa at HA ⊢
  generalize loW a = ya at HA ⊢
  generalize hiW b = xb at HA ⊢
  generalize loW b = yb at HA ⊢
  generalize hiW (a + b) = xs at HA ⊢
  generalize loW (a + b) = ys at HA ⊢
  obtain ⟨t1, t2, t3, f3⟩ := tri W (Obj.cells #[Value.int IntKind.i64 xa, Value.int IntKind.u64 ya] 54) (Obj.cells #[Value.int IntKind.i64 xb, Value.int IntKind.u64 yb] 54) (Obj.cells #[Value.int IntKind.i64 0, Value.int IntKind.u64 0] 54)
  go_enter Try.func81, Try.ntmps81
  go_wp2_with fail
  generalize ((W.alloc (Obj.cells #[Value.int IntKind.i64 xa, Value.int IntKind.u64 ya] 54)).alloc (Obj.cells #[Value.int IntKind.i64 xb, Value.int IntKind.u64 yb] 54)).alloc (Obj.cells #[Value.int IntKind.i64 0, Value.int IntKind.u64 0] 54) = w3 at t1 t2 t3 f3 ⊢
  have T3 := Lib.hid t3
  have F3 := Lib.hid f3
  clear t1 t2 t3 f3
  go_wp2_with (first
    | (go_at_call 92; have hc_ := HA.out w3; (with_reducible refine hc_.mono ?_); clear hc_; rintro e w4 ⟨rfl, f4⟩; have T4 := Lib.hid (ZFr.blk_fr T3.out f4 (fun h => h)); obtain ⟨i1, i2, i3, i4⟩ := wide_store T4.out; have F4 := Lib.hid (F3.out.trans f4 (fun _ h _ => h)); clear f4))
  refine bodyPost_ret (results_cell_row rfl _ _ (W.heap.size + 1 + 1) 54 #[.int .i64 xs, .int .u64 ys] (0, 0) _ rfl (ZFr.blk_set (ZFr.blk_set T4.out 0 _) 1 _) Try.underlying54 rfl (by kernel_rfl)) rfl ?_
  exact ⟨rfl, (F4.out.set _ _ (.inr (by dsimp only; omega))).set _ _ (.inr (by dsimp only; omega))⟩
theorem sq_bd {x : Int} (h : -4611686018427387904 ≤ x ∧ x ≤ 4611686018427387904) : 0 ≤ x * x ∧ x * x ≤ 21267647932558653966460912964485513216 := by
  refine ⟨mul_self_nn x, ?_⟩
  have e := Int.natAbs_mul x x
  have h1 : x.natAbs * x.natAbs ≤ 4611686018427387904 * 4611686018427387904 := Nat.mul_le_mul (by omega) (by omega)
  have := mul_self_nn x
  omega
set_option maxRecDepth 100000 in
set_option maxHeartbeats 4000000 in
theorem square_walk (x y : Int) (W : World) (hx : -4611686018427387904 ≤ x ∧ x ≤ 4611686018427387904) (hy : -4611686018427387904 ≤ y ∧ y ≤ 4611686018427387904) : Calls Try.prog 58 #[.agg #[.int .i64 x, .int .i64 y]] W fun e w' => e = .returned (encW (x * x + y * y)) ∧ Fr (fun _ => False) W w' := by
  have b1 := sq_bd hx
  have b2 := sq_bd hy
  have MX := Lib.hid (fun w => mul_c x x ⟨by omega, by omega⟩ ⟨by omega, by omega⟩ w)
  have MY := Lib.hid (fun w => mul_c y y ⟨by omega, by omega⟩ ⟨by omega, by omega⟩ w)
  have AD := Lib.hid (fun w => Add_walk (x * x) (y * y) (by omega) (by omega) w)
  unfold encW at MX MY AD ⊢
  clear b1 b2 hx hy
  generalize hiW (x * x) = x1 at MX AD
  generalize loW (x * x) = y1 at MX AD
  generalize hiW (y * y) = x2 at MY AD
  generalize loW (y * y) = y2 at MY AD
  generalize hiW (x * x + y * y) = xs at AD ⊢
  generalize loW (x * x + y * y) = ys at AD ⊢
  have t1 := ZFr.blk_alloc (heap_alloc_new W (Obj.cells #[Value.int IntKind.i64 x, Value.int IntKind.i64 y] 41)) (Obj.cells #[Value.int IntKind.i64 0, Value.int IntKind.u64 0] 54)
  have t2 := second W (Obj.cells #[Value.int IntKind.i64 x, Value.int IntKind.i64 y] 41) (Obj.cells #[Value.int IntKind.i64 0, Value.int IntKind.u64 0] 54)
  have f2 := ((Fr.refl (fun _ => False) W).alloc (Obj.cells #[Value.int IntKind.i64 x, Value.int IntKind.i64 y] 41)).alloc (Obj.cells #[Value.int IntKind.i64 0, Value.int IntKind.u64 0] 54)
  go_enter Try.func58, Try.ntmps58
  go_wp2_with fail
  generalize (W.alloc (Obj.cells #[Value.int IntKind.i64 x, Value.int IntKind.i64 y] 41)).alloc (Obj.cells #[Value.int IntKind.i64 0, Value.int IntKind.u64 0] 54) = w2 at t1 t2 f2 ⊢
  have T1 := Lib.hid t1
  have T2 := Lib.hid t2
  have F2 := Lib.hid f2
  obtain ⟨p1, p2⟩ := point_cells (w := w2.drew) t1
  clear t1 t2 f2
  go_region_held3 (fun w' => w'.cell? ⟨W.heap.size, 0, none⟩ = some (.int .i64 x) ∧ w'.cell? ⟨W.heap.size, 1, none⟩ = some (.int .i64 y))
    (refine ⟨?_, ?_⟩ <;> first | with_reducible assumption | exact cell_far (by with_reducible assumption) (by dsimp only; omega) | exact cell_far (cell_far (by with_reducible assumption) (by dsimp only; omega)) (by dsimp only; omega))
    (first
      | ((go_at_call 81; have hc_ := AD.out w4; (with_reducible refine hc_.mono ?_); clear hc_; rintro e w5 ⟨rfl, f5⟩; obtain ⟨q1, q2⟩ := point_cells (ZFr.blk_fr Q4.out f5 (fun h => h)); have T5 := Lib.hid (ZFr.blk_fr T4.out f5 (fun h => h)); obtain ⟨i1, i2, i3, i4⟩ := wide_store T5.out; have F5 := Lib.hid (F4.out.trans f5 (fun _ h _ => h)); clear f5))
      | ((go_at_call 51; have hc_ := MY.out w3; (with_reducible refine hc_.mono ?_); clear hc_; rintro e w4 ⟨rfl, f4⟩; have Q4 := Lib.hid (ZFr.blk_fr Q3.out f4 (fun h => h)); obtain ⟨q1, q2⟩ := point_cells Q4.out; have T4 := Lib.hid (ZFr.blk_fr T3.out f4 (fun h => h)); have F4 := Lib.hid (F3.out.trans f4 (fun _ h _ => h)); clear f4))
      | ((go_at_call 51; have hc_ := MX.out w2.drew; (with_reducible refine hc_.mono ?_); clear hc_; rintro e w3 ⟨rfl, f3⟩; have Q3 := Lib.hid (ZFr.blk_fr (w := w2.drew) T1.out f3 (fun h => h)); obtain ⟨q1, q2⟩ := point_cells Q3.out; have T3 := Lib.hid (ZFr.blk_fr (w := w2.drew) T2.out f3 (fun h => h)); have F3 := Lib.hid (F2.out.drew.trans f3 (fun _ h _ => h)); clear f3)))
  all_goals
    go_wp2_with fail
    refine bodyPost_ret (results_cell_row rfl _ _ (W.heap.size + 1) 54 #[.int .i64 xs, .int .u64 ys] (0, 0) _ rfl (ZFr.blk_set (ZFr.blk_set T5.out 0 _) 1 _) Try.underlying54 rfl (by kernel_rfl)) rfl ?_
    exact ⟨rfl, (F5.out.set _ _ (.inr (by dsimp only; omega))).set _ _ (.inr (by dsimp only; omega))⟩
end Go.Proofs.Ytgaicbodpneeoaa.Wd


/- What is used of Dist2V. -/
namespace Go.Proofs.Ytgaicbodpneeoaa.Wd
open Go.RowKit Go.Proofs.ZFr Go.Proofs.Ytgaicbodpneeoaa.PRasterImages Go.Proofs.Ytgaicbodpneeoaa.Big Go.Proofs.YtgaicbodpneeoaaW.PrintWords
theorem lcan_f (x y : Int) (hx : inP x) (hy : inP y) : lift_Can.f x y = some true := by
  unfold lift_Can.f lift_can.f lift_within.f
  rw [if_pos hx.1, Option.bind_some, decide_eq_true hx.2, if_pos rfl, if_pos hy.1, Option.bind_some, decide_eq_true hy.2, Option.bind_some]
theorem pcan_f (x y X Y : Int) (hx : inP x) (hy : inP y) (hX : inP X) (hY : inP Y) : pred_can.f 3 [⟨x, y⟩, ⟨X, Y⟩] = some true := by
  have e1 : wrap64 (0 + 1) = 1 := w64 (n := 1) (by decide) (by decide)
  have e2 : wrap64 (1 + 1) = 2 := w64 (n := 2) (by decide) (by decide)
  have hl : (([⟨x, y⟩, ⟨X, Y⟩] : List S41).length : Int) = 2 := rfl
  unfold pred_can.f
  rw [hl, pred_can.l0, hl, if_pos (by decide), if_pos (by decide), if_pos (by decide), show rd_T41 [⟨x, y⟩, ⟨X, Y⟩] 0 = ⟨x, y⟩ from rfl, lcan_f x y hx hy, Option.bind_some, if_pos rfl, e1, pred_can.l0, hl, if_pos (by decide), if_pos (by decide), if_pos (by decide), show rd_T41 [⟨x, y⟩, ⟨X, Y⟩] 1 = ⟨X, Y⟩ from rfl, lcan_f X Y hX hY, Option.bind_some, if_pos rfl, e2, pred_can.l0, if_neg (by decide)]
theorem pts2 {w : World} {g : Nat} {x y X Y : Int} (h : w.heap[g]? = some (.cells #[.int .i64 x, .int .i64 y, .int .i64 X, .int .i64 Y] 41 (0, 0))) : Kd.C k41 w (some ⟨g, 0, none⟩) 2 [⟨x, y⟩, ⟨X, Y⟩] := by
  refine ⟨rfl, by decide, fun _ => ⟨_, rfl, fun j p hj => ?_⟩⟩
  match j, hj with
  | 0, hj =>
    simp at hj; subst hj
    refine ⟨_, rfl, k41_mk w _, fun i u hu => ?_⟩
    match i, hu with
    | 0, hu => simp at hu; subst hu; exact ZFr.blk_cell h 0
    | 1, hu => simp at hu; subst hu; exact ZFr.blk_cell h 1
  | 1, hj =>
    simp at hj; subst hj
    refine ⟨_, rfl, k41_mk w _, fun i u hu => ?_⟩
    match i, hu with
    | 0, hu => simp at hu; subst hu; exact ZFr.blk_cell h 2
    | 1, hu => simp at hu; subst hu; exact ZFr.blk_cell h 3
set_option maxRecDepth 100000 in
set_option maxHeartbeats 4000000 in
theorem dist2_walk (x y X Y : Int) (W : World) (hx : inP x) (hy : inP y) (hX : inP X) (hY : inP Y) : Calls Try.prog 42 #[.agg #[.int .i64 x, .int .i64 y], .agg #[.int .i64 X, .int .i64 Y]] W fun e w' => e = .returned (encW (d2 x y X Y)) ∧ Fr (fun _ => False) W w' := by
  have PC := Lib.hid (pcan_f x y X Y hx hy hX hY)
  have WF := Lib.hid (show pred_way.f x y X Y = some (X - x, Y - y) from by
    unfold pred_way.f
    rw [w64 (n := X - x) (by have := hx.1; have := hx.2; have := hX.1; have := hX.2; omega) (by have := hx.1; have := hx.2; have := hX.1; have := hX.2; omega), w64 (n := Y - y) (by have := hy.1; have := hy.2; have := hY.1; have := hY.2; omega) (by have := hy.1; have := hy.2; have := hY.1; have := hY.2; omega)])
  have SQ := Lib.hid (fun w => square_walk (X - x) (Y - y) w (by have := hx.1; have := hx.2; have := hX.1; have := hX.2; omega) (by have := hy.1; have := hy.2; have := hY.1; have := hY.2; omega))
  have e9 : d2 x y X Y = (X - x) * (X - x) + (Y - y) * (Y - y) := rfl
  rw [← e9] at SQ
  unfold encW at SQ ⊢
  generalize X - x = dx at WF SQ
  generalize Y - y = dy at WF SQ
  generalize hiW (d2 x y X Y) = xs at SQ ⊢
  generalize loW (d2 x y X Y) = ys at SQ ⊢
  clear e9 hx hy hX hY
  obtain ⟨t1, t2, t3, t4, f4⟩ := four W (Obj.cells #[Value.int IntKind.i64 x, Value.int IntKind.i64 y] 41) (Obj.cells #[Value.int IntKind.i64 X, Value.int IntKind.i64 Y] 41) (Obj.cells #[Value.int IntKind.i64 0, Value.int IntKind.u64 0] 54) (Obj.cells #[Value.int IntKind.i64 x, Value.int IntKind.i64 y, Value.int IntKind.i64 X, Value.int IntKind.i64 Y] 41)
  go_enter Try.func42, Try.ntmps42
  go_wp2_with fail
  generalize (((W.alloc (Obj.cells #[Value.int IntKind.i64 x, Value.int IntKind.i64 y] 41)).alloc (Obj.cells #[Value.int IntKind.i64 X, Value.int IntKind.i64 Y] 41)).alloc (Obj.cells #[Value.int IntKind.i64 0, Value.int IntKind.u64 0] 54)).alloc (Obj.cells #[Value.int IntKind.i64 x, Value.int IntKind.i64 y, Value.int IntKind.i64 X, Value.int IntKind.i64 Y] 41) = w4 at t1 t2 t3 t4 f4 ⊢
  have T1 := Lib.hid t1
  have T2 := Lib.hid t2
  have T3 := Lib.hid t3
  have T4 := Lib.hid t4
  have F4 := Lib.hid f4
  clear t1 t2 t3 t4 f4
  go_wp2_with (first
    | (go_at_call 58; have hc_ := SQ.out w6; (with_reducible refine hc_.mono ?_); clear hc_; rintro e w7 ⟨rfl, f7⟩; have R7 := Lib.hid (ZFr.blk_fr R6.out f7 (fun h => h)); obtain ⟨i1, i2, i3, i4⟩ := wide_store R7.out; have F7 := Lib.hid (F6.out.trans f7 (fun _ h _ => h)); clear f7)
    | (go_at_call 59; have hc_ := pred_way.calls x y X Y dx dy w5 WF.out; (with_reducible refine hc_.mono ?_); clear hc_; rintro e w6 ⟨rfl, b6⟩; have f6 := Fr.of_below b6; have R6 := Lib.hid (ZFr.blk_fr R3.out f6 (fun h => h)); have F6 := Lib.hid (F5.out.trans f6 (fun _ h _ => h)); clear b6 f6)
    | (go_at_call 57; have hc_ := (show Calls Try.prog 57 #[.slice (some ⟨W.heap.size + 1 + 1 + 1, 0, none⟩) 2 2] w4 (fun e w' => e = .returned (.bool true) ∧ Below w4.heap.size w4 w') from pred_can.calls 3 (some ⟨W.heap.size + 1 + 1 + 1, 0, none⟩) 2 [⟨x, y⟩, ⟨X, Y⟩] true w4 (pts2 T4.out) (Nat.le_refl 2) PC.out); (with_reducible refine hc_.mono ?_); clear hc_; rintro e w5 ⟨rfl, b5⟩; have f5 := Fr.of_below b5; have R1 := Lib.hid (ZFr.blk_fr T1.out f5 (fun h => h)); have R2 := Lib.hid (ZFr.blk_fr T2.out f5 (fun h => h)); have R3 := Lib.hid (ZFr.blk_fr T3.out f5 (fun h => h)); obtain ⟨q1, q2⟩ := point_cells R1.out; obtain ⟨q3, q4⟩ := point_cells R2.out; have F5 := Lib.hid (F4.out.trans f5 (fun _ h _ => h)); clear b5 f5))
  refine bodyPost_ret (results_cell_row rfl _ _ (W.heap.size + 1 + 1) 54 #[.int .i64 xs, .int .u64 ys] (0, 0) _ rfl (ZFr.blk_set (ZFr.blk_set R7.out 0 _) 1 _) Try.underlying54 rfl (by kernel_rfl)) rfl ?_
  exact ⟨rfl, (F7.out.set _ _ (.inr (by dsimp only; omega))).set _ _ (.inr (by dsimp only; omega))⟩
end Go.Proofs.Ytgaicbodpneeoaa.Wd


/- What is used of LiftM. -/
namespace Go.Proofs.Ytgaicbodpneeoaa.Wd
open Go.RowKit Go.Proofs.ZFr Go.Proofs.Ytgaicbodpneeoaa.PRasterImages Go.Proofs.Ytgaicbodpneeoaa.Big Go.Proofs.YtgaicbodpneeoaaW.PrintWords
theorem fr_drawn {w w1 : World} (h : Drawn0 w w1) : Fr (fun _ => False) w w1 := by
  obtain ⟨n, rfl⟩ := h
  exact (Fr.refl _ w).drewN n
set_option maxRecDepth 100000 in
set_option maxHeartbeats 4000000 in
theorem move_walk (a b n : Int) (W : World) (hn : 1 ≤ n ∧ n ≤ 1073741824) (ha : sqP a n) (hb : -1 ≤ b ∧ b ≤ 1) : Calls Try.prog 80 #[.int .i64 a, .int .i64 b, .int .i64 n] W fun e w' => e = .returned (.tuple #[.int .i64 (a + b * n), .bool true]) ∧ Fr (fun _ => False) W w' := by
  obtain ⟨n1, n2⟩ := hn
  obtain ⟨a1, a2⟩ := ha
  obtain ⟨b1, b2⟩ := hb
  have hbn : -n ≤ b * n ∧ b * n ≤ n := by
    have : b = -1 ∨ b = 0 ∨ b = 1 := by omega
    rcases this with rfl | rfl | rfl <;> (constructor <;> omega)
  have e0 : Int.tdiv 2199023255552 n = 2199023255552 / n := Int.tdiv_eq_ediv_of_nonneg (by omega)
  have hq : 2048 ≤ 2199023255552 / n := Int.le_ediv_of_mul_le (by omega) (by omega)
  have hq2 : 2199023255552 / n ≤ 2199023255552 := Int.ediv_le_self _ (by omega)
  obtain ⟨F, hF⟩ : ∃ F, 2199023255552 / n = F := ⟨_, rfl⟩
  rw [hF] at e0 hq hq2
  clear hF
  obtain ⟨p, hp⟩ : ∃ p, b * n = p := ⟨_, rfl⟩
  obtain ⟨s, hs⟩ : ∃ s, a + p = s := ⟨_, rfl⟩
  rw [hp] at hbn ⊢
  have hs1 : -1099511627776 ≤ s := by omega
  have hs2 : s ≤ 1099511627776 := by omega
  have w1 : IntKind.i64.wrap (b * n) = p := by rw [hp, Go.Proofs.YtgaicbodpneeoaaW.PrintLast.i64_w, w64 (n := p) (by omega) (by omega)]
  have w2 : IntKind.i64.wrap (a + p) = s := by rw [hs, Go.Proofs.YtgaicbodpneeoaaW.PrintLast.i64_w, w64 (n := s) (by omega) (by omega)]
  have w3 : IntKind.i64.wrap F = F := by rw [Go.Proofs.YtgaicbodpneeoaaW.PrintLast.i64_w, w64 (n := F) (by omega) (by omega)]
  have w4 : IntKind.i64.wrap (-F) = -F := by rw [Go.Proofs.YtgaicbodpneeoaaW.PrintLast.i64_w, w64 (n := -F) (by omega) (by omega)]
  have c1 : ¬ b < -2199023255552 := by omega
  have c2 : ¬ 2199023255552 < b := by omega
  have c3 : ¬ b < -F := by omega
  have c4 : ¬ F < b := by omega
  have n0 : ¬ n = 0 := by omega
  have WI := Lib.hid (show lift_within.f s = some true from by unfold lift_within.f; rw [if_pos hs1, decide_eq_true hs2])
  rw [hs]
  clear hs1 hs2 hp hs hbn hq hq2 a1 a2 b1 b2 n1 n2
  go_enter Try.func80, Try.ntmps80
  go_wp2_with (first
    | (go_at_call 33; have hc_ := lift_within.calls s true W WI.out; (with_reducible refine hc_.mono ?_); clear hc_; rintro e w1 ⟨rfl, b1⟩; have F1 := Lib.hid (fr_drawn b1); clear b1))
  go_ret2
  exact ⟨rfl, F1.out⟩
set_option maxRecDepth 100000 in
set_option maxHeartbeats 4000000 in
theorem at_walk (x y b c n : Int) (W : World) (hn : 1 ≤ n ∧ n ≤ 1073741824) (hx : sqP x n) (hy : sqP y n) (hb : -1 ≤ b ∧ b ≤ 1) (hc : -1 ≤ c ∧ c ≤ 1) : Calls Try.prog 56 #[.agg #[.int .i64 x, .int .i64 y], .agg #[.int .i64 b, .int .i64 c], .int .i64 n] W fun e w' => e = .returned (.tuple #[.agg #[.int .i64 (x + b * n), .int .i64 (y + c * n)], .bool true]) ∧ Fr (fun _ => False) W w' := by
  have TO := Lib.hid (show lift_torus.f n = some true from by unfold lift_torus.f; rw [if_pos hn.1, decide_eq_true (by have := hn.2; omega)])
  have CA := Lib.hid (show lift_can.f x y = some true from by
    have a1 := hx.1; have a2 := hx.2; have a3 := hy.1; have a4 := hy.2; have a5 := hn.2
    unfold lift_can.f lift_within.f
    rw [if_pos (by omega), Option.bind_some, decide_eq_true (by omega), if_pos rfl, if_pos (by omega), Option.bind_some, decide_eq_true (by omega)])
  have MX := Lib.hid (fun w => move_walk x b n w hn hx hb)
  have MY := Lib.hid (fun w => move_walk y c n w hn hy hc)
  generalize x + b * n = X at MX ⊢
  generalize y + c * n = Y at MY ⊢
  clear hn hx hy hb hc
  obtain ⟨t1, t2, t3, f3⟩ := tri W (Obj.cells #[Value.int IntKind.i64 x, Value.int IntKind.i64 y] 41) (Obj.cells #[Value.int IntKind.i64 b, Value.int IntKind.i64 c] 44) (Obj.cells #[Value.int IntKind.i64 0, Value.int IntKind.i64 0] 41)
  go_enter Try.func56, Try.ntmps56
  go_wp2_with fail
  generalize ((W.alloc (Obj.cells #[Value.int IntKind.i64 x, Value.int IntKind.i64 y] 41)).alloc (Obj.cells #[Value.int IntKind.i64 b, Value.int IntKind.i64 c] 44)).alloc (Obj.cells #[Value.int IntKind.i64 0, Value.int IntKind.i64 0] 41) = w3 at t1 t2 t3 f3 ⊢
  have P3 := Lib.hid t1
  have O3 := Lib.hid t2
  have R3 := Lib.hid t3
  have F3 := Lib.hid f3
  clear t1 t2 t3 f3
  go_wp2_with (first
    | (go_at_call 80; have hc_ := MY.out w6; (with_reducible refine hc_.mono ?_); clear hc_; rintro e w7 ⟨rfl, f7⟩; have P7 := Lib.hid (ZFr.blk_fr P6.out f7 (fun h => h)); have O7 := Lib.hid (ZFr.blk_fr O6.out f7 (fun h => h)); have R7 := Lib.hid (ZFr.blk_fr R6.out f7 (fun h => h)); obtain ⟨p7, q7⟩ := point_cells P7.out; obtain ⟨o7, u7, _, _⟩ := of_store O7.out; obtain ⟨r7, s7, g7, h7⟩ := pt_store R7.out; have F7 := Lib.hid (F6.out.trans f7 (fun _ h _ => h)); clear f7)
    | (go_at_call 80; have hc_ := MX.out w5; (with_reducible refine hc_.mono ?_); clear hc_; rintro e w6 ⟨rfl, f6⟩; have P6 := Lib.hid (ZFr.blk_fr P5.out f6 (fun h => h)); have O6 := Lib.hid (ZFr.blk_fr O5.out f6 (fun h => h)); have R6 := Lib.hid (ZFr.blk_fr R5.out f6 (fun h => h)); obtain ⟨p6, q6⟩ := point_cells P6.out; obtain ⟨o6, u6, _, _⟩ := of_store O6.out; obtain ⟨r6, s6, g6, h6⟩ := pt_store R6.out; have F6 := Lib.hid (F5.out.trans f6 (fun _ h _ => h)); clear f6)
    | (go_at_call 22; have hc_ := lift_can.calls x y true w4 CA.out; (with_reducible refine hc_.mono ?_); clear hc_; rintro e w5 ⟨rfl, b5⟩; have f5 := Fr.of_below b5; clear b5; have P5 := Lib.hid (ZFr.blk_fr P4.out f5 (fun h => h)); have O5 := Lib.hid (ZFr.blk_fr O4.out f5 (fun h => h)); have R5 := Lib.hid (ZFr.blk_fr R4.out f5 (fun h => h)); obtain ⟨p5, q5⟩ := point_cells P5.out; obtain ⟨o5, u5, _, _⟩ := of_store O5.out; obtain ⟨r5, s5, g5, h5⟩ := pt_store R5.out; have F5 := Lib.hid (F4.out.trans f5 (fun _ h _ => h)); clear f5)
    | (go_at_call 23; have hc_ := lift_torus.calls n true w3 TO.out; (with_reducible refine hc_.mono ?_); clear hc_; rintro e w4 ⟨rfl, b4⟩; have f4 := fr_drawn b4; clear b4; have P4 := Lib.hid (ZFr.blk_fr P3.out f4 (fun h => h)); have O4 := Lib.hid (ZFr.blk_fr O3.out f4 (fun h => h)); have R4 := Lib.hid (ZFr.blk_fr R3.out f4 (fun h => h)); obtain ⟨p4, q4⟩ := point_cells P4.out; obtain ⟨o4, u4, _, _⟩ := of_store O4.out; obtain ⟨r4, s4, g4, h4⟩ := pt_store R4.out; have F4 := Lib.hid (F3.out.trans f4 (fun _ h _ => h)); clear f4)
    )
  refine bodyPost_ret (results_ct rfl _ _ (W.heap.size + 1 + 1) 41 #[.int .i64 X, .int .i64 Y] (0, 0) _ rfl (ZFr.blk_set (ZFr.blk_set R7.out 0 _) 1 _) Try.underlying41 rfl (by kernel_rfl)) rfl ?_
  exact ⟨rfl, (F7.out.set _ _ (.inr (by dsimp only; omega))).set _ _ (.inr (by dsimp only; omega))⟩
end Go.Proofs.Ytgaicbodpneeoaa.Wd


/- What is used of WinW. -/
namespace Go.Proofs.Ytgaicbodpneeoaa.Wd
open Go.RowKit Go.Proofs.ZFr Go.Proofs.Ytgaicbodpneeoaa.PRasterImages Go.Proofs.Ytgaicbodpneeoaa.Big Go.Proofs.YtgaicbodpneeoaaW.PrintWords
/-- The m-th point of the window. -/
def wp9 (X Y n : Int) (m : Nat) : Int × Int := (X + (((m / 3 : Nat) : Int) - 1) * n, Y + (((m % 3 : Nat) : Int) - 1) * n)
def w9 (X Y n : Int) (m : Nat) : List Value := (List.range m).flatMap fun k => [.int .i64 (wp9 X Y n k).1, .int .i64 (wp9 X Y n k).2]
theorem w9_snoc (X Y n : Int) (m : Nat) : w9 X Y n (m + 1) = w9 X Y n m ++ [.int .i64 (wp9 X Y n m).1, .int .i64 (wp9 X Y n m).2] := by
  unfold w9; rw [List.range_succ, List.flatMap_append]; simp
theorem row_base {w : World} {base : Nat} {e : TypeId} {size : Nat} {v : Value} {n : Nat} {xs : List Value} (h : w.ownsRow base e size v n xs) : ∀ k, v.ownBlock = some k → base ≤ k ∧ k < w.heap.size := by
  intro k hk
  rcases h.2 with ⟨rfl, rfl⟩ | ⟨g, cap, cur, rfl, hb, hg, _⟩
  · simp [Value.ownBlock] at hk
  · simp only [Value.ownBlock, Option.some.injEq] at hk
    subst hk
    exact ⟨hb, ZFr.blk_lt hg⟩
set_option maxRecDepth 100000 in
set_option maxHeartbeats 4000000 in
theorem window_walk (X Y n : Int) (W : World) (hn : 1 ≤ n ∧ n ≤ 1073741824) (hX : sqP X n) (hY : sqP Y n) : Calls Try.prog 41 #[.agg #[.int .i64 X, .int .i64 Y], .int .i64 n, .int .i64 1] W fun e w' => ∃ v, e = .returned v ∧ w'.ownsRow W.heap.size 41 2 v 9 (w9 X Y n 9) ∧ Fr (fun _ => False) W w' := by
  go_enter Try.func41, Try.ntmps41
  go_wp2_with fail
  have T1 := Lib.hid (heap_alloc_new W (Obj.cells #[Value.int IntKind.i64 X, Value.int IntKind.i64 Y] 41))
  have F1 := Lib.hid ((Fr.refl (fun _ => False) W).alloc (Obj.cells #[Value.int IntKind.i64 X, Value.int IntKind.i64 Y] 41))
  generalize W.alloc (Obj.cells #[Value.int IntKind.i64 X, Value.int IntKind.i64 Y] 41) = w1 at T1 F1 ⊢
  go_loopw [7, 8] (fun v i wr => ∃ k : Nat, k ≤ 3 ∧ i = .int .i64 ((k : Int) - 1) ∧ wr.ownsRow w1.heap.size 41 2 v (3 * k) (w9 X Y n (3 * k)) ∧ Fr (fun _ => False) w1 wr) (fun _ i _ => (2 - intOf i).toNat)
  case atStart => exact ⟨0, by omega, rfl, ⟨rfl, .inl ⟨rfl, rfl⟩⟩, Fr.refl _ _⟩
  case round =>
    obtain ⟨k, hk, rfl, ho, hf⟩ := hrel
    have HO := Lib.hid ho
    have HF := Lib.hid hf
    clear ho hf
    by_cases hk3 : k < 3
    · have hkd : (k : Int) - 1 ≤ 1 := by omega
      obtain ⟨wo, rfl⟩ : ∃ wo : World, wo = wr := ⟨_, rfl⟩
      go_wp2_with fail
      go_loopw [7, 9] (fun v i ws => ∃ j : Nat, j ≤ 3 ∧ i = .int .i64 ((j : Int) - 1) ∧ ws.ownsRow w1.heap.size 41 2 v (3 * k + j) (w9 X Y n (3 * k + j)) ∧ Fr (fun _ => False) w1 ws) (fun _ i _ => (2 - intOf i).toNat)
      case atStart => exact ⟨0, by omega, rfl, HO.out, HF.out⟩
      case round =>
        obtain ⟨j, hj, rfl, ho, hf⟩ := hrel
        obtain ⟨p, c, rfl⟩ := row_slice ho
        have HO2 := Lib.hid ho
        have HF2 := Lib.hid hf
        clear ho hf
        by_cases hj3 : j < 3
        · have hjd : (j : Int) - 1 ≤ 1 := by omega
          have AT := Lib.hid (fun w => at_walk X Y ((k : Int) - 1) ((j : Int) - 1) n w hn hX hY ⟨by omega, by omega⟩ ⟨by omega, by omega⟩)
          have hsn := w9_snoc X Y n (3 * k + j)
          have hwp : wp9 X Y n (3 * k + j) = (X + ((k : Int) - 1) * n, Y + ((j : Int) - 1) * n) := by unfold wp9; rw [show (3 * k + j) / 3 = k from by omega, show (3 * k + j) % 3 = j from by omega]
          rw [hwp] at hsn
          obtain ⟨U, hU⟩ : ∃ U, (k : Int) - 1 = U := ⟨_, rfl⟩
          obtain ⟨V, hV⟩ : ∃ V, (j : Int) - 1 = V := ⟨_, rfl⟩
          rw [hU] at AT hkd ⊢
          rw [hV] at AT hjd ⊢
          rw [hU, hV] at hsn
          have HU := Lib.hid hU
          have HV := Lib.hid hV
          have HJ := Lib.hid (And.intro hk3 hj3)
          generalize X + U * n = px at AT hsn
          generalize Y + V * n = py at AT hsn
          obtain ⟨m, hm⟩ : ∃ m, 3 * k + j = m := ⟨_, rfl⟩
          rw [hm] at hsn HO2 ⊢
          have HM := Lib.hid hm
          have HSN := Lib.hid hsn
          have T2 := Lib.hid (ZFr.blk_fr T1.out HF2.out (fun h => h))
          obtain ⟨x0, y0⟩ := point_cells T2.out
          have o24 : (Obj.cells #[Value.int IntKind.i64 px, Value.int IntKind.i64 py] 41) = (Obj.cells #[Value.int IntKind.i64 px, Value.int IntKind.i64 py] 41) := rfl
          obtain ⟨i0, hi0, hz0, hz1, hz2⟩ := info_parts info41
          clear hU hV hwp hsn hm o24 hn hX hY hk3 hj3 hk hj
          go_wp2_with (first
            | (go_at_call 56; have hc_ := AT.out wr; (with_reducible refine hc_.mono ?_); clear hc_; rintro e w5 ⟨rfl, f5⟩; have F5 := Lib.hid f5; clear f5)
            | (at_builtin; refine wpList_append_own_at _ rfl (.tmp 43) (.tmp 45) 91 rfl w1.heap.size 41 i0 _ 2 16 Try.underlying91 hi0 hz0 hz1 hz2 rfl (by decide) (.slice p m c) m (w9 X Y n m) rfl (((row_fr HO2.out F5.out (fun _ _ h => h)).alloc _).alloc _) ⟨w5.heap.size + 1, 0, none⟩ 1 1 [.int .i64 px, .int .i64 py] rfl rfl ?d1 ?d2 ?d3 ?d4 ?d5 ?more))
          case d1 => intro u x hj; match u, hj with | 0, hj => simp at hj; subst hj; exact new_cell (w5.alloc _) (w5.heap.size + 1) _ _ (by simp) 0 | 1, hj => simp at hj; subst hj; exact new_cell (w5.alloc _) (w5.heap.size + 1) _ _ (by simp) 1
          case d2 => intro u hu; simp at hu; rcases hu with rfl | rfl <;> rfl
          case d3 => have h1 := HM.out; have h2 := HJ.out; unfold maxLen; omega
          case d4 => have h1 := HM.out; have h2 := HJ.out; omega
          case d5 =>
            have e1 := HF2.out.size
            have e2 := F5.out.size
            simp at e2 ⊢
            omega
          case more =>
            intro v2 w2 hown2 hgrow _ _
            rw [← HSN.out] at hown2
            have HO3 := Lib.hid hown2
            have HG3 := Lib.hid hgrow
            clear hown2 hgrow
            go_wp2_with fail
            go_roundw
            case rel =>
              refine ⟨j + 1, by have := HJ.out; omega, by have h1 := HV.out; have h2 := HJ.out; rw [w64 (n := V + 1) (by omega) (by omega)]; go_num, ?_, ?_⟩
              · rw [show 3 * k + (j + 1) = m + 1 from by have := HM.out; omega]; exact HO3.out
              · exact ((((HF2.out.trans F5.out (fun _ h _ => h)).alloc _).alloc _).grown HG3.out (fun q hq => .inr (row_base HO2.out q hq).1))
            case measure => have h1 := HV.out; have h2 := HJ.out; simp [intOf]; rw [w64 (n := V + 1) (by omega) (by omega)]; omega
        · have hje : j = 3 := by omega
          subst hje
          go_wp2_with fail
          go_roundw
          case rel =>
            refine ⟨k + 1, by omega, by go_num, ?_, HF2.out⟩
            rw [show 3 * (k + 1) = 3 * k + 3 from by omega]; exact HO2.out
          case measure => simp [intOf]; omega
    · have hke : k = 3 := by omega
      subst hke
      go_wp2_with fail
      go_ret
      exact ⟨_, rfl, row_low HO.out (by have := F1.out.size; omega), F1.out.trans HF.out (fun _ h _ => h)⟩
end Go.Proofs.Ytgaicbodpneeoaa.Wd


/- What is used of NFar. -/
namespace Go.Proofs.Ytgaicbodpneeoaa.Wd
open Go.RowKit Go.Proofs.ZFr Go.Proofs.Ytgaicbodpneeoaa.PRasterImages Go.Proofs.Ytgaicbodpneeoaa.Big Go.Proofs.YtgaicbodpneeoaaW.PrintWords
theorem w9_len (X Y n : Int) : ∀ m, (w9 X Y n m).length = 2 * m
  | 0 => rfl
  | m + 1 => by rw [w9_snoc, List.length_append, w9_len X Y n m]; simp; omega
theorem w9_get (X Y n : Int) (j : Nat) : ∀ m, j < m → (w9 X Y n m)[2 * j]? = some (.int .i64 (wp9 X Y n j).1) ∧ (w9 X Y n m)[2 * j + 1]? = some (.int .i64 (wp9 X Y n j).2)
  | 0, h => absurd h (Nat.not_lt_zero _)
  | m + 1, h => by
    have hl := w9_len X Y n m
    rw [w9_snoc]
    by_cases hj : j < m
    · obtain ⟨a, b⟩ := w9_get X Y n j m hj
      rw [List.getElem?_append_left (by omega), List.getElem?_append_left (by omega)]
      exact ⟨a, b⟩
    · obtain rfl : j = m := by omega
      rw [List.getElem?_append_right (by omega), List.getElem?_append_right (by omega), hl]
      simp
theorem w9_in {X Y n : Int} {j : Nat} (hj : j < 9) (hn : 1 ≤ n ∧ n ≤ 1073741824) (hX : sqP X n) (hY : sqP Y n) : inP (wp9 X Y n j).1 ∧ inP (wp9 X Y n j).2 := by
  have b : ∀ t : Nat, t < 3 → -n ≤ ((t : Int) - 1) * n ∧ ((t : Int) - 1) * n ≤ n := fun t ht => by
    match t, ht with
    | 0, _ => simp; omega
    | 1, _ => simp; omega
    | 2, _ => simp; omega
  have h1 := b (j / 3) (by omega)
  have h2 := b (j % 3) (by omega)
  have a1 := hX.1; have a2 := hX.2; have a3 := hY.1; have a4 := hY.2
  unfold wp9 inP
  dsimp only
  omega
theorem sq_in {x n : Int} (hn : 1 ≤ n ∧ n ≤ 1073741824) (hx : sqP x n) : inP x := by
  have := hx.1; have := hx.2; unfold inP; omega
structure StN (x y X Y n : Int) (g c gl : Nat) (W wr : World) (m : Nat) : Prop where
  p : wr.heap[W.heap.size]? = some (.cells #[.int .i64 x, .int .i64 y] 41 (0, 0))
  r : wr.heap[W.heap.size + 1 + 1]? = some (.cells #[.int .i64 0, .int .u64 0] 54 (0, 0))
  l : wr.heap[gl]? = some (.cells #[.int .i64 (hiW (mn x y X Y n m)), .int .u64 (loW (mn x y X Y n m))] 54 (0, 0))
  row : wr.ownsRow W.heap.size 41 2 (.slice (some ⟨g, 0, none⟩) 9 c) 9 (w9 X Y n 9)
  f : Fr (fun _ => False) W wr
  low : W.heap.size + 1 + 1 < gl
set_option maxRecDepth 100000 in
set_option maxHeartbeats 4000000 in
theorem nfar_walk (x y X Y n : Int) (W : World) (hn : 1 ≤ n ∧ n ≤ 1073741824) (hx : sqP x n) (hy : sqP y n) (hX : sqP X n) (hY : sqP Y n) : Calls Try.prog 28 #[.agg #[.int .i64 x, .int .i64 y], .agg #[.int .i64 X, .int .i64 Y], .int .i64 n] W fun e w' => e = .returned (encW (mn x y X Y n 9)) ∧ Fr (fun _ => False) W w' := by
  have DI := Lib.hid (fun (j : Nat) (hj : j < 9) w => dist2_walk x y (wp9 X Y n j).1 (wp9 X Y n j).2 w (sq_in hn hx) (sq_in hn hy) (w9_in hj hn hX hY).1 (w9_in hj hn hX hY).2)
  have WI := Lib.hid (fun w => window_walk X Y n w hn hX hY)
  clear hn hx hy hX hY
  unfold encW at DI ⊢
  have DI0 := Lib.hid (show ∀ w, Calls Try.prog 42 #[.agg #[.int .i64 x, .int .i64 y], .agg #[.int .i64 (wp9 X Y n 0).1, .int .i64 (wp9 X Y n 0).2]] w (fun e w' => e = .returned (.agg #[.int .i64 (hiW (mn x y X Y n 1)), .int .u64 (loW (mn x y X Y n 1))]) ∧ Fr (fun _ => False) w w') from DI.out 0 (by decide))
  obtain ⟨t1, t2, t3, f3⟩ := tri W (Obj.cells #[Value.int IntKind.i64 x, Value.int IntKind.i64 y] 41) (Obj.cells #[Value.int IntKind.i64 X, Value.int IntKind.i64 Y] 41) (Obj.cells #[Value.int IntKind.i64 0, Value.int IntKind.u64 0] 54)
  go_enter Try.func28, Try.ntmps28
  go_wp2_with fail
  generalize ((W.alloc (Obj.cells #[Value.int IntKind.i64 x, Value.int IntKind.i64 y] 41)).alloc (Obj.cells #[Value.int IntKind.i64 X, Value.int IntKind.i64 Y] 41)).alloc (Obj.cells #[Value.int IntKind.i64 0, Value.int IntKind.u64 0] 54) = w3 at t1 t2 t3 f3 ⊢
  obtain ⟨x2, y2⟩ := point_cells t2
  have T1 := Lib.hid t1
  have T3 := Lib.hid t3
  have F3 := Lib.hid f3
  clear t1 t2 t3 f3
  go_wp2_with (go_at_call 41; have hc_ := WI.out w3; (with_reducible refine hc_.mono ?_); clear hc_; rintro e w4 ⟨v4, rfl, r4, f4⟩; obtain ⟨g, c, rfl⟩ := row_some r4 (by decide); have G4 := Lib.hid r4; have T4 := Lib.hid (ZFr.blk_fr T1.out f4 (fun h => h)); have R4 := Lib.hid (ZFr.blk_fr T3.out f4 (fun h => h)); have F4 := Lib.hid (F3.out.trans f4 (fun _ h _ => h)); have K4 := Lib.hid f4; clear r4 f4)
  obtain ⟨p1, p2⟩ := point_cells (w := w4.drew) T4.out
  have q1 : w4.drew.cell? ⟨g, 0, none⟩ = some (.int .i64 (wp9 X Y n 0).1) := (G4.out.cellAt 0 (by decide)).trans (w9_get X Y n 0 9 (by decide)).1
  have q2 : w4.drew.cell? ⟨g, 1, none⟩ = some (.int .i64 (wp9 X Y n 0).2) := (G4.out.cellAt 1 (by decide)).trans (w9_get X Y n 0 9 (by decide)).2
  have p3 : ∀ o, (w4.alloc o).cell? ⟨W.heap.size, 0, none⟩ = some (.int .i64 x) := fun o => (point_cells (ZFr.blk_alloc T4.out o)).1
  have p4 : ∀ o, (w4.alloc o).cell? ⟨W.heap.size, 1, none⟩ = some (.int .i64 y) := fun o => (point_cells (ZFr.blk_alloc T4.out o)).2
  have q3 : ∀ o, (w4.alloc o).cell? ⟨g, 0, none⟩ = some (.int .i64 (wp9 X Y n 0).1) := fun o => ((G4.out.alloc o).cellAt 0 (by decide)).trans (w9_get X Y n 0 9 (by decide)).1
  have q4 : ∀ o, (w4.alloc o).cell? ⟨g, 1, none⟩ = some (.int .i64 (wp9 X Y n 0).2) := fun o => ((G4.out.alloc o).cellAt 1 (by decide)).trans (w9_get X Y n 0 9 (by decide)).2
  have hc9 : ¬ c = 1 := by
    rcases G4.out.2 with ⟨h, _⟩ | ⟨g', cap, cur, e, _, _, hcap⟩
    · cases h
    · simp at e hcap; omega
  go_region_law
      ((go_simp; (first
        | ((go_at_call 42; have hc_ := DI0.out (w4.alloc (Obj.cells #[Value.int IntKind.i64 0, Value.int IntKind.u64 0] 54)).drew; (with_reducible refine hc_.mono ?_); clear hc_; rintro e w5 ⟨rfl, f5⟩; have L5 := Lib.hid (ZFr.blk_fr (w := (w4.alloc (Obj.cells #[Value.int IntKind.i64 0, Value.int IntKind.u64 0] 54)).drew) (heap_alloc_new w4 (Obj.cells #[Value.int IntKind.i64 0, Value.int IntKind.u64 0] 54)) f5 (fun h => h)); obtain ⟨i1, i2, i3, i4⟩ := wide_store L5.out; have K5 := Lib.hid f5; clear f5))
        | ((go_at_call 42; have hc_ := DI0.out w4.drew; (with_reducible refine hc_.mono ?_); clear hc_; rintro e w5 ⟨rfl, f5⟩; have K5 := Lib.hid f5; clear f5)))))
  all_goals
    go_wp2_with fail
  all_goals
    have low4 : W.heap.size + 1 + 1 < w4.heap.size := ZFr.blk_lt R4.out
    first
      | (have L6 := L5.out
         have ST0 : StN x y X Y n g c w4.heap.size W ((w5.setCell ⟨w4.heap.size, 0, none⟩ (.int .i64 (hiW (mn x y X Y n 1)))).setCell ⟨w4.heap.size, 1, none⟩ (.int .u64 (loW (mn x y X Y n 1)))) 1 := by
           have A := ((Fr.refl (fun _ => False) w4).alloc (Obj.cells #[Value.int IntKind.i64 0, Value.int IntKind.u64 0] 54)).drew.trans K5.out (fun _ h _ => h)
           have B := (A.set ⟨w4.heap.size, 0, none⟩ (.int .i64 (hiW (mn x y X Y n 1))) (.inr (Nat.le_refl _))).set ⟨w4.heap.size, 1, none⟩ (.int .u64 (loW (mn x y X Y n 1))) (.inr (Nat.le_refl _))
           exact ⟨ZFr.blk_fr T4.out B (fun h => h), ZFr.blk_fr R4.out B (fun h => h), ZFr.blk_set (ZFr.blk_set L6 0 _) 1 _, row_fr (row_low G4.out (by have := F3.out.size; omega)) B (fun _ _ h => h), F4.out.trans B (fun _ h _ => h), low4⟩
         clear L6 i1 i2 i3 i4
         generalize ((w5.setCell ⟨w4.heap.size, 0, none⟩ (.int .i64 (hiW (mn x y X Y n 1)))).setCell ⟨w4.heap.size, 1, none⟩ (.int .u64 (loW (mn x y X Y n 1)))) = wr0 at ST0 ⊢
         clear L5 K5
         generalize w4.heap.size = gl at ST0 ⊢)
      | (have ST0 : StN x y X Y n g c w5.heap.size W (w5.alloc (Obj.cells #[Value.int IntKind.i64 (hiW (mn x y X Y n 1)), Value.int IntKind.u64 (loW (mn x y X Y n 1))] 54)) 1 := by
           have B := (((Fr.refl (fun _ => False) w4).drew.trans K5.out (fun _ h _ => h)).alloc (Obj.cells #[Value.int IntKind.i64 (hiW (mn x y X Y n 1)), Value.int IntKind.u64 (loW (mn x y X Y n 1))] 54))
           exact ⟨ZFr.blk_fr T4.out B (fun h => h), ZFr.blk_fr R4.out B (fun h => h), heap_alloc_new w5 _, row_fr (row_low G4.out (by have := F3.out.size; omega)) B (fun _ _ h => h), F4.out.trans B (fun _ h _ => h), Nat.lt_of_lt_of_le low4 K5.out.size⟩
         generalize (w5.alloc (Obj.cells #[Value.int IntKind.i64 (hiW (mn x y X Y n 1)), Value.int IntKind.u64 (loW (mn x y X Y n 1))] 54)) = wr0 at ST0 ⊢
         generalize w5.heap.size = gl at ST0 ⊢)
  all_goals
    have HST0 := Lib.hid ST0
    clear ST0 p1 p2 q1 q2 p3 p4 q3 q4 low4
  all_goals
    go_loopw [23] (fun v wr => ∃ k : Nat, k ≤ 8 ∧ v = .int .i64 (k : Int) ∧ StN x y X Y n g c gl W wr (k + 1)) (fun v _ => (8 - intOf v).toNat)
    case atStart => exact ⟨0, by decide, rfl, HST0.out⟩
    case round =>
      obtain ⟨k, hk, rfl, st⟩ := hrel
      have ST := Lib.hid st
      clear st
      by_cases hk8 : k < 8
      · have hk8' : (k : Int) < 8 := by omega
        have D := Lib.hid (show ∀ w, Calls Try.prog 42 #[.agg #[.int .i64 x, .int .i64 y], .agg #[.int .i64 (wp9 X Y n (k + 1)).1, .int .i64 (wp9 X Y n (k + 1)).2]] w (fun e w' => e = .returned (.agg #[.int .i64 (hiW (dAt x y X Y n (k + 1))), .int .u64 (loW (dAt x y X Y n (k + 1)))]) ∧ Fr (fun _ => False) w w') from DI.out (k + 1) (by omega))
        have q1 : wr.cell? ⟨g, 2 + k * 2, none⟩ = some (.int .i64 (wp9 X Y n (k + 1)).1) := by rw [show 2 + k * 2 = 2 * (k + 1) from by omega]; exact (ST.out.row.cellAt (2 * (k + 1)) (by omega)).trans (w9_get X Y n (k + 1) 9 (by omega)).1
        have q2 : wr.cell? ⟨g, 2 + k * 2 + 1, none⟩ = some (.int .i64 (wp9 X Y n (k + 1)).2) := by rw [show 2 + k * 2 + 1 = 2 * (k + 1) + 1 from by omega]; exact (ST.out.row.cellAt (2 * (k + 1) + 1) (by omega)).trans (w9_get X Y n (k + 1) 9 (by omega)).2
        have hmn : Big.mn x y X Y n (k + 1 + 1) = if dAt x y X Y n (k + 1) < Big.mn x y X Y n (k + 1) then dAt x y X Y n (k + 1) else Big.mn x y X Y n (k + 1) := by rw [Big.mn, if_neg (Nat.succ_ne_zero k)]
        generalize (wp9 X Y n (k + 1)).1 = px at D q1
        generalize (wp9 X Y n (k + 1)).2 = py at D q2
        have CM := Lib.hid (fun w => cmp_walk (dAt x y X Y n (k + 1)) (Big.mn x y X Y n (k + 1)) w)
        have HMN := Lib.hid hmn
        clear hmn
        have HK := Lib.hid hk8
        clear hk
        have p3 : ∀ o, (wr.alloc o).cell? ⟨W.heap.size, 0, none⟩ = some (.int .i64 x) := fun o => (point_cells (ZFr.blk_alloc ST.out.p o)).1
        have p4 : ∀ o, (wr.alloc o).cell? ⟨W.heap.size, 1, none⟩ = some (.int .i64 y) := fun o => (point_cells (ZFr.blk_alloc ST.out.p o)).2
        unfold encW at CM
        by_cases hlt : dAt x y X Y n (k + 1) < Big.mn x y X Y n (k + 1)
        · have hc1 : cmpW (dAt x y X Y n (k + 1)) (Big.mn x y X Y n (k + 1)) = -1 := by unfold cmpW; rw [if_neg (by omega), if_pos hlt]
          rw [hc1] at CM
          have HM := Lib.hid (HMN.out.trans (if_pos hlt))
          clear hc1 hlt
          go_wp2_with (first
            | (go_at_call 29; have hc_ := CM.out (w5.alloc (Obj.cells #[.int .i64 (hiW (dAt x y X Y n (k + 1))), .int .u64 (loW (dAt x y X Y n (k + 1)))] 54)); (with_reducible refine hc_.mono ?_); clear hc_; rintro e w6 ⟨rfl, f6⟩; have F6 := Lib.hid ((F5.out.alloc _).trans f6 (fun _ h _ => h)); have D6 := Lib.hid (ZFr.blk_fr (heap_alloc_new w5 _) f6 (fun h => h)); have L6 := Lib.hid (ZFr.blk_fr ST.out.l F6.out (fun h => h)); obtain ⟨d1, d2, _, _⟩ := wide_store D6.out; obtain ⟨l1, l2, l3, l4⟩ := wide_store L6.out; clear f6)
            | (go_at_call 42; have hc_ := D.out (wr.alloc (Obj.cells #[.int .i64 px, .int .i64 py] 41)); (with_reducible refine hc_.mono ?_); clear hc_; rintro e w5 ⟨rfl, f5⟩; have F5 := Lib.hid (((Fr.refl (fun _ => False) wr).alloc _).trans f5 (fun _ h _ => h)); have l1 := fun o => (wide_store (ZFr.blk_alloc (ZFr.blk_fr ST.out.l F5.out (fun h => h)) o)).1; have l2 := fun o => (wide_store (ZFr.blk_alloc (ZFr.blk_fr ST.out.l F5.out (fun h => h)) o)).2.1; clear f5))
          go_roundw
          case rel =>
            have hgg : g ≠ gl := fun e => row_ne ST.out.row ST.out.l (by decide) (by simp [Value.ownBlock, e])
            have B := ((F6.out.mono (T := fun i => i = gl) (fun _ h => h.elim)).set ⟨gl, 0, none⟩ (.int .i64 (hiW (dAt x y X Y n (k + 1)))) (.inl rfl)).set ⟨gl, 1, none⟩ (.int .u64 (loW (dAt x y X Y n (k + 1)))) (.inl rfl)
            have low := ST.out.low
            refine ⟨k + 1, HK.out, rfl, ZFr.blk_fr ST.out.p B (by omega), ZFr.blk_fr ST.out.r B (by omega), ?_, row_fr ST.out.row B (fun i hi e => hgg (by simp [Value.ownBlock] at hi; omega)), ST.out.f.trans B (fun i hi hl => by omega), low⟩
            rw [HM.out]
            exact ZFr.blk_set (ZFr.blk_set L6.out 0 _) 1 _
          case measure => simp [intOf]; omega
        · have HM := Lib.hid (HMN.out.trans (if_neg hlt))
          have HC0 : ∃ q, cmpW (dAt x y X Y n (k + 1)) (Big.mn x y X Y n (k + 1)) = q ∧ ¬ q < 0 := ⟨_, rfl, by unfold cmpW; split; (decide); first | (rw [if_neg hlt]; decide) | decide⟩
          obtain ⟨q, hq, hq0⟩ := HC0
          rw [hq] at CM
          clear hq hlt
          go_wp2_with (first
            | (go_at_call 29; have hc_ := CM.out (w5.alloc (Obj.cells #[.int .i64 (hiW (dAt x y X Y n (k + 1))), .int .u64 (loW (dAt x y X Y n (k + 1)))] 54)); (with_reducible refine hc_.mono ?_); clear hc_; rintro e w6 ⟨rfl, f6⟩; have F6 := Lib.hid ((F5.out.alloc _).trans f6 (fun _ h _ => h)); have D6 := Lib.hid (ZFr.blk_fr (heap_alloc_new w5 _) f6 (fun h => h)); have L6 := Lib.hid (ZFr.blk_fr ST.out.l F6.out (fun h => h)); obtain ⟨d1, d2, _, _⟩ := wide_store D6.out; obtain ⟨l1, l2, l3, l4⟩ := wide_store L6.out; clear f6)
            | (go_at_call 42; have hc_ := D.out (wr.alloc (Obj.cells #[.int .i64 px, .int .i64 py] 41)); (with_reducible refine hc_.mono ?_); clear hc_; rintro e w5 ⟨rfl, f5⟩; have F5 := Lib.hid (((Fr.refl (fun _ => False) wr).alloc _).trans f5 (fun _ h _ => h)); have l1 := fun o => (wide_store (ZFr.blk_alloc (ZFr.blk_fr ST.out.l F5.out (fun h => h)) o)).1; have l2 := fun o => (wide_store (ZFr.blk_alloc (ZFr.blk_fr ST.out.l F5.out (fun h => h)) o)).2.1; clear f5))
          go_roundw
          case rel =>
            refine ⟨k + 1, HK.out, rfl, ZFr.blk_fr ST.out.p F6.out (fun h => h), ZFr.blk_fr ST.out.r F6.out (fun h => h), ?_, row_fr ST.out.row F6.out (fun _ _ h => h), ST.out.f.trans F6.out (fun _ h _ => h), ST.out.low⟩
            rw [HM.out]
            exact L6.out
          case measure => simp [intOf]; omega
      · obtain rfl : k = 8 := by omega
        obtain ⟨l1, l2, l3, l4⟩ := wide_store ST.out.l
        obtain ⟨r1, r2, r3, r4⟩ := wide_store ST.out.r
        go_wp2_with fail
        refine bodyPost_ret (results_cell_row rfl _ _ (W.heap.size + 1 + 1) 54 #[.int .i64 (hiW (Big.mn x y X Y n 9)), .int .u64 (loW (Big.mn x y X Y n 9))] (0, 0) _ rfl (ZFr.blk_set (ZFr.blk_set ST.out.r 0 _) 1 _) Try.underlying54 rfl (by kernel_rfl)) rfl ?_
        exact ⟨rfl, (ST.out.f.set _ _ (.inr (by dsimp only; omega))).set _ _ (.inr (by dsimp only; omega))⟩
end Go.Proofs.Ytgaicbodpneeoaa.Wd


/- What is used of NCan. -/
namespace Go.Proofs.Ytgaicbodpneeoaa.Wd
open Go.RowKit Go.Proofs.ZFr Go.Proofs.Ytgaicbodpneeoaa.PRasterImages Go.Proofs.Ytgaicbodpneeoaa.Big Go.Proofs.YtgaicbodpneeoaaW.PrintWords
def tr (p : S50) : Int × Int × Int := (p.f0, p.f1.f0, p.f1.f1)
theorem part_f (x n : Int) (hx : inP x) (hn : 1 ≤ n ∧ n ≤ 1073741824) : lift_part.f x n = some (x % n, x / n) := by
  have hd := div_in hx hn.1
  have e := Int.mul_tdiv_add_tmod x n
  have hx1 := hx.1
  have hx2 := hx.2
  have a2 : (1099511627776 + 1) * 1 ≤ (1099511627776 + 1) * n := Int.mul_le_mul_of_nonneg_left hn.1 (by omega)
  have hd3 : x / n < 1099511627776 + 1 := Int.ediv_lt_of_lt_mul (by omega) (by omega)
  clear a2
  have hb : -n < Int.tmod x n ∧ Int.tmod x n < n := by
    by_cases h0 : 0 ≤ x
    · have h1 := Int.tmod_nonneg n h0
      have h2 := Int.tmod_lt_of_pos x (show 0 < n by omega)
      omega
    · have h1 := Int.tmod_nonneg (a := -x) n (by omega)
      have h2 := Int.tmod_lt_of_pos (-x) (show 0 < n by omega)
      rw [Int.neg_tmod] at h1 h2
      omega
  unfold lift_part.f
  rw [if_neg (by omega)]
  generalize Int.tmod x n = r at *
  generalize Int.tdiv x n = q at *
  by_cases hr : r < 0
  · have h9 : n * (q - 1) = n * q - n := by rw [Int.mul_sub, Int.mul_one]
    have h := (Int.ediv_emod_unique (a := x) (r := r + n) (q := q - 1) (show 0 < n by omega)).2 ⟨by omega, by omega, by omega⟩
    rw [if_pos hr, h.1, h.2]
    rw [h.1] at hd hd3
    have hd1 := hd.1
    have hd2 := hd.2
    rw [w64 (n := r + n) (by omega) (by omega), w64 (n := q) (by omega) (by omega), w64 (n := q - 1) (by omega) (by omega)]
  · have h := (Int.ediv_emod_unique (a := x) (r := r) (q := q) (show 0 < n by omega)).2 ⟨by omega, by omega, by omega⟩
    rw [if_neg hr, h.1, h.2]
    rw [h.1] at hd hd3
    have hd1 := hd.1
    have hd2 := hd.2
    rw [w64 (n := q) (by omega) (by omega)]
theorem within_f (x : Int) : lift_within.f x = some (decide (inP x)) := by
  unfold lift_within.f
  by_cases h : x ≥ -1099511627776
  · rw [if_pos h]; congr 1; rw [decide_eq_decide]; unfold inP; omega
  · rw [if_neg h]; congr 1; symm; rw [decide_eq_false_iff_not]; unfold inP; omega
theorem can_f (x y : Int) : lift_can.f x y = some (decide (inP x ∧ inP y)) := by
  unfold lift_can.f
  rw [within_f, within_f]
  by_cases h : inP x
  · simp [h]
  · simp [h]
theorem home_f (k : Nat) (x y n : Int) (hn : 1 ≤ n ∧ n ≤ 1073741824) : lift_Home.f (k + 1) x y n = if inP x ∧ inP y then some (x % n, y % n, x / n, y / n, true) else some (0, 0, 0, 0, false) := by
  have ht : lift_torus.f n = some true := by unfold lift_torus.f; rw [if_pos hn.1, decide_eq_true (by omega)]
  unfold lift_Home.f
  rw [ht, Option.bind_some, if_pos rfl, can_f, Option.bind_some, lift_Home.j0]
  by_cases h : inP x ∧ inP y
  · rw [decide_eq_true h, if_neg (by decide), part_f x n h.1 hn, Option.bind_some, part_f y n h.2 hn, Option.bind_some, if_pos h]
  · rw [decide_eq_false h, if_pos (by decide), if_neg h]
theorem ncan_go (l : List S50) (n x y : Int) (hn : 1 ≤ n ∧ n ≤ 1073741824) (hl : l.length ≤ 100) : ∀ d i k, i + d = l.length → d + 3 ≤ k → near_can.l0 k n l (l.length : Int) (i : Int) x y = if (∀ p ∈ l.drop i, okP n (tr p)) then (if inP x ∧ inP y then some (x % n, y % n, true) else some (0, 0, false)) else some (x, y, false)
  | 0, i, k, hi, hk => by
    obtain ⟨k, rfl⟩ : ∃ k', k = k' + 2 := ⟨k - 2, by omega⟩
    rw [near_can.l0, if_neg (by omega), home_f k x y n hn, List.drop_of_length_le (by omega), if_pos (fun p hp => absurd hp (List.not_mem_nil))]
    by_cases h : inP x ∧ inP y
    · rw [if_pos h, if_pos h]; rfl
    · rw [if_neg h, if_neg h]; rfl
  | d + 1, i, k, hi, hk => by
    obtain ⟨k, rfl⟩ : ∃ k', k = k' + 1 := ⟨k - 1, by omega⟩
    have hil : i < l.length := by omega
    have hr : rd_T50 l (i : Int) = l[i] := by unfold rd_T50; rw [Int.toNat_natCast]; simp [List.getD, hil]
    have ih := ncan_go l n x y hn hl d (i + 1) k (by omega) (by omega)
    have hw : wrap64 ((i : Int) + 1) = ((i + 1 : Nat) : Int) := by rw [w64 (n := (i : Int) + 1) (by omega) (by omega)]; rfl
    rw [near_can.l0, if_pos (by omega), if_pos (by omega), if_pos (by omega), hr, hw, ih, List.drop_eq_getElem_cons hil]
    generalize l[i] = p
    have hok : okP n (tr p) ↔ (0 ≤ p.f1.f0 ∧ p.f1.f0 < n) ∧ (0 ≤ p.f1.f1 ∧ p.f1.f1 < n) := Iff.rfl
    by_cases h : okP n (tr p)
    · have h' := hok.1 h
      rw [if_neg (by omega), if_neg (by omega), if_neg (by omega), if_neg (by omega)]
      congr 1
      simp [h]
    · have h9 : ¬ ∀ q ∈ p :: l.drop (i + 1), okP n (tr q) := fun h2 => h (h2 p (by simp))
      rw [if_neg h9]
      have h' := fun h2 => h (hok.2 h2)
      split
      · rfl
      · split
        · rfl
        · split
          · rfl
          · split
            · rfl
            · exact absurd ⟨⟨by omega, by omega⟩, ⟨by omega, by omega⟩⟩ h'
theorem ncan_f (l : List S50) (n x y : Int) (hl : l.length ≤ 100) : ∃ a b, near_can.f 200 l n x y = some (a, b, decide (canD (l.map tr) n x y)) ∧ (canD (l.map tr) n x y → a = x % n ∧ b = y % n) := by
  unfold near_can.f
  by_cases h1 : n < 1
  · rw [if_pos h1, near_can.j0, if_pos rfl]
    have h9 : ¬ canD (l.map tr) n x y := fun h => by have := h.1.1; omega
    exact ⟨x, y, by rw [decide_eq_false h9], fun h => absurd h h9⟩
  · rw [if_neg h1, near_can.j0]
    by_cases h2 : n > 1073741824
    · rw [if_pos (by rw [decide_eq_true h2])]
      have h9 : ¬ canD (l.map tr) n x y := fun h => by have := h.1.2; omega
      exact ⟨x, y, by rw [decide_eq_false h9], fun h => absurd h h9⟩
    · rw [if_neg (by rw [decide_eq_false h2]; decide)]
      have hn : 1 ≤ n ∧ n ≤ 1073741824 := by omega
      have hg := ncan_go l n x y hn hl l.length 0 199 (by omega) (by omega)
      rw [Int.natCast_zero] at hg
      rw [hg, List.drop_zero]
      have hd : canD (l.map tr) n x y ↔ (∀ p ∈ l, okP n (tr p)) ∧ (inP x ∧ inP y) := by
        unfold canD
        simp only [List.mem_map, forall_exists_index, and_imp, forall_apply_eq_imp_iff₂]
        exact ⟨fun h => ⟨h.2.2, h.2.1⟩, fun h => ⟨hn, h.2, h.1⟩⟩
      by_cases h3 : ∀ p ∈ l, okP n (tr p)
      · rw [if_pos h3]
        by_cases h4 : inP x ∧ inP y
        · rw [if_pos h4]
          exact ⟨_, _, by rw [decide_eq_true (hd.2 ⟨h3, h4⟩)], fun _ => ⟨rfl, rfl⟩⟩
        · rw [if_neg h4]
          have h9 : ¬ canD (l.map tr) n x y := fun h => h4 (hd.1 h).2
          exact ⟨0, 0, by rw [decide_eq_false h9], fun h => absurd h h9⟩
      · rw [if_neg h3]
        have h9 : ¬ canD (l.map tr) n x y := fun h => h3 (hd.1 h).1
        exact ⟨x, y, by rw [decide_eq_false h9], fun h => absurd h h9⟩
theorem pls_of {w : World} {A : Option Addr} {l : List S50} (h : Kd.C k50 w A l.length l) : Pls w A (l.map tr) := fun i hi => by
  rw [List.length_map] at hi
  obtain ⟨ad, e, h0, h1, h2⟩ := at_T50 h (i : Int) (by omega) (by omega)
  rw [Int.toNat_natCast] at h0 h1 h2
  have hr : rd_T50 l (i : Int) = l[i] := by unfold rd_T50; rw [Int.toNat_natCast]; simp [List.getD, hi]
  rw [hr] at h0 h1 h2
  refine ⟨ad, e, ?_, ?_, ?_⟩
  · rw [List.getElem_map]; exact h0
  · rw [List.getElem_map]; exact h1
  · rw [List.getElem_map]; exact h2
end Go.Proofs.Ytgaicbodpneeoaa.Wd

