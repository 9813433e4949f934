/- Joined texts. -/
import Derived.Test.YtgaicbodpneeoaaSkMulW
import Derived.Test.YtgaicbodpneeoaaJF
import Derived.BigQuiet
import Derived.BigRegion
import Derived.Deep.QuietTactic
import Derived.Deep.RegionLaw
import Derived.Deep.RegionHeld3
/- What is used of RsA. -/
namespace Go.Proofs.Ytgaicbodpneeoaa.Rs
open Go.RowKit Go.Proofs.ZFr Go.Proofs.Ytgaicbodpneeoaa.PRasterImages Go.Proofs.Ytgaicbodpneeoaa.Wd Go.Proofs.YtgaicbodpneeoaaW.PrintWords
def encC (c : Cone) : Value := .agg #[.int .i64 c.x, .int .i64 (hiW c.d), .int .u64 (loW c.d), .int .i64 c.id]
theorem gap_f (s r n : Int) (hs : 0 ≤ s ∧ s < n) (hr : 0 ≤ r ∧ r < n) (hn : n ≤ 1073741824) : raster_gap.f s r n = some (hiW (gapd s r n * gapd s r n), loW (gapd s r n * gapd s r n)) := by
  have e1 : wrap64 (s - r) = s - r := by unfold wrap64; omega
  have e2 : wrap64 (-(s - r)) = -(s - r) := by unfold wrap64; omega
  have e3 : wrap64 (n - -(s - r)) = n - -(s - r) := by unfold wrap64; omega
  have e4 : wrap64 (n - (s - r)) = n - (s - r) := by unfold wrap64; omega
  have em : ∀ a b : Int, mn a b = min a b := fun a b => by unfold mn; omega
  unfold raster_gap.f gapd dist
  rw [e1, e2, e3, e4]
  simp only [em]
  split
  · rw [mul_f _ _ ⟨by omega, by omega⟩ ⟨by omega, by omega⟩]; rfl
  · rw [mul_f _ _ ⟨by omega, by omega⟩ ⟨by omega, by omega⟩]; rfl
theorem gap_c (s r n : Int) (hs : 0 ≤ s ∧ s < n) (hr : 0 ≤ r ∧ r < n) (hn : n ≤ 1073741824) (W : World) : Calls Try.prog 35 #[.int .i64 s, .int .i64 r, .int .i64 n] W fun e w' => e = .returned (encW (gapd s r n * gapd s r n)) ∧ Fr (fun _ => False) W w' := by
  refine (raster_gap.calls s r n _ _ W (gap_f s r n hs hr hn)).mono ?_
  rintro e w' ⟨rfl, hb⟩
  exact ⟨rfl, Fr.of_below hb⟩
theorem second (W : World) (o o' : Obj) : ((W.alloc o).alloc o').heap[W.heap.size + 1]? = some o' := by
  have h := heap_alloc_new (W.alloc o) o'
  rw [show (W.alloc o).heap.size = W.heap.size + 1 from Array.size_push ..] at h
  exact h
theorem tri (w : World) (o1 o2 o3 : Obj) : (((w.alloc o1).alloc o2).alloc o3).heap[w.heap.size]? = some o1 ∧ (((w.alloc o1).alloc o2).alloc o3).heap[w.heap.size + 1]? = some o2 ∧ (((w.alloc o1).alloc o2).alloc o3).heap[w.heap.size + 1 + 1]? = some o3 ∧ Fr (fun _ => False) w (((w.alloc o1).alloc o2).alloc o3) := by
  have h1 := heap_alloc_new w o1
  have h2 := second w o1 o2
  have h3 := second (w.alloc o1) o2 o3
  rw [show (w.alloc o1).heap.size = w.heap.size + 1 from Array.size_push ..] at h3
  exact ⟨ZFr.blk_alloc (ZFr.blk_alloc h1 _) _, ZFr.blk_alloc h2 _, h3, (((Fr.refl _ w).alloc _).alloc _).alloc _⟩
theorem cell_far {w : World} {p q : Addr} {u v : Value} (h : w.cell? q = some v) (hb : q.block ≠ p.block) : (w.setCell p u).cell? q = some v := by
  have := Below.heap_setCell w p u q.block hb
  unfold World.cell? at *
  rw [this]; exact h
theorem wide_store {w : World} {b : Nat} {x y : Int} (h : w.heap[b]? = some (.cells #[.int .i64 x, .int .u64 y] 54 (0, 0))) : w.cell? ⟨b, 0, none⟩ = some (.int .i64 x) ∧ w.cell? ⟨b, 1, none⟩ = some (.int .u64 y) ∧ w.frozen? ⟨b, 0, none⟩ = false ∧ w.frozen? ⟨b, 1, none⟩ = false := ⟨ZFr.blk_cell h 0, ZFr.blk_cell h 1, ZFr.blk_free h 0, ZFr.blk_free h 1⟩
set_option maxRecDepth 100000 in
set_option maxHeartbeats 4000000 in
theorem Add_walk (a b : Int) (h0 : -170141183460469231731687303715884105728 ≤ a + b) (h1 : a + b < 170141183460469231731687303715884105728) (W : World) : Calls Try.prog 81 #[encW a, encW b] W fun e w' => e = .returned (encW (a + b)) ∧ Fr (fun _ => False) W w' := by
  have hadd := fun w => add_walk a b h0 h1 w
  have HA := Lib.hid hadd
  clear hadd h0 h1
  unfold encW at HA ⊢
  generalize hiW a = xa at HA ⊢
  generalize loW a = ya at HA ⊢
  generalize hiW b = xb at HA ⊢
  generalize loW b = yb at HA ⊢
  generalize hiW (a + b) = xs at HA ⊢
  generalize loW (a + b) = ys at HA ⊢
  obtain ⟨t1, t2, t3, f3⟩ := tri W (Obj.cells #[Value.int IntKind.i64 xa, Value.int IntKind.u64 ya] 54) (Obj.cells #[Value.int IntKind.i64 xb, Value.int IntKind.u64 yb] 54) (Obj.cells #[Value.int IntKind.i64 0, Value.int IntKind.u64 0] 54)
  go_enter Try.func81, Try.ntmps81
  go_wp2_with fail
  generalize ((W.alloc (Obj.cells #[Value.int IntKind.i64 xa, Value.int IntKind.u64 ya] 54)).alloc (Obj.cells #[Value.int IntKind.i64 xb, Value.int IntKind.u64 yb] 54)).alloc (Obj.cells #[Value.int IntKind.i64 0, Value.int IntKind.u64 0] 54) = w3 at t1 t2 t3 f3 ⊢
  have T3 := Lib.hid t3
  have F3 := Lib.hid f3
  clear t1 t2 t3 f3
  go_wp2_with (first
    | (go_at_call 92; have hc_ := HA.out w3; (with_reducible refine hc_.mono ?_); clear hc_; rintro e w4 ⟨rfl, f4⟩; have T4 := Lib.hid (ZFr.blk_fr T3.out f4 (fun h => h)); obtain ⟨i1, i2, i3, i4⟩ := wide_store T4.out; have F4 := Lib.hid (F3.out.trans f4 (fun _ h _ => h)); clear f4))
  refine bodyPost_ret (results_cell_row rfl _ _ (W.heap.size + 1 + 1) 54 #[.int .i64 xs, .int .u64 ys] (0, 0) _ rfl (ZFr.blk_set (ZFr.blk_set T4.out 0 _) 1 _) Try.underlying54 rfl (by kernel_rfl)) rfl ?_
  exact ⟨rfl, (F4.out.set _ _ (.inr (by dsimp only; omega))).set _ _ (.inr (by dsimp only; omega))⟩
theorem cone_cells {w : World} {b : Nat} {x h l i : Int} (H : w.heap[b]? = some (.cells #[.int .i64 x, .int .i64 h, .int .u64 l, .int .i64 i] 72 (0, 0))) : w.cell? ⟨b, 0, none⟩ = some (.int .i64 x) ∧ w.cell? ⟨b, 1, none⟩ = some (.int .i64 h) ∧ w.cell? ⟨b, 2, none⟩ = some (.int .u64 l) ∧ w.cell? ⟨b, 3, none⟩ = some (.int .i64 i) := ⟨ZFr.blk_cell H 0, ZFr.blk_cell H 1, ZFr.blk_cell H 2, ZFr.blk_cell H 3⟩
set_option maxRecDepth 100000 in
set_option maxHeartbeats 4000000 in
theorem at_walk (c : Cone) (x : Int) (hx : -4611686018427387904 ≤ x - c.x ∧ x - c.x ≤ 4611686018427387904) (hd : 0 ≤ c.d ∧ c.d ≤ 21267647932558653966460912964485513216) (hq : (x - c.x) * (x - c.x) ≤ 21267647932558653966460912964485513216) (hq0 : 0 ≤ (x - c.x) * (x - c.x)) (W : World) : Calls Try.prog 68 #[encC c, .int .i64 x] W fun e w' => e = .returned (encW (offs c x)) ∧ Fr (fun _ => False) W w' := by
  obtain ⟨cx, d, i⟩ := c
  unfold offs encC
  simp only at hx hd hq hq0 ⊢
  have e1 : IntKind.i64.wrap (x - cx) = x - cx := by rw [Go.Proofs.YtgaicbodpneeoaaW.PrintLast.i64_w]; unfold wrap64; omega
  have ML := Lib.hid (fun w => mul_c (x - cx) (x - cx) ⟨by omega, by omega⟩ ⟨by omega, by omega⟩ w)
  have AD := Lib.hid (fun w => Add_walk d ((x - cx) * (x - cx)) (by omega) (by omega) w)
  clear hx hd hq hq0
  unfold encW at ML AD ⊢
  generalize hiW (d + (x - cx) * (x - cx)) = xs at AD ⊢
  generalize loW (d + (x - cx) * (x - cx)) = ys at AD ⊢
  generalize hiW ((x - cx) * (x - cx)) = x2 at ML AD
  generalize loW ((x - cx) * (x - cx)) = y2 at ML AD
  generalize hiW d = x1 at AD ⊢
  generalize loW d = y1 at AD ⊢
  have t1 := ZFr.blk_alloc (heap_alloc_new W (Obj.cells #[Value.int IntKind.i64 cx, Value.int IntKind.i64 x1, Value.int IntKind.u64 y1, Value.int IntKind.i64 i] 72)) (Obj.cells #[Value.int IntKind.i64 0, Value.int IntKind.u64 0] 54)
  have t2 := second W (Obj.cells #[Value.int IntKind.i64 cx, Value.int IntKind.i64 x1, Value.int IntKind.u64 y1, Value.int IntKind.i64 i] 72) (Obj.cells #[Value.int IntKind.i64 0, Value.int IntKind.u64 0] 54)
  have f2 := ((Fr.refl (fun _ => False) W).alloc (Obj.cells #[Value.int IntKind.i64 cx, Value.int IntKind.i64 x1, Value.int IntKind.u64 y1, Value.int IntKind.i64 i] 72)).alloc (Obj.cells #[Value.int IntKind.i64 0, Value.int IntKind.u64 0] 54)
  go_enter Try.func68, Try.ntmps68
  go_wp2_with fail
  generalize (W.alloc (Obj.cells #[Value.int IntKind.i64 cx, Value.int IntKind.i64 x1, Value.int IntKind.u64 y1, Value.int IntKind.i64 i] 72)).alloc (Obj.cells #[Value.int IntKind.i64 0, Value.int IntKind.u64 0] 54) = w2 at t1 t2 f2 ⊢
  have T1 := Lib.hid t1
  have T2 := Lib.hid t2
  have F2 := Lib.hid f2
  obtain ⟨p1, p2, p3, p4⟩ := cone_cells (w := w2.drew) t1
  clear t1 t2 f2
  go_region_law ((go_simp; (first
      | ((go_at_call 81; have hc_ := AD.out w3; (with_reducible refine hc_.mono ?_); clear hc_; rintro e w4 ⟨rfl, f4⟩; obtain ⟨q1, q2, q3, q4⟩ := cone_cells (ZFr.blk_fr Q3.out f4 (fun h => h)); have T4 := Lib.hid (ZFr.blk_fr T3.out f4 (fun h => h)); obtain ⟨i1, i2, i3, i4⟩ := wide_store T4.out; have F4 := Lib.hid (F3.out.trans f4 (fun _ h _ => h)); clear f4))
      | ((go_at_call 51; have hc_ := ML.out w2.drew; (with_reducible refine hc_.mono ?_); clear hc_; rintro e w3 ⟨rfl, f3⟩; have Q3 := Lib.hid (ZFr.blk_fr (w := w2.drew) T1.out f3 (fun h => h)); obtain ⟨q1, q2, q3, q4⟩ := cone_cells Q3.out; have T3 := Lib.hid (ZFr.blk_fr (w := w2.drew) T2.out f3 (fun h => h)); have F3 := Lib.hid (F2.out.drew.trans f3 (fun _ h _ => h)); clear f3)))))
  all_goals
    go_wp2_with fail
    refine bodyPost_ret (results_cell_row rfl _ _ (W.heap.size + 1) 54 #[.int .i64 xs, .int .u64 ys] (0, 0) _ rfl (ZFr.blk_set (ZFr.blk_set T4.out 0 _) 1 _) Try.underlying54 rfl (by kernel_rfl)) rfl ?_
    exact ⟨rfl, (F4.out.set _ _ (.inr (by dsimp only; omega))).set _ _ (.inr (by dsimp only; omega))⟩
end Go.Proofs.Ytgaicbodpneeoaa.Rs


/- What is used of RsB. -/
namespace Go.Proofs.Ytgaicbodpneeoaa.Rs
open Go.RowKit Go.Proofs.ZFr Go.Proofs.Ytgaicbodpneeoaa.PRasterImages Go.Proofs.Ytgaicbodpneeoaa.Wd Go.Proofs.YtgaicbodpneeoaaW.PrintWords
def okX (x : Int) : Prop := -4294967296 ≤ x ∧ x ≤ 4294967296
def okC (c : Cone) : Prop := okX c.x ∧ 0 ≤ c.d ∧ c.d ≤ 4611686018427387904
theorem sq_in {u : Int} (h : -8589934592 ≤ u ∧ u ≤ 8589934592) : 0 ≤ u * u ∧ u * u ≤ 73786976294838206464 := by
  have e : 0 ≤ u * u := by
    rcases Int.le_total 0 u with h | h
    · exact Int.mul_nonneg h h
    · exact Int.mul_nonneg_of_nonpos_of_nonpos h h
  refine ⟨e, ?_⟩
  have h2 := Int.natAbs_mul u u
  have h1 : u.natAbs * u.natAbs ≤ 8589934592 * 8589934592 := Nat.mul_le_mul (by omega) (by omega)
  omega
theorem at_c (c : Cone) (x : Int) (hc : okC c) (hx : okX x) (W : World) : Calls Try.prog 68 #[encC c, .int .i64 x] W fun e w' => e = .returned (encW (offs c x)) ∧ Fr (fun _ => False) W w' := by
  unfold okC okX at *
  have h := sq_in (u := x - c.x) (by omega)
  exact at_walk c x (by omega) (by omega) (by omega) (by omega) W
set_option maxRecDepth 100000 in
set_option maxHeartbeats 4000000 in
theorem leads_walk (a b : Cone) (x : Int) (ha : okC a) (hb : okC b) (hx : okX x) (W : World) : Calls Try.prog 50 #[encC a, encC b, .int .i64 x] W fun e w' => e = .returned (.bool (leads a b x)) ∧ Fr (fun _ => False) W w' := by
  have A := Lib.hid (fun w => at_c a x ha hx w)
  have B := Lib.hid (fun w => at_c b x hb hx w)
  have C := Lib.hid (fun w => cmp_walk (offs b x) (offs a x) w)
  have L := Lib.hid (show leads a b x = decide (offs b x < offs a x ∨ (offs b x = offs a x ∧ b.id < a.id)) from rfl)
  have D := Lib.hid (show cmpW (offs b x) (offs a x) = if offs b x = offs a x then 0 else if offs b x < offs a x then -1 else 1 from rfl)
  clear ha hb hx
  obtain ⟨ax, ad, ai⟩ := a
  obtain ⟨bx, bd, bi⟩ := b
  generalize leads ⟨ax, ad, ai⟩ ⟨bx, bd, bi⟩ x = res at L ⊢
  unfold encC at A B ⊢
  simp only at A B L ⊢
  generalize offs ⟨ax, ad, ai⟩ x = oa at A C L D
  generalize offs ⟨bx, bd, bi⟩ x = ob at B C L D
  generalize cmpW ob oa = cc at C D
  unfold encW at A B C
  generalize hiW ad = a1 at A ⊢
  generalize loW ad = a2 at A ⊢
  generalize hiW bd = b1 at B ⊢
  generalize loW bd = b2 at B ⊢
  generalize hiW oa = a3 at A C
  generalize loW oa = a4 at A C
  generalize hiW ob = b3 at B C
  generalize loW ob = b4 at B C
  have t1 := ZFr.blk_alloc (heap_alloc_new W (Obj.cells #[Value.int IntKind.i64 ax, Value.int IntKind.i64 a1, Value.int IntKind.u64 a2, Value.int IntKind.i64 ai] 72)) (Obj.cells #[Value.int IntKind.i64 bx, Value.int IntKind.i64 b1, Value.int IntKind.u64 b2, Value.int IntKind.i64 bi] 72)
  have t2 := second W (Obj.cells #[Value.int IntKind.i64 ax, Value.int IntKind.i64 a1, Value.int IntKind.u64 a2, Value.int IntKind.i64 ai] 72) (Obj.cells #[Value.int IntKind.i64 bx, Value.int IntKind.i64 b1, Value.int IntKind.u64 b2, Value.int IntKind.i64 bi] 72)
  have f2 := ((Fr.refl (fun _ => False) W).alloc (Obj.cells #[Value.int IntKind.i64 ax, Value.int IntKind.i64 a1, Value.int IntKind.u64 a2, Value.int IntKind.i64 ai] 72)).alloc (Obj.cells #[Value.int IntKind.i64 bx, Value.int IntKind.i64 b1, Value.int IntKind.u64 b2, Value.int IntKind.i64 bi] 72)
  go_enter Try.func50, Try.ntmps50
  go_wp2_with fail
  generalize (W.alloc (Obj.cells #[Value.int IntKind.i64 ax, Value.int IntKind.i64 a1, Value.int IntKind.u64 a2, Value.int IntKind.i64 ai] 72)).alloc (Obj.cells #[Value.int IntKind.i64 bx, Value.int IntKind.i64 b1, Value.int IntKind.u64 b2, Value.int IntKind.i64 bi] 72) = w2 at t1 t2 f2 ⊢
  have T1 := Lib.hid t1
  have T2 := Lib.hid t2
  have F2 := Lib.hid f2
  obtain ⟨p1, p2, p3, p4⟩ := cone_cells (w := w2.drew) t1
  obtain ⟨r1, r2, r3, r4⟩ := cone_cells (w := w2.drew) t2
  clear t1 t2 f2
  go_region_law ((go_simp; (first
      | ((go_at_call 29; have hc_ := C.out w4; (with_reducible refine hc_.mono ?_); clear hc_; rintro e w5 ⟨rfl, f5⟩; have U5 := Lib.hid (ZFr.blk_fr U4.out f5 (fun h => h)); have V5 := Lib.hid (ZFr.blk_fr V4.out f5 (fun h => h)); have F5 := Lib.hid (F4.out.trans f5 (fun _ h _ => h)); clear f5))
      | ((go_at_call 68; have hc_ := A.out w3; (with_reducible refine hc_.mono ?_); clear hc_; rintro e w4 ⟨rfl, f4⟩; have U4 := Lib.hid (ZFr.blk_fr U3.out f4 (fun h => h)); have V4 := Lib.hid (ZFr.blk_fr V3.out f4 (fun h => h)); obtain ⟨q1, q2, q3, q4⟩ := cone_cells U4.out; obtain ⟨s1, s2, s3, s4⟩ := cone_cells V4.out; have F4 := Lib.hid (F3.out.trans f4 (fun _ h _ => h)); clear f4))
      | ((go_at_call 68; have hc_ := B.out w3; (with_reducible refine hc_.mono ?_); clear hc_; rintro e w4 ⟨rfl, f4⟩; have U4 := Lib.hid (ZFr.blk_fr U3.out f4 (fun h => h)); have V4 := Lib.hid (ZFr.blk_fr V3.out f4 (fun h => h)); obtain ⟨q1, q2, q3, q4⟩ := cone_cells U4.out; obtain ⟨s1, s2, s3, s4⟩ := cone_cells V4.out; have F4 := Lib.hid (F3.out.trans f4 (fun _ h _ => h)); clear f4))
      | ((go_at_call 68; have hc_ := B.out w2.drew; (with_reducible refine hc_.mono ?_); clear hc_; rintro e w3 ⟨rfl, f3⟩; have U3 := Lib.hid (ZFr.blk_fr (w := w2.drew) T1.out f3 (fun h => h)); have V3 := Lib.hid (ZFr.blk_fr (w := w2.drew) T2.out f3 (fun h => h)); obtain ⟨q1, q2, q3, q4⟩ := cone_cells U3.out; obtain ⟨s1, s2, s3, s4⟩ := cone_cells V3.out; have F3 := Lib.hid (F2.out.drew.trans f3 (fun _ h _ => h)); clear f3))
      | ((go_at_call 68; have hc_ := A.out w2.drew; (with_reducible refine hc_.mono ?_); clear hc_; rintro e w3 ⟨rfl, f3⟩; have U3 := Lib.hid (ZFr.blk_fr (w := w2.drew) T1.out f3 (fun h => h)); have V3 := Lib.hid (ZFr.blk_fr (w := w2.drew) T2.out f3 (fun h => h)); obtain ⟨q1, q2, q3, q4⟩ := cone_cells U3.out; obtain ⟨s1, s2, s3, s4⟩ := cone_cells V3.out; have F3 := Lib.hid (F2.out.drew.trans f3 (fun _ h _ => h)); clear f3)))))
  all_goals
    obtain ⟨q1, q2, q3, q4⟩ := cone_cells U5.out
    obtain ⟨s1, s2, s3, s4⟩ := cone_cells V5.out
    have d := D.out
    clear D
    by_cases h1 : ob = oa
    · rw [if_pos h1] at d
      subst d
      go_wp2_with fail
      all_goals go_ret
      all_goals refine ⟨?_, F5.out⟩
      all_goals rw [L.out]
      all_goals simp_all
    · by_cases h2 : ob < oa
      · rw [if_neg h1, if_pos h2] at d
        subst d
        go_wp2_with fail
        all_goals go_ret
        all_goals refine ⟨?_, F5.out⟩
        all_goals rw [L.out]
        all_goals simp_all
      · rw [if_neg h1, if_neg h2] at d
        subst d
        go_wp2_with fail
        all_goals go_ret
        all_goals refine ⟨?_, F5.out⟩
        all_goals rw [L.out]
        all_goals simp_all
end Go.Proofs.Ytgaicbodpneeoaa.Rs


/- What is used of RsC. -/
namespace Go.Proofs.Ytgaicbodpneeoaa.Rs
open Go.RowKit Go.Proofs.ZFr Go.Proofs.Ytgaicbodpneeoaa.PRasterImages Go.Proofs.Ytgaicbodpneeoaa.Wd Go.Proofs.YtgaicbodpneeoaaW.PrintWords
theorem frm_step (a b : Cone) (k : Nat) (lo hi : Int) (h : lo < hi) (hk : (hi - lo).toNat ≤ k) : frm a b k lo hi = if leads a b (lo + (hi - lo) / 2) then frm a b (k - 1) lo (lo + (hi - lo) / 2) else frm a b (k - 1) (lo + (hi - lo) / 2 + 1) hi := by
  obtain ⟨m, rfl⟩ : ∃ m, k = m + 1 := ⟨k - 1, by omega⟩
  rw [frm, if_pos h]
  rfl
set_option maxRecDepth 100000 in
set_option maxHeartbeats 4000000 in
theorem from_walk (a b : Cone) (lo hi : Int) (ha : okC a) (hb : okC b) (h1 : okX lo) (h2 : okX hi) (W : World) : Calls Try.prog 34 #[encC a, encC b, .int .i64 lo, .int .i64 hi] W fun e w' => e = .returned (.int .i64 (frm a b (hi - lo).toNat lo hi)) ∧ Fr (fun _ => False) W w' := by
  have A := Lib.hid (fun x hx w => leads_walk a b x ha hb hx w)
  obtain ⟨r, hr⟩ : ∃ r, frm a b (hi - lo).toNat lo hi = r := ⟨_, rfl⟩
  rw [hr]
  have HR := Lib.hid hr
  clear hr ha hb
  obtain ⟨ax, ad, ai⟩ := a
  obtain ⟨bx, bd, bi⟩ := b
  unfold encC at A ⊢
  simp only at A ⊢
  have H1 := Lib.hid h1
  have H2 := Lib.hid h2
  clear h1 h2
  generalize hiW ad = a1 at A ⊢
  generalize loW ad = a2 at A ⊢
  generalize hiW bd = b1 at A ⊢
  generalize loW bd = b2 at A ⊢
  have t1 := ZFr.blk_alloc (heap_alloc_new W (Obj.cells #[Value.int IntKind.i64 ax, Value.int IntKind.i64 a1, Value.int IntKind.u64 a2, Value.int IntKind.i64 ai] 72)) (Obj.cells #[Value.int IntKind.i64 bx, Value.int IntKind.i64 b1, Value.int IntKind.u64 b2, Value.int IntKind.i64 bi] 72)
  have t2 := second W (Obj.cells #[Value.int IntKind.i64 ax, Value.int IntKind.i64 a1, Value.int IntKind.u64 a2, Value.int IntKind.i64 ai] 72) (Obj.cells #[Value.int IntKind.i64 bx, Value.int IntKind.i64 b1, Value.int IntKind.u64 b2, Value.int IntKind.i64 bi] 72)
  have f2 := ((Fr.refl (fun _ => False) W).alloc (Obj.cells #[Value.int IntKind.i64 ax, Value.int IntKind.i64 a1, Value.int IntKind.u64 a2, Value.int IntKind.i64 ai] 72)).alloc (Obj.cells #[Value.int IntKind.i64 bx, Value.int IntKind.i64 b1, Value.int IntKind.u64 b2, Value.int IntKind.i64 bi] 72)
  go_enter Try.func34, Try.ntmps34
  go_wp2_with fail
  generalize (W.alloc (Obj.cells #[Value.int IntKind.i64 ax, Value.int IntKind.i64 a1, Value.int IntKind.u64 a2, Value.int IntKind.i64 ai] 72)).alloc (Obj.cells #[Value.int IntKind.i64 bx, Value.int IntKind.i64 b1, Value.int IntKind.u64 b2, Value.int IntKind.i64 bi] 72) = w2 at t1 t2 f2 ⊢
  have T1 := Lib.hid t1
  have T2 := Lib.hid t2
  have F2 := Lib.hid f2
  clear t1 t2 f2
  go_loopw [2, 3, 9] (fun v2 v3 _ w' => ∃ (l h : Int) (k : Nat), v2 = .int .i64 l ∧ v3 = .int .i64 h ∧ (okX l ∧ okX h ∧ (h - l).toNat ≤ k) ∧ Hid (frm ⟨ax, ad, ai⟩ ⟨bx, bd, bi⟩ k l h = r) ∧ w'.heap[W.heap.size]? = some (Obj.cells #[Value.int IntKind.i64 ax, Value.int IntKind.i64 a1, Value.int IntKind.u64 a2, Value.int IntKind.i64 ai] 72 (0, 0)) ∧ w'.heap[W.heap.size + 1]? = some (Obj.cells #[Value.int IntKind.i64 bx, Value.int IntKind.i64 b1, Value.int IntKind.u64 b2, Value.int IntKind.i64 bi] 72 (0, 0)) ∧ Fr (fun _ => False) W w') (fun v2 v3 _ _ => (intOf v3 - intOf v2).toNat)
  case atStart => exact ⟨lo, hi, _, rfl, rfl, ⟨H1.out, H2.out, Nat.le_refl _⟩, HR, T1.out, T2.out, F2.out⟩
  case round =>
    obtain ⟨l, h, k, rfl, rfl, ⟨hl, hh, hk⟩, HX, t1, t2, f2⟩ := hrel
    have U := Lib.hid t1
    have V := Lib.hid t2
    have F := Lib.hid f2
    obtain ⟨p1, p2, p3, p4⟩ := cone_cells t1
    obtain ⟨r1, r2, r3, r4⟩ := cone_cells t2
    clear t1 t2 f2
    by_cases hlt : l < h
    · obtain ⟨m, hm⟩ : ∃ m, l + (h - l) / 2 = m := ⟨_, rfl⟩
      have S := Lib.hid (frm_step ⟨ax, ad, ai⟩ ⟨bx, bd, bi⟩ k l h hlt hk)
      rw [hm] at S
      have e0 : IntKind.i64.wrap (h - l) = h - l := by rw [Go.Proofs.YtgaicbodpneeoaaW.PrintLast.i64_w]; unfold okX at *; unfold wrap64; omega
      have e4 : Int.tdiv (h - l) 2 = (h - l) / 2 := Int.tdiv_eq_ediv_of_nonneg (by omega)
      have e1 : IntKind.i64.wrap ((h - l) / 2) = (h - l) / 2 := by rw [Go.Proofs.YtgaicbodpneeoaaW.PrintLast.i64_w]; unfold okX at *; unfold wrap64; omega
      have e2 : IntKind.i64.wrap (l + (h - l) / 2) = m := by rw [hm, Go.Proofs.YtgaicbodpneeoaaW.PrintLast.i64_w]; unfold okX at *; unfold wrap64; omega
      have e3 : IntKind.i64.wrap (m + 1) = m + 1 := by rw [Go.Proofs.YtgaicbodpneeoaaW.PrintLast.i64_w]; unfold okX at *; unfold wrap64; omega
      have B := Lib.hid (A.out m (by unfold okX at *; omega))
      have M := Lib.hid (show l ≤ m ∧ m < h by omega)
      have hK : okX l ∧ okX h ∧ (h - l).toNat ≤ k := ⟨hl, hh, hk⟩
      clear hl hh hk
      obtain ⟨d, hd⟩ : ∃ d, leads ⟨ax, ad, ai⟩ ⟨bx, bd, bi⟩ m = d := ⟨_, rfl⟩
      rw [hd] at B S
      have HK := Lib.hid hK
      clear hK hd hm
      cases d
      · go_wp2_with (go_at_call 50; (with_reducible refine (B.out _).mono ?_); rintro e w3 ⟨rfl, f3⟩; have U3 := Lib.hid (ZFr.blk_fr U.out f3 (fun h => h)); have V3 := Lib.hid (ZFr.blk_fr V.out f3 (fun h => h)); have F3 := Lib.hid (F.out.trans f3 (fun _ h _ => h)); clear f3)
        go_roundw
        case rel => exact ⟨m + 1, h, k - 1, rfl, rfl, (by have := HK.out; have := M.out; unfold okX at *; omega), Lib.hid (by rw [← HX.out, S.out]; rfl), U3.out, V3.out, F3.out⟩
        case measure => have := M.out; simp [intOf]; omega
      · go_wp2_with (go_at_call 50; (with_reducible refine (B.out _).mono ?_); rintro e w3 ⟨rfl, f3⟩; have U3 := Lib.hid (ZFr.blk_fr U.out f3 (fun h => h)); have V3 := Lib.hid (ZFr.blk_fr V.out f3 (fun h => h)); have F3 := Lib.hid (F.out.trans f3 (fun _ h _ => h)); clear f3)
        go_roundw
        case rel => exact ⟨l, m, k - 1, rfl, rfl, (by have := HK.out; have := M.out; unfold okX at *; omega), Lib.hid (by rw [← HX.out, S.out]; rfl), U3.out, V3.out, F3.out⟩
        case measure => have := M.out; simp [intOf]; omega
    · have E := Lib.hid (show frm ⟨ax, ad, ai⟩ ⟨bx, bd, bi⟩ k l h = l by
        cases k with
        | zero => rfl
        | succ k => rw [frm, if_neg hlt])
      have hlt' : h ≤ l := by omega
      clear hl hh hk
      go_wp2_with fail
      go_ret
      exact ⟨by rw [← HX.out, E.out]; rfl, F.out⟩
end Go.Proofs.Ytgaicbodpneeoaa.Rs

