/- What is used of HfO. -/
import Derived.Test.YtngmkjgklonfmaaSkHfN
import Derived.Test.YtngmkjgklonfmaaJJ
namespace Go.Proofs.Ytngmkjgklonfmaa.Wd
open Go.RowKit Go.Proofs.ZFr Go.Proofs.Ytngmkjgklonfmaa.PNearNearest Go.Proofs.Ytngmkjgklonfmaa.Big Go.Proofs.YtngmkjgklonfmaaW.PrintWords
attribute [local go_sem ↓] Go.wp_at_zero Go.wp_at_succ
def sm (x : Int) : Prop := -8192 ≤ x ∧ x ≤ 8192
/-- What flat reckons, of ways that are short. -/
def fl3 (x1 x2 y1 y2 z1 z2 : Int) : Int := (x1 * x1 + x2 * x2) * (y1 * z2 - y2 * z1) - (y1 * y1 + y2 * y2) * (x1 * z2 - x2 * z1) + (z1 * z1 + z2 * z2) * (x1 * y2 - x2 * y1)
theorem fl3_icv (x1 x2 y1 y2 z1 z2 : Int) : fl3 x1 x2 y1 y2 z1 z2 = icv x1 x2 y1 y2 z1 z2 := by
  unfold fl3 icv sq2 ac; grind
theorem fl_wraps {x1 x2 y1 y2 z1 z2 : Int} (h : sm x1 ∧ sm x2 ∧ sm y1 ∧ sm y2 ∧ sm z1 ∧ sm z2) : IntKind.i64.wrap (x1 * x1) = x1 * x1 ∧ IntKind.i64.wrap (x2 * x2) = x2 * x2 ∧ IntKind.i64.wrap (y1 * y1) = y1 * y1 ∧ IntKind.i64.wrap (y2 * y2) = y2 * y2 ∧ IntKind.i64.wrap (z1 * z1) = z1 * z1 ∧ IntKind.i64.wrap (z2 * z2) = z2 * z2 ∧ IntKind.i64.wrap (y1 * z2) = y1 * z2 ∧ IntKind.i64.wrap (y2 * z1) = y2 * z1 ∧ IntKind.i64.wrap (x1 * z2) = x1 * z2 ∧ IntKind.i64.wrap (x2 * z1) = x2 * z1 ∧ IntKind.i64.wrap (x1 * y2) = x1 * y2 ∧ IntKind.i64.wrap (x2 * y1) = x2 * y1 ∧ IntKind.i64.wrap (x1 * x1 + x2 * x2) = x1 * x1 + x2 * x2 ∧ IntKind.i64.wrap (y1 * y1 + y2 * y2) = y1 * y1 + y2 * y2 ∧ IntKind.i64.wrap (z1 * z1 + z2 * z2) = z1 * z1 + z2 * z2 ∧ IntKind.i64.wrap (y1 * z2 - y2 * z1) = y1 * z2 - y2 * z1 ∧ IntKind.i64.wrap (x1 * z2 - x2 * z1) = x1 * z2 - x2 * z1 ∧ IntKind.i64.wrap (x1 * y2 - x2 * y1) = x1 * y2 - x2 * y1 ∧ IntKind.i64.wrap ((x1 * x1 + x2 * x2) * (y1 * z2 - y2 * z1)) = (x1 * x1 + x2 * x2) * (y1 * z2 - y2 * z1) ∧ IntKind.i64.wrap ((y1 * y1 + y2 * y2) * (x1 * z2 - x2 * z1)) = (y1 * y1 + y2 * y2) * (x1 * z2 - x2 * z1) ∧ IntKind.i64.wrap ((z1 * z1 + z2 * z2) * (x1 * y2 - x2 * y1)) = (z1 * z1 + z2 * z2) * (x1 * y2 - x2 * y1) ∧ IntKind.i64.wrap ((x1 * x1 + x2 * x2) * (y1 * z2 - y2 * z1) - (y1 * y1 + y2 * y2) * (x1 * z2 - x2 * z1)) = (x1 * x1 + x2 * x2) * (y1 * z2 - y2 * z1) - (y1 * y1 + y2 * y2) * (x1 * z2 - x2 * z1) ∧ IntKind.i64.wrap ((x1 * x1 + x2 * x2) * (y1 * z2 - y2 * z1) - (y1 * y1 + y2 * y2) * (x1 * z2 - x2 * z1) + (z1 * z1 + z2 * z2) * (x1 * y2 - x2 * y1)) = (x1 * x1 + x2 * x2) * (y1 * z2 - y2 * z1) - (y1 * y1 + y2 * y2) * (x1 * z2 - x2 * z1) + (z1 * z1 + z2 * z2) * (x1 * y2 - x2 * y1) := by
  obtain ⟨h1, h2, h3, h4, h5, h6⟩ := h
  have m0 := mul_bd (m := 8192) (n := 8192) h1 h1
  have m1 := mul_bd (m := 8192) (n := 8192) h2 h2
  have m2 := mul_bd (m := 8192) (n := 8192) h3 h3
  have m3 := mul_bd (m := 8192) (n := 8192) h4 h4
  have m4 := mul_bd (m := 8192) (n := 8192) h5 h5
  have m5 := mul_bd (m := 8192) (n := 8192) h6 h6
  have m6 := mul_bd (m := 8192) (n := 8192) h3 h6
  have m7 := mul_bd (m := 8192) (n := 8192) h4 h5
  have m8 := mul_bd (m := 8192) (n := 8192) h1 h6
  have m9 := mul_bd (m := 8192) (n := 8192) h2 h5
  have m10 := mul_bd (m := 8192) (n := 8192) h1 h4
  have m11 := mul_bd (m := 8192) (n := 8192) h2 h3
  clear h1 h2 h3 h4 h5 h6
  generalize hq0 : x1 * x1 = q0 at *
  generalize hq1 : x2 * x2 = q1 at *
  generalize hq2 : y1 * y1 = q2 at *
  generalize hq3 : y2 * y2 = q3 at *
  generalize hq4 : z1 * z1 = q4 at *
  generalize hq5 : z2 * z2 = q5 at *
  generalize hq6 : y1 * z2 = q6 at *
  generalize hq7 : y2 * z1 = q7 at *
  generalize hq8 : x1 * z2 = q8 at *
  generalize hq9 : x2 * z1 = q9 at *
  generalize hq10 : x1 * y2 = q10 at *
  generalize hq11 : x2 * y1 = q11 at *
  have s0 : -134217728 ≤ q0 + q1 ∧ q0 + q1 ≤ 134217728 := by omega
  have d0 : -134217728 ≤ q6 - q7 ∧ q6 - q7 ≤ 134217728 := by omega
  have n0 := mul_bd (x := q0 + q1) (y := q6 - q7) s0 d0
  have s1 : -134217728 ≤ q2 + q3 ∧ q2 + q3 ≤ 134217728 := by omega
  have d1 : -134217728 ≤ q8 - q9 ∧ q8 - q9 ≤ 134217728 := by omega
  have n1 := mul_bd (x := q2 + q3) (y := q8 - q9) s1 d1
  have s2 : -134217728 ≤ q4 + q5 ∧ q4 + q5 ≤ 134217728 := by omega
  have d2 : -134217728 ≤ q10 - q11 ∧ q10 - q11 ≤ 134217728 := by omega
  have n2 := mul_bd (x := q4 + q5) (y := q10 - q11) s2 d2
  generalize ha0 : (q0 + q1) * (q6 - q7) = p0 at *
  generalize ha1 : (q2 + q3) * (q8 - q9) = p1 at *
  generalize ha2 : (q4 + q5) * (q10 - q11) = p2 at *
  refine ⟨?_, ?_, ?_, ?_, ?_, ?_, ?_, ?_, ?_, ?_, ?_, ?_, ?_, ?_, ?_, ?_, ?_, ?_, ?_, ?_, ?_, ?_, ?_⟩ <;> exact wr (by omega) (by omega)
set_option maxRecDepth 100000 in
set_option maxHeartbeats 8000000 in
theorem flat_walk (ax ay bx bY cx cy dx dy x1 x2 y1 y2 z1 z2 : Int) (e1 : IntKind.i64.wrap (ax - dx) = x1) (e2 : IntKind.i64.wrap (ay - dy) = x2) (e3 : IntKind.i64.wrap (bx - dx) = y1) (e4 : IntKind.i64.wrap (bY - dy) = y2) (e5 : IntKind.i64.wrap (cx - dx) = z1) (e6 : IntKind.i64.wrap (cy - dy) = z2) (h : sm x1 ∧ sm x2 ∧ sm y1 ∧ sm y2 ∧ sm z1 ∧ sm z2) (W : World) :
    Calls Try.prog 129 #[pt ax ay, pt bx bY, pt cx cy, pt dx dy] W fun e w' => e = .returned (.int .i64 (sgn (fl3 x1 x2 y1 y2 z1 z2))) ∧ Fr (fun _ => False) W w' := by
  have WR := Lib.hid (fl_wraps h)
  have SG := Lib.hid (sign_walk (fl3 x1 x2 y1 y2 z1 z2))
  clear h
  unfold fl3 at SG ⊢
  generalize hR : sgn ((x1 * x1 + x2 * x2) * (y1 * z2 - y2 * z1) - (y1 * y1 + y2 * y2) * (x1 * z2 - x2 * z1) + (z1 * z1 + z2 * z2) * (x1 * y2 - x2 * y1)) = R at SG ⊢
  clear hR
  unfold pt
  have HQ := Lib.hid (quad4 W (pb ax ay) (pb bx bY) (pb cx cy) (pb dx dy))
  unfold pb at HQ
  go_enter Try.func129, Try.ntmps129
  go_wp2_with fail
  obtain ⟨w4, hw4, t1, t2, t3, t4, f4⟩ := HQ.out
  rw [hw4]
  have F4 := Lib.hid f4
  obtain ⟨p1, p2⟩ := point_cells t1
  obtain ⟨p3, p4⟩ := point_cells t2
  obtain ⟨p5, p6⟩ := point_cells t3
  obtain ⟨p7, p8⟩ := point_cells t4
  clear hw4 t1 t2 t3 t4 f4 HQ
  go_quiet (fail)
  clear e1 e2 e3 e4 e5 e6 p1 p2 p3 p4 p5 p6 p7 p8
  obtain ⟨k0, k1, k2, k3, k4, k5, k6, k7, k8, k9, k10, k11, k12, k13, k14, k15, k16, k17, k18, k19, k20, k21, k22⟩ := WR.out
  clear WR
  go_wp2_with (go_at_call 127; have hc_ := SG.out (w4.drewN nq); (with_reducible refine hc_.mono ?_); clear hc_; rintro e w7 ⟨rfl, f7⟩; have E7 := Lib.hid f7; clear f7)
  go_ret
  exact ⟨rfl, (F4.out.drewN _).trans E7.out (fun _ h _ => h)⟩
theorem len_bd {n : Int} (h : -1606938044258990275541962092341162602522202993782792835301376 ≤ n ∧ n ≤ 1606938044258990275541962092341162602522202993782792835301376) : (dg n.natAbs).length < 800 := by
  have : (65536 : Nat) ^ 13 = 411376139330301510538742295639337626245683966408394965837152256 := by decide
  have := dg_len_le 13 n.natAbs (by omega)
  omega
theorem icv_m (x1 x2 y1 y2 z1 z2 : Int) : icv x1 x2 y1 y2 z1 z2 = sq2 x1 x2 * (y1 * z2 - y2 * z1) - sq2 y1 y2 * (x1 * z2 - x2 * z1) + sq2 z1 z2 * (x1 * y2 - x2 * y1) := by
  unfold icv sq2 ac; grind
structure Lens (x1 x2 y1 y2 z1 z2 : Int) : Prop where
  lx1 : (dg (x1).natAbs).length < 800
  lx2 : (dg (x2).natAbs).length < 800
  ly1 : (dg (y1).natAbs).length < 800
  ly2 : (dg (y2).natAbs).length < 800
  lz1 : (dg (z1).natAbs).length < 800
  lz2 : (dg (z2).natAbs).length < 800
  la0 : (dg (y1 * z2).natAbs).length < 800
  la1 : (dg (y2 * z1).natAbs).length < 800
  lb0 : (dg (x1 * z2).natAbs).length < 800
  lb1 : (dg (x2 * z1).natAbs).length < 800
  lc0 : (dg (x1 * y2).natAbs).length < 800
  lc1 : (dg (x2 * y1).natAbs).length < 800
  ls0 : (dg (sq2 x1 x2).natAbs).length < 800
  ls1 : (dg (sq2 y1 y2).natAbs).length < 800
  ls2 : (dg (sq2 z1 z2).natAbs).length < 800
  lm0 : (dg (y1 * z2 - y2 * z1).natAbs).length < 800
  lm1 : (dg (x1 * z2 - x2 * z1).natAbs).length < 800
  lm2 : (dg (x1 * y2 - x2 * y1).natAbs).length < 800
  lt0 : (dg (sq2 x1 x2 * (y1 * z2 - y2 * z1)).natAbs).length < 800
  lt1 : (dg (sq2 y1 y2 * (x1 * z2 - x2 * z1)).natAbs).length < 800
  lt2 : (dg (sq2 z1 z2 * (x1 * y2 - x2 * y1)).natAbs).length < 800
  lt01 : (dg (sq2 x1 x2 * (y1 * z2 - y2 * z1) - sq2 y1 y2 * (x1 * z2 - x2 * z1)).natAbs).length < 800
theorem lens {x1 x2 y1 y2 z1 z2 : Int} (h1 : bw x1) (h2 : bw x2) (h3 : bw y1) (h4 : bw y2) (h5 : bw z1) (h6 : bw z2) : Lens x1 x2 y1 y2 z1 z2 := by
  have p0 := bw_mul h3 h6
  have p1 := bw_mul h4 h5
  have p2 := bw_mul h1 h6
  have p3 := bw_mul h2 h5
  have p4 := bw_mul h1 h4
  have p5 := bw_mul h2 h3
  have s0 := sq2_bd h1 h2
  have s1 := sq2_bd h3 h4
  have s2 := sq2_bd h5 h6
  have d0 : -9671406556917033397649408 ≤ y1 * z2 - y2 * z1 ∧ y1 * z2 - y2 * z1 ≤ 9671406556917033397649408 := by omega
  have d1 : -9671406556917033397649408 ≤ x1 * z2 - x2 * z1 ∧ x1 * z2 - x2 * z1 ≤ 9671406556917033397649408 := by omega
  have d2 : -9671406556917033397649408 ≤ x1 * y2 - x2 * y1 ∧ x1 * y2 - x2 * y1 ≤ 9671406556917033397649408 := by omega
  have t0 := sa_bd s0 d0
  have t1 := sa_bd s1 d1
  have t2 := sa_bd s2 d2
  unfold bw at h1 h2 h3 h4 h5 h6
  constructor <;> exact len_bd (by omega)
end Go.Proofs.Ytngmkjgklonfmaa.Wd

