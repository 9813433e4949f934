/- Joined texts. -/
import Derived.Test.YtngmkjgklonfmaaJI
import Derived.Deep.DeepCutAuto
import Derived.Test.YtngmkjgklonfmaaJC
import Derived.Deep.RegionHeld3
/- What is used of HoI. -/
namespace Go.Proofs.Ytngmkjgklonfmaa.Wd
open Go.RowKit Go.Proofs.ZFr Go.Proofs.Ytngmkjgklonfmaa.PNearNearest Go.Proofs.Ytngmkjgklonfmaa.Big Go.Proofs.YtngmkjgklonfmaaW.PrintWords
attribute [local go_sem ↓] Go.wp_at_zero Go.wp_at_succ
/-- A way's square, and what three ways tell of a circle. -/
def sq2 (x y : Int) : Int := x * x + y * y
def icv (ux uy vx vy wx wy : Int) : Int := sq2 ux uy * ac vx vy wx wy + sq2 vx vy * ac wx wy ux uy + sq2 wx wy * ac ux uy vx vy
def bw (x : Int) : Prop := -2199023255552 ≤ x ∧ x ≤ 2199023255552
theorem df_bw {x X : Int} (hx : inP x) (hX : inP X) : bw (X - x) := by
  unfold bw; have := hx.1; have := hx.2; have := hX.1; have := hX.2; omega
theorem bw_mul {x y : Int} (hx : bw x) (hy : bw y) : -4835703278458516698824704 ≤ x * y ∧ x * y ≤ 4835703278458516698824704 := by
  have e := Int.natAbs_mul x y
  have h1 : x.natAbs * y.natAbs ≤ 2199023255552 * 2199023255552 := Nat.mul_le_mul (by have := hx.1; have := hx.2; omega) (by have := hy.1; have := hy.2; omega)
  omega
theorem sq2_bd {x y : Int} (hx : bw x) (hy : bw y) : -9671406556917033397649408 ≤ sq2 x y ∧ sq2 x y ≤ 9671406556917033397649408 := by
  have h1 := bw_mul hx hx
  have h2 := bw_mul hy hy
  unfold sq2; omega
theorem ac_bd {a b c d : Int} (ha : bw a) (hb : bw b) (hc : bw c) (hd : bw d) : -9671406556917033397649408 ≤ ac a b c d ∧ ac a b c d ≤ 9671406556917033397649408 := by
  have h1 := bw_mul ha hd
  have h2 := bw_mul hb hc
  unfold ac; omega
theorem sa_bd {p q : Int} (hp : -9671406556917033397649408 ≤ p ∧ p ≤ 9671406556917033397649408) (hq : -9671406556917033397649408 ≤ q ∧ q ≤ 9671406556917033397649408) : -93536104789177786765035829293842113257979682750464 ≤ p * q ∧ p * q ≤ 93536104789177786765035829293842113257979682750464 := by
  have e := Int.natAbs_mul p q
  have h1 : p.natAbs * q.natAbs ≤ 9671406556917033397649408 * 9671406556917033397649408 := Nat.mul_le_mul (by omega) (by omega)
  omega
theorem icv_bd {a b c d e f : Int} (ha : bw a) (hb : bw b) (hc : bw c) (hd : bw d) (he : bw e) (hf : bw f) : -57896044618658097711785492504343953926634992332820282019728792003956564819968 ≤ icv a b c d e f ∧ icv a b c d e f < 57896044618658097711785492504343953926634992332820282019728792003956564819968 := by
  have h1 := sa_bd (sq2_bd ha hb) (ac_bd hc hd he hf)
  have h2 := sa_bd (sq2_bd hc hd) (ac_bd he hf ha hb)
  have h3 := sa_bd (sq2_bd he hf) (ac_bd ha hb hc hd)
  unfold icv; omega
theorem bw_w {x : Int} (h : bw x) : -4611686018427387904 ≤ x ∧ x ≤ 4611686018427387904 := by have := h.1; have := h.2; omega
/-- What the three products answer. -/
structure Prods (ux uy vx vy wx wy : Int) : Prop where
  sqU : ∀ w, Calls Try.prog 85 #[.agg #[.int .i64 ux, .int .i64 uy]] w fun e w' => e = .returned (encW (sq2 ux uy)) ∧ Fr (fun _ => False) w w'
  sqV : ∀ w, Calls Try.prog 85 #[.agg #[.int .i64 vx, .int .i64 vy]] w fun e w' => e = .returned (encW (sq2 vx vy)) ∧ Fr (fun _ => False) w w'
  sqW : ∀ w, Calls Try.prog 85 #[.agg #[.int .i64 wx, .int .i64 wy]] w fun e w' => e = .returned (encW (sq2 wx wy)) ∧ Fr (fun _ => False) w w'
  acVW : ∀ w, Calls Try.prog 148 #[.agg #[.int .i64 vx, .int .i64 vy], .agg #[.int .i64 wx, .int .i64 wy]] w fun e w' => e = .returned (encW (ac vx vy wx wy)) ∧ Fr (fun _ => False) w w'
  acWU : ∀ w, Calls Try.prog 148 #[.agg #[.int .i64 wx, .int .i64 wy], .agg #[.int .i64 ux, .int .i64 uy]] w fun e w' => e = .returned (encW (ac wx wy ux uy)) ∧ Fr (fun _ => False) w w'
  acUV : ∀ w, Calls Try.prog 148 #[.agg #[.int .i64 ux, .int .i64 uy], .agg #[.int .i64 vx, .int .i64 vy]] w fun e w' => e = .returned (encW (ac ux uy vx vy)) ∧ Fr (fun _ => False) w w'
  mU : ∀ w, Calls Try.prog 149 #[encW (sq2 ux uy), encW (ac vx vy wx wy)] w fun e w' => e = .returned (encQ (sq2 ux uy * ac vx vy wx wy)) ∧ Fr (fun _ => False) w w'
  mV : ∀ w, Calls Try.prog 149 #[encW (sq2 vx vy), encW (ac wx wy ux uy)] w fun e w' => e = .returned (encQ (sq2 vx vy * ac wx wy ux uy)) ∧ Fr (fun _ => False) w w'
  mW : ∀ w, Calls Try.prog 149 #[encW (sq2 wx wy), encW (ac ux uy vx vy)] w fun e w' => e = .returned (encQ (sq2 wx wy * ac ux uy vx vy)) ∧ Fr (fun _ => False) w w'
  sgn : ∀ w, Calls Try.prog 151 #[encQ (icv ux uy vx vy wx wy)] w fun e w' => e = .returned (.int .i64 (sgn (icv ux uy vx vy wx wy))) ∧ Fr (fun _ => False) w w'
theorem prods {ux uy vx vy wx wy : Int} (h1 : bw ux) (h2 : bw uy) (h3 : bw vx) (h4 : bw vy) (h5 : bw wx) (h6 : bw wy) : Prods ux uy vx vy wx wy where
  sqU w := square_walk ux uy w (bw_w h1) (bw_w h2)
  sqV w := square_walk vx vy w (bw_w h3) (bw_w h4)
  sqW w := square_walk wx wy w (bw_w h5) (bw_w h6)
  acVW w := across_walk vx vy wx wy w (bw_w h3) (bw_w h4) (bw_w h5) (bw_w h6)
  acWU w := across_walk wx wy ux uy w (bw_w h5) (bw_w h6) (bw_w h1) (bw_w h2)
  acUV w := across_walk ux uy vx vy w (bw_w h1) (bw_w h2) (bw_w h3) (bw_w h4)
  mU w := qmul_walk _ _ (by have := sq2_bd h1 h2; omega) (by have := sq2_bd h1 h2; omega) (by have := ac_bd h3 h4 h5 h6; omega) (by have := ac_bd h3 h4 h5 h6; omega) w
  mV w := qmul_walk _ _ (by have := sq2_bd h3 h4; omega) (by have := sq2_bd h3 h4; omega) (by have := ac_bd h5 h6 h1 h2; omega) (by have := ac_bd h5 h6 h1 h2; omega) w
  mW w := qmul_walk _ _ (by have := sq2_bd h5 h6; omega) (by have := sq2_bd h5 h6; omega) (by have := ac_bd h1 h2 h3 h4; omega) (by have := ac_bd h1 h2 h3 h4; omega) w
  sgn w := qsign_c _ (icv_bd h1 h2 h3 h4 h5 h6) w
end Go.Proofs.Ytngmkjgklonfmaa.Wd


/- What is used of HoK1. -/
namespace Go.Proofs.Ytngmkjgklonfmaa.Wd
open Go.RowKit Go.Proofs.ZFr Go.Proofs.Ytngmkjgklonfmaa.PNearNearest Go.Proofs.Ytngmkjgklonfmaa.Big Go.Proofs.YtngmkjgklonfmaaW.PrintWords
attribute [local go_sem ↓] Go.wp_at_zero Go.wp_at_succ
theorem quin (W : World) (o1 o2 o3 o4 o5 : Obj) : ∃ w5, ((((W.alloc o1).alloc o2).alloc o3).alloc o4).alloc o5 = w5 ∧ w5.heap[W.heap.size]? = some o1 ∧ w5.heap[W.heap.size + 1]? = some o2 ∧ w5.heap[W.heap.size + 1 + 1]? = some o3 ∧ w5.heap[W.heap.size + 1 + 1 + 1]? = some o4 ∧ w5.heap[W.heap.size + 1 + 1 + 1 + 1]? = some o5 ∧ Fr (fun _ => False) W w5 := by
  obtain ⟨w4, rfl, t1, t2, t3, t4, f4⟩ := quad4 W o1 o2 o3 o4
  refine ⟨_, rfl, ZFr.blk_alloc t1 o5, ZFr.blk_alloc t2 o5, ZFr.blk_alloc t3 o5, ZFr.blk_alloc t4 o5, ?_, f4.alloc o5⟩
  have h := heap_alloc_new ((((W.alloc o1).alloc o2).alloc o3).alloc o4) o5
  rw [show ((((W.alloc o1).alloc o2).alloc o3).alloc o4).heap.size = W.heap.size + 1 + 1 + 1 + 1 from (Array.size_push ..).trans (congrArg (· + 1) ((Array.size_push ..).trans (congrArg (· + 1) ((Array.size_push ..).trans (congrArg (· + 1) (Array.size_push ..))))))] at h
  exact h
theorem eight24 {w : World} {g : Nat} {a b c d e f p q : Int} (h : w.heap[g]? = some (.cells #[.int .i64 a, .int .i64 b, .int .i64 c, .int .i64 d, .int .i64 e, .int .i64 f, .int .i64 p, .int .i64 q] 24 (0, 0))) : Kd.C k24 w (some ⟨g, 0, none⟩) 4 [⟨a, b⟩, ⟨c, d⟩, ⟨e, f⟩, ⟨p, q⟩] := by
  refine pts_n [⟨a, b⟩, ⟨c, d⟩, ⟨e, f⟩, ⟨p, q⟩] (by simp) (fun i hi => ?_)
  match i, hi with
  | 0, _ => exact ⟨ZFr.blk_cell h 0, ZFr.blk_cell h 1⟩
  | 1, _ => exact ⟨ZFr.blk_cell h 2, ZFr.blk_cell h 3⟩
  | 2, _ => exact ⟨ZFr.blk_cell h 4, ZFr.blk_cell h 5⟩
  | 3, _ => exact ⟨ZFr.blk_cell h 6, ZFr.blk_cell h 7⟩
open Go.Proofs.Ytngmkjgklonfmaa.Inv
def Bx (w : World) (m : Nat) (v : Value) (x y : Int) : Prop := ∃ g, v = .pointer (some ⟨g, 0, none⟩) ∧ m ≤ g ∧ w.heap[g]? = some (.cells #[.int .i64 x, .int .i64 y] 24 (0, 0))
theorem Bx.fr {w w' : World} {m : Nat} {v : Value} {x y : Int} (h : Bx w m v x y) (f : Fr (fun _ => False) w w') : Bx w' m v x y := by
  obtain ⟨g, e, l, b⟩ := h
  exact ⟨g, e, l, ZFr.blk_fr b f (fun h => h)⟩
theorem Bx.set {w : World} {m g : Nat} {v : Value} {x y : Int} (h : Bx w m v x y) (hv : v ≠ .pointer (some ⟨g, 0, none⟩)) (u1 u2 : Value) : Bx ((w.setCell ⟨g, 0, none⟩ u1).setCell ⟨g, 1, none⟩ u2) m v x y := by
  obtain ⟨k, rfl, l, b⟩ := h
  have hk : k ≠ g := fun e => hv (by rw [e])
  exact ⟨k, rfl, l, ZFr.blk_set_other (ZFr.blk_set_other b _ _ hk) _ _ hk⟩
theorem Bx.new {w : World} {m : Nat} (h : m ≤ w.heap.size) (x y : Int) : Bx (w.alloc (Obj.cells #[Value.int IntKind.i64 x, Value.int IntKind.i64 y] 24)) m (.pointer (some ⟨w.heap.size, 0, none⟩)) x y := ⟨_, rfl, h, heap_alloc_new _ _⟩
theorem Bx.put {w : World} {m g : Nat} {x y X Y : Int} (h : w.heap[g]? = some (.cells #[.int .i64 X, .int .i64 Y] 24 (0, 0))) (l : m ≤ g) : Bx ((w.setCell ⟨g, 0, none⟩ (.int .i64 x)).setCell ⟨g, 1, none⟩ (.int .i64 y)) m (.pointer (some ⟨g, 0, none⟩)) x y := ⟨g, rfl, l, ZFr.blk_set (ZFr.blk_set h 0 _) 1 _⟩
theorem Bx.ne {w : World} {m : Nat} {v : Value} {x y : Int} (h : Bx w m v x y) : v ≠ .pointer (some ⟨w.heap.size, 0, none⟩) := by
  obtain ⟨g, rfl, l, b⟩ := h
  intro e
  have := ZFr.blk_lt b
  injection e with e
  injection e with e
  injection e with e
  omega
/-- How far the drawing of three ways into three boxes has come. -/
structure St (w6 : World) (pd pa pb pc : Value) (ux uy vx vy wx wy : Int) (L : Array Bool) (w : World) (v9 v10 v11 v20 v21 v22 v23 v24 v25 v26 v27 v28 : Value) : Prop where
  fr : Fr (fun _ => False) w6 w
  l0 : On L 0 → v20 = pd
  l1 : On L 1 → v21 = pa
  l2 : On L 2 → v22 = .agg #[.int .i64 ux, .int .i64 uy]
  l3 : On L 3 → v23 = pd
  l4 : On L 4 → v24 = pb
  l5 : On L 5 → v25 = .agg #[.int .i64 vx, .int .i64 vy]
  l6 : On L 6 → v26 = pd
  l7 : On L 7 → v27 = pc
  l8 : On L 8 → v28 = .agg #[.int .i64 wx, .int .i64 wy]
  c12 : On L 12 → On L 9
  c13 : On L 13 → On L 10
  c14 : On L 14 → On L 11
  b9 : On L 9 → ¬ On L 12 → Bx w w6.heap.size v9 0 0
  b10 : On L 10 → ¬ On L 13 → Bx w w6.heap.size v10 0 0
  b11 : On L 11 → ¬ On L 14 → Bx w w6.heap.size v11 0 0
  b12 : On L 12 → Bx w w6.heap.size v9 ux uy
  b13 : On L 13 → Bx w w6.heap.size v10 vx vy
  b14 : On L 14 → Bx w w6.heap.size v11 wx wy
  d1 : On L 9 → On L 10 → v9 ≠ v10
  d2 : On L 9 → On L 11 → v9 ≠ v11
  d3 : On L 10 → On L 11 → v10 ≠ v11
section
variable {w6 w w' : World} {pd pa pb pc : Value} {ux uy vx vy wx wy : Int} {L : Array Bool} {v9 v10 v11 v20 v21 v22 v23 v24 v25 v26 v27 v28 : Value}
theorem St.any9 (st : St w6 pd pa pb pc ux uy vx vy wx wy L w v9 v10 v11 v20 v21 v22 v23 v24 v25 v26 v27 v28) (h : On L 9) : ∃ x y, Bx w w6.heap.size v9 x y := by
  by_cases k : On L 12
  · exact ⟨_, _, st.b12 k⟩
  · exact ⟨_, _, st.b9 h k⟩
theorem St.any10 (st : St w6 pd pa pb pc ux uy vx vy wx wy L w v9 v10 v11 v20 v21 v22 v23 v24 v25 v26 v27 v28) (h : On L 10) : ∃ x y, Bx w w6.heap.size v10 x y := by
  by_cases k : On L 13
  · exact ⟨_, _, st.b13 k⟩
  · exact ⟨_, _, st.b10 h k⟩
theorem St.any11 (st : St w6 pd pa pb pc ux uy vx vy wx wy L w v9 v10 v11 v20 v21 v22 v23 v24 v25 v26 v27 v28) (h : On L 11) : ∃ x y, Bx w w6.heap.size v11 x y := by
  by_cases k : On L 14
  · exact ⟨_, _, st.b14 k⟩
  · exact ⟨_, _, st.b11 h k⟩
theorem St.r0 (st : St w6 pd pa pb pc ux uy vx vy wx wy L w v9 v10 v11 v20 v21 v22 v23 v24 v25 v26 v27 v28) (hi : 0 < L.size) (g : Fr (fun _ => False) w w') : St w6 pd pa pb pc ux uy vx vy wx wy (L.setIfInBounds 0 true) w' v9 v10 v11 pd v21 v22 v23 v24 v25 v26 v27 v28 := by
  constructor <;> (try simp only [on_set hi, Nat.reduceEqDiff, false_or, true_or])
  · exact st.fr.trans g (fun _ h _ => h)
  · exact fun _ => trivial
  · exact st.l1
  · exact st.l2
  · exact st.l3
  · exact st.l4
  · exact st.l5
  · exact st.l6
  · exact st.l7
  · exact st.l8
  · exact st.c12
  · exact st.c13
  · exact st.c14
  · exact fun h k => (st.b9 h k).fr g
  · exact fun h k => (st.b10 h k).fr g
  · exact fun h k => (st.b11 h k).fr g
  · exact fun h => (st.b12 h).fr g
  · exact fun h => (st.b13 h).fr g
  · exact fun h => (st.b14 h).fr g
  · exact st.d1
  · exact st.d2
  · exact st.d3
theorem St.r1 (st : St w6 pd pa pb pc ux uy vx vy wx wy L w v9 v10 v11 v20 v21 v22 v23 v24 v25 v26 v27 v28) (hi : 1 < L.size) (g : Fr (fun _ => False) w w') : St w6 pd pa pb pc ux uy vx vy wx wy (L.setIfInBounds 1 true) w' v9 v10 v11 v20 pa v22 v23 v24 v25 v26 v27 v28 := by
  constructor <;> (try simp only [on_set hi, Nat.reduceEqDiff, false_or, true_or])
  · exact st.fr.trans g (fun _ h _ => h)
  · exact st.l0
  · exact fun _ => trivial
  · exact st.l2
  · exact st.l3
  · exact st.l4
  · exact st.l5
  · exact st.l6
  · exact st.l7
  · exact st.l8
  · exact st.c12
  · exact st.c13
  · exact st.c14
  · exact fun h k => (st.b9 h k).fr g
  · exact fun h k => (st.b10 h k).fr g
  · exact fun h k => (st.b11 h k).fr g
  · exact fun h => (st.b12 h).fr g
  · exact fun h => (st.b13 h).fr g
  · exact fun h => (st.b14 h).fr g
  · exact st.d1
  · exact st.d2
  · exact st.d3
theorem St.r2 (st : St w6 pd pa pb pc ux uy vx vy wx wy L w v9 v10 v11 v20 v21 v22 v23 v24 v25 v26 v27 v28) (hi : 2 < L.size) (g : Fr (fun _ => False) w w') : St w6 pd pa pb pc ux uy vx vy wx wy (L.setIfInBounds 2 true) w' v9 v10 v11 v20 v21 (.agg #[.int .i64 ux, .int .i64 uy]) v23 v24 v25 v26 v27 v28 := by
  constructor <;> (try simp only [on_set hi, Nat.reduceEqDiff, false_or, true_or])
  · exact st.fr.trans g (fun _ h _ => h)
  · exact st.l0
  · exact st.l1
  · exact fun _ => trivial
  · exact st.l3
  · exact st.l4
  · exact st.l5
  · exact st.l6
  · exact st.l7
  · exact st.l8
  · exact st.c12
  · exact st.c13
  · exact st.c14
  · exact fun h k => (st.b9 h k).fr g
  · exact fun h k => (st.b10 h k).fr g
  · exact fun h k => (st.b11 h k).fr g
  · exact fun h => (st.b12 h).fr g
  · exact fun h => (st.b13 h).fr g
  · exact fun h => (st.b14 h).fr g
  · exact st.d1
  · exact st.d2
  · exact st.d3
theorem St.r3 (st : St w6 pd pa pb pc ux uy vx vy wx wy L w v9 v10 v11 v20 v21 v22 v23 v24 v25 v26 v27 v28) (hi : 3 < L.size) (g : Fr (fun _ => False) w w') : St w6 pd pa pb pc ux uy vx vy wx wy (L.setIfInBounds 3 true) w' v9 v10 v11 v20 v21 v22 pd v24 v25 v26 v27 v28 := by
  constructor <;> (try simp only [on_set hi, Nat.reduceEqDiff, false_or, true_or])
  · exact st.fr.trans g (fun _ h _ => h)
  · exact st.l0
  · exact st.l1
  · exact st.l2
  · exact fun _ => trivial
  · exact st.l4
  · exact st.l5
  · exact st.l6
  · exact st.l7
  · exact st.l8
  · exact st.c12
  · exact st.c13
  · exact st.c14
  · exact fun h k => (st.b9 h k).fr g
  · exact fun h k => (st.b10 h k).fr g
  · exact fun h k => (st.b11 h k).fr g
  · exact fun h => (st.b12 h).fr g
  · exact fun h => (st.b13 h).fr g
  · exact fun h => (st.b14 h).fr g
  · exact st.d1
  · exact st.d2
  · exact st.d3
theorem St.r4 (st : St w6 pd pa pb pc ux uy vx vy wx wy L w v9 v10 v11 v20 v21 v22 v23 v24 v25 v26 v27 v28) (hi : 4 < L.size) (g : Fr (fun _ => False) w w') : St w6 pd pa pb pc ux uy vx vy wx wy (L.setIfInBounds 4 true) w' v9 v10 v11 v20 v21 v22 v23 pb v25 v26 v27 v28 := by
  constructor <;> (try simp only [on_set hi, Nat.reduceEqDiff, false_or, true_or])
  · exact st.fr.trans g (fun _ h _ => h)
  · exact st.l0
  · exact st.l1
  · exact st.l2
  · exact st.l3
  · exact fun _ => trivial
  · exact st.l5
  · exact st.l6
  · exact st.l7
  · exact st.l8
  · exact st.c12
  · exact st.c13
  · exact st.c14
  · exact fun h k => (st.b9 h k).fr g
  · exact fun h k => (st.b10 h k).fr g
  · exact fun h k => (st.b11 h k).fr g
  · exact fun h => (st.b12 h).fr g
  · exact fun h => (st.b13 h).fr g
  · exact fun h => (st.b14 h).fr g
  · exact st.d1
  · exact st.d2
  · exact st.d3
theorem St.r5 (st : St w6 pd pa pb pc ux uy vx vy wx wy L w v9 v10 v11 v20 v21 v22 v23 v24 v25 v26 v27 v28) (hi : 5 < L.size) (g : Fr (fun _ => False) w w') : St w6 pd pa pb pc ux uy vx vy wx wy (L.setIfInBounds 5 true) w' v9 v10 v11 v20 v21 v22 v23 v24 (.agg #[.int .i64 vx, .int .i64 vy]) v26 v27 v28 := by
  constructor <;> (try simp only [on_set hi, Nat.reduceEqDiff, false_or, true_or])
  · exact st.fr.trans g (fun _ h _ => h)
  · exact st.l0
  · exact st.l1
  · exact st.l2
  · exact st.l3
  · exact st.l4
  · exact fun _ => trivial
  · exact st.l6
  · exact st.l7
  · exact st.l8
  · exact st.c12
  · exact st.c13
  · exact st.c14
  · exact fun h k => (st.b9 h k).fr g
  · exact fun h k => (st.b10 h k).fr g
  · exact fun h k => (st.b11 h k).fr g
  · exact fun h => (st.b12 h).fr g
  · exact fun h => (st.b13 h).fr g
  · exact fun h => (st.b14 h).fr g
  · exact st.d1
  · exact st.d2
  · exact st.d3
theorem St.r6 (st : St w6 pd pa pb pc ux uy vx vy wx wy L w v9 v10 v11 v20 v21 v22 v23 v24 v25 v26 v27 v28) (hi : 6 < L.size) (g : Fr (fun _ => False) w w') : St w6 pd pa pb pc ux uy vx vy wx wy (L.setIfInBounds 6 true) w' v9 v10 v11 v20 v21 v22 v23 v24 v25 pd v27 v28 := by
  constructor <;> (try simp only [on_set hi, Nat.reduceEqDiff, false_or, true_or])
  · exact st.fr.trans g (fun _ h _ => h)
  · exact st.l0
  · exact st.l1
  · exact st.l2
  · exact st.l3
  · exact st.l4
  · exact st.l5
  · exact fun _ => trivial
  · exact st.l7
  · exact st.l8
  · exact st.c12
  · exact st.c13
  · exact st.c14
  · exact fun h k => (st.b9 h k).fr g
  · exact fun h k => (st.b10 h k).fr g
  · exact fun h k => (st.b11 h k).fr g
  · exact fun h => (st.b12 h).fr g
  · exact fun h => (st.b13 h).fr g
  · exact fun h => (st.b14 h).fr g
  · exact st.d1
  · exact st.d2
  · exact st.d3
theorem St.r7 (st : St w6 pd pa pb pc ux uy vx vy wx wy L w v9 v10 v11 v20 v21 v22 v23 v24 v25 v26 v27 v28) (hi : 7 < L.size) (g : Fr (fun _ => False) w w') : St w6 pd pa pb pc ux uy vx vy wx wy (L.setIfInBounds 7 true) w' v9 v10 v11 v20 v21 v22 v23 v24 v25 v26 pc v28 := by
  constructor <;> (try simp only [on_set hi, Nat.reduceEqDiff, false_or, true_or])
  · exact st.fr.trans g (fun _ h _ => h)
  · exact st.l0
  · exact st.l1
  · exact st.l2
  · exact st.l3
  · exact st.l4
  · exact st.l5
  · exact st.l6
  · exact fun _ => trivial
  · exact st.l8
  · exact st.c12
  · exact st.c13
  · exact st.c14
  · exact fun h k => (st.b9 h k).fr g
  · exact fun h k => (st.b10 h k).fr g
  · exact fun h k => (st.b11 h k).fr g
  · exact fun h => (st.b12 h).fr g
  · exact fun h => (st.b13 h).fr g
  · exact fun h => (st.b14 h).fr g
  · exact st.d1
  · exact st.d2
  · exact st.d3
theorem St.r8 (st : St w6 pd pa pb pc ux uy vx vy wx wy L w v9 v10 v11 v20 v21 v22 v23 v24 v25 v26 v27 v28) (hi : 8 < L.size) (g : Fr (fun _ => False) w w') : St w6 pd pa pb pc ux uy vx vy wx wy (L.setIfInBounds 8 true) w' v9 v10 v11 v20 v21 v22 v23 v24 v25 v26 v27 (.agg #[.int .i64 wx, .int .i64 wy]) := by
  constructor <;> (try simp only [on_set hi, Nat.reduceEqDiff, false_or, true_or])
  · exact st.fr.trans g (fun _ h _ => h)
  · exact st.l0
  · exact st.l1
  · exact st.l2
  · exact st.l3
  · exact st.l4
  · exact st.l5
  · exact st.l6
  · exact st.l7
  · exact fun _ => trivial
  · exact st.c12
  · exact st.c13
  · exact st.c14
  · exact fun h k => (st.b9 h k).fr g
  · exact fun h k => (st.b10 h k).fr g
  · exact fun h k => (st.b11 h k).fr g
  · exact fun h => (st.b12 h).fr g
  · exact fun h => (st.b13 h).fr g
  · exact fun h => (st.b14 h).fr g
  · exact st.d1
  · exact st.d2
  · exact st.d3
theorem St.a9 (st : St w6 pd pa pb pc ux uy vx vy wx wy L w v9 v10 v11 v20 v21 v22 v23 v24 v25 v26 v27 v28) (hi : 9 < L.size) (hno : ¬ On L 9) : St w6 pd pa pb pc ux uy vx vy wx wy (L.setIfInBounds 9 true) (w.alloc (Obj.cells #[Value.int IntKind.i64 0, Value.int IntKind.i64 0] 24)) (.pointer (some ⟨w.heap.size, 0, none⟩)) v10 v11 v20 v21 v22 v23 v24 v25 v26 v27 v28 := by
  have g := (Fr.refl (fun _ => False) w).alloc (Obj.cells #[Value.int IntKind.i64 0, Value.int IntKind.i64 0] 24)
  constructor <;> (try simp only [on_set hi, Nat.reduceEqDiff, false_or, true_or])
  · exact st.fr.trans g (fun _ h _ => h)
  · exact st.l0
  · exact st.l1
  · exact st.l2
  · exact st.l3
  · exact st.l4
  · exact st.l5
  · exact st.l6
  · exact st.l7
  · exact st.l8
  · exact fun _ => trivial
  · exact st.c13
  · exact st.c14
  · exact fun _ _ => Bx.new st.fr.size 0 0
  · exact fun h k => (st.b10 h k).fr g
  · exact fun h k => (st.b11 h k).fr g
  · exact fun h => (hno (st.c12 h)).elim
  · exact fun h => (st.b13 h).fr g
  · exact fun h => (st.b14 h).fr g
  · exact fun _ h => by obtain ⟨x, y, b⟩ := st.any10 h; exact b.ne.symm
  · exact fun _ h => by obtain ⟨x, y, b⟩ := st.any11 h; exact b.ne.symm
  · exact st.d3
theorem St.a10 (st : St w6 pd pa pb pc ux uy vx vy wx wy L w v9 v10 v11 v20 v21 v22 v23 v24 v25 v26 v27 v28) (hi : 10 < L.size) (hno : ¬ On L 10) : St w6 pd pa pb pc ux uy vx vy wx wy (L.setIfInBounds 10 true) (w.alloc (Obj.cells #[Value.int IntKind.i64 0, Value.int IntKind.i64 0] 24)) v9 (.pointer (some ⟨w.heap.size, 0, none⟩)) v11 v20 v21 v22 v23 v24 v25 v26 v27 v28 := by
  have g := (Fr.refl (fun _ => False) w).alloc (Obj.cells #[Value.int IntKind.i64 0, Value.int IntKind.i64 0] 24)
  constructor <;> (try simp only [on_set hi, Nat.reduceEqDiff, false_or, true_or])
  · exact st.fr.trans g (fun _ h _ => h)
  · exact st.l0
  · exact st.l1
  · exact st.l2
  · exact st.l3
  · exact st.l4
  · exact st.l5
  · exact st.l6
  · exact st.l7
  · exact st.l8
  · exact st.c12
  · exact fun _ => trivial
  · exact st.c14
  · exact fun h k => (st.b9 h k).fr g
  · exact fun _ _ => Bx.new st.fr.size 0 0
  · exact fun h k => (st.b11 h k).fr g
  · exact fun h => (st.b12 h).fr g
  · exact fun h => (hno (st.c13 h)).elim
  · exact fun h => (st.b14 h).fr g
  · exact fun h _ => by obtain ⟨x, y, b⟩ := st.any9 h; exact b.ne
  · exact st.d2
  · exact fun _ h => by obtain ⟨x, y, b⟩ := st.any11 h; exact b.ne.symm
theorem St.a11 (st : St w6 pd pa pb pc ux uy vx vy wx wy L w v9 v10 v11 v20 v21 v22 v23 v24 v25 v26 v27 v28) (hi : 11 < L.size) (hno : ¬ On L 11) : St w6 pd pa pb pc ux uy vx vy wx wy (L.setIfInBounds 11 true) (w.alloc (Obj.cells #[Value.int IntKind.i64 0, Value.int IntKind.i64 0] 24)) v9 v10 (.pointer (some ⟨w.heap.size, 0, none⟩)) v20 v21 v22 v23 v24 v25 v26 v27 v28 := by
  have g := (Fr.refl (fun _ => False) w).alloc (Obj.cells #[Value.int IntKind.i64 0, Value.int IntKind.i64 0] 24)
  constructor <;> (try simp only [on_set hi, Nat.reduceEqDiff, false_or, true_or])
  · exact st.fr.trans g (fun _ h _ => h)
  · exact st.l0
  · exact st.l1
  · exact st.l2
  · exact st.l3
  · exact st.l4
  · exact st.l5
  · exact st.l6
  · exact st.l7
  · exact st.l8
  · exact st.c12
  · exact st.c13
  · exact fun _ => trivial
  · exact fun h k => (st.b9 h k).fr g
  · exact fun h k => (st.b10 h k).fr g
  · exact fun _ _ => Bx.new st.fr.size 0 0
  · exact fun h => (st.b12 h).fr g
  · exact fun h => (st.b13 h).fr g
  · exact fun h => (hno (st.c14 h)).elim
  · exact st.d1
  · exact fun h _ => by obtain ⟨x, y, b⟩ := st.any9 h; exact b.ne
  · exact fun h _ => by obtain ⟨x, y, b⟩ := st.any10 h; exact b.ne
theorem St.s12 {g : Nat} (st : St w6 pd pa pb pc ux uy vx vy wx wy L w (.pointer (some ⟨g, 0, none⟩)) v10 v11 v20 v21 v22 v23 v24 v25 v26 v27 v28) (hi : 12 < L.size) (l : w6.heap.size ≤ g) (b : w.heap[g]? = some (.cells #[.int .i64 0, .int .i64 0] 24 (0, 0))) (hk : On L 9) : St w6 pd pa pb pc ux uy vx vy wx wy (L.setIfInBounds 12 true) ((w.setCell ⟨g, 0, none⟩ (.int .i64 ux)).setCell ⟨g, 1, none⟩ (.int .i64 uy)) (.pointer (some ⟨g, 0, none⟩)) v10 v11 v20 v21 v22 v23 v24 v25 v26 v27 v28 := by
  constructor <;> (try simp only [on_set hi, Nat.reduceEqDiff, false_or, true_or])
  · exact (st.fr.set _ _ (.inr l)).set _ _ (.inr l)
  · exact st.l0
  · exact st.l1
  · exact st.l2
  · exact st.l3
  · exact st.l4
  · exact st.l5
  · exact st.l6
  · exact st.l7
  · exact st.l8
  · exact fun _ => hk
  · exact st.c13
  · exact st.c14
  · exact fun _ h => (h trivial).elim
  · exact fun h n => (st.b10 h n).set ((st.d1 hk h).symm) _ _
  · exact fun h n => (st.b11 h n).set ((st.d2 hk h).symm) _ _
  · exact fun _ => Bx.put b l
  · exact fun n => (st.b13 n).set (have h := st.c13 n; (st.d1 hk h).symm) _ _
  · exact fun n => (st.b14 n).set (have h := st.c14 n; (st.d2 hk h).symm) _ _
  · exact st.d1
  · exact st.d2
  · exact st.d3
theorem St.s13 {g : Nat} (st : St w6 pd pa pb pc ux uy vx vy wx wy L w v9 (.pointer (some ⟨g, 0, none⟩)) v11 v20 v21 v22 v23 v24 v25 v26 v27 v28) (hi : 13 < L.size) (l : w6.heap.size ≤ g) (b : w.heap[g]? = some (.cells #[.int .i64 0, .int .i64 0] 24 (0, 0))) (hk : On L 10) : St w6 pd pa pb pc ux uy vx vy wx wy (L.setIfInBounds 13 true) ((w.setCell ⟨g, 0, none⟩ (.int .i64 vx)).setCell ⟨g, 1, none⟩ (.int .i64 vy)) v9 (.pointer (some ⟨g, 0, none⟩)) v11 v20 v21 v22 v23 v24 v25 v26 v27 v28 := by
  constructor <;> (try simp only [on_set hi, Nat.reduceEqDiff, false_or, true_or])
  · exact (st.fr.set _ _ (.inr l)).set _ _ (.inr l)
  · exact st.l0
  · exact st.l1
  · exact st.l2
  · exact st.l3
  · exact st.l4
  · exact st.l5
  · exact st.l6
  · exact st.l7
  · exact st.l8
  · exact st.c12
  · exact fun _ => hk
  · exact st.c14
  · exact fun h n => (st.b9 h n).set (st.d1 h hk) _ _
  · exact fun _ h => (h trivial).elim
  · exact fun h n => (st.b11 h n).set ((st.d3 hk h).symm) _ _
  · exact fun n => (st.b12 n).set (have h := st.c12 n; st.d1 h hk) _ _
  · exact fun _ => Bx.put b l
  · exact fun n => (st.b14 n).set (have h := st.c14 n; (st.d3 hk h).symm) _ _
  · exact st.d1
  · exact st.d2
  · exact st.d3
theorem St.s14 {g : Nat} (st : St w6 pd pa pb pc ux uy vx vy wx wy L w v9 v10 (.pointer (some ⟨g, 0, none⟩)) v20 v21 v22 v23 v24 v25 v26 v27 v28) (hi : 14 < L.size) (l : w6.heap.size ≤ g) (b : w.heap[g]? = some (.cells #[.int .i64 0, .int .i64 0] 24 (0, 0))) (hk : On L 11) : St w6 pd pa pb pc ux uy vx vy wx wy (L.setIfInBounds 14 true) ((w.setCell ⟨g, 0, none⟩ (.int .i64 wx)).setCell ⟨g, 1, none⟩ (.int .i64 wy)) v9 v10 (.pointer (some ⟨g, 0, none⟩)) v20 v21 v22 v23 v24 v25 v26 v27 v28 := by
  constructor <;> (try simp only [on_set hi, Nat.reduceEqDiff, false_or, true_or])
  · exact (st.fr.set _ _ (.inr l)).set _ _ (.inr l)
  · exact st.l0
  · exact st.l1
  · exact st.l2
  · exact st.l3
  · exact st.l4
  · exact st.l5
  · exact st.l6
  · exact st.l7
  · exact st.l8
  · exact st.c12
  · exact st.c13
  · exact fun _ => hk
  · exact fun h n => (st.b9 h n).set (st.d2 h hk) _ _
  · exact fun h n => (st.b10 h n).set (st.d3 h hk) _ _
  · exact fun _ h => (h trivial).elim
  · exact fun n => (st.b12 n).set (have h := st.c12 n; st.d2 h hk) _ _
  · exact fun n => (st.b13 n).set (have h := st.c13 n; st.d3 h hk) _ _
  · exact fun _ => Bx.put b l
  · exact st.d1
  · exact st.d2
  · exact st.d3
end
def Qx (w : World) (m : Nat) (v : Value) (x0 x1 x2 x3 : Int) : Prop := ∃ g, v = .pointer (some ⟨g, 0, none⟩) ∧ m ≤ g ∧ w.heap[g]? = some (.cells #[.int .u64 x0, .int .u64 x1, .int .u64 x2, .int .u64 x3] 79 (0, 0))
theorem Qx.fr {w w' : World} {m : Nat} {v : Value} {x0 x1 x2 x3 : Int} (h : Qx w m v x0 x1 x2 x3) (f : Fr (fun _ => False) w w') : Qx w' m v x0 x1 x2 x3 := by
  obtain ⟨g, e, l, b⟩ := h
  exact ⟨g, e, l, ZFr.blk_fr b f (fun h => h)⟩
theorem q_put {w : World} {g : Nat} {x0 x1 x2 x3 y0 y1 y2 y3 : Int} (h : w.heap[g]? = some (.cells #[.int .u64 x0, .int .u64 x1, .int .u64 x2, .int .u64 x3] 79 (0, 0))) : ((((w.setCell ⟨g, 0, none⟩ (.int .u64 y0)).setCell ⟨g, 1, none⟩ (.int .u64 y1)).setCell ⟨g, 2, none⟩ (.int .u64 y2)).setCell ⟨g, 3, none⟩ (.int .u64 y3)).heap[g]? = some (.cells #[.int .u64 y0, .int .u64 y1, .int .u64 y2, .int .u64 y3] 79 (0, 0)) := ZFr.blk_set (ZFr.blk_set (ZFr.blk_set (ZFr.blk_set h 0 _) 1 _) 2 _) 3 _
theorem fr_q {a b : World} {S : Nat → Prop} {g : Nat} {u0 u1 u2 u3 : Value} (h : Fr S a b) (l : S g ∨ a.heap.size ≤ g) : Fr S a ((((b.setCell ⟨g, 0, none⟩ u0).setCell ⟨g, 1, none⟩ u1).setCell ⟨g, 2, none⟩ u2).setCell ⟨g, 3, none⟩ u3) := (((h.set _ _ l).set _ _ l).set _ _ l).set _ _ l
theorem q_store {w : World} {b : Nat} {x0 x1 x2 x3 : Int} (h : w.heap[b]? = some (.cells #[.int .u64 x0, .int .u64 x1, .int .u64 x2, .int .u64 x3] 79 (0, 0))) : (w.cell? ⟨b, 0, none⟩ = some (.int .u64 x0) ∧ w.cell? ⟨b, 1, none⟩ = some (.int .u64 x1) ∧ w.cell? ⟨b, 2, none⟩ = some (.int .u64 x2) ∧ w.cell? ⟨b, 3, none⟩ = some (.int .u64 x3)) ∧ w.frozen? ⟨b, 0, none⟩ = false ∧ w.frozen? ⟨b, 1, none⟩ = false ∧ w.frozen? ⟨b, 2, none⟩ = false ∧ w.frozen? ⟨b, 3, none⟩ = false := ⟨⟨ZFr.blk_cell h 0, ZFr.blk_cell h 1, ZFr.blk_cell h 2, ZFr.blk_cell h 3⟩, ZFr.blk_free h 0, ZFr.blk_free h 1, ZFr.blk_free h 2, ZFr.blk_free h 3⟩
/-- How far the first product has come. -/
structure S4 (w6 : World) (q0 q1 q2 q3 q4 : Value) (x0 x1 x2 x3 : Int) (L : Array Bool) (w : World) (v12 v29 v30 v31 v32 v33 v34 : Value) : Prop where
  fr : Fr (fun _ => False) w6 w
  l0 : On L 0 → v29 = q0
  l1 : On L 1 → v30 = q1
  l2 : On L 2 → v31 = q2
  l3 : On L 3 → v32 = q3
  l4 : On L 4 → v33 = q4
  l5 : On L 5 → v34 = .agg #[.int .u64 x0, .int .u64 x1, .int .u64 x2, .int .u64 x3]
  c7 : On L 7 → On L 6
  b6 : On L 6 → ¬ On L 7 → Qx w w6.heap.size v12 0 0 0 0
  b7 : On L 7 → Qx w w6.heap.size v12 x0 x1 x2 x3
section
variable {w6 w w' : World} {q0 q1 q2 q3 q4 : Value} {x0 x1 x2 x3 : Int} {L : Array Bool} {v12 v29 v30 v31 v32 v33 v34 : Value}
theorem S4.r0 (st : S4 w6 q0 q1 q2 q3 q4 x0 x1 x2 x3 L w v12 v29 v30 v31 v32 v33 v34) (hi : 0 < L.size) (g : Fr (fun _ => False) w w') : S4 w6 q0 q1 q2 q3 q4 x0 x1 x2 x3 (L.setIfInBounds 0 true) w' v12 q0 v30 v31 v32 v33 v34 := by
  constructor <;> (try simp only [on_set hi, Nat.reduceEqDiff, false_or, true_or])
  · exact st.fr.trans g (fun _ h _ => h)
  · exact fun _ => trivial
  · exact st.l1
  · exact st.l2
  · exact st.l3
  · exact st.l4
  · exact st.l5
  · exact st.c7
  · exact fun h k => (st.b6 h k).fr g
  · exact fun h => (st.b7 h).fr g
theorem S4.r1 (st : S4 w6 q0 q1 q2 q3 q4 x0 x1 x2 x3 L w v12 v29 v30 v31 v32 v33 v34) (hi : 1 < L.size) (g : Fr (fun _ => False) w w') : S4 w6 q0 q1 q2 q3 q4 x0 x1 x2 x3 (L.setIfInBounds 1 true) w' v12 v29 q1 v31 v32 v33 v34 := by
  constructor <;> (try simp only [on_set hi, Nat.reduceEqDiff, false_or, true_or])
  · exact st.fr.trans g (fun _ h _ => h)
  · exact st.l0
  · exact fun _ => trivial
  · exact st.l2
  · exact st.l3
  · exact st.l4
  · exact st.l5
  · exact st.c7
  · exact fun h k => (st.b6 h k).fr g
  · exact fun h => (st.b7 h).fr g
theorem S4.r2 (st : S4 w6 q0 q1 q2 q3 q4 x0 x1 x2 x3 L w v12 v29 v30 v31 v32 v33 v34) (hi : 2 < L.size) (g : Fr (fun _ => False) w w') : S4 w6 q0 q1 q2 q3 q4 x0 x1 x2 x3 (L.setIfInBounds 2 true) w' v12 v29 v30 q2 v32 v33 v34 := by
  constructor <;> (try simp only [on_set hi, Nat.reduceEqDiff, false_or, true_or])
  · exact st.fr.trans g (fun _ h _ => h)
  · exact st.l0
  · exact st.l1
  · exact fun _ => trivial
  · exact st.l3
  · exact st.l4
  · exact st.l5
  · exact st.c7
  · exact fun h k => (st.b6 h k).fr g
  · exact fun h => (st.b7 h).fr g
theorem S4.r3 (st : S4 w6 q0 q1 q2 q3 q4 x0 x1 x2 x3 L w v12 v29 v30 v31 v32 v33 v34) (hi : 3 < L.size) (g : Fr (fun _ => False) w w') : S4 w6 q0 q1 q2 q3 q4 x0 x1 x2 x3 (L.setIfInBounds 3 true) w' v12 v29 v30 v31 q3 v33 v34 := by
  constructor <;> (try simp only [on_set hi, Nat.reduceEqDiff, false_or, true_or])
  · exact st.fr.trans g (fun _ h _ => h)
  · exact st.l0
  · exact st.l1
  · exact st.l2
  · exact fun _ => trivial
  · exact st.l4
  · exact st.l5
  · exact st.c7
  · exact fun h k => (st.b6 h k).fr g
  · exact fun h => (st.b7 h).fr g
theorem S4.r4 (st : S4 w6 q0 q1 q2 q3 q4 x0 x1 x2 x3 L w v12 v29 v30 v31 v32 v33 v34) (hi : 4 < L.size) (g : Fr (fun _ => False) w w') : S4 w6 q0 q1 q2 q3 q4 x0 x1 x2 x3 (L.setIfInBounds 4 true) w' v12 v29 v30 v31 v32 q4 v34 := by
  constructor <;> (try simp only [on_set hi, Nat.reduceEqDiff, false_or, true_or])
  · exact st.fr.trans g (fun _ h _ => h)
  · exact st.l0
  · exact st.l1
  · exact st.l2
  · exact st.l3
  · exact fun _ => trivial
  · exact st.l5
  · exact st.c7
  · exact fun h k => (st.b6 h k).fr g
  · exact fun h => (st.b7 h).fr g
theorem S4.r5 (st : S4 w6 q0 q1 q2 q3 q4 x0 x1 x2 x3 L w v12 v29 v30 v31 v32 v33 v34) (hi : 5 < L.size) (g : Fr (fun _ => False) w w') : S4 w6 q0 q1 q2 q3 q4 x0 x1 x2 x3 (L.setIfInBounds 5 true) w' v12 v29 v30 v31 v32 v33 (.agg #[.int .u64 x0, .int .u64 x1, .int .u64 x2, .int .u64 x3]) := by
  constructor <;> (try simp only [on_set hi, Nat.reduceEqDiff, false_or, true_or])
  · exact st.fr.trans g (fun _ h _ => h)
  · exact st.l0
  · exact st.l1
  · exact st.l2
  · exact st.l3
  · exact st.l4
  · exact fun _ => trivial
  · exact st.c7
  · exact fun h k => (st.b6 h k).fr g
  · exact fun h => (st.b7 h).fr g
theorem S4.a6 (st : S4 w6 q0 q1 q2 q3 q4 x0 x1 x2 x3 L w v12 v29 v30 v31 v32 v33 v34) (hi : 6 < L.size) (hno : ¬ On L 6) : S4 w6 q0 q1 q2 q3 q4 x0 x1 x2 x3 (L.setIfInBounds 6 true) (w.alloc (Obj.cells #[Value.int IntKind.u64 0, Value.int IntKind.u64 0, Value.int IntKind.u64 0, Value.int IntKind.u64 0] 79)) (.pointer (some ⟨w.heap.size, 0, none⟩)) v29 v30 v31 v32 v33 v34 := by
  have g := (Fr.refl (fun _ => False) w).alloc (Obj.cells #[Value.int IntKind.u64 0, Value.int IntKind.u64 0, Value.int IntKind.u64 0, Value.int IntKind.u64 0] 79)
  constructor <;> (try simp only [on_set hi, Nat.reduceEqDiff, false_or, true_or])
  · exact st.fr.trans g (fun _ h _ => h)
  · exact st.l0
  · exact st.l1
  · exact st.l2
  · exact st.l3
  · exact st.l4
  · exact st.l5
  · exact fun _ => trivial
  · exact fun _ _ => ⟨_, rfl, st.fr.size, heap_alloc_new _ _⟩
  · exact fun h => (hno (st.c7 h)).elim
theorem S4.s7 {g : Nat} (st : S4 w6 q0 q1 q2 q3 q4 x0 x1 x2 x3 L w (.pointer (some ⟨g, 0, none⟩)) v29 v30 v31 v32 v33 v34) (hi : 7 < L.size) (l : w6.heap.size ≤ g) (b : w.heap[g]? = some (.cells #[.int .u64 0, .int .u64 0, .int .u64 0, .int .u64 0] 79 (0, 0))) (hk : On L 6) : S4 w6 q0 q1 q2 q3 q4 x0 x1 x2 x3 (L.setIfInBounds 7 true) ((((w.setCell ⟨g, 0, none⟩ (.int .u64 x0)).setCell ⟨g, 1, none⟩ (.int .u64 x1)).setCell ⟨g, 2, none⟩ (.int .u64 x2)).setCell ⟨g, 3, none⟩ (.int .u64 x3)) (.pointer (some ⟨g, 0, none⟩)) v29 v30 v31 v32 v33 v34 := by
  constructor <;> (try simp only [on_set hi, Nat.reduceEqDiff, false_or, true_or])
  · exact fr_q st.fr (.inr l)
  · exact st.l0
  · exact st.l1
  · exact st.l2
  · exact st.l3
  · exact st.l4
  · exact st.l5
  · exact fun _ => hk
  · exact fun _ h => (h trivial).elim
  · exact fun _ => ⟨_, rfl, l, q_put b⟩
end
/-- How far a product that is added to the sum has come. -/
structure S5 (w6 : World) (g : Nat) (q0 q1 q2 q3 q4 q5 q6 : Value) (y0 y1 y2 y3 x0 x1 x2 x3 : Int) (L : Array Bool) (w : World) (v35 v36 v37 v38 v39 v40 v41 v42 : Value) : Prop where
  fr : Fr (fun k => k = g) w6 w
  l0 : On L 0 → v35 = q0
  l1 : On L 1 → v36 = q1
  l2 : On L 2 → v37 = q2
  l3 : On L 3 → v38 = q3
  l4 : On L 4 → v39 = q4
  l5 : On L 5 → v40 = q5
  l6 : On L 6 → v41 = q6
  l7 : On L 7 → v42 = .agg #[.int .u64 x0, .int .u64 x1, .int .u64 x2, .int .u64 x3]
  c8 : On L 8 → On L 0
  b7 : ¬ On L 8 → w.heap[g]? = some (.cells #[.int .u64 y0, .int .u64 y1, .int .u64 y2, .int .u64 y3] 79 (0, 0))
  b8 : On L 8 → w.heap[g]? = some (.cells #[.int .u64 x0, .int .u64 x1, .int .u64 x2, .int .u64 x3] 79 (0, 0))
section
variable {w6 w w' : World} {g : Nat} {q0 q1 q2 q3 q4 q5 q6 : Value} {y0 y1 y2 y3 x0 x1 x2 x3 : Int} {L : Array Bool} {v35 v36 v37 v38 v39 v40 v41 v42 : Value}
theorem S5.r0 (st : S5 w6 g q0 q1 q2 q3 q4 q5 q6 y0 y1 y2 y3 x0 x1 x2 x3 L w v35 v36 v37 v38 v39 v40 v41 v42) (hi : 0 < L.size) (h : Fr (fun _ => False) w w') : S5 w6 g q0 q1 q2 q3 q4 q5 q6 y0 y1 y2 y3 x0 x1 x2 x3 (L.setIfInBounds 0 true) w' q0 v36 v37 v38 v39 v40 v41 v42 := by
  constructor <;> (try simp only [on_set hi, Nat.reduceEqDiff, false_or, true_or])
  · exact st.fr.trans h (fun _ h _ => h.elim)
  · exact fun _ => trivial
  · exact st.l1
  · exact st.l2
  · exact st.l3
  · exact st.l4
  · exact st.l5
  · exact st.l6
  · exact st.l7
  · exact fun _ => trivial
  · exact fun k => ZFr.blk_fr (st.b7 k) h (fun h => h)
  · exact fun k => ZFr.blk_fr (st.b8 k) h (fun h => h)
theorem S5.r1 (st : S5 w6 g q0 q1 q2 q3 q4 q5 q6 y0 y1 y2 y3 x0 x1 x2 x3 L w v35 v36 v37 v38 v39 v40 v41 v42) (hi : 1 < L.size) (h : Fr (fun _ => False) w w') : S5 w6 g q0 q1 q2 q3 q4 q5 q6 y0 y1 y2 y3 x0 x1 x2 x3 (L.setIfInBounds 1 true) w' v35 q1 v37 v38 v39 v40 v41 v42 := by
  constructor <;> (try simp only [on_set hi, Nat.reduceEqDiff, false_or, true_or])
  · exact st.fr.trans h (fun _ h _ => h.elim)
  · exact st.l0
  · exact fun _ => trivial
  · exact st.l2
  · exact st.l3
  · exact st.l4
  · exact st.l5
  · exact st.l6
  · exact st.l7
  · exact st.c8
  · exact fun k => ZFr.blk_fr (st.b7 k) h (fun h => h)
  · exact fun k => ZFr.blk_fr (st.b8 k) h (fun h => h)
theorem S5.r2 (st : S5 w6 g q0 q1 q2 q3 q4 q5 q6 y0 y1 y2 y3 x0 x1 x2 x3 L w v35 v36 v37 v38 v39 v40 v41 v42) (hi : 2 < L.size) (h : Fr (fun _ => False) w w') : S5 w6 g q0 q1 q2 q3 q4 q5 q6 y0 y1 y2 y3 x0 x1 x2 x3 (L.setIfInBounds 2 true) w' v35 v36 q2 v38 v39 v40 v41 v42 := by
  constructor <;> (try simp only [on_set hi, Nat.reduceEqDiff, false_or, true_or])
  · exact st.fr.trans h (fun _ h _ => h.elim)
  · exact st.l0
  · exact st.l1
  · exact fun _ => trivial
  · exact st.l3
  · exact st.l4
  · exact st.l5
  · exact st.l6
  · exact st.l7
  · exact st.c8
  · exact fun k => ZFr.blk_fr (st.b7 k) h (fun h => h)
  · exact fun k => ZFr.blk_fr (st.b8 k) h (fun h => h)
theorem S5.r3 (st : S5 w6 g q0 q1 q2 q3 q4 q5 q6 y0 y1 y2 y3 x0 x1 x2 x3 L w v35 v36 v37 v38 v39 v40 v41 v42) (hi : 3 < L.size) (h : Fr (fun _ => False) w w') : S5 w6 g q0 q1 q2 q3 q4 q5 q6 y0 y1 y2 y3 x0 x1 x2 x3 (L.setIfInBounds 3 true) w' v35 v36 v37 q3 v39 v40 v41 v42 := by
  constructor <;> (try simp only [on_set hi, Nat.reduceEqDiff, false_or, true_or])
  · exact st.fr.trans h (fun _ h _ => h.elim)
  · exact st.l0
  · exact st.l1
  · exact st.l2
  · exact fun _ => trivial
  · exact st.l4
  · exact st.l5
  · exact st.l6
  · exact st.l7
  · exact st.c8
  · exact fun k => ZFr.blk_fr (st.b7 k) h (fun h => h)
  · exact fun k => ZFr.blk_fr (st.b8 k) h (fun h => h)
theorem S5.r4 (st : S5 w6 g q0 q1 q2 q3 q4 q5 q6 y0 y1 y2 y3 x0 x1 x2 x3 L w v35 v36 v37 v38 v39 v40 v41 v42) (hi : 4 < L.size) (h : Fr (fun _ => False) w w') : S5 w6 g q0 q1 q2 q3 q4 q5 q6 y0 y1 y2 y3 x0 x1 x2 x3 (L.setIfInBounds 4 true) w' v35 v36 v37 v38 q4 v40 v41 v42 := by
  constructor <;> (try simp only [on_set hi, Nat.reduceEqDiff, false_or, true_or])
  · exact st.fr.trans h (fun _ h _ => h.elim)
  · exact st.l0
  · exact st.l1
  · exact st.l2
  · exact st.l3
  · exact fun _ => trivial
  · exact st.l5
  · exact st.l6
  · exact st.l7
  · exact st.c8
  · exact fun k => ZFr.blk_fr (st.b7 k) h (fun h => h)
  · exact fun k => ZFr.blk_fr (st.b8 k) h (fun h => h)
theorem S5.r5 (st : S5 w6 g q0 q1 q2 q3 q4 q5 q6 y0 y1 y2 y3 x0 x1 x2 x3 L w v35 v36 v37 v38 v39 v40 v41 v42) (hi : 5 < L.size) (h : Fr (fun _ => False) w w') : S5 w6 g q0 q1 q2 q3 q4 q5 q6 y0 y1 y2 y3 x0 x1 x2 x3 (L.setIfInBounds 5 true) w' v35 v36 v37 v38 v39 q5 v41 v42 := by
  constructor <;> (try simp only [on_set hi, Nat.reduceEqDiff, false_or, true_or])
  · exact st.fr.trans h (fun _ h _ => h.elim)
  · exact st.l0
  · exact st.l1
  · exact st.l2
  · exact st.l3
  · exact st.l4
  · exact fun _ => trivial
  · exact st.l6
  · exact st.l7
  · exact st.c8
  · exact fun k => ZFr.blk_fr (st.b7 k) h (fun h => h)
  · exact fun k => ZFr.blk_fr (st.b8 k) h (fun h => h)
theorem S5.r6 (st : S5 w6 g q0 q1 q2 q3 q4 q5 q6 y0 y1 y2 y3 x0 x1 x2 x3 L w v35 v36 v37 v38 v39 v40 v41 v42) (hi : 6 < L.size) (h : Fr (fun _ => False) w w') : S5 w6 g q0 q1 q2 q3 q4 q5 q6 y0 y1 y2 y3 x0 x1 x2 x3 (L.setIfInBounds 6 true) w' v35 v36 v37 v38 v39 v40 q6 v42 := by
  constructor <;> (try simp only [on_set hi, Nat.reduceEqDiff, false_or, true_or])
  · exact st.fr.trans h (fun _ h _ => h.elim)
  · exact st.l0
  · exact st.l1
  · exact st.l2
  · exact st.l3
  · exact st.l4
  · exact st.l5
  · exact fun _ => trivial
  · exact st.l7
  · exact st.c8
  · exact fun k => ZFr.blk_fr (st.b7 k) h (fun h => h)
  · exact fun k => ZFr.blk_fr (st.b8 k) h (fun h => h)
theorem S5.r7 (st : S5 w6 g q0 q1 q2 q3 q4 q5 q6 y0 y1 y2 y3 x0 x1 x2 x3 L w v35 v36 v37 v38 v39 v40 v41 v42) (hi : 7 < L.size) (h : Fr (fun _ => False) w w') : S5 w6 g q0 q1 q2 q3 q4 q5 q6 y0 y1 y2 y3 x0 x1 x2 x3 (L.setIfInBounds 7 true) w' v35 v36 v37 v38 v39 v40 v41 (.agg #[.int .u64 x0, .int .u64 x1, .int .u64 x2, .int .u64 x3]) := by
  constructor <;> (try simp only [on_set hi, Nat.reduceEqDiff, false_or, true_or])
  · exact st.fr.trans h (fun _ h _ => h.elim)
  · exact st.l0
  · exact st.l1
  · exact st.l2
  · exact st.l3
  · exact st.l4
  · exact st.l5
  · exact st.l6
  · exact fun _ => trivial
  · exact st.c8
  · exact fun k => ZFr.blk_fr (st.b7 k) h (fun h => h)
  · exact fun k => ZFr.blk_fr (st.b8 k) h (fun h => h)
theorem S5.s8 (st : S5 w6 g q0 q1 q2 q3 q4 q5 q6 y0 y1 y2 y3 x0 x1 x2 x3 L w v35 v36 v37 v38 v39 v40 v41 v42) (hi : 8 < L.size) (hk : On L 0) (b : w.heap[g]? = some (.cells #[.int .u64 y0, .int .u64 y1, .int .u64 y2, .int .u64 y3] 79 (0, 0))) : S5 w6 g q0 q1 q2 q3 q4 q5 q6 y0 y1 y2 y3 x0 x1 x2 x3 (L.setIfInBounds 8 true) ((((w.setCell ⟨g, 0, none⟩ (.int .u64 x0)).setCell ⟨g, 1, none⟩ (.int .u64 x1)).setCell ⟨g, 2, none⟩ (.int .u64 x2)).setCell ⟨g, 3, none⟩ (.int .u64 x3)) v35 v36 v37 v38 v39 v40 v41 v42 := by
  constructor <;> (try simp only [on_set hi, Nat.reduceEqDiff, false_or, true_or])
  · exact fr_q st.fr (.inl rfl)
  · exact st.l0
  · exact st.l1
  · exact st.l2
  · exact st.l3
  · exact st.l4
  · exact st.l5
  · exact st.l6
  · exact st.l7
  · exact fun _ => hk
  · exact fun h => (h trivial).elim
  · exact fun _ => q_put b
end
end Go.Proofs.Ytngmkjgklonfmaa.Wd


/- What is used of HoK. -/
namespace Go.Proofs.Ytngmkjgklonfmaa.Wd
open Go.RowKit Go.Proofs.ZFr Go.Proofs.Ytngmkjgklonfmaa.PNearNearest Go.Proofs.Ytngmkjgklonfmaa.Big Go.Proofs.YtngmkjgklonfmaaW.PrintWords Go.Proofs.Ytngmkjgklonfmaa.Inv
attribute [local go_sem ↓] Go.wp_at_zero Go.wp_at_succ
theorem pt_store {w : World} {b : Nat} {x y : Int} (h : w.heap[b]? = some (.cells #[.int .i64 x, .int .i64 y] 24 (0, 0))) : w.cell? ⟨b, 0, none⟩ = some (.int .i64 x) ∧ w.cell? ⟨b, 1, none⟩ = some (.int .i64 y) ∧ w.frozen? ⟨b, 0, none⟩ = false ∧ w.frozen? ⟨b, 1, none⟩ = false := ⟨ZFr.blk_cell h 0, ZFr.blk_cell h 1, ZFr.blk_free h 0, ZFr.blk_free h 1⟩
set_option maxRecDepth 100000 in
set_option maxHeartbeats 8000000 in
theorem incircle_walk (ax ay bx bY cx cy px py : Int) (W : World) (h1 : inP ax) (h2 : inP ay) (h3 : inP bx) (h4 : inP bY) (h5 : inP cx) (h6 : inP cy) (h7 : inP px) (h8 : inP py) : Calls Try.prog 142 #[.agg #[.int .i64 ax, .int .i64 ay], .agg #[.int .i64 bx, .int .i64 bY], .agg #[.int .i64 cx, .int .i64 cy], .agg #[.int .i64 px, .int .i64 py]] W fun e w' => e = .returned (.int .i64 (sgn (icv (ax - px) (ay - py) (bx - px) (bY - py) (cx - px) (cy - py)))) ∧ Fr (fun _ => False) W w' := by
  have PR := Lib.hid (prods (df_bw h7 h1) (df_bw h8 h2) (df_bw h7 h3) (df_bw h8 h4) (df_bw h7 h5) (df_bw h8 h6))
  have WU := Lib.hid (way_c px py ax ay h7 h8 h1 h2)
  have WV := Lib.hid (way_c px py bx bY h7 h8 h3 h4)
  have WW := Lib.hid (way_c px py cx cy h7 h8 h5 h6)
  have PN := Lib.hid (pcan_n [⟨ax, ay⟩, ⟨bx, bY⟩, ⟨cx, cy⟩, ⟨px, py⟩] (by simp) (fun p hp => by simp at hp; rcases hp with rfl | rfl | rfl | rfl; exact ⟨h1, h2⟩; exact ⟨h3, h4⟩; exact ⟨h5, h6⟩; exact ⟨h7, h8⟩))
  clear h1 h2 h3 h4 h5 h6 h7 h8
  generalize ax - px = ux at PR WU ⊢
  generalize ay - py = uy at PR WU ⊢
  generalize bx - px = vx at PR WV ⊢
  generalize bY - py = vy at PR WV ⊢
  generalize cx - px = wx at PR WW ⊢
  generalize cy - py = wy at PR WW ⊢
  have SU := Lib.hid PR.out.sqU
  have SV := Lib.hid PR.out.sqV
  have SW := Lib.hid PR.out.sqW
  have AU := Lib.hid PR.out.acVW
  have AV := Lib.hid PR.out.acWU
  have AW := Lib.hid PR.out.acUV
  have MU := Lib.hid PR.out.mU
  have MV := Lib.hid PR.out.mV
  have MW := Lib.hid PR.out.mW
  have SG := Lib.hid PR.out.sgn
  have A1 := Lib.hid (QAdd_walk (sq2 ux uy * ac vx vy wx wy) (sq2 vx vy * ac wx wy ux uy))
  have A2 := Lib.hid (QAdd_walk (sq2 ux uy * ac vx vy wx wy + sq2 vx vy * ac wx wy ux uy) (sq2 wx wy * ac ux uy vx vy))
  clear PR
  unfold icv at SG ⊢
  generalize sq2 ux uy * ac vx vy wx wy + sq2 vx vy * ac wx wy ux uy + sq2 wx wy * ac ux uy vx vy = m at A2 SG ⊢
  generalize sq2 ux uy * ac vx vy wx wy + sq2 vx vy * ac wx wy ux uy = m12 at A1 A2
  generalize sq2 ux uy * ac vx vy wx wy = m1 at MU A1
  generalize sq2 vx vy * ac wx wy ux uy = m2 at MV A1
  generalize sq2 wx wy * ac ux uy vx vy = m3 at MW A2
  generalize sq2 ux uy = su at SU MU
  generalize sq2 vx vy = sv at SV MV
  generalize sq2 wx wy = sw at SW MW
  generalize ac vx vy wx wy = au at AU MU
  generalize ac wx wy ux uy = av at AV MV
  generalize ac ux uy vx vy = aw at AW MW
  generalize sgn m = R at SG ⊢
  unfold encW at SU SV SW AU AV AW MU MV MW
  unfold encQ Q4 at MU MV MW A1 A2 SG
  generalize hiW su = sux at SU MU
  generalize loW su = suy at SU MU
  generalize hiW sv = svx at SV MV
  generalize loW sv = svy at SV MV
  generalize hiW sw = swx at SW MW
  generalize loW sw = swy at SW MW
  generalize hiW au = aux at AU MU
  generalize loW au = auy at AU MU
  generalize hiW av = avx at AV MV
  generalize loW av = avy at AV MV
  generalize hiW aw = awx at AW MW
  generalize loW aw = awy at AW MW
  generalize wq m1 0 = m1q0 at MU A1
  generalize wq m1 1 = m1q1 at MU A1
  generalize wq m1 2 = m1q2 at MU A1
  generalize wq m1 3 = m1q3 at MU A1
  generalize wq m2 0 = m2q0 at MV A1
  generalize wq m2 1 = m2q1 at MV A1
  generalize wq m2 2 = m2q2 at MV A1
  generalize wq m2 3 = m2q3 at MV A1
  generalize wq m3 0 = m3q0 at MW A2
  generalize wq m3 1 = m3q1 at MW A2
  generalize wq m3 2 = m3q2 at MW A2
  generalize wq m3 3 = m3q3 at MW A2
  generalize wq m12 0 = m12q0 at A1 A2
  generalize wq m12 1 = m12q1 at A1 A2
  generalize wq m12 2 = m12q2 at A1 A2
  generalize wq m12 3 = m12q3 at A1 A2
  generalize wq m 0 = mq0 at A2 SG
  generalize wq m 1 = mq1 at A2 SG
  generalize wq m 2 = mq2 at A2 SG
  generalize wq m 3 = mq3 at A2 SG
  have HQ := Lib.hid (quin W (Obj.cells #[Value.int IntKind.i64 ax, Value.int IntKind.i64 ay] 24) (Obj.cells #[Value.int IntKind.i64 bx, Value.int IntKind.i64 bY] 24) (Obj.cells #[Value.int IntKind.i64 cx, Value.int IntKind.i64 cy] 24) (Obj.cells #[Value.int IntKind.i64 px, Value.int IntKind.i64 py] 24) (Obj.cells #[Value.int IntKind.i64 ax, Value.int IntKind.i64 ay, Value.int IntKind.i64 bx, Value.int IntKind.i64 bY, Value.int IntKind.i64 cx, Value.int IntKind.i64 cy, Value.int IntKind.i64 px, Value.int IntKind.i64 py] 24))
  go_enter Try.func142, Try.ntmps142
  go_wp2_with fail
  obtain ⟨w5, hw5, t1, t2, t3, t4, t5, f5⟩ := HQ.out
  rw [hw5]
  have T1 := Lib.hid t1
  have T2 := Lib.hid t2
  have T3 := Lib.hid t3
  have T4 := Lib.hid t4
  have T5 := Lib.hid t5
  have F5 := Lib.hid f5
  clear hw5 t1 t2 t3 t4 t5 f5 HQ
  have PC := Lib.hid (fun w (h : Fr (fun _ => False) w5 w) => And.intro (point_cells (ZFr.blk_fr T1.out h (fun h => h))) (And.intro (point_cells (ZFr.blk_fr T2.out h (fun h => h))) (And.intro (point_cells (ZFr.blk_fr T3.out h (fun h => h))) (point_cells (ZFr.blk_fr T4.out h (fun h => h))))))
  go_wp2_with (first
    | (go_at_call 84; have hc_ := (show Calls Try.prog 84 #[.slice (some ⟨W.heap.size + 1 + 1 + 1 + 1, 0, none⟩) 4 4] w5 (fun e w' => e = .returned (.bool true) ∧ Below w5.heap.size w5 w') from pred_can.calls 200 (some ⟨W.heap.size + 1 + 1 + 1 + 1, 0, none⟩) 4 [⟨ax, ay⟩, ⟨bx, bY⟩, ⟨cx, cy⟩, ⟨px, py⟩] true w5 (eight24 T5.out) (Nat.le_refl 4) PN.out); (with_reducible refine hc_.mono ?_); clear hc_; rintro e w6 ⟨rfl, b6⟩; have E6 := Lib.hid (Fr.of_below b6); clear b6))
  go_cut [9, 10, 11] (fun s9 s10 s11 wz => ∃ g9 g10 g11, s9 = .pointer (some ⟨g9, 0, none⟩) ∧ s10 = .pointer (some ⟨g10, 0, none⟩) ∧ s11 = .pointer (some ⟨g11, 0, none⟩) ∧ Fr (fun _ => False) w6 wz ∧ wz.heap[g9]? = some (.cells #[.int .i64 ux, .int .i64 uy] 24 (0, 0)) ∧ wz.heap[g10]? = some (.cells #[.int .i64 vx, .int .i64 vy] 24 (0, 0)) ∧ wz.heap[g11]? = some (.cells #[.int .i64 wx, .int .i64 wy] 24 (0, 0)))
  case first =>
    refine wp_region_inv (fun L a w => ∃ v9 v10 v11 v20 v21 v22 v23 v24 v25 v26 v27 v28, a = ({ tmps := #[(Value.agg #[Value.int IntKind.i64 ax, Value.int IntKind.i64 ay]), (Value.agg #[Value.int IntKind.i64 bx, Value.int IntKind.i64 bY]), (Value.agg #[Value.int IntKind.i64 cx, Value.int IntKind.i64 cy]), (Value.agg #[Value.int IntKind.i64 px, Value.int IntKind.i64 py]), .pointer (some ⟨W.heap.size, 0, none⟩), .pointer (some ⟨W.heap.size + 1, 0, none⟩), .pointer (some ⟨W.heap.size + 1 + 1, 0, none⟩), .pointer (some ⟨W.heap.size + 1 + 1 + 1, 0, none⟩), .int .i64 0, v9, v10, v11, undef, (Value.agg #[Value.int IntKind.i64 ax, Value.int IntKind.i64 ay]), (Value.agg #[Value.int IntKind.i64 bx, Value.int IntKind.i64 bY]), (Value.agg #[Value.int IntKind.i64 cx, Value.int IntKind.i64 cy]), (Value.agg #[Value.int IntKind.i64 px, Value.int IntKind.i64 py]), .slice (some ⟨W.heap.size + 1 + 1 + 1 + 1, 0, none⟩) 4 4, .bool true, .bool false, v20, v21, v22, v23, v24, v25, v26, v27, v28, undef, undef, undef, undef, undef, undef, undef, undef, undef, undef, undef, undef, undef, undef, undef, undef, undef, undef, undef, undef, undef, undef, undef, undef], defers := [] } : Act) ∧ St w6 (Value.agg #[Value.int IntKind.i64 px, Value.int IntKind.i64 py]) (Value.agg #[Value.int IntKind.i64 ax, Value.int IntKind.i64 ay]) (Value.agg #[Value.int IntKind.i64 bx, Value.int IntKind.i64 bY]) (Value.agg #[Value.int IntKind.i64 cx, Value.int IntKind.i64 cy]) ux uy vx vy wx wy L w v9 v10 v11 v20 v21 v22 v23 v24 v25 v26 v27 v28) (by kernel_rfl) (by kernel_rfl) ?_ ?_ ?_
    rotate_left 1
    · intro L a w h hall
      obtain ⟨v9, v10, v11, v20, v21, v22, v23, v24, v25, v26, v27, v28, rfl, st⟩ := h
      obtain ⟨g9, rfl, l9, b9⟩ := st.b12 (hall 12 (by decide))
      obtain ⟨g10, rfl, l10, b10⟩ := st.b13 (hall 13 (by decide))
      obtain ⟨g11, rfl, l11, b11⟩ := st.b14 (hall 14 (by decide))
      go_wp2_with fail
      go_meet
      exact ⟨_, _, _, rfl, rfl, rfl, st.fr, b9, b10, b11⟩
    · refine ⟨_, _, _, _, _, _, _, _, _, _, _, _, rfl, ?_⟩
      have hnot := not_on 15
      exact { fr := (Fr.refl _ _).drew, l0 := fun h => (hnot _ h).elim, l1 := fun h => (hnot _ h).elim, l2 := fun h => (hnot _ h).elim, l3 := fun h => (hnot _ h).elim, l4 := fun h => (hnot _ h).elim, l5 := fun h => (hnot _ h).elim, l6 := fun h => (hnot _ h).elim, l7 := fun h => (hnot _ h).elim, l8 := fun h => (hnot _ h).elim, c12 := fun h => (hnot _ h).elim, c13 := fun h => (hnot _ h).elim, c14 := fun h => (hnot _ h).elim, b9 := fun h => (hnot _ h).elim, b10 := fun h => (hnot _ h).elim, b11 := fun h => (hnot _ h).elim, b12 := fun h => (hnot _ h).elim, b13 := fun h => (hnot _ h).elim, b14 := fun h => (hnot _ h).elim, d1 := fun h => (hnot _ h).elim, d2 := fun h => (hnot _ h).elim, d3 := fun h => (hnot _ h).elim }
    refine Each.cons ?_ ?_
    · intro L a w h hi hno hn K hK; obtain ⟨v9, v10, v11, v20, v21, v22, v23, v24, v25, v26, v27, v28, rfl, st⟩ := h
      obtain ⟨⟨p1, p2⟩, ⟨p3, p4⟩, ⟨p5, p6⟩, p7, p8⟩ := PC.out w (E6.out.trans st.fr (fun _ h _ => h))
      go_simp
      exact hK.out _ _ ⟨_, _, _, _, _, _, _, _, _, _, _, _, rfl, st.r0 hi (Fr.refl _ _)⟩
    refine Each.cons ?_ ?_
    · intro L a w h hi hno hn K hK; obtain ⟨v9, v10, v11, v20, v21, v22, v23, v24, v25, v26, v27, v28, rfl, st⟩ := h
      obtain ⟨⟨p1, p2⟩, ⟨p3, p4⟩, ⟨p5, p6⟩, p7, p8⟩ := PC.out w (E6.out.trans st.fr (fun _ h _ => h))
      go_simp
      exact hK.out _ _ ⟨_, _, _, _, _, _, _, _, _, _, _, _, rfl, st.r1 hi (Fr.refl _ _)⟩
    refine Each.cons ?_ ?_
    · intro L a w h hi hno hn K hK; obtain ⟨v9, v10, v11, v20, v21, v22, v23, v24, v25, v26, v27, v28, rfl, st⟩ := h
      have e1 := st.l0 (hn 0 (by decide)); have e2 := st.l1 (hn 1 (by decide)); subst e1 e2
      go_simp
      go_at_call 86
      (with_reducible refine (WU.out w).mono ?_); rintro e w7 ⟨rfl, f7⟩
      exact hK.out _ _ ⟨_, _, _, _, _, _, _, _, _, _, _, _, rfl, st.r2 hi f7⟩
    refine Each.cons ?_ ?_
    · intro L a w h hi hno hn K hK; obtain ⟨v9, v10, v11, v20, v21, v22, v23, v24, v25, v26, v27, v28, rfl, st⟩ := h
      obtain ⟨⟨p1, p2⟩, ⟨p3, p4⟩, ⟨p5, p6⟩, p7, p8⟩ := PC.out w (E6.out.trans st.fr (fun _ h _ => h))
      go_simp
      exact hK.out _ _ ⟨_, _, _, _, _, _, _, _, _, _, _, _, rfl, st.r3 hi (Fr.refl _ _)⟩
    refine Each.cons ?_ ?_
    · intro L a w h hi hno hn K hK; obtain ⟨v9, v10, v11, v20, v21, v22, v23, v24, v25, v26, v27, v28, rfl, st⟩ := h
      obtain ⟨⟨p1, p2⟩, ⟨p3, p4⟩, ⟨p5, p6⟩, p7, p8⟩ := PC.out w (E6.out.trans st.fr (fun _ h _ => h))
      go_simp
      exact hK.out _ _ ⟨_, _, _, _, _, _, _, _, _, _, _, _, rfl, st.r4 hi (Fr.refl _ _)⟩
    refine Each.cons ?_ ?_
    · intro L a w h hi hno hn K hK; obtain ⟨v9, v10, v11, v20, v21, v22, v23, v24, v25, v26, v27, v28, rfl, st⟩ := h
      have e1 := st.l3 (hn 3 (by decide)); have e2 := st.l4 (hn 4 (by decide)); subst e1 e2
      go_simp
      go_at_call 86
      (with_reducible refine (WV.out w).mono ?_); rintro e w7 ⟨rfl, f7⟩
      exact hK.out _ _ ⟨_, _, _, _, _, _, _, _, _, _, _, _, rfl, st.r5 hi f7⟩
    refine Each.cons ?_ ?_
    · intro L a w h hi hno hn K hK; obtain ⟨v9, v10, v11, v20, v21, v22, v23, v24, v25, v26, v27, v28, rfl, st⟩ := h
      obtain ⟨⟨p1, p2⟩, ⟨p3, p4⟩, ⟨p5, p6⟩, p7, p8⟩ := PC.out w (E6.out.trans st.fr (fun _ h _ => h))
      go_simp
      exact hK.out _ _ ⟨_, _, _, _, _, _, _, _, _, _, _, _, rfl, st.r6 hi (Fr.refl _ _)⟩
    refine Each.cons ?_ ?_
    · intro L a w h hi hno hn K hK; obtain ⟨v9, v10, v11, v20, v21, v22, v23, v24, v25, v26, v27, v28, rfl, st⟩ := h
      obtain ⟨⟨p1, p2⟩, ⟨p3, p4⟩, ⟨p5, p6⟩, p7, p8⟩ := PC.out w (E6.out.trans st.fr (fun _ h _ => h))
      go_simp
      exact hK.out _ _ ⟨_, _, _, _, _, _, _, _, _, _, _, _, rfl, st.r7 hi (Fr.refl _ _)⟩
    refine Each.cons ?_ ?_
    · intro L a w h hi hno hn K hK; obtain ⟨v9, v10, v11, v20, v21, v22, v23, v24, v25, v26, v27, v28, rfl, st⟩ := h
      have e1 := st.l6 (hn 6 (by decide)); have e2 := st.l7 (hn 7 (by decide)); subst e1 e2
      go_simp
      go_at_call 86
      (with_reducible refine (WW.out w).mono ?_); rintro e w7 ⟨rfl, f7⟩
      exact hK.out _ _ ⟨_, _, _, _, _, _, _, _, _, _, _, _, rfl, st.r8 hi f7⟩
    refine Each.cons ?_ ?_
    · intro L a w h hi hno hn K hK; obtain ⟨v9, v10, v11, v20, v21, v22, v23, v24, v25, v26, v27, v28, rfl, st⟩ := h
      go_simp
      exact hK.out _ _ ⟨_, _, _, _, _, _, _, _, _, _, _, _, rfl, st.a9 hi hno⟩
    refine Each.cons ?_ ?_
    · intro L a w h hi hno hn K hK; obtain ⟨v9, v10, v11, v20, v21, v22, v23, v24, v25, v26, v27, v28, rfl, st⟩ := h
      go_simp
      exact hK.out _ _ ⟨_, _, _, _, _, _, _, _, _, _, _, _, rfl, st.a10 hi hno⟩
    refine Each.cons ?_ ?_
    · intro L a w h hi hno hn K hK; obtain ⟨v9, v10, v11, v20, v21, v22, v23, v24, v25, v26, v27, v28, rfl, st⟩ := h
      go_simp
      exact hK.out _ _ ⟨_, _, _, _, _, _, _, _, _, _, _, _, rfl, st.a11 hi hno⟩
    refine Each.cons ?_ ?_
    · intro L a w h hi hno hn K hK; obtain ⟨v9, v10, v11, v20, v21, v22, v23, v24, v25, v26, v27, v28, rfl, st⟩ := h
      have e1 := st.l2 (hn 2 (by decide)); subst e1
      obtain ⟨g, rfl, lg, bg⟩ := st.b9 (hn 9 (by decide)) hno
      obtain ⟨i1, i2, i3, i4⟩ := pt_store bg
      go_simp
      exact hK.out _ _ ⟨_, _, _, _, _, _, _, _, _, _, _, _, rfl, st.s12 hi lg bg (hn 9 (by decide))⟩
    refine Each.cons ?_ ?_
    · intro L a w h hi hno hn K hK; obtain ⟨v9, v10, v11, v20, v21, v22, v23, v24, v25, v26, v27, v28, rfl, st⟩ := h
      have e1 := st.l5 (hn 5 (by decide)); subst e1
      obtain ⟨g, rfl, lg, bg⟩ := st.b10 (hn 10 (by decide)) hno
      obtain ⟨i1, i2, i3, i4⟩ := pt_store bg
      go_simp
      exact hK.out _ _ ⟨_, _, _, _, _, _, _, _, _, _, _, _, rfl, st.s13 hi lg bg (hn 10 (by decide))⟩
    refine Each.cons ?_ ?_
    · intro L a w h hi hno hn K hK; obtain ⟨v9, v10, v11, v20, v21, v22, v23, v24, v25, v26, v27, v28, rfl, st⟩ := h
      have e1 := st.l8 (hn 8 (by decide)); subst e1
      obtain ⟨g, rfl, lg, bg⟩ := st.b11 (hn 11 (by decide)) hno
      obtain ⟨i1, i2, i3, i4⟩ := pt_store bg
      go_simp
      exact hK.out _ _ ⟨_, _, _, _, _, _, _, _, _, _, _, _, rfl, st.s14 hi lg bg (hn 11 (by decide))⟩
    exact trivial
  case rest =>
    obtain ⟨g9, g10, g11, rfl, rfl, rfl, fc, b9, b10, b11⟩ := hcut
    obtain ⟨w8, hw8⟩ : ∃ w, w = wc := ⟨_, rfl⟩
    subst hw8
    have F8 := Lib.hid (F5.out.trans (E6.out.trans fc (fun _ h _ => h)) (fun _ h _ => h))
    have PT := Lib.hid (fun w (h : Fr (fun _ => False) w8 w) => And.intro (point_cells (ZFr.blk_fr b9 h (fun h => h))) (And.intro (point_cells (ZFr.blk_fr b10 h (fun h => h))) (point_cells (ZFr.blk_fr b11 h (fun h => h)))))
    have C9 := Lib.hid b9
    have C10 := Lib.hid b10
    have C11 := Lib.hid b11
    clear fc b9 b10 b11
    go_wp2_with fail
    go_cut [12] (fun s12 wz => ∃ g12, s12 = .pointer (some ⟨g12, 0, none⟩) ∧ w8.heap.size ≤ g12 ∧ Fr (fun _ => False) w8 wz ∧ wz.heap[g12]? = some (.cells #[.int .u64 m1q0, .int .u64 m1q1, .int .u64 m1q2, .int .u64 m1q3] 79 (0, 0)))
    case first =>
      refine wp_region_inv (fun L a w => ∃ v12 v29 v30 v31 v32 v33 v34, a = ({ tmps := #[(Value.agg #[Value.int IntKind.i64 ax, Value.int IntKind.i64 ay]), (Value.agg #[Value.int IntKind.i64 bx, Value.int IntKind.i64 bY]), (Value.agg #[Value.int IntKind.i64 cx, Value.int IntKind.i64 cy]), (Value.agg #[Value.int IntKind.i64 px, Value.int IntKind.i64 py]), .pointer (some ⟨W.heap.size, 0, none⟩), .pointer (some ⟨W.heap.size + 1, 0, none⟩), .pointer (some ⟨W.heap.size + 1 + 1, 0, none⟩), .pointer (some ⟨W.heap.size + 1 + 1 + 1, 0, none⟩), .int .i64 0, .pointer (some ⟨g9, 0, none⟩), .pointer (some ⟨g10, 0, none⟩), .pointer (some ⟨g11, 0, none⟩), v12, u13, u14, u15, u16, u17, u18, u19, u20, u21, u22, u23, u24, u25, u26, u27, u28, v29, v30, v31, v32, v33, v34, u35, u36, u37, u38, u39, u40, u41, u42, u43, u44, u45, u46, u47, u48, u49, u50, u51, u52], defers := [] } : Act) ∧ S4 w8 (Value.agg #[Value.int IntKind.i64 ux, Value.int IntKind.i64 uy]) (Value.agg #[Value.int IntKind.i64 sux, Value.int IntKind.u64 suy]) (Value.agg #[Value.int IntKind.i64 vx, Value.int IntKind.i64 vy]) (Value.agg #[Value.int IntKind.i64 wx, Value.int IntKind.i64 wy]) (Value.agg #[Value.int IntKind.i64 aux, Value.int IntKind.u64 auy]) m1q0 m1q1 m1q2 m1q3 L w v12 v29 v30 v31 v32 v33 v34) (by kernel_rfl) (by kernel_rfl) ?_ ?_ ?_
      rotate_left 1
      · intro L a w h hall
        obtain ⟨v12, v29, v30, v31, v32, v33, v34, rfl, st⟩ := h
        obtain ⟨g12, rfl, l12, b12⟩ := st.b7 (hall 7 (by decide))
        go_wp2_with fail
        go_meet
        exact ⟨_, rfl, l12, st.fr, b12⟩
      · refine ⟨_, _, _, _, _, _, _, rfl, ?_⟩
        have hnot := not_on 8
        exact { fr := (Fr.refl _ _).drew, l0 := fun h => (hnot _ h).elim, l1 := fun h => (hnot _ h).elim, l2 := fun h => (hnot _ h).elim, l3 := fun h => (hnot _ h).elim, l4 := fun h => (hnot _ h).elim, l5 := fun h => (hnot _ h).elim, c7 := fun h => (hnot _ h).elim, b6 := fun h => (hnot _ h).elim, b7 := fun h => (hnot _ h).elim }
      refine Each.cons ?_ ?_
      · intro L a w h hi hno hn K hK; obtain ⟨v12, v29, v30, v31, v32, v33, v34, rfl, st⟩ := h
        obtain ⟨⟨p1, p2⟩, ⟨p3, p4⟩, p5, p6⟩ := PT.out w st.fr
        go_simp
        exact hK.out _ _ ⟨_, _, _, _, _, _, _, rfl, st.r0 hi (Fr.refl _ _)⟩
      refine Each.cons ?_ ?_
      · intro L a w h hi hno hn K hK; obtain ⟨v12, v29, v30, v31, v32, v33, v34, rfl, st⟩ := h
        have e1 := st.l0 (hn 0 (by decide)); subst e1
        go_simp
        go_at_call 85
        (with_reducible refine (SU.out w).mono ?_); rintro e w9 ⟨rfl, f9⟩
        exact hK.out _ _ ⟨_, _, _, _, _, _, _, rfl, st.r1 hi f9⟩
      refine Each.cons ?_ ?_
      · intro L a w h hi hno hn K hK; obtain ⟨v12, v29, v30, v31, v32, v33, v34, rfl, st⟩ := h
        obtain ⟨⟨p1, p2⟩, ⟨p3, p4⟩, p5, p6⟩ := PT.out w st.fr
        go_simp
        exact hK.out _ _ ⟨_, _, _, _, _, _, _, rfl, st.r2 hi (Fr.refl _ _)⟩
      refine Each.cons ?_ ?_
      · intro L a w h hi hno hn K hK; obtain ⟨v12, v29, v30, v31, v32, v33, v34, rfl, st⟩ := h
        obtain ⟨⟨p1, p2⟩, ⟨p3, p4⟩, p5, p6⟩ := PT.out w st.fr
        go_simp
        exact hK.out _ _ ⟨_, _, _, _, _, _, _, rfl, st.r3 hi (Fr.refl _ _)⟩
      refine Each.cons ?_ ?_
      · intro L a w h hi hno hn K hK; obtain ⟨v12, v29, v30, v31, v32, v33, v34, rfl, st⟩ := h
        have e1 := st.l2 (hn 2 (by decide)); have e2 := st.l3 (hn 3 (by decide)); subst e1 e2
        go_simp
        go_at_call 148
        (with_reducible refine (AU.out w).mono ?_); rintro e w9 ⟨rfl, f9⟩
        exact hK.out _ _ ⟨_, _, _, _, _, _, _, rfl, st.r4 hi f9⟩
      refine Each.cons ?_ ?_
      · intro L a w h hi hno hn K hK; obtain ⟨v12, v29, v30, v31, v32, v33, v34, rfl, st⟩ := h
        have e1 := st.l1 (hn 1 (by decide)); have e2 := st.l4 (hn 4 (by decide)); subst e1 e2
        go_simp
        go_at_call 149
        (with_reducible refine (MU.out w).mono ?_); rintro e w9 ⟨rfl, f9⟩
        exact hK.out _ _ ⟨_, _, _, _, _, _, _, rfl, st.r5 hi f9⟩
      refine Each.cons ?_ ?_
      · intro L a w h hi hno hn K hK; obtain ⟨v12, v29, v30, v31, v32, v33, v34, rfl, st⟩ := h
        go_simp
        exact hK.out _ _ ⟨_, _, _, _, _, _, _, rfl, st.a6 hi hno⟩
      refine Each.cons ?_ ?_
      · intro L a w h hi hno hn K hK; obtain ⟨v12, v29, v30, v31, v32, v33, v34, rfl, st⟩ := h
        have e1 := st.l5 (hn 5 (by decide)); subst e1
        obtain ⟨g, rfl, lg, bg⟩ := st.b6 (hn 6 (by decide)) hno
        obtain ⟨⟨i1, i2, i3, i4⟩, i5, i6, i7, i8⟩ := q_store bg
        go_simp
        exact hK.out _ _ ⟨_, _, _, _, _, _, _, rfl, st.s7 hi lg bg (hn 6 (by decide))⟩
      exact trivial
    case rest =>
      obtain ⟨g12, rfl, l12, fc, b12⟩ := hcut
      obtain ⟨w9, hw9⟩ : ∃ w, w = wc := ⟨_, rfl⟩
      subst hw9
      have B5 := Lib.hid b12
      have LE := Lib.hid l12
      have G5 := Lib.hid fc
      have PT5 := Lib.hid (fun w (h : Fr (fun k => k = g12) w9 w) => And.intro (point_cells (ZFr.blk_fr (ZFr.blk_fr C9.out fc (fun h => h)) h (fun e => by have := ZFr.blk_lt C9.out; omega))) (And.intro (point_cells (ZFr.blk_fr (ZFr.blk_fr C10.out fc (fun h => h)) h (fun e => by have := ZFr.blk_lt C10.out; omega))) (point_cells (ZFr.blk_fr (ZFr.blk_fr C11.out fc (fun h => h)) h (fun e => by have := ZFr.blk_lt C11.out; omega)))))
      clear fc b12 l12
      go_wp2_with fail
      go_cut [] (fun wz => Fr (fun k => k = g12) w9 wz ∧ wz.heap[g12]? = some (.cells #[.int .u64 m12q0, .int .u64 m12q1, .int .u64 m12q2, .int .u64 m12q3] 79 (0, 0)))
      case first =>
        refine wp_region_inv (fun L a w => ∃ v35 v36 v37 v38 v39 v40 v41 v42, a = ({ tmps := #[(Value.agg #[Value.int IntKind.i64 ax, Value.int IntKind.i64 ay]), (Value.agg #[Value.int IntKind.i64 bx, Value.int IntKind.i64 bY]), (Value.agg #[Value.int IntKind.i64 cx, Value.int IntKind.i64 cy]), (Value.agg #[Value.int IntKind.i64 px, Value.int IntKind.i64 py]), .pointer (some ⟨W.heap.size, 0, none⟩), .pointer (some ⟨W.heap.size + 1, 0, none⟩), .pointer (some ⟨W.heap.size + 1 + 1, 0, none⟩), .pointer (some ⟨W.heap.size + 1 + 1 + 1, 0, none⟩), .int .i64 0, .pointer (some ⟨g9, 0, none⟩), .pointer (some ⟨g10, 0, none⟩), .pointer (some ⟨g11, 0, none⟩), .pointer (some ⟨g12, 0, none⟩), u13, u14, u15, u16, u17, u18, u19, u20, u21, u22, u23, u24, u25, u26, u27, u28, u29, u30, u31, u32, u33, u34, v35, v36, v37, v38, v39, v40, v41, v42, u43, u44, u45, u46, u47, u48, u49, u50, u51, u52], defers := [] } : Act) ∧ S5 w9 g12 (.agg #[.int .u64 m1q0, .int .u64 m1q1, .int .u64 m1q2, .int .u64 m1q3]) (Value.agg #[Value.int IntKind.i64 vx, Value.int IntKind.i64 vy]) (Value.agg #[Value.int IntKind.i64 svx, Value.int IntKind.u64 svy]) (Value.agg #[Value.int IntKind.i64 wx, Value.int IntKind.i64 wy]) (Value.agg #[Value.int IntKind.i64 ux, Value.int IntKind.i64 uy]) (Value.agg #[Value.int IntKind.i64 avx, Value.int IntKind.u64 avy]) (.agg #[.int .u64 m2q0, .int .u64 m2q1, .int .u64 m2q2, .int .u64 m2q3]) m1q0 m1q1 m1q2 m1q3 m12q0 m12q1 m12q2 m12q3 L w v35 v36 v37 v38 v39 v40 v41 v42) (by kernel_rfl) (by kernel_rfl) ?_ ?_ ?_
        rotate_left 1
        · intro L a w h hall
          obtain ⟨v35, v36, v37, v38, v39, v40, v41, v42, rfl, st⟩ := h
          go_wp2_with fail
          go_meet
          exact ⟨st.fr, st.b8 (hall 8 (by decide))⟩
        · refine ⟨_, _, _, _, _, _, _, _, rfl, ?_⟩
          have hnot := not_on 9
          exact { fr := (Fr.refl _ _).drew, b7 := fun _ => B5.out, l0 := fun h => (hnot _ h).elim, l1 := fun h => (hnot _ h).elim, l2 := fun h => (hnot _ h).elim, l3 := fun h => (hnot _ h).elim, l4 := fun h => (hnot _ h).elim, l5 := fun h => (hnot _ h).elim, l6 := fun h => (hnot _ h).elim, l7 := fun h => (hnot _ h).elim, c8 := fun h => (hnot _ h).elim, b8 := fun h => (hnot _ h).elim }
        refine Each.cons ?_ ?_
        · intro L a w h hi hno hn K hK; obtain ⟨v35, v36, v37, v38, v39, v40, v41, v42, rfl, st⟩ := h
          obtain ⟨⟨r1, r2, r3, r4⟩, _, _, _, _⟩ := q_store (st.b7 (fun h => hno (st.c8 h)))
          go_simp
          exact hK.out _ _ ⟨_, _, _, _, _, _, _, _, rfl, st.r0 hi (Fr.refl _ _)⟩
        refine Each.cons ?_ ?_
        · intro L a w h hi hno hn K hK; obtain ⟨v35, v36, v37, v38, v39, v40, v41, v42, rfl, st⟩ := h
          obtain ⟨⟨p1, p2⟩, ⟨p3, p4⟩, p5, p6⟩ := PT5.out w st.fr
          go_simp
          exact hK.out _ _ ⟨_, _, _, _, _, _, _, _, rfl, st.r1 hi (Fr.refl _ _)⟩
        refine Each.cons ?_ ?_
        · intro L a w h hi hno hn K hK; obtain ⟨v35, v36, v37, v38, v39, v40, v41, v42, rfl, st⟩ := h
          have e1 := st.l1 (hn 1 (by decide)); subst e1
          go_simp
          go_at_call 85
          (with_reducible refine (SV.out w).mono ?_); rintro e w9_ ⟨rfl, f9⟩
          exact hK.out _ _ ⟨_, _, _, _, _, _, _, _, rfl, st.r2 hi f9⟩
        refine Each.cons ?_ ?_
        · intro L a w h hi hno hn K hK; obtain ⟨v35, v36, v37, v38, v39, v40, v41, v42, rfl, st⟩ := h
          obtain ⟨⟨p1, p2⟩, ⟨p3, p4⟩, p5, p6⟩ := PT5.out w st.fr
          go_simp
          exact hK.out _ _ ⟨_, _, _, _, _, _, _, _, rfl, st.r3 hi (Fr.refl _ _)⟩
        refine Each.cons ?_ ?_
        · intro L a w h hi hno hn K hK; obtain ⟨v35, v36, v37, v38, v39, v40, v41, v42, rfl, st⟩ := h
          obtain ⟨⟨p1, p2⟩, ⟨p3, p4⟩, p5, p6⟩ := PT5.out w st.fr
          go_simp
          exact hK.out _ _ ⟨_, _, _, _, _, _, _, _, rfl, st.r4 hi (Fr.refl _ _)⟩
        refine Each.cons ?_ ?_
        · intro L a w h hi hno hn K hK; obtain ⟨v35, v36, v37, v38, v39, v40, v41, v42, rfl, st⟩ := h
          have e3 := st.l3 (hn 3 (by decide)); have e4 := st.l4 (hn 4 (by decide)); subst e3 e4
          go_simp
          go_at_call 148
          (with_reducible refine (AV.out w).mono ?_); rintro e w9_ ⟨rfl, f9⟩
          exact hK.out _ _ ⟨_, _, _, _, _, _, _, _, rfl, st.r5 hi f9⟩
        refine Each.cons ?_ ?_
        · intro L a w h hi hno hn K hK; obtain ⟨v35, v36, v37, v38, v39, v40, v41, v42, rfl, st⟩ := h
          have e2 := st.l2 (hn 2 (by decide)); have e5 := st.l5 (hn 5 (by decide)); subst e2 e5
          go_simp
          go_at_call 149
          (with_reducible refine (MV.out w).mono ?_); rintro e w9_ ⟨rfl, f9⟩
          exact hK.out _ _ ⟨_, _, _, _, _, _, _, _, rfl, st.r6 hi f9⟩
        refine Each.cons ?_ ?_
        · intro L a w h hi hno hn K hK; obtain ⟨v35, v36, v37, v38, v39, v40, v41, v42, rfl, st⟩ := h
          have e0 := st.l0 (hn 0 (by decide)); have e6 := st.l6 (hn 6 (by decide)); subst e0 e6
          go_simp
          go_at_call 150
          (with_reducible refine (A1.out w).mono ?_); rintro e w9_ ⟨rfl, f9⟩
          exact hK.out _ _ ⟨_, _, _, _, _, _, _, _, rfl, st.r7 hi f9⟩
        refine Each.cons ?_ ?_
        · intro L a w h hi hno hn K hK; obtain ⟨v35, v36, v37, v38, v39, v40, v41, v42, rfl, st⟩ := h
          have e7 := st.l7 (hn 7 (by decide)); subst e7
          obtain ⟨⟨r1, r2, r3, r4⟩, i5, i6, i7, i8⟩ := q_store (st.b7 hno)
          go_simp
          exact hK.out _ _ ⟨_, _, _, _, _, _, _, _, rfl, st.s8 hi (hn 0 (by decide)) (st.b7 hno)⟩
        exact trivial
      case rest =>
        obtain ⟨fc, b12⟩ := hcut
        obtain ⟨w10, hw10⟩ : ∃ w, w = wc := ⟨_, rfl⟩
        subst hw10
        have B6 := Lib.hid b12
        have PT6 := Lib.hid (fun w (h : Fr (fun k => k = g12) w10 w) => PT5.out w (fc.trans h (fun _ h _ => h)))
        have G6 := Lib.hid fc
        clear fc b12
        go_wp2_with fail
        go_cut [] (fun wz => Fr (fun k => k = g12) w10 wz ∧ wz.heap[g12]? = some (.cells #[.int .u64 mq0, .int .u64 mq1, .int .u64 mq2, .int .u64 mq3] 79 (0, 0)))
        case first =>
          refine wp_region_inv (fun L a w => ∃ v35 v36 v37 v38 v39 v40 v41 v42, a = ({ tmps := #[(Value.agg #[Value.int IntKind.i64 ax, Value.int IntKind.i64 ay]), (Value.agg #[Value.int IntKind.i64 bx, Value.int IntKind.i64 bY]), (Value.agg #[Value.int IntKind.i64 cx, Value.int IntKind.i64 cy]), (Value.agg #[Value.int IntKind.i64 px, Value.int IntKind.i64 py]), .pointer (some ⟨W.heap.size, 0, none⟩), .pointer (some ⟨W.heap.size + 1, 0, none⟩), .pointer (some ⟨W.heap.size + 1 + 1, 0, none⟩), .pointer (some ⟨W.heap.size + 1 + 1 + 1, 0, none⟩), .int .i64 0, .pointer (some ⟨g9, 0, none⟩), .pointer (some ⟨g10, 0, none⟩), .pointer (some ⟨g11, 0, none⟩), .pointer (some ⟨g12, 0, none⟩), u13, u14, u15, u16, u17, u18, u19, u20, u21, u22, u23, u24, u25, u26, u27, u28, u29, u30, u31, u32, u33, u34, u35, u36, u37, u38, u39, u40, u41, u42, v35, v36, v37, v38, v39, v40, v41, v42, u51, u52], defers := [] } : Act) ∧ S5 w10 g12 (.agg #[.int .u64 m12q0, .int .u64 m12q1, .int .u64 m12q2, .int .u64 m12q3]) (Value.agg #[Value.int IntKind.i64 wx, Value.int IntKind.i64 wy]) (Value.agg #[Value.int IntKind.i64 swx, Value.int IntKind.u64 swy]) (Value.agg #[Value.int IntKind.i64 ux, Value.int IntKind.i64 uy]) (Value.agg #[Value.int IntKind.i64 vx, Value.int IntKind.i64 vy]) (Value.agg #[Value.int IntKind.i64 awx, Value.int IntKind.u64 awy]) (.agg #[.int .u64 m3q0, .int .u64 m3q1, .int .u64 m3q2, .int .u64 m3q3]) m12q0 m12q1 m12q2 m12q3 mq0 mq1 mq2 mq3 L w v35 v36 v37 v38 v39 v40 v41 v42) (by kernel_rfl) (by kernel_rfl) ?_ ?_ ?_
          rotate_left 1
          · intro L a w h hall
            obtain ⟨v35, v36, v37, v38, v39, v40, v41, v42, rfl, st⟩ := h
            go_wp2_with fail
            go_meet
            exact ⟨st.fr, st.b8 (hall 8 (by decide))⟩
          · refine ⟨_, _, _, _, _, _, _, _, rfl, ?_⟩
            have hnot := not_on 9
            exact { fr := (Fr.refl _ _).drew, b7 := fun _ => B6.out, l0 := fun h => (hnot _ h).elim, l1 := fun h => (hnot _ h).elim, l2 := fun h => (hnot _ h).elim, l3 := fun h => (hnot _ h).elim, l4 := fun h => (hnot _ h).elim, l5 := fun h => (hnot _ h).elim, l6 := fun h => (hnot _ h).elim, l7 := fun h => (hnot _ h).elim, c8 := fun h => (hnot _ h).elim, b8 := fun h => (hnot _ h).elim }
          refine Each.cons ?_ ?_
          · intro L a w h hi hno hn K hK; obtain ⟨v35, v36, v37, v38, v39, v40, v41, v42, rfl, st⟩ := h
            obtain ⟨⟨r1, r2, r3, r4⟩, _, _, _, _⟩ := q_store (st.b7 (fun h => hno (st.c8 h)))
            go_simp
            exact hK.out _ _ ⟨_, _, _, _, _, _, _, _, rfl, st.r0 hi (Fr.refl _ _)⟩
          refine Each.cons ?_ ?_
          · intro L a w h hi hno hn K hK; obtain ⟨v35, v36, v37, v38, v39, v40, v41, v42, rfl, st⟩ := h
            obtain ⟨⟨p1, p2⟩, ⟨p3, p4⟩, p5, p6⟩ := PT6.out w st.fr
            go_simp
            exact hK.out _ _ ⟨_, _, _, _, _, _, _, _, rfl, st.r1 hi (Fr.refl _ _)⟩
          refine Each.cons ?_ ?_
          · intro L a w h hi hno hn K hK; obtain ⟨v35, v36, v37, v38, v39, v40, v41, v42, rfl, st⟩ := h
            have e1 := st.l1 (hn 1 (by decide)); subst e1
            go_simp
            go_at_call 85
            (with_reducible refine (SW.out w).mono ?_); rintro e w9_ ⟨rfl, f9⟩
            exact hK.out _ _ ⟨_, _, _, _, _, _, _, _, rfl, st.r2 hi f9⟩
          refine Each.cons ?_ ?_
          · intro L a w h hi hno hn K hK; obtain ⟨v35, v36, v37, v38, v39, v40, v41, v42, rfl, st⟩ := h
            obtain ⟨⟨p1, p2⟩, ⟨p3, p4⟩, p5, p6⟩ := PT6.out w st.fr
            go_simp
            exact hK.out _ _ ⟨_, _, _, _, _, _, _, _, rfl, st.r3 hi (Fr.refl _ _)⟩
          refine Each.cons ?_ ?_
          · intro L a w h hi hno hn K hK; obtain ⟨v35, v36, v37, v38, v39, v40, v41, v42, rfl, st⟩ := h
            obtain ⟨⟨p1, p2⟩, ⟨p3, p4⟩, p5, p6⟩ := PT6.out w st.fr
            go_simp
            exact hK.out _ _ ⟨_, _, _, _, _, _, _, _, rfl, st.r4 hi (Fr.refl _ _)⟩
          refine Each.cons ?_ ?_
          · intro L a w h hi hno hn K hK; obtain ⟨v35, v36, v37, v38, v39, v40, v41, v42, rfl, st⟩ := h
            have e3 := st.l3 (hn 3 (by decide)); have e4 := st.l4 (hn 4 (by decide)); subst e3 e4
            go_simp
            go_at_call 148
            (with_reducible refine (AW.out w).mono ?_); rintro e w9_ ⟨rfl, f9⟩
            exact hK.out _ _ ⟨_, _, _, _, _, _, _, _, rfl, st.r5 hi f9⟩
          refine Each.cons ?_ ?_
          · intro L a w h hi hno hn K hK; obtain ⟨v35, v36, v37, v38, v39, v40, v41, v42, rfl, st⟩ := h
            have e2 := st.l2 (hn 2 (by decide)); have e5 := st.l5 (hn 5 (by decide)); subst e2 e5
            go_simp
            go_at_call 149
            (with_reducible refine (MW.out w).mono ?_); rintro e w9_ ⟨rfl, f9⟩
            exact hK.out _ _ ⟨_, _, _, _, _, _, _, _, rfl, st.r6 hi f9⟩
          refine Each.cons ?_ ?_
          · intro L a w h hi hno hn K hK; obtain ⟨v35, v36, v37, v38, v39, v40, v41, v42, rfl, st⟩ := h
            have e0 := st.l0 (hn 0 (by decide)); have e6 := st.l6 (hn 6 (by decide)); subst e0 e6
            go_simp
            go_at_call 150
            (with_reducible refine (A2.out w).mono ?_); rintro e w9_ ⟨rfl, f9⟩
            exact hK.out _ _ ⟨_, _, _, _, _, _, _, _, rfl, st.r7 hi f9⟩
          refine Each.cons ?_ ?_
          · intro L a w h hi hno hn K hK; obtain ⟨v35, v36, v37, v38, v39, v40, v41, v42, rfl, st⟩ := h
            have e7 := st.l7 (hn 7 (by decide)); subst e7
            obtain ⟨⟨r1, r2, r3, r4⟩, i5, i6, i7, i8⟩ := q_store (st.b7 hno)
            go_simp
            exact hK.out _ _ ⟨_, _, _, _, _, _, _, _, rfl, st.s8 hi (hn 0 (by decide)) (st.b7 hno)⟩
          exact trivial
        case rest =>
          obtain ⟨fc, b12⟩ := hcut
          have G7 := Lib.hid (fc)
          obtain ⟨⟨r1, r2, r3, r4⟩, _, _, _, _⟩ := q_store b12
          clear fc b12
          go_wp2_with (first
            | (go_at_call 151; have hc_ := SG.out wc; (with_reducible refine hc_.mono ?_); clear hc_; rintro e w12 ⟨rfl, f12⟩; have E12 := Lib.hid f12; clear f12))
          go_ret
          exact ⟨rfl, F8.out.trans (G5.out.trans (((G6.out.trans G7.out (fun _ h _ => h)).trans E12.out (fun _ h _ => h.elim)).mono (T := fun k => k = g12) (fun _ h => h)) (fun k h hl => by have := LE.out; omega)) (fun _ h _ => h)⟩
theorem icz : ICz := fun W => incircle_walk 0 0 2 0 2 2 0 2 W (by decide) (by decide) (by decide) (by decide) (by decide) (by decide) (by decide) (by decide)
end Go.Proofs.Ytngmkjgklonfmaa.Wd

