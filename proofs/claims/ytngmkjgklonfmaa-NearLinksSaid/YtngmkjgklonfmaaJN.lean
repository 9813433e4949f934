/- Joined texts. -/
import Derived.Test.YtngmkjgklonfmaaJL
import Derived.Test.YtngmkjgklonfmaaZFr
import Derived.Deep.DeepCutAuto
import Derived.Deep.QuietTactic
import Derived.BigQuiet
import Derived.BigRegion
import Derived.Deep.RegionHeld3
import Derived.Lib.Hide
import Derived.RowKit
import Derived.RowKit3
import Derived.WideLaws
import Derived.WalkLawsBesides
import Derived.WalkSpells
import Derived.Test.YtngmkjgklonfmaaJM
import Derived.Deep.RegionLaw
import Derived.Deep.AppendLies
import Derived.Deep.DrawnRows
/- The document's order of links, walked. -/
namespace Go.Proofs.Ytngmkjgklonfmaa.Lk
open Go.RowKit Go.Lib Go.Proofs.ZFr Go.Proofs.Ytngmkjgklonfmaa.PNearLinks Go.Proofs.YtngmkjgklonfmaaW.PrintWords
theorem cell_far {w : World} {p q : Addr} {u v : Value} (h : w.cell? q = some v) (hb : q.block ≠ p.block) : (w.setCell p u).cell? q = some v := by
  have := Below.heap_setCell w p u q.block hb
  unfold World.cell? at *
  rw [this]; exact h
theorem fr_cell {w w' : World} {a : Addr} {v : Value} (h : w.cell? a = some v) (hf : Fr (fun _ => False) w w') : w'.cell? a = some v := by
  have hb := World.block_lt_of_cell? w a h
  have := hf.block a.block hb (fun h => h)
  unfold World.cell? at *
  rw [this]; exact h
theorem second (W : World) (o o' : Obj) : ((W.alloc o).alloc o').heap[W.heap.size + 1]? = some o' := by
  have h := heap_alloc_new (W.alloc o) o'
  rw [show (W.alloc o).heap.size = W.heap.size + 1 from Array.size_push ..] at h
  exact h
theorem arr_cells {w : World} {b : Nat} {t : TypeId} {x0 x1 x2 x3 : Int} (h : w.heap[b]? = some (.cells #[.int .i64 x0, .int .i64 x1, .int .i64 x2, .int .i64 x3] t (0, 0))) : w.cell? ⟨b, 0, none⟩ = some (.int .i64 x0) ∧ w.cell? ⟨b, 1, none⟩ = some (.int .i64 x1) ∧ w.cell? ⟨b, 2, none⟩ = some (.int .i64 x2) ∧ w.cell? ⟨b, 3, none⟩ = some (.int .i64 x3) := ⟨ZFr.blk_cell h 0, ZFr.blk_cell h 1, ZFr.blk_cell h 2, ZFr.blk_cell h 3⟩
set_option maxRecDepth 100000 in
set_option maxHeartbeats 4000000 in
theorem ahead_walk (x y : S91) (W : World) : Calls Try.prog 50 #[.agg #[.int .i64 x.f0, .int .i64 x.f1, .int .i64 x.f2.f0, .int .i64 x.f2.f1], .agg #[.int .i64 y.f0, .int .i64 y.f1, .int .i64 y.f2.f0, .int .i64 y.f2.f1]] W fun e w' => e = .returned (.bool (decide (ltL x y))) ∧ Fr (fun _ => False) W w' := by
  have HB := Lib.hid (show ltL x y ↔ ltL x y from Iff.rfl)
  obtain ⟨b, hb⟩ : ∃ b, decide (ltL x y) = b := ⟨_, rfl⟩
  rw [hb]
  unfold ltL at HB hb
  obtain ⟨x0, x1, x2, x3⟩ := x
  obtain ⟨y0, y1, y2, y3⟩ := y
  simp only at HB hb ⊢
  have HBB := Lib.hid hb
  clear HB hb
  have t0 := ZFr.blk_alloc (heap_alloc_new W (Obj.cells #[Value.int IntKind.i64 x0, Value.int IntKind.i64 x1, Value.int IntKind.i64 x2, Value.int IntKind.i64 x3] 91)) (Obj.cells #[Value.int IntKind.i64 y0, Value.int IntKind.i64 y1, Value.int IntKind.i64 y2, Value.int IntKind.i64 y3] 91)
  have t1 := heap_alloc_new (W.alloc (Obj.cells #[Value.int IntKind.i64 x0, Value.int IntKind.i64 x1, Value.int IntKind.i64 x2, Value.int IntKind.i64 x3] 91)) (Obj.cells #[Value.int IntKind.i64 y0, Value.int IntKind.i64 y1, Value.int IntKind.i64 y2, Value.int IntKind.i64 y3] 91)
  have f1 := ((Fr.refl (fun _ => False) W).alloc (Obj.cells #[Value.int IntKind.i64 x0, Value.int IntKind.i64 x1, Value.int IntKind.i64 x2, Value.int IntKind.i64 x3] 91)).alloc (Obj.cells #[Value.int IntKind.i64 y0, Value.int IntKind.i64 y1, Value.int IntKind.i64 y2, Value.int IntKind.i64 y3] 91)
  rw [show (W.alloc (Obj.cells #[Value.int IntKind.i64 x0, Value.int IntKind.i64 x1, Value.int IntKind.i64 x2, Value.int IntKind.i64 x3] 91)).heap.size = W.heap.size + 1 from Array.size_push ..] at t1
  go_enter Try.func50, Try.ntmps50
  go_wp2_with fail
  generalize (W.alloc (Obj.cells #[Value.int IntKind.i64 x0, Value.int IntKind.i64 x1, Value.int IntKind.i64 x2, Value.int IntKind.i64 x3] 91)).alloc (Obj.cells #[Value.int IntKind.i64 y0, Value.int IntKind.i64 y1, Value.int IntKind.i64 y2, Value.int IntKind.i64 y3] 91) = w1 at t0 t1 f1 ⊢
  have F1 := Lib.hid f1
  have F1R := Lib.hid (Fr.refl (fun _ => False) w1)
  have LT := Lib.hid (ZFr.blk_lt t1)
  obtain ⟨p0, p1, p2, p3⟩ := arr_cells (w := w1.drew) t0
  obtain ⟨q0, q1, q2, q3⟩ := arr_cells (w := w1.drew) t1
  obtain ⟨pp0, pp1, pp2, pp3⟩ := arr_cells t0
  obtain ⟨qq0, qq1, qq2, qq3⟩ := arr_cells t1
  have T0 := Lib.hid t0
  have T1 := Lib.hid t1
  have cu0 := (arr_cells (ZFr.blk_alloc (heap_alloc_new w1 (Obj.cells #[Value.int IntKind.i64 0, Value.int IntKind.i64 0, Value.int IntKind.i64 0, Value.int IntKind.i64 0] 131)) (Obj.cells #[Value.int IntKind.i64 0, Value.int IntKind.i64 0, Value.int IntKind.i64 0, Value.int IntKind.i64 0] 131))).1
  have cf0 := ZFr.blk_free (ZFr.blk_alloc (heap_alloc_new w1 (Obj.cells #[Value.int IntKind.i64 0, Value.int IntKind.i64 0, Value.int IntKind.i64 0, Value.int IntKind.i64 0] 131)) (Obj.cells #[Value.int IntKind.i64 0, Value.int IntKind.i64 0, Value.int IntKind.i64 0, Value.int IntKind.i64 0] 131)) 0
  have cu1 := (arr_cells (ZFr.blk_alloc (heap_alloc_new w1 (Obj.cells #[Value.int IntKind.i64 0, Value.int IntKind.i64 0, Value.int IntKind.i64 0, Value.int IntKind.i64 0] 131)) (Obj.cells #[Value.int IntKind.i64 0, Value.int IntKind.i64 0, Value.int IntKind.i64 0, Value.int IntKind.i64 0] 131))).2.1
  have cf1 := ZFr.blk_free (ZFr.blk_alloc (heap_alloc_new w1 (Obj.cells #[Value.int IntKind.i64 0, Value.int IntKind.i64 0, Value.int IntKind.i64 0, Value.int IntKind.i64 0] 131)) (Obj.cells #[Value.int IntKind.i64 0, Value.int IntKind.i64 0, Value.int IntKind.i64 0, Value.int IntKind.i64 0] 131)) 1
  have cu2 := (arr_cells (ZFr.blk_alloc (heap_alloc_new w1 (Obj.cells #[Value.int IntKind.i64 0, Value.int IntKind.i64 0, Value.int IntKind.i64 0, Value.int IntKind.i64 0] 131)) (Obj.cells #[Value.int IntKind.i64 0, Value.int IntKind.i64 0, Value.int IntKind.i64 0, Value.int IntKind.i64 0] 131))).2.2.1
  have cf2 := ZFr.blk_free (ZFr.blk_alloc (heap_alloc_new w1 (Obj.cells #[Value.int IntKind.i64 0, Value.int IntKind.i64 0, Value.int IntKind.i64 0, Value.int IntKind.i64 0] 131)) (Obj.cells #[Value.int IntKind.i64 0, Value.int IntKind.i64 0, Value.int IntKind.i64 0, Value.int IntKind.i64 0] 131)) 2
  have cu3 := (arr_cells (ZFr.blk_alloc (heap_alloc_new w1 (Obj.cells #[Value.int IntKind.i64 0, Value.int IntKind.i64 0, Value.int IntKind.i64 0, Value.int IntKind.i64 0] 131)) (Obj.cells #[Value.int IntKind.i64 0, Value.int IntKind.i64 0, Value.int IntKind.i64 0, Value.int IntKind.i64 0] 131))).2.2.2
  have cf3 := ZFr.blk_free (ZFr.blk_alloc (heap_alloc_new w1 (Obj.cells #[Value.int IntKind.i64 0, Value.int IntKind.i64 0, Value.int IntKind.i64 0, Value.int IntKind.i64 0] 131)) (Obj.cells #[Value.int IntKind.i64 0, Value.int IntKind.i64 0, Value.int IntKind.i64 0, Value.int IntKind.i64 0] 131)) 3
  have du0 := (arr_cells (second w1 (Obj.cells #[Value.int IntKind.i64 0, Value.int IntKind.i64 0, Value.int IntKind.i64 0, Value.int IntKind.i64 0] 131) (Obj.cells #[Value.int IntKind.i64 0, Value.int IntKind.i64 0, Value.int IntKind.i64 0, Value.int IntKind.i64 0] 131))).1
  have df0 := ZFr.blk_free (second w1 (Obj.cells #[Value.int IntKind.i64 0, Value.int IntKind.i64 0, Value.int IntKind.i64 0, Value.int IntKind.i64 0] 131) (Obj.cells #[Value.int IntKind.i64 0, Value.int IntKind.i64 0, Value.int IntKind.i64 0, Value.int IntKind.i64 0] 131)) 0
  have du1 := (arr_cells (second w1 (Obj.cells #[Value.int IntKind.i64 0, Value.int IntKind.i64 0, Value.int IntKind.i64 0, Value.int IntKind.i64 0] 131) (Obj.cells #[Value.int IntKind.i64 0, Value.int IntKind.i64 0, Value.int IntKind.i64 0, Value.int IntKind.i64 0] 131))).2.1
  have df1 := ZFr.blk_free (second w1 (Obj.cells #[Value.int IntKind.i64 0, Value.int IntKind.i64 0, Value.int IntKind.i64 0, Value.int IntKind.i64 0] 131) (Obj.cells #[Value.int IntKind.i64 0, Value.int IntKind.i64 0, Value.int IntKind.i64 0, Value.int IntKind.i64 0] 131)) 1
  have du2 := (arr_cells (second w1 (Obj.cells #[Value.int IntKind.i64 0, Value.int IntKind.i64 0, Value.int IntKind.i64 0, Value.int IntKind.i64 0] 131) (Obj.cells #[Value.int IntKind.i64 0, Value.int IntKind.i64 0, Value.int IntKind.i64 0, Value.int IntKind.i64 0] 131))).2.2.1
  have df2 := ZFr.blk_free (second w1 (Obj.cells #[Value.int IntKind.i64 0, Value.int IntKind.i64 0, Value.int IntKind.i64 0, Value.int IntKind.i64 0] 131) (Obj.cells #[Value.int IntKind.i64 0, Value.int IntKind.i64 0, Value.int IntKind.i64 0, Value.int IntKind.i64 0] 131)) 2
  have du3 := (arr_cells (second w1 (Obj.cells #[Value.int IntKind.i64 0, Value.int IntKind.i64 0, Value.int IntKind.i64 0, Value.int IntKind.i64 0] 131) (Obj.cells #[Value.int IntKind.i64 0, Value.int IntKind.i64 0, Value.int IntKind.i64 0, Value.int IntKind.i64 0] 131))).2.2.2
  have df3 := ZFr.blk_free (second w1 (Obj.cells #[Value.int IntKind.i64 0, Value.int IntKind.i64 0, Value.int IntKind.i64 0, Value.int IntKind.i64 0] 131) (Obj.cells #[Value.int IntKind.i64 0, Value.int IntKind.i64 0, Value.int IntKind.i64 0, Value.int IntKind.i64 0] 131)) 3
  clear t0 t1 f1
  go_upto_region 1 with fail
  go_cut [5, 6] (fun s5 s6 wx => ∃ g5 g6, s5 = .pointer (some ⟨g5, 0, none⟩) ∧ s6 = .pointer (some ⟨g6, 0, none⟩) ∧ wx.heap[g5]? = some (.cells #[.int .i64 x0, .int .i64 x1, .int .i64 x2, .int .i64 x3] 131 (0, 0)) ∧ wx.heap[g6]? = some (.cells #[.int .i64 y0, .int .i64 y1, .int .i64 y2, .int .i64 y3] 131 (0, 0)) ∧ Fr (fun _ => False) w1 wx)
  case first =>
    have lt1 := LT.out
    have ne1 : ¬ w1.heap.size = w1.heap.size + 1 := by omega
    have ne2 : ¬ w1.heap.size + 1 = w1.heap.size := by omega
    go_region_held3 (fun w' => w'.cell? ⟨W.heap.size, 0, none⟩ = some (.int .i64 x0) ∧ w'.cell? ⟨W.heap.size, 1, none⟩ = some (.int .i64 x1) ∧ w'.cell? ⟨W.heap.size, 2, none⟩ = some (.int .i64 x2) ∧ w'.cell? ⟨W.heap.size, 3, none⟩ = some (.int .i64 x3) ∧ w'.cell? ⟨W.heap.size + 1, 0, none⟩ = some (.int .i64 y0) ∧ w'.cell? ⟨W.heap.size + 1, 1, none⟩ = some (.int .i64 y1) ∧ w'.cell? ⟨W.heap.size + 1, 2, none⟩ = some (.int .i64 y2) ∧ w'.cell? ⟨W.heap.size + 1, 3, none⟩ = some (.int .i64 y3))
      (refine ⟨?_, ?_, ?_, ?_, ?_, ?_, ?_, ?_⟩ <;> (repeat (first | with_reducible assumption | (with_reducible refine cell_far ?_ (by dsimp only; omega)) | (with_reducible refine fr_cell ?_ ((Fr.refl (fun _ => False) _).alloc _)) | (with_reducible refine fr_cell ?_ ((Fr.refl (fun _ => False) _).alloc _).drew) | go_keep)))
      (fail)
    all_goals
      go_wp2_with fail
      go_meet
      refine ⟨_, _, rfl, rfl, ?_, ?_, ((F1R.out.alloc _).alloc _).drew⟩
      · first | exact second w1 _ _ | exact ZFr.blk_alloc (heap_alloc_new w1 _) _
      · first | exact second w1 _ _ | exact ZFr.blk_alloc (heap_alloc_new w1 _) _
  case rest =>
    obtain ⟨g5, g6, rfl, rfl, h5, h6, hf⟩ := hcut
    have H5 := Lib.hid h5
    have H6 := Lib.hid h6
    have HF := Lib.hid hf
    clear h5 h6 hf
    go_wp2_with fail
    go_loopw [7] (fun i wr => ∃ k : Nat, k ≤ 4 ∧ i = .int .i64 (k : Int) ∧ (0 < k → x0 = y0) ∧ (1 < k → x1 = y1) ∧ (2 < k → x2 = y2) ∧ (3 < k → x3 = y3) ∧ Fr (fun _ => False) wc wr) (fun i _ => (4 - intOf i).toNat)
    case atStart => exact ⟨0, by decide, rfl, by omega, by omega, by omega, by omega, Fr.refl _ _⟩
    case round =>
      obtain ⟨k, hk, rfl, e0, e1, e2, e3, hf⟩ := hrel
      have G := Lib.hid hf
      obtain ⟨c0, c1, c2, c3⟩ := arr_cells (ZFr.blk_fr H5.out hf (fun h => h))
      obtain ⟨d0, d1, d2, d3⟩ := arr_cells (ZFr.blk_fr H6.out hf (fun h => h))
      have E0 := Lib.hid e0
      have E1 := Lib.hid e1
      have E2 := Lib.hid e2
      have E3 := Lib.hid e3
      clear hf e0 e1 e2 e3
      have hkk : k = 0 ∨ k = 1 ∨ k = 2 ∨ k = 3 ∨ k = 4 := by omega
      clear hk
      rcases hkk with rfl | rfl | rfl | rfl | rfl
      · by_cases h : x0 = y0
        · have hd : (x0 != y0) = false := by simp [h]
          have H := Lib.hid h
          clear h
          go_wp2_with fail
          go_quiet (fail)
          go_wp2_with fail
          go_roundw
          case rel => exact ⟨1, by decide, rfl, fun _ => H.out, by omega, by omega, by omega, G.out.drewN _⟩
          case measure => simp [intOf]
        · have hd : (x0 != y0) = true := by simp [h]
          have H := Lib.hid h
          clear h
          go_wp2_with fail
          go_quiet (fail)
          obtain ⟨c4, c5, c6, c7⟩ := arr_cells (ZFr.blk_fr H5.out (G.out.drewN nq) (fun h => h))
          obtain ⟨d4, d5, d6, d7⟩ := arr_cells (ZFr.blk_fr H6.out (G.out.drewN nq) (fun h => h))
          go_wp2_with fail
          go_quiet (fail)
          go_wp2_with fail
          go_ret
          refine ⟨?_, F1.out.trans (((HF.out.trans G.out (fun _ h _ => h)).drewN _).drewN _) (fun _ h _ => h)⟩
          have h9 := H.out
          rw [← HBB.out]
          exact congrArg (fun q => Ending.returned (Value.bool q)) (show decide (x0 < y0) = _ from decide_eq_decide.2 (by omega))
      · by_cases h : x1 = y1
        · have hd : (x1 != y1) = false := by simp [h]
          have H := Lib.hid h
          clear h
          go_wp2_with fail
          go_quiet (fail)
          go_wp2_with fail
          go_roundw
          case rel => exact ⟨2, by decide, rfl, fun h => E0.out (by omega), fun _ => H.out, by omega, by omega, G.out.drewN _⟩
          case measure => simp [intOf]
        · have hd : (x1 != y1) = true := by simp [h]
          have H := Lib.hid h
          clear h
          go_wp2_with fail
          go_quiet (fail)
          obtain ⟨c4, c5, c6, c7⟩ := arr_cells (ZFr.blk_fr H5.out (G.out.drewN nq) (fun h => h))
          obtain ⟨d4, d5, d6, d7⟩ := arr_cells (ZFr.blk_fr H6.out (G.out.drewN nq) (fun h => h))
          go_wp2_with fail
          go_quiet (fail)
          go_wp2_with fail
          go_ret
          refine ⟨?_, F1.out.trans (((HF.out.trans G.out (fun _ h _ => h)).drewN _).drewN _) (fun _ h _ => h)⟩
          have h9 := H.out
          have g0 := E0.out (by decide)
          rw [← HBB.out]
          exact congrArg (fun q => Ending.returned (Value.bool q)) (show decide (x1 < y1) = _ from decide_eq_decide.2 (by omega))
      · by_cases h : x2 = y2
        · have hd : (x2 != y2) = false := by simp [h]
          have H := Lib.hid h
          clear h
          go_wp2_with fail
          go_quiet (fail)
          go_wp2_with fail
          go_roundw
          case rel => exact ⟨3, by decide, rfl, fun h => E0.out (by omega), fun h => E1.out (by omega), fun _ => H.out, by omega, G.out.drewN _⟩
          case measure => simp [intOf]
        · have hd : (x2 != y2) = true := by simp [h]
          have H := Lib.hid h
          clear h
          go_wp2_with fail
          go_quiet (fail)
          obtain ⟨c4, c5, c6, c7⟩ := arr_cells (ZFr.blk_fr H5.out (G.out.drewN nq) (fun h => h))
          obtain ⟨d4, d5, d6, d7⟩ := arr_cells (ZFr.blk_fr H6.out (G.out.drewN nq) (fun h => h))
          go_wp2_with fail
          go_quiet (fail)
          go_wp2_with fail
          go_ret
          refine ⟨?_, F1.out.trans (((HF.out.trans G.out (fun _ h _ => h)).drewN _).drewN _) (fun _ h _ => h)⟩
          have h9 := H.out
          have g0 := E0.out (by decide)
          have g1 := E1.out (by decide)
          rw [← HBB.out]
          exact congrArg (fun q => Ending.returned (Value.bool q)) (show decide (x2 < y2) = _ from decide_eq_decide.2 (by omega))
      · by_cases h : x3 = y3
        · have hd : (x3 != y3) = false := by simp [h]
          have H := Lib.hid h
          clear h
          go_wp2_with fail
          go_quiet (fail)
          go_wp2_with fail
          go_roundw
          case rel => exact ⟨4, by decide, rfl, fun h => E0.out (by omega), fun h => E1.out (by omega), fun h => E2.out (by omega), fun _ => H.out, G.out.drewN _⟩
          case measure => simp [intOf]
        · have hd : (x3 != y3) = true := by simp [h]
          have H := Lib.hid h
          clear h
          go_wp2_with fail
          go_quiet (fail)
          obtain ⟨c4, c5, c6, c7⟩ := arr_cells (ZFr.blk_fr H5.out (G.out.drewN nq) (fun h => h))
          obtain ⟨d4, d5, d6, d7⟩ := arr_cells (ZFr.blk_fr H6.out (G.out.drewN nq) (fun h => h))
          go_wp2_with fail
          go_quiet (fail)
          go_wp2_with fail
          go_ret
          refine ⟨?_, F1.out.trans (((HF.out.trans G.out (fun _ h _ => h)).drewN _).drewN _) (fun _ h _ => h)⟩
          have h9 := H.out
          have g0 := E0.out (by decide)
          have g1 := E1.out (by decide)
          have g2 := E2.out (by decide)
          rw [← HBB.out]
          exact congrArg (fun q => Ending.returned (Value.bool q)) (show decide (x3 < y3) = _ from decide_eq_decide.2 (by omega))
      · go_wp2_with fail
        go_ret
        refine ⟨?_, F1.out.trans (HF.out.trans G.out (fun _ h _ => h)) (fun _ h _ => h)⟩
        have g0 := E0.out (by decide)
        have g1 := E1.out (by decide)
        have g2 := E2.out (by decide)
        have g3 := E3.out (by decide)
        rw [← HBB.out]
        exact congrArg (fun q => Ending.returned (Value.bool q)) (decide_eq_false (by omega)).symm
end Go.Proofs.Ytngmkjgklonfmaa.Lk

/- The document's links walked. -/
namespace Go.Proofs.Ytngmkjgklonfmaa.Lk
open Go.Shelf Go.RowKit Go.Lib Go.Sort Go.Proofs.ZFr Go.Proofs.Ytngmkjgklonfmaa.PNearLinks Go.Proofs.YtngmkjgklonfmaaW.PrintWords
attribute [local go_sem ↓] Go.wp_at_zero Go.wp_at_succ
attribute [local go_sem high] eqA91
/-- The document's way over the links so far, from a place on. -/
def goL (a : S91) : List S91 → List S91 → Bool → List S91
  | [], l, b => if b = true then l else l ++ [a]
  | x :: r, l, b => if b = true ∨ x = a then goL a r (l ++ [x]) true else if ltL a x then goL a r (l ++ [a, x]) true else goL a r (l ++ [x]) false
theorem goL_true (a : S91) : ∀ (r l : List S91), goL a r l true = l ++ r
  | [], l => by simp [goL]
  | x :: r, l => by rw [goL, if_pos (.inl rfl), goL_true a r]; simp
theorem goL_false (a : S91) : ∀ (r l : List S91), goL a r l false = l ++ insL r a
  | [], l => by simp [goL, insL]
  | x :: r, l => by
    rw [goL, insL]
    by_cases h : x = a
    · rw [if_pos (.inr h), if_pos h, goL_true]; simp
    · rw [if_neg (by simp [h]), if_neg h]
      by_cases h2 : ltL a x
      · rw [if_pos h2, if_pos h2, goL_true]; simp
      · rw [if_neg h2, if_neg h2, goL_false a r]; simp
theorem goL_step (q x : S91) (r lc : List S91) (bb b1 cd : Bool) (h1 : (bb || decide (q = x)) = b1) (h2 : (!b1 && decide (ltL q x)) = cd) : goL q (x :: r) lc bb = goL q r ((if cd = true then lc ++ [q] else lc) ++ [x]) (b1 || cd) := by
  rw [goL]
  by_cases h : bb = true ∨ x = q
  · have : b1 = true := by rw [← h1]; rcases h with h | h <;> simp [h]
    subst this
    simp at h2
    subst h2
    rw [if_pos h]; simp
  · have hqx : ¬ q = x := fun e => h (.inr e.symm)
    have hbb : bb = false := by cases bb; rfl; exact absurd (.inl rfl) h
    have : b1 = false := by rw [← h1, hbb]; simp [hqx]
    subst this
    rw [if_neg h]
    by_cases hl : ltL q x
    · have : cd = true := by rw [← h2]; simp [hl]
      subst this
      rw [if_pos hl]; simp
    · have : cd = false := by rw [← h2]; simp [hl]
      subst this
      rw [if_neg hl]; simp
/-- Links that lie in memory, to be read. -/
def LL (w : World) (p : Option Addr) (L : List S91) : Prop := ∀ i (h : i < L.length), ∃ g, p = some ⟨g, 0, none⟩ ∧ C4 w g i L[i]
theorem LL_c {w : World} {p : Option Addr} {L : List S91} (h : LL w p L) (hl : L.length ≤ 1000) : Kd.C k91 w p L.length L := by
  refine ⟨rfl, by omega, fun h0 => ?_⟩
  obtain ⟨g, e, _⟩ := h 0 h0
  refine ⟨_, e, fun j x hj => ?_⟩
  obtain ⟨hjl, hx⟩ := List.getElem?_eq_some_iff.1 hj
  obtain ⟨g', e', q0, q1, q2, q3⟩ := h j hjl
  rw [e] at e'
  simp only [Option.some.injEq, Addr.mk.injEq, and_true] at e'
  subst e'
  rw [hx] at q0 q1 q2 q3
  refine ⟨_, rfl, k91_mk w x, fun i u hu => ?_⟩
  have ea : ∀ i, (⟨g, 0, none⟩ : Addr).add (j * k91.sz + i) = ⟨g, j * 4 + i, none⟩ := fun i => by
    rw [show k91.sz = 4 from rfl]; unfold Addr.add; split <;> simp_all
  rw [ea]
  match i, hu with
  | 0, hu => simp at hu; subst hu; exact q0
  | 1, hu => simp at hu; subst hu; exact q1
  | 2, hu => simp at hu; subst hu; exact q2
  | 3, hu => simp at hu; subst hu; exact q3
theorem LL.set {w w1 w2 : World} {p : Option Addr} {L : List S91} {b : Nat} (h : LL w p L) (h1 : Fr (fun _ => False) w w1) (h2 : Fr (fun k => k = b) w1 w2) (hb : w.heap.size ≤ b) : LL w2 p L := fun i hi => by
  obtain ⟨g, e, hc⟩ := h i hi
  have hlt := World.block_lt_of_cell? w _ hc.1
  exact ⟨g, e, (hc.fr h1 (fun h => h)).fr h2 (fun h => absurd hlt (by simp only [h]; omega))⟩
theorem link_cells {w : World} {b : Nat} {x : S91} (h : w.heap[b]? = some (.cells #[.int .i64 x.f0, .int .i64 x.f1, .int .i64 x.f2.f0, .int .i64 x.f2.f1] 91 (0, 0))) : w.cell? ⟨b, 0, none⟩ = some (.int .i64 x.f0) ∧ w.cell? ⟨b, 1, none⟩ = some (.int .i64 x.f1) ∧ w.cell? ⟨b, 2, none⟩ = some (.int .i64 x.f2.f0) ∧ w.cell? ⟨b, 3, none⟩ = some (.int .i64 x.f2.f1) := ⟨ZFr.blk_cell h 0, ZFr.blk_cell h 1, ZFr.blk_cell h 2, ZFr.blk_cell h 3⟩
theorem fc_add {w : World} {e : Addr} {f : Fa} (h : fc w e f) (j : Nat) (hj : j < 9) : w.cell? (e.add j) = some (.int .i64 (f j)) := by
  by_cases h0 : j = 0
  · subst h0; unfold Addr.add; rw [if_pos rfl]; exact h.1
  · unfold Addr.add; rw [if_neg h0]; exact h.2 j (by omega) hj
theorem LL.fr {w w' : World} {p : Option Addr} {L : List S91} (h : LL w p L) (hf : Fr (fun _ => False) w w') : LL w' p L := fun i hi => by
  obtain ⟨g, e, h1⟩ := h i hi
  exact ⟨g, e, h1.fr hf (fun h => h)⟩
theorem LL_row {w : World} {B c : Nat} {p : Option Addr} {L : List S91} (h : w.ownsRow B 91 4 (.slice p L.length c) L.length (flat4 L)) : LL w p L := fun i hi => by
  obtain ⟨g, c', hv⟩ := row_some h (by omega)
  simp only [Value.slice.injEq] at hv
  obtain ⟨rfl, _, rfl⟩ := hv
  have hh := row_holds h
  have hi' : i < L.toArray.size := by simpa using hi
  have c0 := (hh.cell hi' (show 0 < 4 by omega)).1
  have c1 := (hh.cell hi' (show 1 < 4 by omega)).1
  have c2 := (hh.cell hi' (show 2 < 4 by omega)).1
  have c3 := (hh.cell hi' (show 3 < 4 by omega)).1
  simp only [Nat.zero_add, Nat.add_zero] at c0 c1 c2 c3
  rw [getElem!_pos _ i hi'] at c0 c1 c2 c3
  exact ⟨g, rfl, c0, c1, c2, c3⟩
set_option maxRecDepth 100000 in
set_option maxHeartbeats 4000000 in
theorem dlinks_walk (A : Option Addr) (c : Nat) (l : List Fa) (w : World) (hl : l.length ≤ 100) (hp : Fas w A l) (hs : ∀ f ∈ l, smF f) : Calls Try.prog 26 #[.slice A l.length c] w fun e w' => ∃ p d, e = .returned (.slice p (insAll (lks l)).length d) ∧ (insAll (lks l)).length ≤ d ∧ Kd.C k91 w' p (insAll (lks l)).length (insAll (lks l)) ∧ Fr (fun _ => False) w w' := by
  have HP := Lib.hid hp
  have HS := Lib.hid hs
  have H100 := Lib.hid hl
  clear hp hs hl
  go_enter Try.func26, Try.ntmps26
  go_wp2_with fail
  have F0 := Lib.hid ((Fr.refl (fun _ => False) w).alloc (.cells #[] 91))
  generalize w.alloc (.cells #[] 91) = w0 at F0 ⊢
  go_loopw [3, 4] (fun v i wr => ∃ k : Nat, k ≤ l.length ∧ i = .int .i64 (k : Int) ∧ (∃ p d, v = .slice p (insAll (lkl l (3 * k))).length d ∧ (insAll (lkl l (3 * k))).length ≤ d ∧ LL wr p (insAll (lkl l (3 * k)))) ∧ Fr (fun _ => False) w wr) (fun _ i _ => (l.length - intOf i).toNat)
  case atStart => exact ⟨0, by omega, rfl, ⟨_, _, rfl, Nat.le_refl _, fun i hi => absurd hi (by simp [lkl, insAll])⟩, F0.out⟩
  case round =>
    obtain ⟨k, hk, rfl, ⟨p, d, rfl, hd, hLL⟩, hf⟩ := hrel
    have HD := Lib.hid hd
    have HL := Lib.hid hLL
    have HF := Lib.hid hf
    clear hd hLL hf
    by_cases hkl : k < l.length
    · have hk100 : (k : Int) < 100 := by have := H100.out; omega
      have hkli : (k : Int) < l.length := by omega
      have hsf := HS.out _ (List.getElem_mem hkl)
      have hgd : ∀ j, j < 3 → lkAt l (3 * k + j) = frst (lnk l[k] j) := fun j hj => by
        unfold lkAt
        rw [show (3 * k + j) / 3 = k from by omega, show (3 * k + j) % 3 = j from by omega]
        simp [List.getD, hkl]
      obtain ⟨ad, rfl, _⟩ := (HP.out.fr HF.out) k hkl
      have FC := Lib.hid (fun (w' : World) (h : Fr (fun _ => False) w w') => (show fc w' (ad.add (k * 9)) l[k] from by
        obtain ⟨ad', he, h9⟩ := (HP.out.fr h) k hkl
        simp only [Option.some.injEq] at he
        subst he
        exact h9))
      generalize l[k] = f at hsf hgd FC
      have HGD := Lib.hid hgd
      have HSF := Lib.hid hsf
      clear hgd hsf
      obtain ⟨wo, rfl⟩ : ∃ wo : World, wo = wr := ⟨_, rfl⟩
      go_wp2_with fail
      go_loopw [3, 5] (fun v i wr => ∃ j : Nat, j ≤ 3 ∧ i = .int .i64 (j : Int) ∧ (∃ p d, v = .slice p (insAll (lkl l (3 * k + j))).length d ∧ (insAll (lkl l (3 * k + j))).length ≤ d ∧ LL wr p (insAll (lkl l (3 * k + j)))) ∧ Fr (fun _ => False) w wr) (fun _ i _ => (3 - intOf i).toNat)
      case atStart => exact ⟨0, by omega, rfl, ⟨_, _, rfl, HD.out, HL.out⟩, HF.out⟩
      case round =>
        clear HD HL HF
        obtain ⟨j, hj, rfl, ⟨p, d, rfl, hd, hLL⟩, hf⟩ := hrel
        have HD := Lib.hid hd
        have HL := Lib.hid hLL
        have HF := Lib.hid hf
        clear hd hLL hf
        by_cases hj3 : j < 3
        · have hjd : (j : Int) < 3 := by omega
          obtain ⟨jj, hjj, hjj3⟩ : ∃ q, (j + 1) % 3 = q ∧ q < 3 := ⟨_, rfl, Nat.mod_lt _ (by decide)⟩
          go_upto_region 9 with fail
          rw [show ((j : Int) + 1) % 3 = (jj : Int) from by omega]
          have hjjd : (jj : Int) < 3 := by omega
          have HSM := Lib.hid (small_lnk HSF.out j hj3)
          have HA0 := Lib.hid (show (lnk f j).f0 = f j from rfl)
          have HA1 := Lib.hid (show (lnk f j).f1 = f jj from by unfold lnk; simp only [hjj])
          have HSN := Lib.hid (show lkl l (3 * k + j + 1) = lkl l (3 * k + j) ++ [frst (lnk f j)] from by rw [lkl_snoc, HGD.out j hj3])
          have HE1 := Lib.hid (show wrap64 (f (3 + jj * 2) - f (3 + j * 2)) = (lnk f j).f2.f0 from by
            have h1 := HSF.out (3 + j * 2) (by omega) (by omega)
            have h2 := HSF.out (3 + jj * 2) (by omega) (by omega)
            unfold lnk wrap64; simp only [hjj]
            rw [show 3 + 2 * jj = 3 + jj * 2 from by omega, show 3 + 2 * j = 3 + j * 2 from by omega]; omega)
          have HE2 := Lib.hid (show wrap64 (f (3 + jj * 2 + 1) - f (3 + j * 2 + 1)) = (lnk f j).f2.f1 from by
            have h1 := HSF.out (3 + j * 2 + 1) (by omega) (by omega)
            have h2 := HSF.out (3 + jj * 2 + 1) (by omega) (by omega)
            unfold lnk wrap64; simp only [hjj]
            rw [show 4 + 2 * jj = 3 + jj * 2 + 1 from by omega, show 4 + 2 * j = 3 + j * 2 + 1 from by omega]; omega)
          obtain ⟨a, ha⟩ : ∃ a, lnk f j = a := ⟨_, rfl⟩
          rw [ha] at HSM HA0 HA1 HSN HE1 HE2
          clear ha
          obtain ⟨m, hm⟩ : ∃ m, 3 * k + j = m := ⟨_, rfl⟩
          have HM300 := Lib.hid (show m < 300 from by omega)
          rw [hm] at HSN HD HL ⊢
          have HM := Lib.hid hm
          have HIL := Lib.hid (show (insAll (lkl l m)).length ≤ m from by have := insAll_len (lkl l m); rwa [lkl_len] at this)
          clear hm
          obtain ⟨out, hout⟩ : ∃ out, insAll (lkl l m) = out := ⟨_, rfl⟩
          have HSO := Lib.hid (show insAll (lkl l (m + 1)) = insL out (frst a) from by rw [HSN.out, insAll_snoc, hout])
          rw [hout] at HD HL HIL ⊢
          clear hout
          go_cut [7, 8] (fun s7 s8 wx => s7 = .int .i64 a.f2.f0 ∧ s8 = .int .i64 a.f2.f1 ∧ Fr (fun _ => False) wr wx)
          case first =>
            have fcw := FC.out wr HF.out
            have q2 := fcw.2 (3 + jj * 2) (by omega) (by omega)
            have q3 := fcw.2 (3 + jj * 2 + 1) (by omega) (by omega)
            have q4 := fcw.2 (3 + j * 2) (by omega) (by omega)
            have q5 := fcw.2 (3 + j * 2 + 1) (by omega) (by omega)
            rw [← Nat.add_assoc] at q2 q4
            rw [← Nat.add_assoc, ← Nat.add_assoc] at q3 q5
            clear fcw
            go_quiet (fail)
            clear q2 q3 q4 q5
            go_wp2_with fail
            go_meet
            exact ⟨by rw [HE1.out], by rw [HE2.out], (Fr.refl _ _).drewN _⟩
          case rest =>
            obtain ⟨rfl, rfl, hf⟩ := hcut
            have G9 := Lib.hid (HF.out.trans hf (fun _ h _ => h))
            have L9 := Lib.hid (HL.out.fr hf)
            clear hf HE1 HE2
            go_upto_region 10 with fail
            go_cut [9, 10] (fun s9 s10 wx => ∃ g9 g10, s9 = .pointer (some ⟨g9, 0, none⟩) ∧ s10 = .pointer (some ⟨g10, 0, none⟩) ∧ g9 ≠ g10 ∧ wc.heap.size ≤ g9 ∧ wx.heap[g9]? = some (.cells #[.int .i64 a.f0, .int .i64 a.f1, .int .i64 a.f2.f0, .int .i64 a.f2.f1] 91 (0, 0)) ∧ wx.heap[g10]? = some (.cells #[.int .i64 a.f1, .int .i64 a.f0, .int .i64 (-a.f2.f0), .int .i64 (-a.f2.f1)] 91 (0, 0)) ∧ Fr (fun _ => False) wc wx)
            case first =>
              have fcw := FC.out wc.drew G9.out.drew
              have v0 := fc_add fcw j (by omega)
              have v1 := fc_add fcw jj (by omega)
              have v2 := fc_add (FC.out wc G9.out) j (by omega)
              have v3 := fc_add (FC.out wc G9.out) jj (by omega)
              rw [← HA0.out] at v0 v2
              rw [← HA1.out] at v1 v3
              have n1 : IntKind.i64.wrap (-a.f2.f0) = -a.f2.f0 := by obtain ⟨⟨h1, h2⟩, h3, h4⟩ := HSM.out; simp [IntKind.wrap, IntKind.bits, IntKind.signed]; omega
              have n2 : IntKind.i64.wrap (-a.f2.f1) = -a.f2.f1 := by obtain ⟨⟨h1, h2⟩, h3, h4⟩ := HSM.out; simp [IntKind.wrap, IntKind.bits, IntKind.signed]; omega
              clear fcw
              have hj0 : (0 : Int) ≤ (j : Int) := by omega
              have hjj0 : (0 : Int) ≤ (jj : Int) := by omega
              have hk0 : (0 : Int) ≤ (k : Int) := by omega
              have FRW := Lib.hid (Fr.refl (fun _ => False) wc)
              go_region_held3 (fun w' => w'.cell? ((ad.add (k * 9)).add j) = some (.int .i64 a.f0) ∧ w'.cell? ((ad.add (k * 9)).add jj) = some (.int .i64 a.f1))
                (refine ⟨?_, ?_⟩ <;> (repeat (first | with_reducible assumption | (with_reducible refine fcell_fr ?_ ((Fr.refl (fun _ => False) _).alloc _)) | (with_reducible refine fcell_fr ?_ ((Fr.refl (fun _ => False) _).alloc _).drew) | go_keep)))
                (fail)
              all_goals
                go_wp2_with fail
                go_meet
                refine ⟨_, _, rfl, rfl, by omega, by omega, ?_, ?_, ((FRW.out.alloc _).alloc _).drew⟩
                · first | exact second wc _ _ | exact ZFr.blk_alloc (heap_alloc_new wc _) _
                · first | exact second wc _ _ | exact ZFr.blk_alloc (heap_alloc_new wc _) _
            case rest =>
              obtain ⟨g9, g10, rfl, rfl, hne, hg9, h9, h10, hf⟩ := hcut
              have H9 := Lib.hid h9
              have H10 := Lib.hid h10
              have F10 := Lib.hid (G9.out.trans hf (fun _ h _ => h))
              have L10 := Lib.hid (L9.out.fr hf)
              have F910 := Lib.hid hf
              have HLOW9 := Lib.hid G9.out.size
              clear h9 h10 hf G9
              have AH := Lib.hid (fun w => (show Calls Try.prog 50 #[.agg #[.int .i64 a.f1, .int .i64 a.f0, .int .i64 (-a.f2.f0), .int .i64 (-a.f2.f1)], .agg #[.int .i64 a.f0, .int .i64 a.f1, .int .i64 a.f2.f0, .int .i64 a.f2.f1]] w (fun e w' => e = .returned (.bool (decide (ltL (rev a) a))) ∧ Fr (fun _ => False) w w') from ahead_walk (rev a) a w))
              obtain ⟨r0, r1, r2, r3⟩ := link_cells (x := rev a) H10.out
              obtain ⟨p0, p1, p2, p3⟩ := link_cells H9.out
              have HG9 := Lib.hid hg9
              have HLOW := Lib.hid (F10.out.size)
              clear hg9
              simp only [rev] at r0 r1 r2 r3
              go_upto_if 102 with (go_at_call 50; have hc_ := AH.out wc; (with_reducible refine hc_.mono ?_); clear hc_; rintro e w12 ⟨rfl, f12⟩; have F12 := Lib.hid f12; clear f12)
              have F912 := Lib.hid (F910.out.trans F12.out (fun _ h _ => h))
              have H912 := Lib.hid (ZFr.blk_fr H9.out F12.out (fun h => h))
              have H1012 := Lib.hid (ZFr.blk_fr H10.out F12.out (fun h => h))
              go_cut [] (fun wx => wx.heap[g9]? = some (.cells #[.int .i64 (frst a).f0, .int .i64 (frst a).f1, .int .i64 (frst a).f2.f0, .int .i64 (frst a).f2.f1] 91 (0, 0)) ∧ Fr (fun _ => False) w wx ∧ LL wx p out)
              case first =>
                by_cases hlt : ltL (rev a) a
                · rw [decide_eq_true hlt]
                  obtain ⟨r0, r1, r2, r3⟩ := link_cells (x := rev a) H1012.out
                  obtain ⟨p0, p1, p2, p3⟩ := link_cells H912.out
                  have z0 := ZFr.blk_free H912.out 0
                  have z1 := ZFr.blk_free H912.out 1
                  have z2 := ZFr.blk_free H912.out 2
                  have z3 := ZFr.blk_free H912.out 3
                  simp only [rev] at r0 r1 r2 r3
                  go_wp2_with fail
                  go_meet
                  refine ⟨?_, ?_, ?_⟩
                  · unfold frst
                    rw [if_pos hlt]
                    have h1 := ZFr.blk_set (ZFr.blk_set (ZFr.blk_set (ZFr.blk_set H912.out 0 (.int .i64 (rev a).f0)) 1 (.int .i64 (rev a).f1)) 2 (.int .i64 (rev a).f2.f0)) 3 (.int .i64 (rev a).f2.f1)
                    exact h1
                  · exact ((((F10.out.trans F12.out (fun _ h _ => h)).set _ _ (.inr (Nat.le_trans HLOW9.out HG9.out))).set _ _ (.inr (Nat.le_trans HLOW9.out HG9.out))).set _ _ (.inr (Nat.le_trans HLOW9.out HG9.out))).set _ _ (.inr (Nat.le_trans HLOW9.out HG9.out))
                  · exact LL.set (b := g9) L9.out F912.out (((((Fr.refl (fun k => k = g9) w12).set _ _ (.inl rfl)).set _ _ (.inl rfl)).set _ _ (.inl rfl)).set _ _ (.inl rfl)) HG9.out
                · rw [decide_eq_false hlt]
                  go_wp2_with fail
                  go_meet
                  refine ⟨?_, F10.out.trans F12.out (fun _ h _ => h), L10.out.fr F12.out⟩
                  unfold frst
                  rw [if_neg hlt]
                  exact H912.out
              case rest =>
                obtain ⟨h9, f11, l11⟩ := hcut
                have H11 := Lib.hid h9
                have F11 := Lib.hid f11
                have L11 := Lib.hid l11
                clear h9 f11 l11 H9 H10 H912 H1012 F10 F12 L10 AH HLOW HG9 HLOW9 F912 L9 r0 r1 r2 r3 p0 p1 p2 p3
                obtain ⟨wo2, rfl⟩ : ∃ wo2 : World, wo2 = wc := ⟨_, rfl⟩
                obtain ⟨q, hq⟩ : ∃ q, frst a = q := ⟨_, rfl⟩
                rw [hq] at H11 HSO HSN
                clear hq HA0 HA1 HSM
                go_wp2_with fail
                have R2 := Lib.hid (show (wo2.alloc (.cells #[] 91)).ownsRow wo2.heap.size 91 4 (.slice (some ⟨wo2.heap.size, 0, none⟩) 0 0) ([] : List S91).length (flat4 []) from ⟨rfl, .inr ⟨wo2.heap.size, 0, #[], rfl, Nat.le_refl _, heap_alloc_new wo2 _, Nat.le_refl _, Nat.zero_le _, rfl, rfl⟩⟩)
                have F2 := Lib.hid ((Fr.refl (fun _ => False) wo2).alloc (.cells #[] 91))
                generalize wo2.alloc (.cells #[] 91) = w2 at R2 F2 ⊢
                generalize hB2 : wo2.heap.size = B2 at R2 ⊢
                have HB2 := Lib.hid hB2
                clear hB2
                go_loopw [11, 12, 13] (fun v b i wr => ∃ (n : Nat) (lc : List S91) (bb : Bool), n ≤ out.length ∧ i = .int .i64 (n : Int) ∧ b = .bool bb ∧ wr.ownsRow B2 91 4 v lc.length (flat4 lc) ∧ goL q (out.drop n) lc bb = insL out q ∧ lc.length ≤ 2 * n ∧ Fr (fun _ => False) wo2 wr) (fun _ _ i _ => (out.length - intOf i).toNat)
                case atStart => exact ⟨0, [], false, Nat.zero_le _, rfl, rfl, R2.out, by rw [List.drop_zero, goL_false]; rfl, by simp, F2.out⟩
                case round =>
                  obtain ⟨n, lc, bb, hn, rfl, rfl, ho, hgo, hlc, hf⟩ := hrel
                  obtain ⟨pl, cl, rfl⟩ := row_slice ho
                  have HO := Lib.hid ho
                  have HGO := Lib.hid hgo
                  have HLC := Lib.hid hlc
                  have HFN := Lib.hid hf
                  clear ho hgo hlc hf
                  by_cases hnl : n < out.length
                  · have hn300 : (n : Int) < 300 := by have h1 := HIL.out; have h2 := HM300.out; omega
                    have hnli : (n : Int) < out.length := by omega
                    have hdrop := List.drop_eq_getElem_cons hnl
                    obtain ⟨g, rfl, hc4⟩ := (L11.out.fr HFN.out) n hnl
                    obtain ⟨x, hx⟩ : ∃ x, out[n] = x := ⟨_, rfl⟩
                    rw [hx] at hc4 hdrop
                    have CX := Lib.hid (fun (w' : World) (h : Fr (fun _ => False) wo2 w') => (show C4 w' g n x ∧ w'.heap[g9]? = some (.cells #[.int .i64 q.f0, .int .i64 q.f1, .int .i64 q.f2.f0, .int .i64 q.f2.f1] 91 (0, 0)) from by
                      refine ⟨?_, ZFr.blk_fr H11.out h (fun h => h)⟩
                      obtain ⟨g', e', h'⟩ := (L11.out.fr h) n hnl
                      simp only [Option.some.injEq, Addr.mk.injEq, and_true] at e'
                      subst e'
                      rw [hx] at h'
                      exact h'))
                    have HC4 := Lib.hid hc4
                    have HDR := Lib.hid hdrop
                    have H9N := Lib.hid (ZFr.blk_fr H11.out HFN.out (fun h => h))
                    obtain ⟨x0, x1, x2, x3⟩ := hc4
                    obtain ⟨q0, q1, q2, q3⟩ := link_cells H9N.out
                    have hb := eqb q x
                    clear hdrop hx
                    go_upto_region 17 with fail
                    go_quiet (fail)
                    clear x0 x1 x2 x3 q0 q1 q2 q3 hb
                    go_upto_if 116 with fail
                    obtain ⟨b1, hb1⟩ : ∃ b1, (bb || decide (q = x)) = b1 := ⟨_, rfl⟩
                    have HB1 := Lib.hid hb1
                    have FQ := Lib.hid (HFN.out.drewN nq)
                    go_cut [12] (fun s wx => s = .bool b1 ∧ Fr (fun _ => False) wr wx)
                    case first =>
                      by_cases hqx : q = x
                      · rw [decide_eq_true hqx] at hb1 ⊢
                        rw [Bool.or_true] at hb1
                        subst hb1
                        go_wp2_with fail
                        go_meet
                        exact ⟨rfl, (Fr.refl _ _).drewN _⟩
                      · rw [decide_eq_false hqx] at hb1 ⊢
                        rw [Bool.or_false] at hb1
                        subst hb1
                        go_wp2_with fail
                        go_meet
                        exact ⟨rfl, (Fr.refl _ _).drewN _⟩
                    case rest =>
                      obtain ⟨rfl, hf⟩ := hcut
                      clear hb1 FQ
                      have FN1 := Lib.hid (HFN.out.trans hf (fun _ h _ => h))
                      have HO1 := Lib.hid (row_fr HO.out hf (fun _ _ h => h))
                      have HX1 := Lib.hid (HC4.out.fr hf (fun h => h))
                      have HQ1 := Lib.hid (ZFr.blk_fr H9N.out hf (fun h => h))
                      clear hf HO HC4 H9N HFN
                      obtain ⟨cd, hcd⟩ : ∃ cd, (!b1 && decide (ltL q x)) = cd := ⟨_, rfl⟩
                      have HCD := Lib.hid hcd
                      go_upto_region 19 with fail
                      go_cut [126] (fun s wx => s = .bool cd ∧ Fr (fun _ => False) wc wx)
                      case first =>
                        cases b1
                        · have AHQ := Lib.hid (fun w => ahead_walk q x w)
                          rw [show (!false && decide (ltL q x)) = decide (ltL q x) from rfl] at hcd
                          rw [hcd] at AHQ
                          obtain ⟨x0, x1, x2, x3⟩ := HX1.out
                          obtain ⟨q0, q1, q2, q3⟩ := link_cells HQ1.out
                          obtain ⟨y0, y1, y2, y3⟩ := HX1.out.fr ((Fr.refl (fun _ => False) wc).drew) (fun h => h)
                          obtain ⟨z0, z1, z2, z3⟩ := link_cells (ZFr.blk_fr HQ1.out ((Fr.refl (fun _ => False) wc).drew) (fun h => h))
                          have hn0 : (0 : Int) ≤ (n : Int) := by omega
                          go_region_held3 (fun w' => w'.cell? ⟨g9, 0, none⟩ = some (.int .i64 q.f0) ∧ w'.cell? ⟨g9, 1, none⟩ = some (.int .i64 q.f1) ∧ w'.cell? ⟨g9, 2, none⟩ = some (.int .i64 q.f2.f0) ∧ w'.cell? ⟨g9, 3, none⟩ = some (.int .i64 q.f2.f1) ∧ w'.cell? ⟨g, n * 4, none⟩ = some (.int .i64 x.f0) ∧ w'.cell? ⟨g, n * 4 + 1, none⟩ = some (.int .i64 x.f1) ∧ w'.cell? ⟨g, n * 4 + 2, none⟩ = some (.int .i64 x.f2.f0) ∧ w'.cell? ⟨g, n * 4 + 3, none⟩ = some (.int .i64 x.f2.f1))
                            (refine ⟨?_, ?_, ?_, ?_, ?_, ?_, ?_, ?_⟩ <;> (repeat (first | with_reducible assumption | (with_reducible refine fcell_fr ?_ F19.out) | go_keep)))
                            ((go_at_call 50; have hc_ := AHQ.out wc.drew; (with_reducible refine hc_.mono ?_); clear hc_; rintro e w19 ⟨rfl, f19⟩; have F19 := Lib.hid f19; clear f19))
                          all_goals
                            go_wp2_with fail
                            go_meet
                            exact ⟨rfl, (Fr.refl (fun _ => False) wc).drew.trans F19.out (fun _ h _ => h)⟩
                        · rw [show (!true && decide (ltL q x)) = false from rfl] at hcd
                          subst hcd
                          go_quiet (fail)
                          go_wp2_with fail
                          go_meet
                          exact ⟨rfl, (Fr.refl _ _).drewN _⟩
                      case rest =>
                        obtain ⟨rfl, hf⟩ := hcut
                        clear hcd
                        have FN2 := Lib.hid (FN1.out.trans hf (fun _ h _ => h))
                        have HO2 := Lib.hid (row_fr HO1.out hf (fun _ _ h => h))
                        have HX2 := Lib.hid (HX1.out.fr hf (fun h => h))
                        have HQ2 := Lib.hid (ZFr.blk_fr HQ1.out hf (fun h => h))
                        clear hf HO1 HX1 HQ1 FN1
                        go_upto_if 126 with fail
                        have HLCB := Lib.hid (show lc.length ≤ 600 from by have h1 := HIL.out; have h2 := HM300.out; have h3 := HLC.out; omega)
                        go_cut [11, 12] (fun s11 s12 wx => ∃ (lc2 : List S91), lc2 = (if cd = true then lc ++ [q] else lc) ∧ s12 = .bool (b1 || cd) ∧ wx.ownsRow B2 91 4 s11 lc2.length (flat4 lc2) ∧ Fr (fun _ => False) wo2 wx)
                        case first =>
                          cases cd
                          · go_wp2_with fail
                            go_meet
                            exact ⟨lc, rfl, by rw [Bool.or_false], HO2.out, FN2.out⟩
                          · obtain ⟨i0, hi0, hz0, hz1, hz2⟩ := info_parts info91
                            obtain ⟨q0, q1, q2, q3⟩ := link_cells HQ2.out
                            go_wp2_with (at_builtin; refine wpList_append_own_at _ rfl (.tmp 127) (.tmp 129) 65 rfl B2 91 i0 _ 4 32 Try.underlying65 hi0 hz0 hz1 hz2 rfl (by decide) (.slice pl lc.length cl) lc.length (flat4 lc) rfl (HO2.out.alloc _) ⟨wc.heap.size, 0, none⟩ 1 1 (enc4 q) rfl rfl ?d1 ?d2 ?d3 ?d4 ?d5 ?more)
                            case d1 => exact fun j u hj => hj
                            case d2 => intro u hu; simp [enc4] at hu; rcases hu with rfl | rfl | rfl | rfl <;> rfl
                            case d3 => have h1 := HLCB.out; unfold maxLen; omega
                            case d4 => have h1 := HLCB.out; omega
                            case d5 =>
                              have e1 := FN2.out.size
                              have e2 := HB2.out
                              simp
                              omega
                            case more =>
                              intro v2 w2 hown2 hgrow _ _
                              have HO3 := Lib.hid hown2
                              have HG3 := Lib.hid hgrow
                              clear hown2 hgrow
                              go_wp2_with fail
                              go_meet
                              refine ⟨lc ++ [q], rfl, by rw [Bool.or_true], ?_, ?_⟩
                              · rw [flat4_append, List.length_append]; exact HO3.out
                              · exact (FN2.out.alloc _).grown HG3.out (fun k hk => .inr (by rw [HB2.out]; exact (row_base HO2.out k hk).1))
                        case rest =>
                          obtain ⟨lc2, hlc2, rfl, ho3, hf3⟩ := hcut
                          obtain ⟨p3, c3, rfl⟩ := row_slice ho3
                          have HO3 := Lib.hid ho3
                          have FN3 := Lib.hid hf3
                          have HLC2 := Lib.hid hlc2
                          have HLB2 := Lib.hid (show lc2.length ≤ 700 from by have h1 := HLCB.out; rw [hlc2]; split <;> simp <;> omega)
                          have HLN2 := Lib.hid (show lc2.length ≤ lc.length + 1 from by rw [hlc2]; split <;> simp)
                          clear ho3 hf3 hlc2 FN2 HO2 HX2 HQ2
                          obtain ⟨i0, hi0, hz0, hz1, hz2⟩ := info_parts info91
                          obtain ⟨y0, y1, y2, y3⟩ := (CX.out wc FN3.out).1
                          go_wp2_with (at_builtin; refine wpList_append_own_at _ rfl (.tmp 131) (.tmp 136) 65 rfl B2 91 i0 _ 4 32 Try.underlying65 hi0 hz0 hz1 hz2 rfl (by decide) (.slice p3 lc2.length c3) lc2.length (flat4 lc2) rfl (HO3.out.alloc _) ⟨wc.heap.size, 0, none⟩ 1 1 (enc4 x) rfl rfl ?d1 ?d2 ?d3 ?d4 ?d5 ?more)
                          case d1 => intro j u hj; match j, hj with | 0, hj => simp [enc4] at hj; subst hj; exact new_cell _ _ _ _ rfl 0 | 1, hj => simp [enc4] at hj; subst hj; exact new_cell _ _ _ _ rfl 1 | 2, hj => simp [enc4] at hj; subst hj; exact new_cell _ _ _ _ rfl 2 | 3, hj => simp [enc4] at hj; subst hj; exact new_cell _ _ _ _ rfl 3
                          case d2 => intro u hu; simp [enc4] at hu; rcases hu with rfl | rfl | rfl | rfl <;> rfl
                          case d3 => have h1 := HLB2.out; unfold maxLen; omega
                          case d4 => have h1 := HLB2.out; omega
                          case d5 =>
                            have e1 := FN3.out.size
                            have e2 := HB2.out
                            simp
                            omega
                          case more =>
                            intro v2 w2 hown2 hgrow _ _
                            have HO4 := Lib.hid hown2
                            have HG4 := Lib.hid hgrow
                            clear hown2 hgrow
                            go_wp2_with fail
                            go_roundw
                            case rel =>
                              refine ⟨n + 1, lc2 ++ [x], b1 || cd, by omega, by go_num, rfl, ?_, ?_, ?_, ?_⟩
                              · rw [flat4_append, List.length_append]; exact HO4.out
                              · have h9 := HGO.out
                                rw [HDR.out, goL_step q x _ lc bb b1 cd HB1.out HCD.out, ← HLC2.out] at h9
                                exact h9
                              · have h1 := HLN2.out; have h2 := HLC.out; rw [List.length_append]; simp only [List.length_singleton]; omega
                              · exact (FN3.out.alloc _).grown HG4.out (fun k hk => .inr (by rw [HB2.out]; exact (row_base HO3.out k hk).1))
                            case measure => simp [intOf]; omega
                  · have hne : n = out.length := by omega
                    subst hne
                    have hgo := HGO.out
                    rw [List.drop_of_length_le (Nat.le_refl _), goL] at hgo
                    have HLCB := Lib.hid (show lc.length ≤ 600 from by have h1 := HIL.out; have h2 := HM300.out; have h3 := HLC.out; omega)
                    have HFIN : ∀ v w9, w9.ownsRow B2 91 4 v (insL out q).length (flat4 (insL out q)) → Fr (fun _ => False) wo2 w9 → ∃ p d, v = .slice p (insL out q).length d ∧ (insL out q).length ≤ d ∧ LL w9 p (insL out q) ∧ Fr (fun _ => False) w w9 := fun v w9 h1 h2 => by
                      obtain ⟨p9, c9, rfl⟩ := row_slice h1
                      refine ⟨p9, c9, rfl, ?_, LL_row h1, F11.out.trans h2 (fun _ h _ => h)⟩
                      rcases h1.2 with ⟨he, h0⟩ | ⟨g', cap, cur, he, _, _, hn9, _⟩
                      · simp only [Value.slice.injEq] at he; omega
                      · simp only [Value.slice.injEq] at he; omega
                    have HF9 := Lib.hid HFIN
                    clear HFIN
                    cases bb
                    · rw [if_neg (by simp)] at hgo
                      have HGO2 := Lib.hid hgo
                      clear hgo
                      obtain ⟨i0, hi0, hz0, hz1, hz2⟩ := info_parts info91
                      obtain ⟨q0, q1, q2, q3⟩ := link_cells (ZFr.blk_fr H11.out HFN.out (fun h => h))
                      go_wp2_with (at_builtin; refine wpList_append_own_at _ rfl (.tmp 140) (.tmp 142) 65 rfl B2 91 i0 _ 4 32 Try.underlying65 hi0 hz0 hz1 hz2 rfl (by decide) (.slice pl lc.length cl) lc.length (flat4 lc) rfl (HO.out.alloc _) ⟨wr.heap.size, 0, none⟩ 1 1 (enc4 q) rfl rfl ?d1 ?d2 ?d3 ?d4 ?d5 ?more)
                      case d1 => exact fun j u hj => hj
                      case d2 => intro u hu; simp [enc4] at hu; rcases hu with rfl | rfl | rfl | rfl <;> rfl
                      case d3 => have h1 := HLCB.out; unfold maxLen; omega
                      case d4 => have h1 := HLCB.out; omega
                      case d5 =>
                        have e1 := HFN.out.size
                        have e2 := HB2.out
                        simp
                        omega
                      case more =>
                        intro v2 w2 hown2 hgrow _ _
                        have HX9 := Lib.hid (HF9.out v2 w2 (by rw [← HGO2.out, flat4_append, List.length_append]; exact hown2) ((HFN.out.alloc _).grown hgrow (fun k hk => .inr (by rw [HB2.out]; exact (row_base HO.out k hk).1))))
                        clear hown2 hgrow
                        go_wp2_with fail
                        go_roundw
                        case rel =>
                          obtain ⟨p9, c9, rfl, h1, h2, h3⟩ := HX9.out
                          refine ⟨j + 1, by omega, by go_num, ⟨p9, c9, ?_, ?_, ?_⟩, h3⟩
                          · rw [show 3 * k + (j + 1) = m + 1 from by have := HM.out; omega, HSO.out]
                          · rw [show 3 * k + (j + 1) = m + 1 from by have := HM.out; omega, HSO.out]; exact h1
                          · rw [show 3 * k + (j + 1) = m + 1 from by have := HM.out; omega, HSO.out]; exact h2
                        case measure => simp [intOf]; omega
                    · rw [if_pos rfl] at hgo
                      have ho9 := HO.out
                      rw [hgo] at ho9
                      have HX9 := Lib.hid (HF9.out _ wr ho9 HFN.out)
                      have HGO2 := Lib.hid hgo
                      clear hgo ho9
                      go_wp2_with fail
                      go_roundw
                      case rel =>
                        obtain ⟨p9, c9, e9, h1, h2, h3⟩ := HX9.out
                        try rw [HGO2.out]
                        try rw [HGO2.out] at e9
                        refine ⟨j + 1, by omega, by go_num, ⟨p9, c9, ?_, ?_, ?_⟩, h3⟩
                        · rw [show 3 * k + (j + 1) = m + 1 from by have := HM.out; omega, HSO.out]; exact e9
                        · rw [show 3 * k + (j + 1) = m + 1 from by have := HM.out; omega, HSO.out]; exact h1
                        · rw [show 3 * k + (j + 1) = m + 1 from by have := HM.out; omega, HSO.out]; exact h2
                      case measure => simp [intOf]; omega
        · have hje : j = 3 := by omega
          subst hje
          go_wp2_with fail
          go_roundw
          case rel => exact ⟨k + 1, by omega, by go_num, ⟨_, _, rfl, HD.out, HL.out⟩, HF.out⟩
          case measure => simp [intOf]; omega
    · have hke : k = l.length := by omega
      subst hke
      have hL := HL.out
      have hD := HD.out
      rw [lkl_all] at hL hD ⊢
      have HX := Lib.hid (LL_c hL (by have h1 := insAll_len (lks l); have h2 := lks_len l; have h3 := H100.out; omega))
      have HD2 := Lib.hid hD
      clear hL hD
      go_wp2_with fail
      go_ret
      exact ⟨_, _, rfl, HD2.out, HX.out, HF.out⟩
end Go.Proofs.Ytngmkjgklonfmaa.Lk
