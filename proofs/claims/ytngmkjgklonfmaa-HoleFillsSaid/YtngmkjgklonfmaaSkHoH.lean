/- What is used of HoH. -/
import Derived.Test.YtngmkjgklonfmaaSkHoG
namespace Go.Proofs.Ytngmkjgklonfmaa.Wd
open Go.RowKit Go.Proofs.ZFr Go.Proofs.Ytngmkjgklonfmaa.PNearNearest Go.Proofs.Ytngmkjgklonfmaa.Big Go.Proofs.YtngmkjgklonfmaaW.PrintWords
theorem eqA60 (d : Nat) (w : World) (x0 x1 x2 y0 y1 y2 : Int) : (Op.equalIn (d + 2) 60 (.agg #[.int .i64 x0, .int .i64 x1, .int .i64 x2]) (.agg #[.int .i64 y0, .int .i64 y1, .int .i64 y2])).run Try.prog w = .ok (x0 == y0 && (x1 == y1 && (x2 == y2 && true))) w := by
  obtain ⟨i0, hi0, _⟩ := info_parts pinfo3
  rw [Go.run_equalIn_array w (d + 1) _ _ Try.underlying60 hi0, show Try.prog.cellsOf 3 = 1 from by kernel_rfl, show List.range 3 = [0, 1, 2] from rfl]
  refine eqi_cons (by go_simp; rfl) (by go_simp; rfl) (by go_simp) ?_
  refine eqi_cons (by go_simp; rfl) (by go_simp; rfl) (by go_simp) ?_
  refine eqi_cons (by go_simp; rfl) (by go_simp; rfl) (by go_simp) ?_
  simp [Op.eqItems]
attribute [local go_sem high] eqA60
def Six (w : World) (g : Nat) : Prop := w.cell? ⟨g, 0, none⟩ = some (.int .i64 0) ∧ w.cell? ⟨g, 1, none⟩ = some (.int .i64 1) ∧ w.cell? ⟨g, 2, none⟩ = some (.int .i64 3) ∧ w.cell? ⟨g, 3, none⟩ = some (.int .i64 1) ∧ w.cell? ⟨g, 4, none⟩ = some (.int .i64 2) ∧ w.cell? ⟨g, 5, none⟩ = some (.int .i64 3)
theorem Six.fr {w w' : World} {g : Nat} (h : Six w g) (hf : Fr (fun _ => False) w w') : Six w' g := by
  obtain ⟨h0, h1, h2, h3, h4, h5⟩ := h
  exact ⟨fr_cell h0 hf, fr_cell h1 hf, fr_cell h2 hf, fr_cell h3 hf, fr_cell h4 hf, fr_cell h5 hf⟩
set_option maxRecDepth 100000 in
set_option maxHeartbeats 4000000 in
theorem same13_walk (ga gb c d : Nat) (W : World) (ha : Six W ga) (hb : Six W gb) : Calls Try.prog 19 #[.slice (some ⟨ga, 0, none⟩) 2 c, .slice (some ⟨gb, 0, none⟩) 2 d] W fun e w' => e = .returned (.bool true) ∧ Fr (fun _ => False) W w' := by
  have HA := Lib.hid ha
  have HB := Lib.hid hb
  clear ha hb
  go_enter Try.func19, Try.ntmps19
  go_wp2_with fail
  go_loopw [5] (fun i wr => ∃ k : Nat, k ≤ 2 ∧ i = .int .i64 (k : Int) ∧ Fr (fun _ => False) W wr) (fun i _ => (2 - intOf i).toNat)
  case atStart => exact ⟨0, by omega, rfl, Fr.refl _ _⟩
  case round =>
    obtain ⟨k, hk, rfl, hf⟩ := hrel
    have HF := Lib.hid hf
    obtain ⟨a0, a1, a2, a3, a4, a5⟩ := HA.out.fr hf
    obtain ⟨b0, b1, b2, b3, b4, b5⟩ := HB.out.fr hf
    clear hf
    have hkk : k = 0 ∨ k = 1 ∨ k = 2 := by omega
    rcases hkk with rfl | rfl | rfl
    · go_wp2_with fail
      go_quiet (fail)
      go_wp2_with fail
      go_roundw
      case rel => exact ⟨1, by omega, rfl, HF.out.drewN _⟩
      case measure => simp [intOf]
    · go_wp2_with fail
      go_quiet (fail)
      go_wp2_with fail
      go_roundw
      case rel => exact ⟨2, by omega, rfl, HF.out.drewN _⟩
      case measure => simp [intOf]
    · go_wp2_with fail
      go_ret
      exact ⟨rfl, HF.out⟩
set_option maxRecDepth 100000 in
set_option maxHeartbeats 4000000 in
theorem lives13 (IC : ICz) (W : World) : Calls Try.prog 20 #[] W fun e w' => e = .returned (.bool true) ∧ Fr (fun _ => False) W w' := by
  have T1 := Lib.hid (heap_alloc_new W (Obj.cells #[.int .i64 0, .int .i64 0, .int .i64 2, .int .i64 0, .int .i64 2, .int .i64 2, .int .i64 0, .int .i64 2] 24))
  have F1 := Lib.hid ((Fr.refl (fun _ => False) W).alloc (Obj.cells #[.int .i64 0, .int .i64 0, .int .i64 2, .int .i64 0, .int .i64 2, .int .i64 2, .int .i64 0, .int .i64 2] 24))
  have FY := Lib.hid (Fill_yes IC W.heap.size 4 (W.alloc (Obj.cells #[.int .i64 0, .int .i64 0, .int .i64 2, .int .i64 0, .int .i64 2, .int .i64 2, .int .i64 0, .int .i64 2] 24)) ⟨ZFr.blk_cell T1.out 0, ZFr.blk_cell T1.out 1, ZFr.blk_cell T1.out 2, ZFr.blk_cell T1.out 3, ZFr.blk_cell T1.out 4, ZFr.blk_cell T1.out 5, ZFr.blk_cell T1.out 6, ZFr.blk_cell T1.out 7⟩)
  go_enter Try.func20, Try.ntmps20
  go_wp2_with (first
    | (go_at_call 19; have hc_ := SM.out; (with_reducible refine hc_.mono ?_); clear hc_; rintro e w5 ⟨rfl, f5⟩; have F5 := Lib.hid f5; clear f5)
    | (go_at_call 17; have hc_ := FY.out; (with_reducible refine hc_.mono ?_); clear hc_; rintro e w3 ⟨v3, rfl, r3, f3⟩; obtain ⟨g3, c3, rfl⟩ := row_some r3 (by decide); have F3 := Lib.hid (F1.out.trans f3 (fun _ h _ => h)); have SM := Lib.hid (same13_walk g3 w3.heap.size c3 2 (w3.alloc (Obj.cells #[.int .i64 0, .int .i64 1, .int .i64 3, .int .i64 1, .int .i64 2, .int .i64 3] 60)) (Six.fr ⟨row_cell r3 0 _ rfl, row_cell r3 1 _ rfl, row_cell r3 2 _ rfl, row_cell r3 3 _ rfl, row_cell r3 4 _ rfl, row_cell r3 5 _ rfl⟩ ((Fr.refl _ w3).alloc _)) ⟨ZFr.blk_cell (heap_alloc_new w3 _) 0, ZFr.blk_cell (heap_alloc_new w3 _) 1, ZFr.blk_cell (heap_alloc_new w3 _) 2, ZFr.blk_cell (heap_alloc_new w3 _) 3, ZFr.blk_cell (heap_alloc_new w3 _) 4, ZFr.blk_cell (heap_alloc_new w3 _) 5⟩); clear r3 f3))
  go_ret
  exact ⟨rfl, (F3.out.alloc _).trans F5.out (fun _ h _ => h)⟩
end Go.Proofs.Ytngmkjgklonfmaa.Wd

