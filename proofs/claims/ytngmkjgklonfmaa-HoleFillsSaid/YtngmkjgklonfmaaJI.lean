/- Joined texts. -/
import Derived.Test.YtngmkjgklonfmaaJH
import Derived.Deep.DeepCutAuto
/- What is used of HoC. -/
namespace Go.Proofs.Ytngmkjgklonfmaa.Wd
open Go.RowKit Go.Proofs.ZFr Go.Proofs.Ytngmkjgklonfmaa.PNearNearest Go.Proofs.Ytngmkjgklonfmaa.Big Go.Proofs.YtngmkjgklonfmaaW.PrintWords
theorem eqA24 (d : Nat) (w : World) (x0 y0 x1 y1 : Int) :
    (Op.equalIn (d + 2) 24 (.agg #[.int .i64 x0, .int .i64 x1]) (.agg #[.int .i64 y0, .int .i64 y1])).run Try.prog w = .ok (x0 == y0 && (x1 == y1)) w := by
  refine eqA_of Try.underlying24 (by kernel_rfl) ?_
  refine eqf_cons (by rfl) (by go_simp; rfl) (by go_simp; rfl) (by go_simp) ?_
  exact eqf_last (by rfl) (by go_simp; rfl) (by go_simp; rfl) (by go_simp)
attribute [local go_sem high] eqA24
abbrev pt (x y : Int) : Value := .agg #[.int .i64 x, .int .i64 y]
abbrev pb (x y : Int) : Obj := .cells #[.int .i64 x, .int .i64 y] 24
/-- What the program tells of four corners of a square. -/
def ICz : Prop := ∀ W, Calls Try.prog 142 #[pt 0 0, pt 2 0, pt 2 2, pt 0 2] W fun e w' => e = .returned (.int .i64 0) ∧ Fr (fun _ => False) W w'
theorem or_c (ax ay bx bY cx cy R : Int) (h : (inP ax ∧ inP ay) ∧ (inP bx ∧ inP bY) ∧ inP cx ∧ inP cy) (hR : ori ax ay bx bY cx cy = R) (W : World) : Calls Try.prog 124 #[pt ax ay, pt bx bY, pt cx cy] W fun e w' => e = .returned (.int .i64 R) ∧ Fr (fun _ => False) W w' := by
  rw [← hR]; exact Orient_walk ax ay bx bY cx cy W h.1.1 h.1.2 h.2.1.1 h.2.1.2 h.2.2.1 h.2.2.2
theorem pts_h {w : World} {g : Nat} (L : List PHoleLong.S24) (hl : L.length ≤ 100) (h : ∀ i (hi : i < L.length), w.cell? ⟨g, i * 2, none⟩ = some (.int .i64 L[i].f0) ∧ w.cell? ⟨g, i * 2 + 1, none⟩ = some (.int .i64 L[i].f1)) : Kd.C PHoleLong.k24 w (some ⟨g, 0, none⟩) L.length L := by
  refine ⟨rfl, by omega, fun _ => ⟨_, rfl, fun j p hj => ?_⟩⟩
  obtain ⟨hjl, hx⟩ := List.getElem?_eq_some_iff.1 hj
  obtain ⟨h0, h1⟩ := h j hjl
  rw [hx] at h0 h1
  refine ⟨_, rfl, PHoleLong.k24_mk w p, fun i u hu => ?_⟩
  have ea : ∀ i, (⟨g, 0, none⟩ : Addr).add (j * PHoleLong.k24.sz + i) = ⟨g, j * 2 + i, none⟩ := fun i => by
    rw [show PHoleLong.k24.sz = 2 from rfl]; unfold Addr.add; split <;> simp_all
  rw [ea]
  match i, hu with
  | 0, hu => simp at hu; subst hu; exact h0
  | 1, hu => simp at hu; subst hu; exact h1
theorem eight {w : World} {g : Nat} {a b c d e f p q : Int} (h : w.heap[g]? = some (.cells #[.int .i64 a, .int .i64 b, .int .i64 c, .int .i64 d, .int .i64 e, .int .i64 f, .int .i64 p, .int .i64 q] 24 (0, 0))) : Kd.C PHoleLong.k24 w (some ⟨g, 0, none⟩) 4 [⟨a, b⟩, ⟨c, d⟩, ⟨e, f⟩, ⟨p, q⟩] := by
  refine pts_h [⟨a, b⟩, ⟨c, d⟩, ⟨e, f⟩, ⟨p, q⟩] (by simp) (fun i hi => ?_)
  match i, hi with
  | 0, _ => exact ⟨ZFr.blk_cell h 0, ZFr.blk_cell h 1⟩
  | 1, _ => exact ⟨ZFr.blk_cell h 2, ZFr.blk_cell h 3⟩
  | 2, _ => exact ⟨ZFr.blk_cell h 4, ZFr.blk_cell h 5⟩
  | 3, _ => exact ⟨ZFr.blk_cell h 6, ZFr.blk_cell h 7⟩
theorem last_f : PHoleLong.tie_last.f 40 [⟨0, 0⟩, ⟨2, 0⟩, ⟨2, 2⟩, ⟨0, 2⟩] = some 2 := by decide +kernel
set_option maxRecDepth 100000 in
set_option maxHeartbeats 4000000 in
theorem conflict_walk (IC : ICz) (W : World) : Calls Try.prog 125 #[pt 0 0, pt 2 0, pt 2 2, pt 0 2] W fun e w' => e = .returned (.bool true) ∧ Fr (fun _ => False) W w' := by
  have O1 := Lib.hid (or_c 0 0 2 0 2 2 1 (by decide) (by decide))
  have O2 := Lib.hid (or_c 0 0 2 0 0 2 1 (by decide) (by decide))
  have I1 := Lib.hid IC
  unfold pt at O1 O2 ⊢
  unfold ICz pt at I1
  have HQ := Lib.hid (quad4 W (pb 0 0) (pb 2 0) (pb 2 2) (pb 0 2))
  unfold pb at HQ
  go_enter Try.func125, Try.ntmps125
  go_wp2_with fail
  obtain ⟨w4, hw4, t1, t2, t3, t4, f4⟩ := HQ.out
  rw [hw4]
  have T1 := Lib.hid t1
  have T2 := Lib.hid t2
  have T3 := Lib.hid t3
  have T4 := Lib.hid t4
  have F4 := Lib.hid f4
  clear hw4 t1 t2 t3 t4 f4 HQ
  have PC := Lib.hid (fun w (h : Fr (fun _ => False) w4 w) => And.intro (point_cells (ZFr.blk_fr T1.out h (fun h => h))) (And.intro (point_cells (ZFr.blk_fr T2.out h (fun h => h))) (And.intro (point_cells (ZFr.blk_fr T3.out h (fun h => h))) (point_cells (ZFr.blk_fr T4.out h (fun h => h))))))
  obtain ⟨⟨p1, p2⟩, ⟨p3, p4⟩, ⟨p5, p6⟩, p7, p8⟩ := PC.out w4 (Fr.refl _ w4)
  go_wp2_with (first
    | (go_at_call 124; have hc_ := O2.out w7; (with_reducible refine hc_.mono ?_); clear hc_; rintro e w8 ⟨rfl, f8⟩; have E8 := Lib.hid (E7.out.trans f8 (fun _ h _ => h)); clear f8)
    | (go_at_call 143; have hc_ := (show Calls Try.prog 143 #[.slice (some ⟨w6.heap.size, 0, none⟩) 4 4] (w6.alloc (Obj.cells #[.int .i64 0, .int .i64 0, .int .i64 2, .int .i64 0, .int .i64 2, .int .i64 2, .int .i64 0, .int .i64 2] 24)) (fun e w' => e = .returned (.int .i64 2) ∧ Below (w6.alloc (Obj.cells #[.int .i64 0, .int .i64 0, .int .i64 2, .int .i64 0, .int .i64 2, .int .i64 2, .int .i64 0, .int .i64 2] 24)).heap.size (w6.alloc (Obj.cells #[.int .i64 0, .int .i64 0, .int .i64 2, .int .i64 0, .int .i64 2, .int .i64 2, .int .i64 0, .int .i64 2] 24)) w') from PHoleLong.tie_last.calls 40 (some ⟨w6.heap.size, 0, none⟩) 4 [⟨0, 0⟩, ⟨2, 0⟩, ⟨2, 2⟩, ⟨0, 2⟩] 2 _ (eight (heap_alloc_new w6 _)) (Nat.le_refl 4) last_f); (with_reducible refine hc_.mono ?_); clear hc_; rintro e w7 ⟨rfl, b7⟩; have E7 := Lib.hid ((E6.out.alloc (Obj.cells #[.int .i64 0, .int .i64 0, .int .i64 2, .int .i64 0, .int .i64 2, .int .i64 2, .int .i64 0, .int .i64 2] 24)).trans (Fr.of_below b7) (fun _ h _ => h)); obtain ⟨⟨p1, p2⟩, ⟨p3, p4⟩, ⟨p5, p6⟩, p7, p8⟩ := PC.out w7 E7.out; clear b7)
    | (go_at_call 142; have hc_ := I1.out w5; (with_reducible refine hc_.mono ?_); clear hc_; rintro e w6 ⟨rfl, f6⟩; have E6 := Lib.hid (E5.out.trans f6 (fun _ h _ => h)); obtain ⟨⟨p1, p2⟩, ⟨p3, p4⟩, ⟨p5, p6⟩, p7, p8⟩ := PC.out w6 E6.out; clear f6)
    | (go_at_call 124; have hc_ := O1.out w4; (with_reducible refine hc_.mono ?_); clear hc_; rintro e w5 ⟨rfl, f5⟩; have E5 := Lib.hid f5; obtain ⟨⟨p1, p2⟩, ⟨p3, p4⟩, ⟨p5, p6⟩, p7, p8⟩ := PC.out w5 E5.out; clear f5))
  go_ret
  exact ⟨rfl, F4.out.trans E8.out (fun _ h _ => h)⟩
end Go.Proofs.Ytngmkjgklonfmaa.Wd


/- What is used of HoD. -/
namespace Go.Proofs.Ytngmkjgklonfmaa.Wd
open Go.RowKit Go.Proofs.ZFr Go.Proofs.Ytngmkjgklonfmaa.PNearNearest Go.Proofs.Ytngmkjgklonfmaa.Big Go.Proofs.YtngmkjgklonfmaaW.PrintWords
attribute [local go_sem ↓] Go.wp_at_zero Go.wp_at_succ
set_option maxRecDepth 100000 in
set_option maxHeartbeats 4000000 in
theorem best4_walk (IC : ICz) (g c : Nat) (W : World) (h : W.cell? ⟨g, 0, none⟩ = some (.int .i64 2) ∧ W.cell? ⟨g, 1, none⟩ = some (.int .i64 2) ∧ W.cell? ⟨g, 2, none⟩ = some (.int .i64 0) ∧ W.cell? ⟨g, 3, none⟩ = some (.int .i64 2)) : Calls Try.prog 93 #[pt 0 0, pt 2 0, .slice (some ⟨g, 0, none⟩) 2 c] W fun e w' => e = .returned (.int .i64 1) ∧ Fr (fun _ => False) W w' := by
  have O1 := Lib.hid (or_c 0 0 2 0 2 2 1 (by decide) (by decide))
  have O2 := Lib.hid (or_c 0 0 2 0 0 2 1 (by decide) (by decide))
  have CF := Lib.hid (conflict_walk IC)
  unfold pt at O1 O2 CF ⊢
  have HG := Lib.hid (fun w (hf : Fr (fun _ => False) W w) => And.intro (fr_cell h.1 hf) (And.intro (fr_cell h.2.1 hf) (And.intro (fr_cell h.2.2.1 hf) (fr_cell h.2.2.2 hf))))
  clear h
  have t1 := ZFr.blk_alloc (heap_alloc_new W (pb 0 0)) (pb 2 0)
  have t2 := second W (pb 0 0) (pb 2 0)
  have f2 := ((Fr.refl (fun _ => False) W).alloc (pb 0 0)).alloc (pb 2 0)
  unfold pb at t1 t2 f2
  go_enter Try.func93, Try.ntmps93
  go_wp2_with fail
  generalize (W.alloc (Obj.cells #[.int .i64 0, .int .i64 0] 24)).alloc (Obj.cells #[.int .i64 2, .int .i64 0] 24) = w2 at t1 t2 f2 ⊢
  have T1 := Lib.hid t1
  have T2 := Lib.hid t2
  have F2 := Lib.hid f2
  clear t1 t2 f2
  have PC := Lib.hid (fun w (hf : Fr (fun _ => False) w2 w) => And.intro (point_cells (ZFr.blk_fr T1.out hf (fun h => h))) (And.intro (point_cells (ZFr.blk_fr T2.out hf (fun h => h))) (HG.out w (F2.out.trans hf (fun _ h _ => h)))))
  go_loopw [7, 12] (fun b i wr => ∃ k : Nat, k ≤ 2 ∧ i = .int .i64 (k : Int) ∧ b = .int .i64 ((k : Int) - 1) ∧ Fr (fun _ => False) w2 wr) (fun _ i _ => (2 - intOf i).toNat)
  case atStart => exact ⟨0, by omega, rfl, rfl, Fr.refl _ _⟩
  case round =>
    obtain ⟨k, hk, rfl, rfl, hf⟩ := hrel
    have HF := Lib.hid hf
    clear hf
    have hkk : k = 0 ∨ k = 1 ∨ k = 2 := by omega
    rcases hkk with rfl | rfl | rfl
    · obtain ⟨⟨p1, p2⟩, ⟨p3, p4⟩, q1, q2, q3, q4⟩ := PC.out wr HF.out
      have TB := Lib.hid (heap_alloc_new wr (Obj.cells #[.int .i64 2, .int .i64 2] 24))
      have FB := Lib.hid (HF.out.alloc (Obj.cells #[.int .i64 2, .int .i64 2] 24))
      go_upto_region 5 with fail
      clear p1 p2 p3 p4 q1 q2 q3 q4
      generalize wr.alloc (Obj.cells #[.int .i64 2, .int .i64 2] 24) = w4 at TB FB ⊢
      obtain ⟨⟨p1, p2⟩, ⟨p3, p4⟩, q1, q2, q3, q4⟩ := PC.out w4 FB.out
      obtain ⟨r1, r2⟩ := point_cells TB.out
      go_upto_region 6 with (go_at_call 124; have hc_ := O1.out w4; (with_reducible refine hc_.mono ?_); clear hc_; rintro e w5 ⟨rfl, f5⟩; have F5 := Lib.hid (FB.out.trans f5 (fun _ h _ => h)); clear f5)
      go_quiet (fail)
      go_wp2_with fail
      go_roundw
      case rel => exact ⟨1, by omega, rfl, rfl, F5.out.drewN _⟩
      case measure => simp [intOf]
    · obtain ⟨⟨p1, p2⟩, ⟨p3, p4⟩, q1, q2, q3, q4⟩ := PC.out wr HF.out
      have TA := Lib.hid (heap_alloc_new wr (Obj.cells #[.int .i64 0, .int .i64 2] 24))
      have FB := Lib.hid (HF.out.alloc (Obj.cells #[.int .i64 0, .int .i64 2] 24))
      go_upto_region 5 with fail
      clear p1 p2 p3 p4 q1 q2 q3 q4
      generalize wr.alloc (Obj.cells #[.int .i64 0, .int .i64 2] 24) = w4 at TA FB ⊢
      generalize wr.heap.size = b9 at TA ⊢
      obtain ⟨⟨p1, p2⟩, ⟨p3, p4⟩, q1, q2, q3, q4⟩ := PC.out w4 FB.out
      obtain ⟨r1, r2⟩ := point_cells TA.out
      go_upto_region 6 with (go_at_call 124; have hc_ := O2.out w4; (with_reducible refine hc_.mono ?_); clear hc_; rintro e w5 ⟨rfl, f5⟩; have TB := Lib.hid (ZFr.blk_fr TA.out f5 (fun h => h)); have F5 := Lib.hid (FB.out.trans f5 (fun _ h _ => h)); clear f5)
      clear p1 p2 p3 p4 q1 q2 q3 q4 r1 r2
      have PD := Lib.hid (fun w (hf : Fr (fun _ => False) w5 w) => And.intro (PC.out w (F5.out.trans hf (fun _ h _ => h))) (point_cells (ZFr.blk_fr TB.out hf (fun h => h))))
      obtain ⟨⟨⟨p1, p2⟩, ⟨p3, p4⟩, q1, q2, q3, q4⟩, r1, r2⟩ := PD.out w5.drew (Fr.refl _ w5).drew
      go_region_held3 (fun w' => w'.cell? ⟨W.heap.size, 0, none⟩ = some (.int .i64 0) ∧ w'.cell? ⟨W.heap.size, 1, none⟩ = some (.int .i64 0) ∧ w'.cell? ⟨W.heap.size + 1, 0, none⟩ = some (.int .i64 2) ∧ w'.cell? ⟨W.heap.size + 1, 1, none⟩ = some (.int .i64 0) ∧ w'.cell? ⟨g, 0, none⟩ = some (.int .i64 2) ∧ w'.cell? ⟨g, 1, none⟩ = some (.int .i64 2) ∧ w'.cell? ⟨b9, 0, none⟩ = some (.int .i64 0) ∧ w'.cell? ⟨b9, 1, none⟩ = some (.int .i64 2))
        (refine ⟨?_, ?_, ?_, ?_, ?_, ?_, ?_, ?_⟩ <;> with_reducible assumption)
        ((go_at_call 125; have hc_ := CF.out w5.drew; (with_reducible refine hc_.mono ?_); clear hc_; rintro e w6 ⟨rfl, f6⟩; have E6 := Lib.hid ((Fr.refl (fun _ => False) w5).drew.trans f6 (fun _ h _ => h)); obtain ⟨⟨⟨z1, z2⟩, ⟨z3, z4⟩, y1, y2, y3, y4⟩, x1, x2⟩ := PD.out w6 E6.out; clear f6))
      all_goals
        go_wp2_with fail
        go_roundw
        case rel => exact ⟨2, by omega, rfl, rfl, F5.out.trans E6.out (fun _ h _ => h)⟩
        case measure => simp [intOf]
    · go_wp2_with fail
      go_ret
      exact ⟨rfl, F2.out.trans HF.out (fun _ h _ => h)⟩
set_option maxRecDepth 100000 in
set_option maxHeartbeats 4000000 in
theorem best3_walk (g c : Nat) (W : World) (h : W.cell? ⟨g, 0, none⟩ = some (.int .i64 0) ∧ W.cell? ⟨g, 1, none⟩ = some (.int .i64 2)) : Calls Try.prog 93 #[pt 2 0, pt 2 2, .slice (some ⟨g, 0, none⟩) 1 c] W fun e w' => e = .returned (.int .i64 0) ∧ Fr (fun _ => False) W w' := by
  have O1 := Lib.hid (or_c 2 0 2 2 0 2 1 (by decide) (by decide))
  unfold pt at O1 ⊢
  have HG := Lib.hid (fun w (hf : Fr (fun _ => False) W w) => And.intro (fr_cell h.1 hf) (fr_cell h.2 hf))
  clear h
  have t1 := ZFr.blk_alloc (heap_alloc_new W (pb 2 0)) (pb 2 2)
  have t2 := second W (pb 2 0) (pb 2 2)
  have f2 := ((Fr.refl (fun _ => False) W).alloc (pb 2 0)).alloc (pb 2 2)
  unfold pb at t1 t2 f2
  go_enter Try.func93, Try.ntmps93
  go_wp2_with fail
  generalize (W.alloc (Obj.cells #[.int .i64 2, .int .i64 0] 24)).alloc (Obj.cells #[.int .i64 2, .int .i64 2] 24) = w2 at t1 t2 f2 ⊢
  have T1 := Lib.hid t1
  have T2 := Lib.hid t2
  have F2 := Lib.hid f2
  clear t1 t2 f2
  have PC := Lib.hid (fun w (hf : Fr (fun _ => False) w2 w) => And.intro (point_cells (ZFr.blk_fr T1.out hf (fun h => h))) (And.intro (point_cells (ZFr.blk_fr T2.out hf (fun h => h))) (HG.out w (F2.out.trans hf (fun _ h _ => h)))))
  go_loopw [7, 12] (fun b i wr => ∃ k : Nat, k ≤ 1 ∧ i = .int .i64 (k : Int) ∧ b = .int .i64 ((k : Int) - 1) ∧ Fr (fun _ => False) w2 wr) (fun _ i _ => (1 - intOf i).toNat)
  case atStart => exact ⟨0, by omega, rfl, rfl, Fr.refl _ _⟩
  case round =>
    obtain ⟨k, hk, rfl, rfl, hf⟩ := hrel
    have HF := Lib.hid hf
    clear hf
    have hkk : k = 0 ∨ k = 1 := by omega
    rcases hkk with rfl | rfl
    · obtain ⟨⟨p1, p2⟩, ⟨p3, p4⟩, q1, q2⟩ := PC.out wr HF.out
      have TB := Lib.hid (heap_alloc_new wr (Obj.cells #[.int .i64 0, .int .i64 2] 24))
      have FB := Lib.hid (HF.out.alloc (Obj.cells #[.int .i64 0, .int .i64 2] 24))
      go_upto_region 5 with fail
      clear p1 p2 p3 p4 q1 q2
      generalize wr.alloc (Obj.cells #[.int .i64 0, .int .i64 2] 24) = w4 at TB FB ⊢
      obtain ⟨⟨p1, p2⟩, ⟨p3, p4⟩, q1, q2⟩ := PC.out w4 FB.out
      obtain ⟨r1, r2⟩ := point_cells TB.out
      go_upto_region 6 with (go_at_call 124; have hc_ := O1.out w4; (with_reducible refine hc_.mono ?_); clear hc_; rintro e w5 ⟨rfl, f5⟩; have F5 := Lib.hid (FB.out.trans f5 (fun _ h _ => h)); clear f5)
      go_quiet (fail)
      go_wp2_with fail
      go_roundw
      case rel => exact ⟨1, by omega, rfl, rfl, F5.out.drewN _⟩
      case measure => simp [intOf]
    · go_wp2_with fail
      go_ret
      exact ⟨rfl, F2.out.trans HF.out (fun _ h _ => h)⟩
end Go.Proofs.Ytngmkjgklonfmaa.Wd

