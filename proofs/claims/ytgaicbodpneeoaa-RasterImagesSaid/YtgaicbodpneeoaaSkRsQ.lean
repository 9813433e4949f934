/- What is used of RsQ. -/
import Derived.Test.YtgaicbodpneeoaaSkRsN
import Derived.BigQuiet
import Derived.Deep.QuietTactic
namespace Go.Proofs.Ytgaicbodpneeoaa.Rs
open Go.RowKit Go.Proofs.ZFr Go.Proofs.Ytgaicbodpneeoaa.PRasterImages Go.Proofs.Ytgaicbodpneeoaa.Wd Go.Proofs.YtgaicbodpneeoaaW.PrintWords
def sV (s : Sp) : Value := .agg #[.int .i64 s.f, .int .i64 s.t, .int .i64 s.id]
theorem span_cells {w : World} {b : Nat} {x y z : Int} (H : w.heap[b]? = some (.cells #[.int .i64 x, .int .i64 y, .int .i64 z] 31 (0, 0))) : w.cell? ⟨b, 0, none⟩ = some (.int .i64 x) ∧ w.cell? ⟨b, 1, none⟩ = some (.int .i64 y) ∧ w.cell? ⟨b, 2, none⟩ = some (.int .i64 z) := ⟨ZFr.blk_cell H 0, ZFr.blk_cell H 1, ZFr.blk_cell H 2⟩
/-- Spans of one's own. -/
def OwnS (w : World) (B : Nat) (v : Value) (l : List Sp) : Prop := w.ownsRow B 31 3 v l.length (l.flatMap cellsS)
theorem flat_snoc (l : List Sp) (s : Sp) : (l ++ [s]).flatMap cellsS = l.flatMap cellsS ++ cellsS s := by rw [List.flatMap_append]; simp
set_option maxRecDepth 100000 in
set_option maxHeartbeats 4000000 in
theorem joined_walk (B : Nat) (v : Value) (R : List Sp) (s : Sp) (W : World) (ho : OwnS W B v R.reverse) (hB : B ≤ W.heap.size) (hl : R.length ≤ 1000000) :
    Calls Try.prog 15 #[v, sV s] W fun e w' => ∃ v', e = .returned v' ∧ OwnS w' B v' (joined R s).reverse ∧ Fr (fun k => v.ownBlock = some k) W w' ∧ (∀ k, v'.ownBlock = some k → v.ownBlock = some k ∨ W.heap.size ≤ k) := by
  unfold OwnS at ho ⊢
  rw [List.length_reverse] at ho ⊢
  obtain ⟨sf, st, si⟩ := s
  unfold sV
  simp only
  have T0 := Lib.hid (heap_alloc_new W (Obj.cells #[Value.int IntKind.i64 sf, Value.int IntKind.i64 st, Value.int IntKind.i64 si] 31))
  have F0 := Lib.hid ((Fr.refl (fun k => v.ownBlock = some k) W).alloc (Obj.cells #[Value.int IntKind.i64 sf, Value.int IntKind.i64 st, Value.int IntKind.i64 si] 31))
  have O0 := Lib.hid (row_alloc ho (Obj.cells #[Value.int IntKind.i64 sf, Value.int IntKind.i64 st, Value.int IntKind.i64 si] 31))
  have HB := Lib.hid (show B ≤ (W.alloc (Obj.cells #[Value.int IntKind.i64 sf, Value.int IntKind.i64 st, Value.int IntKind.i64 si] 31)).heap.size from by simp; omega)
  rcases R with - | ⟨u, r⟩
  · obtain ⟨pv, pc, rfl⟩ := row_slice ho
    have O0' : Hid (((W.alloc (Obj.cells #[Value.int IntKind.i64 sf, Value.int IntKind.i64 st, Value.int IntKind.i64 si] 31))).ownsRow B 31 3 (.slice pv 0 pc) 0 []) := Lib.hid O0.out
    clear ho O0
    go_enter Try.func15, Try.ntmps15
    go_upto_region 2 with fail
    generalize W.alloc (Obj.cells #[Value.int IntKind.i64 sf, Value.int IntKind.i64 st, Value.int IntKind.i64 si] 31) = w1 at T0 F0 O0' HB ⊢
    obtain ⟨c0, c1, c2⟩ := span_cells T0.out
    go_quiet (fail)
    generalize hw2 : World.drewN w1 _ = wq
    have OQ := Lib.hid (show wq.ownsRow B 31 3 (.slice pv 0 pc) 0 [] from by rw [← hw2]; exact O0'.out)
    have FQ := Lib.hid (show Fr (fun k => (Value.slice pv 0 pc).ownBlock = some k) W wq from by rw [← hw2]; exact F0.out.drewN _)
    have HQ := Lib.hid (show B ≤ wq.heap.size from by rw [← hw2]; exact HB.out)
    obtain ⟨c0, c1, c2⟩ := span_cells (w := wq) (by rw [← hw2]; exact T0.out)
    clear hw2
    go_wp2_with (at_builtin; refine wp_app (by rfl) (.tmp 28) (.tmp 30) 26 (by rfl) info_span Try.underlying26 (by rfl) (by decide) (by decide) (by rfl) OQ.out [.int .i64 sf, .int .i64 st, .int .i64 si] (by rfl) (by rfl) ?a1 (by decide) HQ.out ?a2)
    case a1 => first | exact ⟨rfl, rfl, rfl⟩ | (intro u hu; simp at hu; rcases hu with rfl | rfl | rfl <;> rfl)
    case a2 =>
      intro p2 e2 w2 hown2 f2 hb2
      have OX := Lib.hid hown2
      have F2 := Lib.hid (FQ.out.trans f2 (fun k hk _ => hk))
      have B2 := Lib.hid (fun k hk => (hb2 k hk).imp (fun h => h) (fun h => Nat.le_trans FQ.out.size h))
      clear hown2 f2 hb2
      go_wp2_with fail
      go_ret
      exact ⟨_, rfl, OX.out, F2.out, B2.out⟩
  · have e : (u :: r).reverse.flatMap cellsS = r.reverse.flatMap cellsS ++ cellsS u := by rw [List.reverse_cons, flat_snoc]
    rw [e, List.length_cons] at ho O0
    obtain ⟨q, c', rfl⟩ := row_some ho (by omega)
    clear ho e
    have hfl : (r.reverse.flatMap cellsS).length = r.length * 3 := by rw [flat_len cellsS_len, List.length_reverse]
    have cl : ∀ j x, (cellsS u)[j]? = some x → (W.alloc (Obj.cells #[Value.int IntKind.i64 sf, Value.int IntKind.i64 st, Value.int IntKind.i64 si] 31)).cell? ⟨q, r.length * 3 + j, none⟩ = some x := fun j x hu => row_at O0.out (by rw [List.getElem?_append_right (by omega), hfl, show r.length * 3 + j - r.length * 3 = j from by omega]; exact hu)
    have l0 := cl 0 _ rfl
    have l1 := cl 1 _ rfl
    have l2 := cl 2 _ rfl
    have fz := row_free O0.out (r.length * 3 + 1)
    rw [Nat.add_zero] at l0
    obtain ⟨uf, ut, ui⟩ := u
    simp only at l0 l1 l2
    have HFL := Lib.hid hfl
    have HJ := Lib.hid (show joined (⟨uf, ut, ui⟩ :: r) ⟨sf, st, si⟩ = if ui = si then ⟨uf, st, ui⟩ :: r else ⟨sf, st, si⟩ :: ⟨uf, ut, ui⟩ :: r from rfl)
    clear cl hfl
    simp only [List.length_cons] at hl
    obtain ⟨n, hn⟩ : ∃ n, r.length = n := ⟨_, rfl⟩
    rw [hn] at l0 l1 l2 fz hl HFL O0
    have HNE := Lib.hid hn
    rw [hn]
    clear hn
    have hn6 : (n : Int) < 1000000 := by omega
    have e0 : IntKind.i64.wrap ((n : Int) + 1 - 1) = (n : Int) := by rw [Go.Proofs.YtgaicbodpneeoaaW.PrintLast.i64_w]; unfold wrap64; omega
    have HL := Lib.hid hl
    clear hl
    go_enter Try.func15, Try.ntmps15
    go_upto_region 2 with fail
    generalize W.alloc (Obj.cells #[Value.int IntKind.i64 sf, Value.int IntKind.i64 st, Value.int IntKind.i64 si] 31) = w1 at T0 F0 O0 HB l0 l1 l2 fz ⊢
    obtain ⟨c0, c1, c2⟩ := span_cells T0.out
    by_cases hid : ui = si
    · have hidb : (ui == si) = true := by simp [hid]
      go_quiet (fail)
      generalize hw2 : World.drewN w1 _ = wq
      have OQ := Lib.hid (show wq.ownsRow B 31 3 (.slice (some ⟨q, 0, none⟩) (n + 1) c') (n + 1) (r.reverse.flatMap cellsS ++ cellsS ⟨uf, ut, ui⟩) from by rw [← hw2]; exact O0.out)
      have FQ := Lib.hid (show Fr (fun k => (Value.slice (some ⟨q, 0, none⟩) (n + 1) c').ownBlock = some k) W wq from by rw [← hw2]; exact F0.out.drewN _)
      have HQ := Lib.hid (show B ≤ wq.heap.size from by rw [← hw2]; exact HB.out)
      obtain ⟨c0, c1, c2⟩ := span_cells (w := wq) (by rw [← hw2]; exact T0.out)
      have l1' : wq.cell? ⟨q, n * 3 + 1, none⟩ = some (.int .i64 ut) := by rw [← hw2]; exact l1
      have fz' : wq.frozen? ⟨q, n * 3 + 1, none⟩ = false := by rw [← hw2]; exact fz
      clear hw2 l0 l1 l2 fz
      have OX := Lib.hid (row_set OQ.out (n * 3 + 1) (.int .i64 st))
      have F2 := Lib.hid (FQ.out.set ⟨q, n * 3 + 1, none⟩ (.int .i64 st) (.inl rfl))
      go_wp2_with fail
      go_ret
      refine ⟨_, rfl, ?_, F2.out, fun k hk => .inl hk⟩
      rw [HJ.out, if_pos hid, List.length_cons, HNE.out, List.reverse_cons, flat_snoc]
      have h := OX.out
      rw [List.set_append_right _ _ (by rw [HFL.out]; omega), HFL.out, show n * 3 + 1 - n * 3 = 1 from by omega] at h
      exact h
    · have hidb : (ui == si) = false := by simp [hid]
      go_quiet (fail)
      generalize hw2 : World.drewN w1 _ = wq
      have OQ := Lib.hid (show wq.ownsRow B 31 3 (.slice (some ⟨q, 0, none⟩) (n + 1) c') (n + 1) (r.reverse.flatMap cellsS ++ cellsS ⟨uf, ut, ui⟩) from by rw [← hw2]; exact O0.out)
      have FQ := Lib.hid (show Fr (fun k => (Value.slice (some ⟨q, 0, none⟩) (n + 1) c').ownBlock = some k) W wq from by rw [← hw2]; exact F0.out.drewN _)
      have HQ := Lib.hid (show B ≤ wq.heap.size from by rw [← hw2]; exact HB.out)
      obtain ⟨c0, c1, c2⟩ := span_cells (w := wq) (by rw [← hw2]; exact T0.out)
      clear hw2 l0 l1 l2 fz
      go_wp2_with (at_builtin; refine wp_app (by rfl) (.tmp 28) (.tmp 30) 26 (by rfl) info_span Try.underlying26 (by rfl) (by decide) (by decide) (by rfl) OQ.out [.int .i64 sf, .int .i64 st, .int .i64 si] (by rfl) (by rfl) ?b1 (by have := HL.out; omega) HQ.out ?b2)
      case b1 => first | exact ⟨rfl, rfl, rfl⟩ | (intro u hu; simp at hu; rcases hu with rfl | rfl | rfl <;> rfl)
      case b2 =>
        intro p2 e2 w2 hown2 f2 hb2
        have OX := Lib.hid hown2
        have F2 := Lib.hid (FQ.out.trans f2 (fun k hk _ => hk))
        have B2 := Lib.hid (fun k hk => (hb2 k hk).imp (fun h => h) (fun h => Nat.le_trans FQ.out.size h))
        clear hown2 f2 hb2
        go_wp2_with fail
        go_ret
        refine ⟨_, rfl, ?_, F2.out, B2.out⟩
        rw [HJ.out, if_neg hid, List.length_cons, List.length_cons, HNE.out, List.reverse_cons, flat_snoc, List.reverse_cons, flat_snoc]
        have h := OX.out
        try rw [← List.append_assoc] at h
        exact h
end Go.Proofs.Ytgaicbodpneeoaa.Rs

