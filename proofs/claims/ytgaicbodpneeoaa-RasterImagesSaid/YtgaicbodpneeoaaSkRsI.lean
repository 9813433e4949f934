/- What is used of RsI. -/
import Derived.Test.YtgaicbodpneeoaaSkRsG
namespace Go.Proofs.Ytgaicbodpneeoaa.Rs
open Go.RowKit Go.Proofs.ZFr Go.Proofs.Ytgaicbodpneeoaa.PRasterImages Go.Proofs.Ytgaicbodpneeoaa.Wd Go.Proofs.YtgaicbodpneeoaaW.PrintWords
def lenS : Value → Nat
  | .slice _ n _ => n
  | _ => 0
theorem part_cells {w : World} {b : Nat} {x h l i f : Int} (H : w.heap[b]? = some (.cells #[.int .i64 x, .int .i64 h, .int .u64 l, .int .i64 i, .int .i64 f] 74 (0, 0))) : w.cell? ⟨b, 0, none⟩ = some (.int .i64 x) ∧ w.cell? ⟨b, 1, none⟩ = some (.int .i64 h) ∧ w.cell? ⟨b, 2, none⟩ = some (.int .u64 l) ∧ w.cell? ⟨b, 3, none⟩ = some (.int .i64 i) ∧ w.cell? ⟨b, 4, none⟩ = some (.int .i64 f) := ⟨ZFr.blk_cell H 0, ZFr.blk_cell H 1, ZFr.blk_cell H 2, ZFr.blk_cell H 3, ZFr.blk_cell H 4⟩
theorem info_part : (Try.prog.info? 74).map (fun i => (i.zero, i.size, i.bytes)) = some (some (.agg #[.int .i64 0, .int .i64 0, .int .u64 0, .int .i64 0, .int .i64 0]), 5, 40) := by kernel_rfl
set_option maxRecDepth 100000 in
set_option maxHeartbeats 4000000 in
theorem lower_walk (g cp : Nat) (L : List Cone) (lo hi : Int) (W : World) (hR : RowC W g L) (hok : ∀ x ∈ L, okC x) (h1 : okX lo) (h2 : okX hi) (hl : L.length ≤ 100) :
    Calls Try.prog 25 #[.slice (some ⟨g, 0, none⟩) L.length cp, .int .i64 lo, .int .i64 hi] W fun e w' => ∃ v, e = .returned v ∧ w'.ownsRow W.heap.size 74 5 v (lower L lo hi).length ((lower L lo hi).reverse.flatMap cellsP) ∧ Fr (fun _ => False) W w' := by
  have HR := Lib.hid hR
  have HO := Lib.hid hok
  have H1 := Lib.hid h1
  have H2 := Lib.hid h2
  have HL := Lib.hid hl
  obtain ⟨R, hRl⟩ : ∃ R, lower L lo hi = R := ⟨_, rfl⟩
  rw [hRl]
  have HE := Lib.hid hRl
  clear hR hok h1 h2 hl hRl
  go_enter Try.func25, Try.ntmps25
  go_wp2_with fail
  go_loopw [7, 9, 10, 11, 14] (fun v7 _ _ _ v14 wr => ∃ (k : Nat) (S : List Part), k ≤ L.length ∧ v14 = .int .i64 (k : Int) ∧ Hid (S = (L.take k).foldl (push lo hi) []) ∧ Hid (OkS S ∧ S.length ≤ k) ∧ wr.ownsRow W.heap.size 74 5 v7 S.length (S.reverse.flatMap cellsP) ∧ Fr (fun _ => False) W wr) (fun _ _ _ _ v14 _ => (L.length - intOf v14).toNat)
  case atStart => exact ⟨0, [], by omega, rfl, Lib.hid rfl, Lib.hid ⟨fun p hp => by simp at hp, by simp⟩, ⟨rfl, .inl ⟨rfl, rfl⟩⟩, Fr.refl _ _⟩
  case round =>
    obtain ⟨k, S, hk, rfl, HS, HI, hown, hf⟩ := hrel
    have OW := Lib.hid hown
    have F := Lib.hid hf
    clear hown hf
    by_cases hkl : k < L.length
    · obtain ⟨C, hC⟩ : ∃ C, L[k] = C := ⟨_, rfl⟩
      have hok := HO.out L[k] (List.getElem_mem hkl)
      rw [hC] at hok
      have KO := Lib.hid hok
      have HT := Lib.hid (show (L.take (k + 1)).foldl (push lo hi) [] = push lo hi S C from by rw [List.take_succ_eq_append_getElem hkl, List.foldl_append, ← HS.out, hC]; rfl)
      have HN := Lib.hid (push_in lo hi H1.out H2.out S C hok HI.out.1)
      have r0 := HR.out.fr F.out k hkl 0 _ (by rw [hC]; rfl)
      have r1 := HR.out.fr F.out k hkl 1 _ (by rw [hC]; rfl)
      have r2 := HR.out.fr F.out k hkl 2 _ (by rw [hC]; rfl)
      have r3 := HR.out.fr F.out k hkl 3 _ (by rw [hC]; rfl)
      have hkli : (k : Int) < L.length := by omega
      have hk100 : (k : Int) < 100 := by have := HL.out; omega
      clear hok hC
      obtain ⟨cx, cd, ci⟩ := C
      simp only [Nat.add_zero] at r0 r1 r2 r3
      obtain ⟨c1, hc1⟩ : ∃ c1, hiW cd = c1 := ⟨_, rfl⟩
      obtain ⟨c2, hc2⟩ : ∃ c2, loW cd = c2 := ⟨_, rfl⟩
      rw [hc1] at r1
      rw [hc2] at r2
      have E1 := Lib.hid hc1
      have E2 := Lib.hid hc2
      clear hc1 hc2
      have T9 := Lib.hid (heap_alloc_new wr (Obj.cells #[Value.int IntKind.i64 cx, Value.int IntKind.i64 c1, Value.int IntKind.u64 c2, Value.int IntKind.i64 ci] 72))
      have F9 := Lib.hid (F.out.alloc (Obj.cells #[Value.int IntKind.i64 cx, Value.int IntKind.i64 c1, Value.int IntKind.u64 c2, Value.int IntKind.i64 ci] 72))
      have OW9 := Lib.hid (ZFr.row_fr OW.out ((Fr.refl (fun _ => False) wr).alloc (Obj.cells #[Value.int IntKind.i64 cx, Value.int IntKind.i64 c1, Value.int IntKind.u64 c2, Value.int IntKind.i64 ci] 72)) (fun _ _ h => h))
      have HWS := Lib.hid F.out.size
      clear OW F
      go_upto_region 5 with fail
      clear r0 r1 r2 r3
      obtain ⟨w9, hw9⟩ : ∃ w9, wr.alloc (Obj.cells #[Value.int IntKind.i64 cx, Value.int IntKind.i64 c1, Value.int IntKind.u64 c2, Value.int IntKind.i64 ci] 72) = w9 := ⟨_, rfl⟩
      obtain ⟨g9, hg9⟩ : ∃ g9, wr.heap.size = g9 := ⟨_, rfl⟩
      rw [hw9, hg9] at T9
      rw [hw9] at F9 OW9
      rw [hw9, hg9]
      have HG9 := Lib.hid (show W.heap.size ≤ g9 from by rw [← hg9]; exact HWS.out)
      clear hw9 hg9 HWS
      obtain ⟨wo, rfl⟩ : ∃ wo : World, wo = wr := ⟨_, rfl⟩
      go_wp2_with fail
      go_loopw [7, 10, 11] (fun v7 v10 _ wr => ∃ (S' : List Part) (a' : Int), v10 = .int .i64 a' ∧ Hid (popl ⟨cx, cd, ci⟩ lo hi S' = popl ⟨cx, cd, ci⟩ lo hi S) ∧ Hid (OkS S' ∧ S'.length ≤ k) ∧ wr.ownsRow W.heap.size 74 5 v7 S'.length (S'.reverse.flatMap cellsP) ∧ wr.heap[g9]? = some (Obj.cells #[Value.int IntKind.i64 cx, Value.int IntKind.i64 c1, Value.int IntKind.u64 c2, Value.int IntKind.i64 ci] 72 (0, 0)) ∧ Fr (fun _ => False) W wr) (fun v7 _ _ _ => lenS v7)
      case atStart => exact ⟨S, lo, rfl, Lib.hid rfl, Lib.hid HI.out, OW9.out, T9.out, F9.out⟩
      case round =>
        clear T9 F9 OW9
        obtain ⟨S', a', rfl, HP, HJ, hown, ht, hf⟩ := hrel
        have OW := Lib.hid hown
        have T := Lib.hid ht
        have F := Lib.hid hf
        obtain ⟨q0, q1, q2, q3⟩ := cone_cells ht
        clear ht hf
        rcases S' with - | ⟨p, r⟩
        · obtain ⟨pp, cc, rfl⟩ := row_slice hown
          clear hown
          have OW0 : Hid (wr.ownsRow W.heap.size 74 5 (.slice pp 0 cc) 0 []) := Lib.hid OW.out
          have HQ := Lib.hid (show push lo hi S ⟨cx, cd, ci⟩ = if lo < hi then [⟨⟨cx, cd, ci⟩, lo⟩] else [] from by unfold push; rw [← HP.out, popl])
          simp only [List.length_nil]
          by_cases hlh : lo < hi
          · go_wp2_with (at_builtin; refine wp_app (by rfl) (.tmp 59) (.tmp 63) 67 (by rfl) info_part Try.underlying67 (by rfl) (by decide) (by decide) (by rfl) OW0.out [.int .i64 cx, .int .i64 c1, .int .u64 c2, .int .i64 ci, .int .i64 lo] (by rfl) (by rfl) ?d1 (by decide) F.out.size ?more)
            case d1 => intro u hu; simp at hu; rcases hu with rfl | rfl | rfl | rfl | rfl <;> rfl
            case more =>
              intro p2 e2 w2 hown2 f2 _
              have OX := Lib.hid hown2
              have F2 := Lib.hid (F.out.trans f2 (fun k hk hlt => by have := row_own OW0.out k hk; omega))
              clear hown2 f2
              go_wp2_with fail
              go_roundw
              case rel =>
                refine ⟨k + 1, push lo hi S ⟨cx, cd, ci⟩, by omega, by go_num, Lib.hid HT.out.symm, Lib.hid ⟨HN.out.1, by have := HN.out.2; have := HI.out.2; omega⟩, ?_, F2.out⟩
                rw [HQ.out, if_pos hlh]
                have h := OX.out
                rw [← E1.out, ← E2.out] at h
                exact h
              case measure => simp [intOf]; omega
          · go_wp2_with fail
            go_roundw
            case rel =>
              refine ⟨k + 1, push lo hi S ⟨cx, cd, ci⟩, by omega, by go_num, Lib.hid HT.out.symm, Lib.hid ⟨HN.out.1, by have := HN.out.2; have := HI.out.2; omega⟩, ?_, F.out⟩
              rw [HQ.out, if_neg hlh]
              exact OW0.out
            case measure => simp [intOf]; omega
        · have e : (p :: r).reverse.flatMap cellsP = r.reverse.flatMap cellsP ++ cellsP p := by rw [List.reverse_cons, List.flatMap_append]; simp
          have hown' := hown
          rw [e, List.length_cons] at hown'
          clear e
          clear hown
          obtain ⟨q, e7, rfl⟩ := row_some hown' (by omega)
          have OW1 := Lib.hid hown'
          clear OW
          have hfl : (r.reverse.flatMap cellsP).length = r.length * 5 := by rw [flat_len cellsP_len, List.length_reverse]
          have cl : ∀ j u, (cellsP p)[j]? = some u → wr.cell? ⟨q, r.length * 5 + j, none⟩ = some u := fun j u hu => row_at hown' (by rw [List.getElem?_append_right (by omega), hfl, show r.length * 5 + j - r.length * 5 = j from by omega]; exact hu)
          have l0 := cl 0 _ rfl
          have l1 := cl 1 _ rfl
          have l2 := cl 2 _ rfl
          have l3 := cl 3 _ rfl
          have l4 := cl 4 _ rfl
          rw [Nat.add_zero] at l0
          have HP1 := Lib.hid (show popl ⟨cx, cd, ci⟩ lo hi (p :: r) = if p.c.x = cx then (hi, p :: r) else if p.fr < frm p.c ⟨cx, cd, ci⟩ (hi - p.fr).toNat p.fr hi then (frm p.c ⟨cx, cd, ci⟩ (hi - p.fr).toNat p.fr hi, p :: r) else popl ⟨cx, cd, ci⟩ lo hi r from by rw [popl])
          have hp := HJ.out.1 p (by simp)
          have FW := Lib.hid (fun w => from_walk p.c ⟨cx, cd, ci⟩ p.fr hi hp.1 KO.out hp.2 H2.out w)
          have HFI := Lib.hid (frm_in p.c ⟨cx, cd, ci⟩ p.fr hi hp.2 H2.out)
          have HB := Lib.hid (frm_ge p.c ⟨cx, cd, ci⟩ (hi - p.fr).toNat p.fr hi)
          clear hp cl hown' hfl
          have HPP := Lib.hid (show OkS r from fun x hx => HJ.out.1 x (by simp [hx]))
          have HNR := Lib.hid (show r.length + 1 ≤ k from HJ.out.2)
          obtain ⟨⟨px, pd, pi⟩, pf⟩ := p
          simp only at l0 l1 l2 l3 l4 HP1 FW HFI HB
          unfold encC at FW
          simp only at FW
          rw [E1.out, E2.out] at FW
          obtain ⟨d1, hd1⟩ : ∃ d1, hiW pd = d1 := ⟨_, rfl⟩
          obtain ⟨d2, hd2⟩ : ∃ d2, loW pd = d2 := ⟨_, rfl⟩
          rw [hd1] at l1 FW
          rw [hd2] at l2 FW
          have D1 := Lib.hid hd1
          have D2 := Lib.hid hd2
          clear hd1 hd2
          obtain ⟨fv, hfv⟩ : ∃ fv, frm ⟨px, pd, pi⟩ ⟨cx, cd, ci⟩ (hi - pf).toNat pf hi = fv := ⟨_, rfl⟩
          rw [hfv] at FW HP1 HFI HB
          clear hfv
          obtain ⟨n, hn⟩ : ∃ n, r.length = n := ⟨_, rfl⟩
          rw [hn] at l0 l1 l2 l3 l4 OW1 HNR
          have HNE := Lib.hid hn
          rw [hn]
          clear hn
          have hn100 : (n : Int) < 100 := by have := HNR.out; omega
          have e0 : IntKind.i64.wrap ((n : Int) + 1 - 1) = (n : Int) := by rw [Go.Proofs.YtgaicbodpneeoaaW.PrintLast.i64_w]; unfold wrap64; omega
          have T11 := Lib.hid (heap_alloc_new wr (Obj.cells #[Value.int IntKind.i64 px, Value.int IntKind.i64 d1, Value.int IntKind.u64 d2, Value.int IntKind.i64 pi, Value.int IntKind.i64 pf] 74))
          have F11 := Lib.hid (F.out.alloc (Obj.cells #[Value.int IntKind.i64 px, Value.int IntKind.i64 d1, Value.int IntKind.u64 d2, Value.int IntKind.i64 pi, Value.int IntKind.i64 pf] 74))
          have T9' := Lib.hid (ZFr.blk_alloc T.out (Obj.cells #[Value.int IntKind.i64 px, Value.int IntKind.i64 d1, Value.int IntKind.u64 d2, Value.int IntKind.i64 pi, Value.int IntKind.i64 pf] 74))
          have OW11 := Lib.hid (row_alloc OW1.out (Obj.cells #[Value.int IntKind.i64 px, Value.int IntKind.i64 d1, Value.int IntKind.u64 d2, Value.int IntKind.i64 pi, Value.int IntKind.i64 pf] 74))
          go_upto_region 8 with fail
          clear l0 l1 l2 l3 l4 q0 q1 q2 q3
          obtain ⟨w11, hw11⟩ : ∃ w11, wr.alloc (Obj.cells #[Value.int IntKind.i64 px, Value.int IntKind.i64 d1, Value.int IntKind.u64 d2, Value.int IntKind.i64 pi, Value.int IntKind.i64 pf] 74) = w11 := ⟨_, rfl⟩
          obtain ⟨g11, hg11⟩ : ∃ g11, wr.heap.size = g11 := ⟨_, rfl⟩
          rw [hw11, hg11] at T11
          rw [hw11] at F11 OW11 T9'
          rw [hw11, hg11]
          clear hw11 hg11 OW1 T F
          obtain ⟨m0, m1, m2, m3, m4⟩ := part_cells T11.out
          obtain ⟨q0, q1, q2, q3⟩ := cone_cells T9'.out
          by_cases hx : px = cx
          · have hxb : (px == cx) = true := by simp [hx]
            have HQ := Lib.hid (show push lo hi S ⟨cx, cd, ci⟩ = ⟨⟨px, pd, pi⟩, pf⟩ :: r from by unfold push; rw [← HP.out, HP1.out, if_pos hx, if_neg (Int.lt_irrefl _)])
            have HX := Lib.hid hx
            clear hx
            have n10 : ((n : Int) + 1 == 0) = false := by simp; omega
            go_wp2_with fail
            go_roundw
            case rel =>
              refine ⟨k + 1, push lo hi S ⟨cx, cd, ci⟩, by omega, by go_num, Lib.hid HT.out.symm, Lib.hid ⟨HN.out.1, by have := HN.out.2; have := HI.out.2; omega⟩, ?_, F11.out⟩
              rw [HQ.out, List.length_cons, HNE.out, List.reverse_cons, List.flatMap_append]
              have h := OW11.out
              rw [show [(⟨⟨px, pd, pi⟩, pf⟩ : Part)].flatMap cellsP = cellsP ⟨⟨px, pd, pi⟩, pf⟩ from by simp]
              exact h
            case measure => simp [intOf]; omega
          · have hxb : (px == cx) = false := by simp [hx]
            have HX := Lib.hid hx
            clear hx
            go_upto_region 12 with (go_at_call 34; have hc_ := FW.out w11; (with_reducible refine hc_.mono ?_); clear hc_; rintro e w12 ⟨rfl, f12⟩; have T12 := Lib.hid (ZFr.blk_fr T11.out f12 (fun h => h)); have U12 := Lib.hid (ZFr.blk_fr T9'.out f12 (fun h => h)); have F12 := Lib.hid (F11.out.trans f12 (fun _ h _ => h)); have OW12 := Lib.hid (ZFr.row_fr OW11.out f12 (fun _ _ h => h)); clear f12)
            clear m0 m1 m2 m3 m4 q0 q1 q2 q3 T11 T9' F11 OW11
            obtain ⟨m0, m1, m2, m3, m4⟩ := part_cells T12.out
            obtain ⟨q0, q1, q2, q3⟩ := cone_cells U12.out
            by_cases hfp : pf < fv
            · have HPL := Lib.hid (show popl ⟨cx, cd, ci⟩ lo hi S = (fv, ⟨⟨px, pd, pi⟩, pf⟩ :: r) from by rw [← HP.out, HP1.out, if_neg HX.out, if_pos hfp])
              have n10 : ((n : Int) + 1 == 0) = false := by simp; omega
              by_cases hlh : fv < hi
              · go_wp2_with (at_builtin; refine wp_app (by rfl) (.tmp 59) (.tmp 63) 67 (by rfl) info_part Try.underlying67 (by rfl) (by decide) (by decide) (by rfl) OW12.out [.int .i64 cx, .int .i64 c1, .int .u64 c2, .int .i64 ci, .int .i64 fv] (by rfl) (by rfl) ?f1 (by omega) F12.out.size ?more2)
                case f1 => intro u hu; simp at hu; rcases hu with rfl | rfl | rfl | rfl | rfl <;> rfl
                case more2 =>
                  intro p2 e2 w2 hown2 f2 _
                  have OX := Lib.hid hown2
                  have F2 := Lib.hid (F12.out.trans f2 (fun k hk hlt => by have := row_own OW12.out k hk; omega))
                  clear hown2 f2
                  go_wp2_with fail
                  go_roundw
                  case rel =>
                    refine ⟨k + 1, push lo hi S ⟨cx, cd, ci⟩, by omega, by go_num, Lib.hid HT.out.symm, Lib.hid ⟨HN.out.1, by have := HN.out.2; have := HI.out.2; omega⟩, ?_, F2.out⟩
                    have hq : push lo hi S ⟨cx, cd, ci⟩ = ⟨⟨cx, cd, ci⟩, fv⟩ :: ⟨⟨px, pd, pi⟩, pf⟩ :: r := by unfold push; rw [HPL.out, if_pos hlh]
                    rw [hq, List.length_cons, List.length_cons, HNE.out, List.reverse_cons, List.reverse_cons, List.flatMap_append, List.flatMap_append]
                    have h := OX.out
                    rw [← E1.out, ← E2.out] at h
                    try rw [← List.append_assoc] at h
                    rw [show [(⟨⟨px, pd, pi⟩, pf⟩ : Part)].flatMap cellsP = cellsP ⟨⟨px, pd, pi⟩, pf⟩ from by simp, show [(⟨⟨cx, cd, ci⟩, fv⟩ : Part)].flatMap cellsP = cellsP ⟨⟨cx, cd, ci⟩, fv⟩ from by simp]
                    exact h
                  case measure => simp [intOf]; omega
              · go_wp2_with fail
                go_roundw
                case rel =>
                  refine ⟨k + 1, push lo hi S ⟨cx, cd, ci⟩, by omega, by go_num, Lib.hid HT.out.symm, Lib.hid ⟨HN.out.1, by have := HN.out.2; have := HI.out.2; omega⟩, ?_, F12.out⟩
                  have hq : push lo hi S ⟨cx, cd, ci⟩ = ⟨⟨px, pd, pi⟩, pf⟩ :: r := by unfold push; rw [HPL.out, if_neg hlh]
                  rw [hq, List.length_cons, HNE.out, List.reverse_cons, List.flatMap_append]
                  have h := OW12.out
                  rw [show [(⟨⟨px, pd, pi⟩, pf⟩ : Part)].flatMap cellsP = cellsP ⟨⟨px, pd, pi⟩, pf⟩ from by simp]
                  exact h
                case measure => simp [intOf]; omega
            · have HPL := Lib.hid (show popl ⟨cx, cd, ci⟩ lo hi r = popl ⟨cx, cd, ci⟩ lo hi S from by rw [← HP.out, HP1.out, if_neg HX.out, if_neg hfp])
              have HPO := Lib.hid (ownsRow_pop (by rw [flat_len cellsP_len, List.length_reverse, HNE.out]) OW12.out)
              have h1c : (n : Int) ≤ (e7 : Int) := by have := (row_cap OW12.out).1; omega
              go_wp2_with fail
              go_roundw
              case rel =>
                refine ⟨r, fv, rfl, HPL, Lib.hid ⟨HPP.out, by have := HNR.out; have := HNE.out; omega⟩, ?_, U12.out, F12.out⟩
                rw [HNE.out]
                exact HPO.out
              case measure => simp [lenS]
    · have hke : k = L.length := by omega
      subst hke
      go_wp2_with fail
      go_ret
      refine ⟨_, rfl, ?_, F.out⟩
      rw [← HE.out]
      unfold lower
      rw [show S = L.foldl (push lo hi) [] from by rw [HS.out, List.take_of_length_le (Nat.le_refl _)]] at OW
      exact OW.out
end Go.Proofs.Ytgaicbodpneeoaa.Rs

