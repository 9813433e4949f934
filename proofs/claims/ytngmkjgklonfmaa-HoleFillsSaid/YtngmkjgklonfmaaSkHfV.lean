/- What is used of HfV. -/
import Derived.Test.YtngmkjgklonfmaaSkHfU
import Derived.Test.YtngmkjgklonfmaaSkHfG
namespace Go.Proofs.Ytngmkjgklonfmaa.Wd
open Go.RowKit Go.Proofs.ZFr Go.Proofs.Ytngmkjgklonfmaa.PNearNearest Go.Proofs.Ytngmkjgklonfmaa.Big Go.Proofs.YtngmkjgklonfmaaW.PrintWords Go.Proofs.Ytngmkjgklonfmaa.Inv
attribute [local go_sem ↓] Go.wp_at_zero Go.wp_at_succ
set_option linter.unusedVariables false
set_option linter.unusedSimpArgs false
theorem pinfo37 : (Try.prog.info? 37).map (fun i => (i.zero, i.size, i.bytes)) = some (some (.slice none 0 0), 1, 24) := by kernel_rfl
set_option maxRecDepth 100000 in
set_option maxHeartbeats 8000000 in
theorem fillR_c (l : List Hf.P) (A : Option Addr) (cp : Nat) (W : World) (hl : l.length ≤ 5000) (hq : ∀ p ∈ l, i64Q p) (hp : Pts W A l) : Calls Try.prog 18 #[.slice A l.length cp] W fun e w' => FillQ W (fillO l) e w' := by
  unfold fillO
  have T0 := Lib.hid (heap_alloc_new W (Obj.cells #[] 60))
  have F0 := Lib.hid ((Fr.refl (fun _ => False) W).alloc (Obj.cells #[] 60))
  split
  · rename_i h
    have hr : (W.alloc (Obj.cells #[] 60)).ownsRow W.heap.size 60 3 (.slice (some ⟨W.heap.size, 0, none⟩) 0 0) 0 (flatT []) := own_nil T0.out (Nat.le_refl _)
    by_cases h3 : l.length < 3
    · have a1 : (l.length : Int) < 3 := by omega
      go_enter Try.func18, Try.ntmps18
      go_wp2_with fail
      go_ret2
      exact ⟨_, rfl, hr, F0.out⟩
    · have a1 : ¬ (l.length : Int) < 3 := by omega
      have a2 : (500 : Int) < l.length := by omega
      go_enter Try.func18, Try.ntmps18
      go_wp2_with fail
      go_ret2
      exact ⟨_, rfl, hr, F0.out⟩
  · rename_i hno
    have h3 : 3 ≤ l.length := by omega
    have h500 : l.length ≤ 500 := by omega
    have a1 : ¬ (l.length : Int) < 3 := by omega
    have a2 : ¬ (500 : Int) < (l.length : Int) := by omega
    have HP := Lib.hid hp
    have HQ := Lib.hid hq
    have H5 := Lib.hid h500
    have H3 := Lib.hid h3
    clear hp hq h3 h500 hl hno
    go_enter Try.func18, Try.ntmps18
    go_upto_region 4 with fail
    have R0 := Lib.hid (show (W.alloc (Obj.cells #[] 60)).ownsRow W.heap.size 60 3 (.slice (some ⟨W.heap.size, 0, none⟩) 0 0) 0 (flatT []) from own_nil T0.out (Nat.le_refl _))
    generalize W.alloc (Obj.cells #[] 60) = w1 at T0 F0 R0 ⊢
    have T1 := Lib.hid (heap_alloc_new w1 (Obj.cells #[] 3))
    have F1 := Lib.hid ((Fr.refl (fun _ => False) w1).alloc (Obj.cells #[] 3))
    have R1 := Lib.hid (show (w1.alloc (Obj.cells #[] 3)).ownsRow w1.heap.size 3 1 (.slice (some ⟨w1.heap.size, 0, none⟩) 0 0) 0 (flatI (List.range 0)) from own_nil T1.out (Nat.le_refl _))
    go_upto_region 5 with fail
    generalize w1.alloc (Obj.cells #[] 3) = w2 at T1 F1 R1 ⊢
    go_wp2_with fail
    go_loopw [5, 6] (fun s i wr => ∃ k : Nat, k ≤ l.length ∧ i = .int .i64 (k : Int) ∧ wr.ownsRow w1.heap.size 3 1 s k (flatI (List.range k)) ∧ Fr (fun _ => False) w1 wr) (fun _ i _ => (l.length - intOf i).toNat)
    case atStart => exact ⟨0, by omega, rfl, R1.out, F1.out⟩
    case round =>
      obtain ⟨k, hk, rfl, ho, hf⟩ := hrel
      obtain ⟨pr, cr, rfl⟩ := row_slice ho
      have HO := Lib.hid ho
      have HF := Lib.hid hf
      clear ho hf
      by_cases hk4 : k < l.length
      · have hkd : (k : Int) < (l.length : Int) := by omega
        have hk5 : (k : Int) < 500 := by have := H5.out; omega
        obtain ⟨i0, hi0, hz0, hz1, hz2⟩ := info_parts pinfo3
        have HRG := Lib.hid (show flatI (List.range (k + 1)) = flatI (List.range k) ++ [.int .i64 (k : Int)] from by unfold flatI; rw [List.range_succ, List.map_append]; rfl)
        generalize flatI (List.range k) = xs at HO HRG
        go_wp2_with (at_builtin; refine wpList_append_own_at _ rfl (.tmp 31) (.tmp 33) 37 rfl w1.heap.size 3 i0 _ 1 8 Try.underlying37 hi0 hz0 hz1 hz2 rfl (by decide) (.slice pr k cr) k xs rfl (HO.out.alloc _) ⟨wr.heap.size, 0, none⟩ 1 1 [.int .i64 (k : Int)] rfl rfl ?d1 ?d2 ?d3 ?d4 ?d5 ?more)
        case d1 => exact cell_one_new _ _ _
        case d2 => intro u hu; simp at hu; subst hu; rfl
        case d3 => unfold maxLen; omega
        case d4 => omega
        case d5 => have e1 := HF.out.size; simp; omega
        case more =>
          intro v2 w3 hown2 hgrow _ _
          have HO2 := Lib.hid hown2
          have HG2 := Lib.hid hgrow
          clear hown2 hgrow
          go_wp2_with fail
          go_roundw
          case rel => exact ⟨k + 1, by omega, by go_num, by rw [HRG.out]; exact HO2.out, (HF.out.alloc _).grown HG2.out (fun k hk => .inr (rbase HO.out k hk).1)⟩
          case measure => simp [intOf]; omega
      · have hke : k = l.length := by omega
        subst hke
        obtain ⟨ga, cr', hv⟩ := row_some HO.out (by have := H3.out; omega)
        simp only [Value.slice.injEq] at hv
        obtain ⟨rfl, _, rfl⟩ := hv
        have TW := Lib.hid (heap_alloc_new wr (Obj.cells #[.slice (some ⟨ga, 0, none⟩) l.length cr] 37))
        have FW := Lib.hid ((Fr.refl (fun _ => False) wr).alloc (Obj.cells #[.slice (some ⟨ga, 0, none⟩) l.length cr] 37))
        obtain ⟨wo, hwo⟩ : ∃ x, x = wr := ⟨_, rfl⟩
        subst hwo
        have START := Lib.hid (show FSt l W (wo.alloc (Obj.cells #[.slice (some ⟨ga, 0, none⟩) l.length cr] 37)) (.slice (some ⟨W.heap.size, 0, none⟩) 0 0) (.slice (some ⟨wo.heap.size, 0, none⟩) 1 1) from by
          have e1 := F0.out.size
          have e2 := HF.out.size
          have hW1 : Fr (fun _ => False) W wo := F0.out.trans HF.out (fun _ h _ => h)
          refine ⟨[List.range l.length], [], row_fr R0.out (HF.out.alloc _) (fun _ _ h => h), ⟨_, own_one TW.out (Nat.le_trans e1 e2), fun i hi => ?_⟩, ?_, ?_, by simp, ?_, hW1.alloc _⟩
          · have hi0 : i = 0 := by simpa using hi
            subst hi0
            refine ⟨_, rfl, ga, cr, by simp, ?_⟩
            have h := row_fr (ZFr.row_low HO.out e1) ((Fr.refl (fun _ => False) wo).alloc (Obj.cells #[.slice (some ⟨ga, 0, none⟩) l.length cr] 37)) (fun _ _ h => h)
            simpa using h
          · intro q hq
            have : q = List.range l.length := by simpa using hq
            subst this
            exact ⟨by simp; have := H3.out; omega, by simp⟩
          · simp [due]
          · unfold runsR
            show _ = (Hf.runs l [List.range l.length]).map _
            rw [Hf.runs]
            cases Hf.fl l (List.range l.length) <;> simp [Hf.runs])
        go_upto_region 9 with fail
        go_wp2_with fail
        go_loopw [4, 7] (fun v4 v7 wr => FSt l W wr v4 v7) (fun v4 v7 _ => 2 * (l.length - slen v4) + slen v7)
        case atStart => exact START.out
        case round =>
          obtain ⟨st, o, ho, hs, hall, hdue, hdep, hruns, hf⟩ := hrel
          clear START
          have hst := hs
          obtain ⟨hd0, hr0, hx0⟩ := hst
          clear hx0
          obtain ⟨pw, cw, rfl⟩ := row_slice hr0
          obtain ⟨po, co, rfl⟩ := row_slice ho
          have RO := Lib.hid ho
          have SS := Lib.hid hs
          have AL := Lib.hid hall
          have DU := Lib.hid hdue
          have RU := Lib.hid hruns
          have FF := Lib.hid hf
          have RW := Lib.hid hr0
          clear ho hs hall hdue hruns hf hr0
          have h500 : st.length ≤ 501 ∧ o.length ≤ 500 := by have := H5.out; have := DU.out; omega
          have DP := Lib.hid hdep
          clear hdep
          by_cases hst0 : st = []
          · subst hst0
            go_wp2_with fail
            go_ret2
            have e := RU.out
            rw [e]
            show FillQ W (Option.map (o ++ ·) (some [])) _ _
            refine ⟨_, rfl, ?_, FF.out⟩
            have h := RO.out
            simpa using h
          · obtain ⟨k, hk⟩ : ∃ k, st.length = k + 1 := ⟨st.length - 1, by have := List.length_pos_iff.2 hst0; omega⟩
            have hs := SS.out
            obtain ⟨gw, cw', hv⟩ := row_some RW.out (by omega)
            simp only [Value.slice.injEq] at hv
            obtain ⟨rfl, _, rfl⟩ := hv
            rw [hk] at hs
            obtain ⟨st', q, u, hsq, hcell, hlst, hpop⟩ := hs.pop hk
            have hcw : k + 1 ≤ cw := by have h := row_cap RW.out; omega
            have hq2 := AL.out q (by rw [hsq]; simp)
            have POP := Lib.hid hpop
            have LQ := Lib.hid hlst
            have HSQ := Lib.hid hsq
            have HQ2 := Lib.hid hq2
            have hst' : st'.length = k := by rw [hsq] at hk; simpa using hk
            have HK := Lib.hid hst'
            obtain ⟨gq, cq, rfl, hrq⟩ := hlst
            have RQ := Lib.hid hrq
            have CC := Lib.hid hcell
            have hk500 : (k : Int) ≤ 500 := by omega
            have HKK := Lib.hid hk
            have H501 := Lib.hid h500
            rw [hk]
            clear hs hsq hcell hpop hq2 hst' hrq hk h500 SS hst0 RW
            have hwk : IntKind.i64.wrap ((k : Int) + 1 - 1) = (k : Int) := by rw [Int.add_sub_cancel]; exact IntWalk.i64_in _ ⟨by omega, by omega⟩
            have hk0 : (0 : Int) < (k : Int) + 1 := by omega
            have cc := CC.out
            have hkc : (k : Int) ≤ (cw : Int) := by omega
            by_cases hsm : q.length < 3
            · have hsm' : (q.length : Int) < 3 := by omega
              go_wp2_with fail
              go_roundw
              case rel =>
                refine ⟨st', o, RO.out, POP.out, fun p hp => AL.out p (by rw [HSQ.out]; exact List.mem_append_left _ hp), ?_, by have := DP.out; rw [HKK.out] at this; rw [HK.out]; omega, ?_, FF.out⟩
                · have h := DU.out
                  rw [HSQ.out, due_snoc] at h
                  omega
                · have h := RU.out
                  rw [HSQ.out, runsR_snoc, Hf.runs_small hsm] at h
                  exact h
              case measure => simp [slen]
            · obtain ⟨m, hm⟩ : ∃ m, q.length = m + 2 := ⟨q.length - 2, by omega⟩
              have hm1 : 1 ≤ m := by omega
              have HM := Lib.hid hm
              have hdq : due st' + m = l.length - 2 - o.length := by
                have h := DU.out
                rw [HSQ.out, due_snoc] at h
                omega
              have HDQ := Lib.hid hdq
              have hm500 : (m : Int) ≤ 500 := by have := H5.out; omega
              have hnl : ¬ (m : Int) + 2 < 3 := by omega
              have NS := Lib.hid hsm
              clear hsm hdq
              rw [hm] at RQ cc
              clear hm
              have IT := Lib.hid (its_row RQ.out)
              go_upto_region 14 with fail
              obtain ⟨wb, hwb⟩ : ∃ x, x = wr := ⟨_, rfl⟩
              subst hwb
              clear cc hwk CC
              have hgp : ∀ j (h : j < q.length), q.getD j 0 = q[j] := fun j h => by simp [List.getD, h]
              have hpl : ∀ j (h : j < q.length), q.getD j 0 < l.length := fun j h => by rw [hgp j h]; exact HQ2.out.2 _ (List.getElem_mem h)
              have hpt : ∀ i (h : i < l.length), Hf.pt l i = l[i] := fun i h => by unfold Hf.pt; simp [List.getD, h]
              have AT := Lib.hid (fun j (h : j < m + 2) w (hf : Fr (fun _ => False) wb w) => (show ∃ p : Nat, ∃ x y : Int, ∃ ad, A = some ad ∧ q.getD j 0 = p ∧ p < l.length ∧ Hf.pt l p = (x, y) ∧ w.cell? ⟨gq, j, none⟩ = some (.int .i64 (p : Int)) ∧ w.cell? (ad.add (p * 2)) = some (.int .i64 x) ∧ w.cell? ⟨(ad.add (p * 2)).block, (ad.add (p * 2)).off + 1, none⟩ = some (.int .i64 y) from by
                have hj : j < q.length := by have := HM.out; omega
                obtain ⟨ad, e, h4, h5⟩ := (HP.out.fr (FF.out.trans hf (fun _ h _ => h))) (q.getD j 0) (hpl j hj)
                refine ⟨q.getD j 0, _, _, ad, e, rfl, hpl j hj, by rw [hpt _ (hpl j hj)], ?_, h4, h5⟩
                have h := fr_cell (IT.out j hj) hf
                rw [Nat.zero_add] at h
                rw [hgp j hj]; exact h))
              have PQ := Lib.hid (fun j (h : j < q.length) => (show i64Q (Hf.pt l (q.getD j 0)) from by rw [hpt _ (hpl j h)]; exact HQ.out _ (List.getElem_mem _)))
              have BST := Lib.hid (fun A' c' w (h : Pts w A' ((q.drop 2).map (Hf.pt l))) => bestR_c (Hf.pt l (q.getD 0 0)) (Hf.pt l (q.getD 1 0)) A' ((q.drop 2).map (Hf.pt l)) c' w (by simp; have := HM.out; omega) (PQ.out 0 (by have := HM.out; omega)) (PQ.out 1 (by have := HM.out; omega)) (fun p hp => by
                obtain ⟨i, hi, rfl⟩ := List.mem_map.1 hp
                have hi2 : i ∈ q := List.mem_of_mem_drop hi
                rw [hpt _ (HQ2.out.2 i hi2)]
                exact HQ.out _ (List.getElem_mem _)) h)
              have PK := Lib.hid (Hf.pick_lt l q)
              have RS := Lib.hid (restL_succ l q)
              have RL := Lib.hid (restL_len l q)
              have RA := Lib.hid (show restL l q m = (q.drop 2).map (Hf.pt l) from by rw [← restL_all, HM.out]; rfl)
              clear hgp hpl hpt
              have TR := Lib.hid (heap_alloc_new wb (Obj.cells #[] 24))
              have FR := Lib.hid ((Fr.refl (fun _ => False) wb).alloc (Obj.cells #[] 24))
              have RR := Lib.hid (show (wb.alloc (Obj.cells #[] 24)).ownsRow wb.heap.size 24 2 (.slice (some ⟨wb.heap.size, 0, none⟩) 0 0) 0 (flat (restL l q 0)) from own_nil TR.out (Nat.le_refl _))
              go_upto_region 15 with fail
              go_wp2_with fail
              go_loopw [9, 10] (fun s i wr => ∃ j : Nat, j ≤ m ∧ i = .int .i64 ((j : Int) + 2) ∧ wr.ownsRow wb.heap.size 24 2 s j (flat (restL l q j)) ∧ Fr (fun _ => False) wb wr) (fun _ i _ => (m + 2 - intOf i).toNat)
              case atStart => exact ⟨0, Nat.zero_le _, rfl, RR.out, FR.out⟩
              case round =>
                obtain ⟨j, hj, rfl, ho, hf⟩ := hrel
                obtain ⟨pr2, cr2, rfl⟩ := row_slice ho
                have HO := Lib.hid ho
                have HF := Lib.hid hf
                clear ho hf
                by_cases hj1 : j < m
                · have hjd : (j : Int) + 2 < (m : Int) + 2 := by omega
                  have hj0 : (0 : Int) ≤ (j : Int) + 2 := by omega
                  obtain ⟨p, x, y, ad, hA, hq, hql, hxy, q1, q2, q3⟩ := AT.out (j + 2) (by omega) wr HF.out
                  have hq2 : (p : Int) < (l.length : Int) := by omega
                  have hl2 : (l.length : Int) ≤ 500 := by have := H5.out; omega
                  have ht2 : ((j : Int) + 2).toNat = j + 2 := by omega
                  obtain ⟨i0, hi0, hz0, hz1, hz2⟩ := info_parts pinfo24
                  subst hA
                  have HRS := Lib.hid (show flat (restL l q (j + 1)) = flat (restL l q j) ++ [.int .i64 x, .int .i64 y] from by rw [RS.out j, flat_app, hq, hxy])
                  have hw2 : wrap64 ((j : Int) + 2 + 1) = (j : Int) + 3 := by unfold wrap64; omega
                  clear hj hq hxy
                  go_wp2_with (at_builtin; refine wpList_append_own_at _ rfl (.tmp 61) (.tmp 69) 44 rfl wb.heap.size 24 i0 _ 2 16 Try.underlying44 hi0 hz0 hz1 hz2 rfl (by decide) (.slice pr2 j cr2) j (flat (restL l q j)) rfl (HO.out.alloc _) ⟨wr.heap.size, 0, none⟩ 1 1 [.int .i64 x, .int .i64 y] rfl rfl ?d1 ?d2 ?d3 ?d4 ?d5 ?more)
                  case d1 => exact World.news_of_block (cs := #[.int .i64 x, .int .i64 y]) (t := 24) (fr := (0, 0)) (heap_alloc_new wr _)
                  case d2 => intro u hu; simp at hu; rcases hu with rfl | rfl <;> rfl
                  case d3 => unfold maxLen; omega
                  case d4 => omega
                  case d5 => have e1 := HF.out.size; simp; omega
                  case more =>
                    intro v2 w2 hown2 hgrow _ _
                    rw [← HRS.out] at hown2
                    have HO2 := Lib.hid hown2
                    have HG2 := Lib.hid hgrow
                    clear hown2 hgrow
                    go_wp2_with fail
                    go_roundw
                    case rel => exact ⟨j + 1, hj1, by go_num, HO2.out, (HF.out.alloc _).grown HG2.out (fun k hk => .inr (rbase HO.out k hk).1)⟩
                    case measure => simp [intOf]; omega
                · have hjm : j = m := by omega
                  subst hjm
                  obtain ⟨gr, cr2', hv⟩ := row_some HO.out (by omega)
                  simp only [Value.slice.injEq] at hv
                  obtain ⟨rfl, _, rfl⟩ := hv
                  obtain ⟨ws, hws⟩ : ∃ x, x = wr := ⟨_, rfl⟩
                  subst hws
                  have HPR := Lib.hid (fun w (hf : Fr (fun _ => False) ws w) => (show Calls Try.prog 40 #[pt (Hf.pt l (q.getD 0 0)).1 (Hf.pt l (q.getD 0 0)).2, pt (Hf.pt l (q.getD 1 0)).1 (Hf.pt l (q.getD 1 0)).2, .slice (some ⟨gr, 0, none⟩) j cr2] w (fun e w' => e = .returned (.int .i64 (Hf.pick l q)) ∧ Fr (fun _ => False) w w') from by
                    have ho := HO.out
                    rw [RA.out] at ho
                    have h := BST.out (some ⟨gr, 0, none⟩) cr2 w (Pts.fr (pts_row ho) hf)
                    rw [List.length_map, List.length_drop, HM.out, Nat.add_sub_cancel] at h
                    exact h))
                  obtain ⟨p0, x0, y0, ad, hA, hp0, hpl0, hxy0, q1, q2, q3⟩ := AT.out 0 (by omega) ws HF.out
                  obtain ⟨p1, x1, y1, ad', hA', hp1, hpl1, hxy1, r1, r2, r3⟩ := AT.out 1 (by omega) ws HF.out
                  obtain rfl : ad = ad' := by rw [hA] at hA'; exact Option.some.inj hA'
                  clear hA'
                  subst hA
                  rw [hp0, hp1, hxy0, hxy1] at HPR
                  unfold pt at HPR
                  have hpl0' : (p0 : Int) < (l.length : Int) := by omega
                  have hpl1' : (p1 : Int) < (l.length : Int) := by omega
                  have hl2 : (l.length : Int) ≤ 500 := by have := H5.out; omega
                  have h02 : (0 : Int) < (j : Int) + 2 := by omega
                  have h12 : (1 : Int) < (j : Int) + 2 := by omega
                  have MR := Lib.hid (fun w (hf : Fr (fun _ => False) ws w) => (show w.cell? ⟨gq, 0, none⟩ = some (.int .i64 (p0 : Int)) ∧ w.cell? ⟨gq, 1, none⟩ = some (.int .i64 (p1 : Int)) ∧ w.cell? (ad.add (p0 * 2)) = some (.int .i64 x0) ∧ w.cell? ⟨(ad.add (p0 * 2)).block, (ad.add (p0 * 2)).off + 1, none⟩ = some (.int .i64 y0) ∧ w.cell? (ad.add (p1 * 2)) = some (.int .i64 x1) ∧ w.cell? ⟨(ad.add (p1 * 2)).block, (ad.add (p1 * 2)).off + 1, none⟩ = some (.int .i64 y1) from ⟨fr_cell q1 hf, fr_cell r1 hf, fr_cell q2 hf, fr_cell q3 hf, fr_cell r2 hf, fr_cell r3 hf⟩))
                  clear q1 q2 q3 r1 r2 r3 hj
                  generalize hpk : Hf.pick l q = pk at HPR PK
                  have HPK := Lib.hid hpk
                  clear hpk
                  go_upto_region 19 with fail
                  obtain ⟨q1, r1, q2, q3, r2, r3⟩ := MR.out ws.drew (Fr.refl _ ws).drew
                  go_region_held3 (fun w' => w'.cell? ⟨gq, 0, none⟩ = some (.int .i64 (p0 : Int)) ∧ w'.cell? ⟨gq, 1, none⟩ = some (.int .i64 (p1 : Int)) ∧ w'.cell? (ad.add (p0 * 2)) = some (.int .i64 x0) ∧ w'.cell? ⟨(ad.add (p0 * 2)).block, (ad.add (p0 * 2)).off + 1, none⟩ = some (.int .i64 y0) ∧ w'.cell? (ad.add (p1 * 2)) = some (.int .i64 x1) ∧ w'.cell? ⟨(ad.add (p1 * 2)).block, (ad.add (p1 * 2)).off + 1, none⟩ = some (.int .i64 y1))
                    (refine ⟨?_, ?_, ?_, ?_, ?_, ?_⟩ <;> with_reducible assumption)
                    ((go_at_call 40; have hc_ := HPR.out ws.drew (Fr.refl _ ws).drew; (with_reducible refine hc_.mono ?_); clear hc_; rintro e w5 ⟨rfl, f5⟩; have E5 := Lib.hid ((Fr.refl (fun _ => False) ws).drew.trans f5 (fun _ h _ => h)); obtain ⟨z1, z2, z3, z4, z5, z6⟩ := MR.out w5 E5.out; clear f5))
                  all_goals
                    clear q1 r1 q2 q3 r2 r3 z1 z2 z3 z4 z5 z6
                    rcases PK.out with hpk | ⟨i, hi, hpk⟩
                    · have HFL := Lib.hid (show Hf.fl l (List.range l.length) = none from by
                        have h := RU.out
                        rw [HSQ.out, runsR_snoc, Hf.runs_none NS.out (HPK.out.trans hpk)] at h
                        exact h)
                      subst hpk
                      have TE := Lib.hid (heap_alloc_new w5 (Obj.cells #[] 60))
                      have FE := Lib.hid ((FF.out.trans HF.out (fun _ h _ => h)).trans E5.out (fun _ h _ => h))
                      have RE := Lib.hid (show (w5.alloc (Obj.cells #[] 60)).ownsRow W.heap.size 60 3 (.slice (some ⟨w5.heap.size, 0, none⟩) 0 0) 0 (flatT []) from own_nil TE.out FE.out.size)
                      go_wp2_with fail
                      go_ret2
                      rw [HFL.out]
                      exact ⟨_, rfl, RE.out, FE.out.alloc _⟩
                    ·
                      have him : i < j := by have := HM.out; omega
                      obtain ⟨p2, x2, y2, ad2, hA2, hp2, hpl2, hxy2, s1, s2, s3⟩ := AT.out (i + 2) (by omega) w5 (HF.out.trans E5.out (fun _ h _ => h))
                      cases hA2
                      have HIM := Lib.hid him
                      have F5 := Lib.hid (HF.out.trans E5.out (fun _ h _ => h))
                      have G5 := Lib.hid (FF.out.trans F5.out (fun _ h _ => h))
                      have RO5 := Lib.hid (row_fr RO.out F5.out (fun _ _ h => h))
                      have ST5 := Lib.hid (POP.out.fr F5.out)
                      have RQ5 := Lib.hid (row_fr RQ.out F5.out (fun _ _ h => h))
                      have C5 := Lib.hid (show w5.cell? ⟨gq, 0, none⟩ = some (.int .i64 (p0 : Int)) ∧ w5.cell? ⟨gq, 1, none⟩ = some (.int .i64 (p1 : Int)) ∧ w5.cell? ⟨gq, i + 2, none⟩ = some (.int .i64 (p2 : Int)) from by
                        obtain ⟨z1, z2, _⟩ := MR.out w5 E5.out
                        exact ⟨z1, z2, s1⟩)
                      have HT := Lib.hid (show (Hf.pick l q = (i : Int)) from HPK.out.trans hpk)
                      subst hpk
                      have HP0 := Lib.hid hp0
                      have HP1 := Lib.hid hp1
                      have HP2 := Lib.hid hp2
                      have hi0 : ¬ (i : Int) < 0 := by omega
                      have hi1 : (0 : Int) ≤ (i : Int) + 2 := by omega
                      have hi2 : (i : Int) + 2 < (j : Int) + 2 := by omega
                      have hj500 : (j : Int) ≤ 500 := by have := H5.out; have := HDQ.out; omega
                      have C70 := Lib.hid (show (flatI q)[0]? = some (Value.int .i64 (p0 : Int)) from by rw [flatI_at q (0) (by have := HM.out; have := HIM.out; omega), ← HP0.out]; simp [List.getD, show 0 < q.length from by have := HM.out; have := HIM.out; omega])
                      have C71 := Lib.hid (show (flatI q)[1]? = some (Value.int .i64 (p1 : Int)) from by rw [flatI_at q (1) (by have := HM.out; have := HIM.out; omega), ← HP1.out]; simp [List.getD, show 1 < q.length from by have := HM.out; have := HIM.out; omega])
                      have C72 := Lib.hid (show (flatI q)[i + 2]? = some (Value.int .i64 (p2 : Int)) from by rw [flatI_at q (i + 2) (by have := HM.out; have := HIM.out; omega), ← HP2.out]; simp [List.getD, show i + 2 < q.length from by have := HM.out; have := HIM.out; omega])
                      have hw23 : IntKind.i64.wrap ((i : Int) + 2) = (i : Int) + 2 ∧ IntKind.i64.wrap ((i : Int) + 3) = (i : Int) + 3 := ⟨IntWalk.i64_in _ ⟨by omega, by omega⟩, IntWalk.i64_in _ ⟨by omega, by omega⟩⟩
                      have HW := Lib.hid hw23
                      have ht2 : ((i : Int) + 2).toNat = i + 2 := by omega
                      have hoj : o.length + j ≤ 500 := by have := H5.out; have := HDQ.out; omega
                      have HOJ := Lib.hid hoj
                      clear hw23 s1 s2 s3 MR HPR E5 HF BST HPK PK hoj hp0 hp1 hp2 hxy0 hxy1 hxy2 him HO RS RL RA RR TR FR PQ AT hi
                      obtain ⟨hw2, hw3⟩ := HW.out
                      go_upto_region 22 with fail
                      obtain ⟨c1, c2, c3⟩ := C5.out
                      have c1 : w5.drew.cell? ⟨gq, 0, none⟩ = some (.int .i64 (p0 : Int)) := c1
                      have c2 : w5.drew.cell? ⟨gq, 1, none⟩ = some (.int .i64 (p1 : Int)) := c2
                      have c3 : w5.drew.cell? ⟨gq, i + 2, none⟩ = some (.int .i64 (p2 : Int)) := c3
                      obtain ⟨i0, hi0', hz0, hz1, hz2⟩ := info_parts pinfo60
                      go_region_held3 (fun w' => w'.cell? ⟨gq, 0, none⟩ = some (.int .i64 (p0 : Int)) ∧ w'.cell? ⟨gq, 1, none⟩ = some (.int .i64 (p1 : Int)) ∧ w'.cell? ⟨gq, i + 2, none⟩ = some (.int .i64 (p2 : Int)))
                        (refine ⟨?_, ?_, ?_⟩ <;> first | with_reducible assumption | exact fr_cell (by with_reducible assumption) ((Fr.refl (fun _ => False) _).alloc _))
                        ((refine step_append_g (by rfl) _ _ _ (by rfl) W.heap.size 60 i0 _ 3 24 Try.underlying45 hi0' hz0 hz1 hz2 rfl (by decide) (.slice po o.length co) o.length (flatT o) (by rfl) (RO5.out.drew.alloc _) ⟨w5.heap.size, 0, none⟩ 1 1 [.int .i64 (p0 : Int), .int .i64 (p1 : Int), .int .i64 (p2 : Int)] (by rfl) (by rfl) (World.news_of_block (cs := #[.int .i64 (p0 : Int), .int .i64 (p1 : Int), .int .i64 (p2 : Int)]) (t := 60) (fr := (0, 0)) (heap_alloc_new w5.drew _)) (by intro u hu; simp at hu; rcases hu with rfl | rfl | rfl <;> rfl) (by decide) (by have h1 := HOJ.out; unfold maxLen; omega) (by have h1 := HOJ.out; omega) (by simp; exact Nat.le_succ_of_le G5.out.size) (w5.heap.size + 1) (by simp) ?_; intro gg cap w7 hown7 hgrow hat hlt7; have RQ7 := Lib.hid (row_gr (row_fr RQ5.out ((Fr.refl (fun _ => False) w5).drew.alloc (Obj.cells #[.int .i64 (p0 : Int), .int .i64 (p1 : Int), .int .i64 (p2 : Int)] 60)) (fun _ _ h => h)) hgrow (RO5.out.drew.alloc _) (by decide)); have ST7 := Lib.hid ((ST5.out.fr ((Fr.refl (fun _ => False) w5).drew.alloc (Obj.cells #[.int .i64 (p0 : Int), .int .i64 (p1 : Int), .int .i64 (p2 : Int)] 60))).gr hgrow (RO5.out.drew.alloc _) (by decide) (by decide)); have RO7 := Lib.hid hown7; have F7 := Lib.hid ((G5.out.drew.alloc (Obj.cells #[.int .i64 (p0 : Int), .int .i64 (p1 : Int), .int .i64 (p2 : Int)] 60)).grown hgrow (fun k hk => .inr (rbase RO5.out k hk).1)); have c71 := row_cell RQ7.out 0 _ C70.out; have c72 := row_cell RQ7.out 1 _ C71.out; have c73 := row_cell RQ7.out (i + 2) _ C72.out; clear hown7 hgrow hat hlt7))
                      all_goals
                        clear c1 c2 c3 c71 c72 c73
                        clear hw2 hw3 hi0 hi1 hi2
                        go_upto_region 23 with fail
                        have HN1 := Lib.hid (fun w (hf : Fr (fun _ => False) w7.drew w) => (show Its w gq 0 q from (its_row RQ7.out).frS (((Fr.refl (fun _ => False) w7).drew).trans hf (fun _ h _ => h)) (fun h => h)))
                        have hcq : j + 2 ≤ cq := by have h := row_cap RQ.out; omega
                        have HCQ := Lib.hid hcq
                        have hw3 := HW.out.2
                        have hw2 := HW.out.1
                        have ht3 : ((i : Int) + 3).toNat = i + 3 := by omega
                        have hi3 : (1 : Int) ≤ (i : Int) + 3 := by omega
                        have hi4 : (i : Int) + 3 ≤ (cq : Int) := by have := HIM.out; omega
                        have hi5 : (i : Int) + 2 ≤ (j : Int) + 2 := by have := HIM.out; omega
                        have hi6 : (0 : Int) ≤ (i : Int) + 2 := by omega
                        have hc01 : ¬ cq = 1 := by omega
                        have hc02 : ¬ cq = i + 2 := by have := HIM.out; omega
                        have h02 : (0 : Int) < (j : Int) + 2 := by omega
                        obtain ⟨i3, hi3', hy0, hy1, hy2⟩ := info_parts pinfo3
                        clear hcq
                        have N1 := Lib.hid (fun w (hf : Fr (fun _ => False) w7.drew w) a u (hu : (flatI ((q.drop 1).take (i + 2)))[a]? = some u) => (show w.cell? ((⟨gq, 1, none⟩ : Addr).add a) = some u from by
                          have hal : a < ((q.drop 1).take (i + 2)).length := by have h := (List.getElem?_eq_some_iff.1 hu).1; unfold flatI at h; rwa [List.length_map] at h
                          have hal2 : a + 1 < q.length := by simp at hal; omega
                          rw [flatI_at _ a hal] at hu
                          rw [addo, ← hu, show 1 + a = 0 + (a + 1) from by omega, HN1.out w hf (a + 1) hal2]
                          simp))
                        have N2 := Lib.hid (fun w (hf : Fr (fun _ => False) w7.drew w) a u (hu : (flatI (q.drop (i + 2)))[a]? = some u) => (show w.cell? ((⟨gq, i + 2, none⟩ : Addr).add a) = some u from by
                          have hal : a < (q.drop (i + 2)).length := by have h := (List.getElem?_eq_some_iff.1 hu).1; unfold flatI at h; rwa [List.length_map] at h
                          have hal2 : a + (i + 2) < q.length := by simp at hal; omega
                          rw [flatI_at _ a hal] at hu
                          rw [addo, ← hu, show i + 2 + a = 0 + (a + (i + 2)) from by omega, HN1.out w hf (a + (i + 2)) hal2]
                          simp [Nat.add_comm (i + 2) a]))
                        have N0 := Lib.hid (fun w (hf : Fr (fun _ => False) w7.drew w) => row_cell (row_fr RQ7.out (((Fr.refl (fun _ => False) w7).drew).trans hf (fun _ h _ => h)) (fun _ _ h => h)) 0 _ C70.out)
                        have LP1 := Lib.hid (show (flatI ((q.drop 1).take (i + 2))).length = (i + 2) * 1 from by have h1 := HM.out; have h2 := HIM.out; unfold flatI; simp; omega)
                        have LP2 := Lib.hid (show (flatI (q.drop (i + 2))).length = (j - i) * 1 from by have h1 := HM.out; have h2 := HIM.out; unfold flatI; simp; omega)
                        have OC := Lib.hid (fun (p : List Nat) u (hu : u ∈ flatI p) => (show u.oneCell' = true from by unfold flatI at hu; obtain ⟨a, _, rfl⟩ := List.mem_map.1 hu; rfl))
                        refine wp_region_inv (fun L a w => ∃ vs : Nat → Value, a = ({ tmps := #[Value.slice (some ad) l.length cp, undef, u2, u3, Value.slice (some { block := gg, off := 0 }) (o.length + 1) cap, Value.slice (some { block := ga, off := 0 }) l.length cr, Value.int IntKind.i64 ↑l.length, Value.slice (some { block := gw, off := 0 }) k cw, Value.slice (some { block := gq, off := 0 }) (j + 2) cq, Value.slice (some { block := gr, off := 0 }) j cr2, Value.int IntKind.i64 (↑j + 2), Value.int IntKind.i64 ↑i, vs 17, vs 18, Value.slice (some { block := W.heap.size, off := 0 }) 0 0, Value.slice (some ad) l.length cp, Value.int IntKind.i64 ↑l.length, Value.bool false, Value.bool false, Value.slice (some ad) l.length cp, Value.int IntKind.i64 ↑l.length, Value.bool false, Value.bool false, undef, Value.slice (some { block := w1.heap.size, off := 0 }) 0 0, Value.int IntKind.i64 ↑l.length, Value.slice (some ad) l.length cp, Value.int IntKind.i64 ↑l.length, Value.bool false, u29, u30, u31, u32, u33, u34, Value.slice (some { block := ga, off := 0 }) l.length cr, Value.slice (some { block := wo.heap.size, off := 0 }) 1 1, Value.slice (some { block := gw, off := 0 }) (k + 1) cw, Value.int IntKind.i64 (↑k + 1), Value.bool true, Value.slice (some { block := gw, off := 0 }) (k + 1) cw, Value.slice (some { block := gw, off := 0 }) (k + 1) cw, Value.int IntKind.i64 (↑k + 1), Value.int IntKind.i64 ↑k, Value.pointer (some { block := gw, off := k }), Value.slice (some { block := gq, off := 0 }) (j + 2) cq, Value.slice (some { block := gw, off := 0 }) (k + 1) cw, Value.slice (some { block := gw, off := 0 }) (k + 1) cw, Value.int IntKind.i64 (↑k + 1), Value.int IntKind.i64 ↑k, Value.slice (some { block := gw, off := 0 }) k cw, Value.slice (some { block := gq, off := 0 }) (j + 2) cq, Value.int IntKind.i64 (↑j + 2), Value.bool false, Value.slice (some { block := wb.heap.size, off := 0 }) 0 0, Value.int IntKind.i64 (↑j + 2), Value.slice (some { block := gq, off := 0 }) (j + 2) cq, Value.int IntKind.i64 (↑j + 2), Value.bool false, u59, u60, u61, u62, u63, u64, u65, u66, u67, u68, u69, u70, Value.slice (some ad) l.length cp, Value.slice (some { block := gq, off := 0 }) (j + 2) cq, Value.pointer (some { block := gq, off := 0 }), Value.int IntKind.i64 ↑p0, Value.pointer (some (ad.add (p0 * 2))), Value.agg #[Value.int IntKind.i64 x0, Value.int IntKind.i64 y0], Value.slice (some ad) l.length cp, Value.slice (some { block := gq, off := 0 }) (j + 2) cq, Value.pointer (some { block := gq, off := 1 }), Value.int IntKind.i64 ↑p1, Value.pointer (some (ad.add (p1 * 2))), Value.agg #[Value.int IntKind.i64 x1, Value.int IntKind.i64 y1], Value.slice (some { block := gr, off := 0 }) j cr2, Value.int IntKind.i64 ↑i, Value.int IntKind.i64 ↑i, Value.bool false, u87, Value.slice po o.length co, Value.slice (some { block := gq, off := 0 }) (j + 2) cq, Value.pointer (some { block := gq, off := 0 }), Value.int IntKind.i64 ↑p0, Value.slice (some { block := gq, off := 0 }) (j + 2) cq, Value.pointer (some { block := gq, off := 1 }), Value.int IntKind.i64 ↑p1, Value.slice (some { block := gq, off := 0 }) (j + 2) cq, Value.int IntKind.i64 ↑i, Value.int IntKind.i64 (↑i + 2), Value.pointer (some { block := gq, off := i + 2 }), Value.int IntKind.i64 ↑p2, Value.agg #[Value.int IntKind.i64 ↑p0, Value.int IntKind.i64 ↑p1, Value.int IntKind.i64 ↑p2], Value.slice (some { block := w5.heap.size, off := 0 }) 1 1, Value.slice (some { block := gg, off := 0 }) (o.length + 1) cap, vs 0, vs 1, vs 2, vs 3, vs 4, vs 5, vs 6, vs 7, vs 8, vs 9, vs 10, vs 11, vs 12, vs 13, vs 14, vs 15, vs 16, u120, u121, u122, u123, u124, u125, u126, undef], defers := [] } : Act) ∧ Rag (kr [.row (0) ([]) 5, .val (.slice (some ⟨gq, 0, none⟩) (j + 2) cq), .val (.int .i64 (i : Int)), .val (.int .i64 ((i : Int) + 3)), .val (.slice (some ⟨gq, 1, none⟩) (i + 2) (cq - 1)), .row (0 + (i + 2)) ([] ++ (flatI ((q.drop 1).take (i + 2)))) 17, .row (0) ([]) 11, .val (.slice (some ⟨gq, 0, none⟩) (j + 2) cq), .val (.int .i64 (i : Int)), .val (.int .i64 ((i : Int) + 2)), .val (.slice (some ⟨gq, i + 2, none⟩) (j - i) (cq - (i + 2))), .row (0 + (j - i)) ([] ++ (flatI (q.drop (i + 2)))) 16, .val (.slice (some ⟨gq, 0, none⟩) (j + 2) cq), .val (.pointer (some ⟨gq, 0, none⟩)), .val (.int .i64 (p0 : Int)), .row (1) ([.int .i64 (p0 : Int)]) 16, .row (0 + (j - i) + 1) (([] ++ (flatI (q.drop (i + 2)))) ++ [.int .i64 (p0 : Int)]) 18, .row (0 + (i + 2)) ([] ++ (flatI ((q.drop 1).take (i + 2)))) 1000, .row (0 + (j - i) + 1) (([] ++ (flatI (q.drop (i + 2)))) ++ [.int .i64 (p0 : Int)]) 1000]) 3 1 w7.drew L w vs) (by kernel_rfl) (by kernel_rfl) ?_ ?_ ?_
                        rotate_left 1
                        · intro L a w h hall
                          obtain ⟨vs, rfl, b⟩ := h
                          obtain ⟨ra, g12, c12, e12⟩ := b.row 17 _ _ 1000 rfl (hall 17 (by decide)) (b.far (by decide))
                          obtain ⟨rb, g13, c13, e13⟩ := b.row 18 _ _ 1000 rfl (hall 18 (by decide)) (b.far (by decide))
                          rw [e12] at ra ⊢
                          rw [e13] at rb ⊢
                          simp only [Nat.zero_add, List.nil_append] at ra rb
                          simp only [Nat.zero_add]
                          obtain ⟨w8, hw8⟩ : ∃ x, x = w := ⟨_, rfl⟩
                          subst hw8
                          have G8 := Lib.hid (((Fr.refl (fun _ => False) w7).drew).trans b.fr (fun _ h _ => h))
                          have F8 := Lib.hid (F7.out.trans G8.out (fun _ h _ => h))
                          have RA8 := Lib.hid (ZFr.row_low ra F7.out.size)
                          have RB8 := Lib.hid (ZFr.row_low rb F7.out.size)
                          have RO8 := Lib.hid (row_fr RO7.out G8.out (fun _ _ h => h))
                          have ST8 := Lib.hid (ST7.out.fr G8.out)
                          clear b hall e12 e13 ra rb N0 N1 N2 HN1 LP1 LP2 OC hw2 hw3 hi3 hi4 hi5 hi6 hc01 hc02 ht3 RQ7 RO7 ST7
                          generalize vs 0 = y0, vs 1 = y1, vs 2 = y2, vs 3 = y3, vs 4 = y4, vs 5 = y5, vs 6 = y6, vs 7 = y7, vs 8 = y8, vs 9 = y9, vs 10 = y10, vs 11 = y11, vs 12 = y12, vs 13 = y13, vs 14 = y14, vs 15 = y15, vs 16 = y16
                          go_upto_region 24 with fail
                          obtain ⟨hd, hrd, hhd⟩ := ST8.out
                          rw [HK.out] at hrd
                          have HD := Lib.hid hrd
                          have HH := Lib.hid hhd
                          have HDL := Lib.hid (show hd.length = k * 1 from hrd.1)
                          have HD1 := Lib.hid (show ∀ u ∈ hd, u.oneCell' = true from fun u hu => by
                            obtain ⟨a, ha, rfl⟩ := List.getElem_of_mem hu
                            have hal : a < st'.length := by have := HDL.out; have := HK.out; omega
                            obtain ⟨u', hu', g', c', e', _⟩ := HH.out a hal
                            have h2 : hd[a]? = some hd[a] := List.getElem?_eq_getElem ha
                            rw [h2] at hu'
                            have h3 : hd[a] = u' := Option.some.inj hu'
                            rw [h3, e']; rfl)
                          clear hrd hhd
                          obtain ⟨i37, hi37, hv0, hv1, hv2⟩ := info_parts pinfo37
                          have hk501 : k ≤ 501 := by omega
                          have TE := Lib.hid (heap_alloc_new w8 (Obj.cells #[] 37))
                          have OE := Lib.hid (show (w8.alloc (Obj.cells #[] 37)).ownsRow W.heap.size 37 1 (.slice (some ⟨w8.heap.size, 0, none⟩) 0 0) 0 [] from own_nil TE.out F8.out.size)
                          go_wp2_with (at_builtin; refine wpList_append_own_at _ rfl (.tmp 120) (.tmp 121) 84 rfl W.heap.size 37 i37 _ 1 24 Try.underlying84 hi37 hv0 hv1 hv2 rfl (by decide) (.slice (some ⟨w8.heap.size, 0, none⟩) 0 0) 0 [] rfl OE.out ⟨gw, 0, none⟩ k cw hd rfl HDL.out (fun a u hu => by rw [add0]; exact fr_cell (row_cell HD.out a u hu) ((Fr.refl (fun _ => False) w8).alloc _)) HD1.out (by unfold maxLen; omega) (by omega) (by simp; exact Nat.le_succ_of_le F8.out.size) ?more)
                          case more =>
                            intro v9 w9 hown9 hgrow9 _ _
                            have GE := Lib.hid (show Fr (fun _ => False) w8 (w8.alloc (Obj.cells #[] 37)) from (Fr.refl _ w8).alloc _)
                            obtain ⟨p9, c9, rfl⟩ := row_slice hown9
                            have R9 := Lib.hid hown9
                            have F9 := Lib.hid ((F8.out.trans GE.out (fun _ h _ => h)).grown hgrow9 (fun k hk => .inr (rbase OE.out k hk).1))
                            have RA9 := Lib.hid (row_gr (row_fr RA8.out GE.out (fun _ _ h => h)) hgrow9 OE.out (by decide))
                            have RB9 := Lib.hid (row_gr (row_fr RB8.out GE.out (fun _ _ h => h)) hgrow9 OE.out (by decide))
                            have RO9 := Lib.hid (row_gr (row_fr RO8.out GE.out (fun _ _ h => h)) hgrow9 OE.out (by decide))
                            have LS9 := Lib.hid (fun a (h : a < st'.length) => (show ∃ u, hd[a]? = some u ∧ Lst W.heap.size w9 u st'[a] from by
                              obtain ⟨u, hu, hl⟩ := HH.out a h
                              exact ⟨u, hu, (hl.fr GE.out).gr hgrow9 OE.out (by decide)⟩))
                            clear hown9 hgrow9
                            have TF := Lib.hid (heap_alloc_new w9 (Obj.cells #[.slice (some ⟨g13, 0, none⟩) (j - i + 1) c13, .slice (some ⟨g12, 0, none⟩) (i + 2) c12] 37))
                            have GF := Lib.hid (show Fr (fun _ => False) w9 (w9.alloc (Obj.cells #[.slice (some ⟨g13, 0, none⟩) (j - i + 1) c13, .slice (some ⟨g12, 0, none⟩) (i + 2) c12] 37)) from (Fr.refl _ w9).alloc _)
                            have NEW := Lib.hid (show ∀ u ∈ [Value.slice (some ⟨g13, 0, none⟩) (j - i + 1) c13, Value.slice (some ⟨g12, 0, none⟩) (i + 2) c12], u.oneCell' = true from by intro u hu; simp at hu; rcases hu with rfl | rfl <;> rfl)
                            go_wp2_with (at_builtin; refine wpList_append_own_at _ rfl (.tmp 122) (.tmp 125) 84 rfl W.heap.size 37 i37 _ 1 24 Try.underlying84 hi37 hv0 hv1 hv2 rfl (by decide) (.slice p9 k c9) k hd rfl (R9.out.alloc _) ⟨w9.heap.size, 0, none⟩ 2 2 [.slice (some ⟨g13, 0, none⟩) (j - i + 1) c13, .slice (some ⟨g12, 0, none⟩) (i + 2) c12] rfl rfl (World.news_of_block (cs := #[.slice (some ⟨g13, 0, none⟩) (j - i + 1) c13, .slice (some ⟨g12, 0, none⟩) (i + 2) c12]) (t := 37) (fr := (0, 0)) (heap_alloc_new w9 _)) NEW.out (by unfold maxLen; omega) (by omega) (by simp; exact Nat.le_succ_of_le F9.out.size) ?more2)
                            case more2 =>
                              intro v10 w10 hown10 hgrow10 _ _
                              obtain ⟨p10, c10, rfl⟩ := row_slice hown10
                              have R10 := Lib.hid hown10
                              have OX := Lib.hid (show (w9.alloc (Obj.cells #[.slice (some ⟨g13, 0, none⟩) (j - i + 1) c13, .slice (some ⟨g12, 0, none⟩) (i + 2) c12] 37)).ownsRow W.heap.size 37 1 (.slice p9 k c9) k hd from R9.out.alloc _)
                              have F10 := Lib.hid ((F9.out.alloc (Obj.cells #[.slice (some ⟨g13, 0, none⟩) (j - i + 1) c13, .slice (some ⟨g12, 0, none⟩) (i + 2) c12] 37)).grown hgrow10 (fun k hk => .inr (rbase R9.out k hk).1))
                              have RA10 := Lib.hid (row_gr (row_fr RA9.out GF.out (fun _ _ h => h)) hgrow10 OX.out (by decide))
                              have RB10 := Lib.hid (row_gr (row_fr RB9.out GF.out (fun _ _ h => h)) hgrow10 OX.out (by decide))
                              have RO10 := Lib.hid (row_gr (row_fr RO9.out GF.out (fun _ _ h => h)) hgrow10 OX.out (by decide))
                              have LS10 := Lib.hid (fun a (h : a < st'.length) => (show ∃ u, hd[a]? = some u ∧ Lst W.heap.size w10 u st'[a] from by
                                obtain ⟨u, hu, hl⟩ := LS9.out a h
                                exact ⟨u, hu, (hl.fr GF.out).gr hgrow10 OX.out (by decide)⟩))
                              clear hown10 hgrow10
                              -- the two lists that wait on top
                              have LA := Lib.hid (show Lst W.heap.size w10 (.slice (some ⟨g12, 0, none⟩) (i + 2) c12) ((q.drop 1).take (i + 2)) from by
                                have e : ((q.drop 1).take (i + 2)).length = i + 2 := by have h1 := HM.out; have h2 := HIM.out; simp; omega
                                exact ⟨g12, c12, by rw [e], by rw [e]; exact RA10.out⟩)
                              have LB := Lib.hid (show Lst W.heap.size w10 (.slice (some ⟨g13, 0, none⟩) (j - i + 1) c13) (q.drop (i + 2) ++ [q.getD 0 0]) from by
                                have e : (q.drop (i + 2) ++ [q.getD 0 0]).length = j - i + 1 := by have h1 := HM.out; have h2 := HIM.out; simp; omega
                                have e2 : flatI (q.drop (i + 2) ++ [q.getD 0 0]) = flatI (q.drop (i + 2)) ++ [.int .i64 (p0 : Int)] := by unfold flatI; rw [List.map_append, HP0.out]; rfl
                                exact ⟨g13, c13, by rw [e], by rw [e, e2]; exact RB10.out⟩)
                              go_wp2_with fail
                              go_roundw
                              case rel =>
                                refine ⟨st' ++ [q.drop (i + 2) ++ [q.getD 0 0]] ++ [(q.drop 1).take (i + 2)], o ++ [(p0, p1, p2)], ?_, ?_, ?_, ?_, ?_, ?_, F10.out⟩
                                · rw [flatT_app, List.length_append]
                                  exact RO10.out
                                · refine ⟨hd ++ [.slice (some ⟨g13, 0, none⟩) (j - i + 1) c13, .slice (some ⟨g12, 0, none⟩) (i + 2) c12], ?_, fun a ha => ?_⟩
                                  · have e : (st' ++ [q.drop (i + 2) ++ [q.getD 0 0]] ++ [(q.drop 1).take (i + 2)]).length = k + 2 := by have := HK.out; simp; omega
                                    rw [e]; exact R10.out
                                  · have hkl := HK.out
                                    have hdl := HDL.out
                                    by_cases ha1 : a < k
                                    · obtain ⟨u, hu, hl⟩ := LS10.out a (by omega)
                                      refine ⟨u, by rw [List.getElem?_append_left (by omega)]; exact hu, ?_⟩
                                      rw [List.getElem_append_left (by simp; omega), List.getElem_append_left (by omega)]
                                      exact hl
                                    · by_cases ha2 : a = k
                                      · subst ha2
                                        refine ⟨_, by rw [List.getElem?_append_right (by omega), show a - hd.length = 0 from by omega]; rfl, ?_⟩
                                        rw [List.getElem_append_left (by simp; omega), List.getElem_append_right (by omega)]
                                        simp only [hkl, Nat.sub_self, List.getElem_cons_zero]
                                        exact LB.out
                                      · have ha3 : a = k + 1 := by simp at ha; omega
                                        subst ha3
                                        refine ⟨_, by rw [List.getElem?_append_right (by omega), show k + 1 - hd.length = 1 from by omega]; rfl, ?_⟩
                                        rw [List.getElem_append_right (by simp; omega)]
                                        simp only [List.length_append, hkl, List.length_cons, List.length_nil, Nat.zero_add, Nat.sub_self, List.getElem_cons_zero]
                                        exact LA.out
                                · intro p hp
                                  have h1 := HM.out
                                  have h2 := HIM.out
                                  rcases List.mem_append.1 hp with hp | hp
                                  · rcases List.mem_append.1 hp with hp | hp
                                    · exact AL.out p (by rw [HSQ.out]; exact List.mem_append_left _ hp)
                                    · have e : p = q.drop (i + 2) ++ [q.getD 0 0] := by simpa using hp
                                      subst e
                                      refine ⟨by simp; omega, fun a ha => ?_⟩
                                      rcases List.mem_append.1 ha with h | h
                                      · exact HQ2.out.2 a (List.mem_of_mem_drop h)
                                      · have h0 : 0 < q.length := by omega
                                        have e : a = q.getD 0 0 := by simpa using h
                                        rw [e, show q.getD 0 0 = q[0] from by simp [List.getD, h0]]
                                        exact HQ2.out.2 _ (List.getElem_mem h0)
                                  · have e : p = (q.drop 1).take (i + 2) := by simpa using hp
                                    subst e
                                    exact ⟨by simp; omega, fun a ha => HQ2.out.2 a (List.mem_of_mem_drop (List.mem_of_mem_take ha))⟩
                                · have h1 := HM.out
                                  have h2 := HIM.out
                                  have h3 := HDQ.out
                                  have h4 := HOJ.out
                                  have e1 : ((q.drop 1).take (i + 2)).length = i + 2 := by simp; omega
                                  have e2 : (q.drop (i + 2) ++ [q.getD 0 0]).length = j - i + 1 := by simp; omega
                                  rw [due_snoc, due_snoc, e1, e2, List.length_append]
                                  have h5 := H3.out
                                  have h6 := DU.out
                                  rw [HSQ.out, due_snoc] at h6
                                  simp only [List.length_cons, List.length_nil]
                                  omega
                                · have h1 := DP.out
                                  have h2 := HK.out
                                  rw [HKK.out] at h1
                                  simp only [List.length_append, List.length_cons, List.length_nil]
                                  omega
                                · have h := RU.out
                                  rw [HSQ.out, runsR_snoc, Hf.runs_some NS.out HT.out, HP0.out, HP1.out, HP2.out] at h
                                  rw [h, HP0.out]
                                  unfold runsR
                                  simp only [List.reverse_append, List.reverse_cons, List.reverse_nil, List.nil_append, List.cons_append, Option.map_map]
                                  congr 1
                                  funext x
                                  simp
                              case measure =>
                                have h1 := HOJ.out
                                have h2 := DU.out
                                have h3 := H3.out
                                have h4 := HIM.out
                                have h5 := HDQ.out
                                simp [slen]
                                omega
                        · exact ⟨fun j => ([u103, u104, u105, u106, u107, u108, u109, u110, u111, u112, u113, u114, u115, u116, u117, u118, u119, u12, u13] : List Value).getD j undef, rfl, Rag.start (by decide)⟩
                        refine Each.cons ?_ ?_
                        · intro L a w h hi hno hn K hK; obtain ⟨vs, rfl, b⟩ := h
                          go_simp
                          exact hK.out _ _ ⟨_, rfl, b.put hi hno rfl (own_nil (heap_alloc_new w _) b.fr.size) (grown_alloc _) (.inr rfl) (.inl rfl)⟩
                        refine Each.cons ?_ ?_
                        · intro L a w h hi hno hn K hK; obtain ⟨vs, rfl, b⟩ := h
                          go_simp
                          exact hK.out _ _ ⟨_, rfl, b.quiet hi hno (Fr.refl _ _) rfl⟩
                        refine Each.cons ?_ ?_
                        · intro L a w h hi hno hn K hK; obtain ⟨vs, rfl, b⟩ := h
                          go_simp
                          exact hK.out _ _ ⟨_, rfl, b.quiet hi hno (Fr.refl _ _) rfl⟩
                        refine Each.cons ?_ ?_
                        · intro L a w h hi hno hn K hK; obtain ⟨vs, rfl, b⟩ := h
                          have e2 := b.val 2 _ rfl (hn 2 (by decide))
                          go_simp
                          exact hK.out _ _ ⟨_, rfl, Rag.same (j := 2) (b.quiet hi hno (Fr.refl _ _) rfl) e2⟩
                        refine Each.cons ?_ ?_
                        · intro L a w h hi hno hn K hK; obtain ⟨vs, rfl, b⟩ := h
                          have e1 := b.val 1 _ rfl (hn 1 (by decide))
                          have e3 := b.val 3 _ rfl (hn 3 (by decide))
                          go_simp
                          exact hK.out _ _ ⟨_, rfl, Rag.same (j := 3) (Rag.same (j := 1) (b.quiet hi hno (Fr.refl _ _) rfl) e1) e3⟩
                        refine Each.cons ?_ ?_
                        · intro L a w h hi hno hn K hK; obtain ⟨vs, rfl, b⟩ := h
                          have ex := b.val 4 _ rfl (hn 4 (by decide))
                          obtain ⟨hr, _⟩ := b.row 0 _ _ _ rfl (hn 0 (by decide)) hno
                          refine step_append_lies _ rfl (.tmp 103) (.tmp 107) 37 rfl w7.drew.heap.size 3 i3 _ 1 8 Try.underlying37 hi3' hy0 hy1 hy2 rfl (by decide) (vs 0) 0 [] rfl hr ⟨gq, 1, none⟩ (i + 2) (cq - 1) (flatI ((q.drop 1).take (i + 2))) ex LP1.out (N1.out w b.fr) (OC.out ((q.drop 1).take (i + 2))) (by have := HIM.out; omega) (by have := HOJ.out; have := HIM.out; unfold maxLen; omega) (by have := HOJ.out; have := HIM.out; omega) b.fr.size w.heap.size rfl ?_
                          intro g9 c9 w9 hown9 hgrow9 hat9 hlt9
                          exact hK.out _ _ ⟨_, rfl, b.put hi hno rfl hown9 hgrow9 hat9 (.inr ⟨0, 0, [], rfl, hn 0 (by decide), rfl⟩)⟩
                        refine Each.cons ?_ ?_
                        · intro L a w h hi hno hn K hK; obtain ⟨vs, rfl, b⟩ := h
                          go_simp
                          exact hK.out _ _ ⟨_, rfl, b.put hi hno rfl (own_nil (heap_alloc_new w _) b.fr.size) (grown_alloc _) (.inr rfl) (.inl rfl)⟩
                        refine Each.cons ?_ ?_
                        · intro L a w h hi hno hn K hK; obtain ⟨vs, rfl, b⟩ := h
                          go_simp
                          exact hK.out _ _ ⟨_, rfl, b.quiet hi hno (Fr.refl _ _) rfl⟩
                        refine Each.cons ?_ ?_
                        · intro L a w h hi hno hn K hK; obtain ⟨vs, rfl, b⟩ := h
                          go_simp
                          exact hK.out _ _ ⟨_, rfl, b.quiet hi hno (Fr.refl _ _) rfl⟩
                        refine Each.cons ?_ ?_
                        · intro L a w h hi hno hn K hK; obtain ⟨vs, rfl, b⟩ := h
                          have e8 := b.val 8 _ rfl (hn 8 (by decide))
                          go_simp
                          exact hK.out _ _ ⟨_, rfl, Rag.same (j := 8) (b.quiet hi hno (Fr.refl _ _) rfl) e8⟩
                        refine Each.cons ?_ ?_
                        · intro L a w h hi hno hn K hK; obtain ⟨vs, rfl, b⟩ := h
                          have e7 := b.val 7 _ rfl (hn 7 (by decide))
                          have e9 := b.val 9 _ rfl (hn 9 (by decide))
                          go_simp
                          exact hK.out _ _ ⟨_, rfl, Rag.same (j := 9) (Rag.same (j := 7) (b.quiet hi hno (Fr.refl _ _) rfl) e7) e9⟩
                        refine Each.cons ?_ ?_
                        · intro L a w h hi hno hn K hK; obtain ⟨vs, rfl, b⟩ := h
                          have ex := b.val 10 _ rfl (hn 10 (by decide))
                          obtain ⟨hr, _⟩ := b.row 6 _ _ _ rfl (hn 6 (by decide)) hno
                          refine step_append_lies _ rfl (.tmp 109) (.tmp 113) 37 rfl w7.drew.heap.size 3 i3 _ 1 8 Try.underlying37 hi3' hy0 hy1 hy2 rfl (by decide) (vs 6) 0 [] rfl hr ⟨gq, i + 2, none⟩ (j - i) (cq - (i + 2)) (flatI (q.drop (i + 2))) ex LP2.out (N2.out w b.fr) (OC.out (q.drop (i + 2))) (by have := HIM.out; omega) (by have := HOJ.out; have := HIM.out; unfold maxLen; omega) (by have := HOJ.out; have := HIM.out; omega) b.fr.size w.heap.size rfl ?_
                          intro g9 c9 w9 hown9 hgrow9 hat9 hlt9
                          exact hK.out _ _ ⟨_, rfl, b.put hi hno rfl hown9 hgrow9 hat9 (.inr ⟨6, 0, [], rfl, hn 6 (by decide), rfl⟩)⟩
                        refine Each.cons ?_ ?_
                        · intro L a w h hi hno hn K hK; obtain ⟨vs, rfl, b⟩ := h
                          go_simp
                          exact hK.out _ _ ⟨_, rfl, b.quiet hi hno (Fr.refl _ _) rfl⟩
                        refine Each.cons ?_ ?_
                        · intro L a w h hi hno hn K hK; obtain ⟨vs, rfl, b⟩ := h
                          have e12 := b.val 12 _ rfl (hn 12 (by decide))
                          go_simp
                          exact hK.out _ _ ⟨_, rfl, Rag.same (j := 12) (b.quiet hi hno (Fr.refl _ _) rfl) e12⟩
                        refine Each.cons ?_ ?_
                        · intro L a w h hi hno hn K hK; obtain ⟨vs, rfl, b⟩ := h
                          have e13 := b.val 13 _ rfl (hn 13 (by decide))
                          have N0_ := N0.out w b.fr
                          go_simp
                          exact hK.out _ _ ⟨_, rfl, Rag.same (j := 13) (b.quiet hi hno (Fr.refl _ _) rfl) e13⟩
                        refine Each.cons ?_ ?_
                        · intro L a w h hi hno hn K hK; obtain ⟨vs, rfl, b⟩ := h
                          have e14 := b.val 14 _ rfl (hn 14 (by decide))
                          go_simp
                          exact hK.out _ _ ⟨_, rfl, Rag.same (j := 14) (b.put hi hno rfl (own_one (heap_alloc_new w _) b.fr.size) (grown_alloc _) (.inr rfl) (.inl rfl)) e14⟩
                        refine Each.cons ?_ ?_
                        · intro L a w h hi hno hn K hK; obtain ⟨vs, rfl, b⟩ := h
                          obtain ⟨hr, _⟩ := b.row 11 _ _ _ rfl (hn 11 (by decide)) hno
                          obtain ⟨hr2, g15, c15, ex⟩ := b.row 15 _ _ _ rfl (hn 15 (by decide)) hno
                          have hr3 := hr2
                          rw [ex] at hr3
                          refine step_append_lies _ rfl (.tmp 114) (.tmp 118) 37 rfl w7.drew.heap.size 3 i3 _ 1 8 Try.underlying37 hi3' hy0 hy1 hy2 rfl (by decide) (vs 11) (0 + (j - i)) ([] ++ (flatI (q.drop (i + 2)))) rfl hr ⟨g15, 0, none⟩ 1 c15 [.int .i64 (p0 : Int)] ex rfl (fun a u hu => by rw [add0]; exact row_cell hr3 a u hu) (by intro u hu; simp at hu; subst hu; rfl) (by decide) (by have := HOJ.out; have := HIM.out; unfold maxLen; omega) (by have := HOJ.out; have := HIM.out; omega) b.fr.size w.heap.size rfl ?_
                          intro g9 c9 w9 hown9 hgrow9 hat9 hlt9
                          exact hK.out _ _ ⟨_, rfl, b.put hi hno rfl hown9 hgrow9 hat9 (.inr ⟨11, _, _, rfl, hn 11 (by decide), rfl⟩)⟩
                        refine Each.cons ?_ ?_
                        · intro L a w h hi hno hn K hK; obtain ⟨vs, rfl, b⟩ := h
                          go_simp
                          obtain ⟨_, g9, c9, ex⟩ := b.row 5 _ _ _ rfl (hn 5 (by decide)) hno
                          exact hK.out _ _ ⟨_, rfl, b.pass hi hno (j := 5) rfl rfl (hn 5 (by decide)) ex⟩
                        refine Each.cons ?_ ?_
                        · intro L a w h hi hno hn K hK; obtain ⟨vs, rfl, b⟩ := h
                          go_simp
                          obtain ⟨_, g9, c9, ex⟩ := b.row 16 _ _ _ rfl (hn 16 (by decide)) hno
                          exact hK.out _ _ ⟨_, rfl, b.pass hi hno (j := 16) rfl rfl (hn 16 (by decide)) ex⟩
                        exact trivial
end Go.Proofs.Ytngmkjgklonfmaa.Wd

