/- What is used of HfH. -/
import Derived.Test.YtngmkjgklonfmaaSkHfI
set_option linter.unusedSimpArgs false
set_option linter.unusedVariables false
namespace Go.Proofs.Ytngmkjgklonfmaa.Wd
open Go.RowKit Go.Proofs.ZFr Go.Proofs.Ytngmkjgklonfmaa.PNearNearest Go.Proofs.Ytngmkjgklonfmaa.Big Go.Proofs.YtngmkjgklonfmaaW.PrintWords
attribute [local go_sem ↓] Go.wp_at_zero Go.wp_at_succ
set_option maxRecDepth 100000 in
set_option maxHeartbeats 8000000 in
theorem part_step (l : List Hf.P) (hl : l.length ≤ 500) (f : Nat) (IH : PartC l f) : PartC l (f + 1) := by
  intro p bf ga oa c cp n B A v xs W hpf hpi hb hp hi hr hB hn hc n1 n3 n5 n4
  by_cases hsm : p.length < 3
  · rw [Hf.fl_small hsm]
    refine (part_small _ _ p.length c hsm W).mono ?_
    rintro e w' ⟨rfl, hf⟩
    refine ⟨rfl, hf.mono (fun _ h => h.elim), fun x hx => ?_⟩
    cases hx
    exact ⟨v, ZFr.blk_fr hb hf (fun h => h), by rw [show flatT [] = [] from rfl, List.append_nil]; exact row_fr hr hf (fun _ _ h => h), fun k h => .inl h⟩
  obtain ⟨m, hm⟩ : ∃ m, p.length = m + 2 := ⟨p.length - 2, by omega⟩
  have hm1 : 1 ≤ m := by omega
  have PK := Lib.hid (Hf.pick_lt l p)
  have BST := Lib.hid (fun A' c' w (h : Pts w A' ((p.drop 2).map (Hf.pt l))) => best_c (Hf.pt l (p.getD 0 0)) (Hf.pt l (p.getD 1 0)) A' ((p.drop 2).map (Hf.pt l)) c' w (by simp; omega) h)
  have hgp : ∀ j (h : j < p.length), p.getD j 0 = p[j] := fun j h => by simp [List.getD, h]
  have hpl : ∀ j (h : j < p.length), p.getD j 0 < l.length := fun j h => by rw [hgp j h]; exact hpi _ (List.getElem_mem h)
  have hpt : ∀ i (h : i < l.length), Hf.pt l i = l[i] := fun i h => by unfold Hf.pt; simp [List.getD, h]
  -- what stands in memory behind what leaves it as it was
  have MW := Lib.hid (fun w (hf : Fr (fun _ => False) W w) => And.intro (ZFr.blk_fr hb hf (fun h => h)) (And.intro (Pts.frS hp hf (fun _ _ h => h)) (Its.frS hi hf (fun h => h))))
  have FCL := Lib.hid (show ∀ w : World, w.heap[bf]? = some (.cells #[.slice A l.length cp, v] 117 (0, 0)) → w.cell? ⟨bf, 0, none⟩ = some (.slice A l.length cp) ∧ w.cell? ⟨bf, 1, none⟩ = some v from fun w h => ⟨ZFr.blk_cell h 0, ZFr.blk_cell h 1⟩)
  -- a corner's place, and where it lies
  have AT := Lib.hid (fun j (h : j < m + 2) w (hf : Fr (fun _ => False) W w) => (show ∃ q : Nat, ∃ x y : Int, ∃ ad, A = some ad ∧ p.getD j 0 = q ∧ q < l.length ∧ Hf.pt l q = (x, y) ∧ w.cell? ⟨ga, oa + j, none⟩ = some (.int .i64 (q : Int)) ∧ w.cell? (ad.add (q * 2)) = some (.int .i64 x) ∧ w.cell? ⟨(ad.add (q * 2)).block, (ad.add (q * 2)).off + 1, none⟩ = some (.int .i64 y) from by
    obtain ⟨_, h2, h3⟩ := MW.out w hf
    have hj : j < p.length := by omega
    obtain ⟨ad, e, h4, h5⟩ := h2 (p.getD j 0) (hpl j hj)
    refine ⟨p.getD j 0, _, _, ad, e, rfl, hpl j hj, by rw [hpt _ (hpl j hj)], ?_, h4, h5⟩
    rw [hgp j hj]; exact h3 j hj))
  have HB := Lib.hid hb
  have HP := Lib.hid hp
  have HI := Lib.hid hi
  have HR := Lib.hid hr
  have HBB := Lib.hid hB
  have HN := Lib.hid hn
  have HCC := Lib.hid hc
  have HM := Lib.hid hm
  have HPF := Lib.hid hpf
  have HPI := Lib.hid hpi
  have HL := Lib.hid hl
  have HSM := Lib.hid hsm
  have N1 := Lib.hid n1
  have N3 := Lib.hid n3
  have N4 := Lib.hid n4
  have N5 := Lib.hid n5
  have RS := Lib.hid (restL_succ l p)
  have RL := Lib.hid (restL_len l p)
  have RA := Lib.hid (show restL l p m = (p.drop 2).map (Hf.pt l) from by rw [← restL_all, hm]; rfl)
  have hcm : (m : Int) + 2 ≤ (c : Int) := by omega
  have hnl : ¬ (m : Int) + 2 < 3 := by omega
  clear hb hp hi hr hB hn hc hpf hpi hl hsm n1 n3 n4 n5 hgp hpl hpt
  rw [hm]
  clear hm
  go_enter Try.func70, Try.ntmps70
  go_wp2_with fail
  go_loopw [5, 15] (fun s i wr => ∃ k : Nat, k ≤ m ∧ i = .int .i64 (k : Int) ∧ wr.ownsRow W.heap.size 24 2 s k (flat (restL l p k)) ∧ Fr (fun _ => False) W wr) (fun _ i _ => (m - intOf i).toNat)
  case atStart => exact ⟨0, Nat.zero_le _, rfl, ⟨rfl, .inl ⟨rfl, rfl⟩⟩, Fr.refl _ _⟩
  case round =>
    obtain ⟨k, hk, rfl, ho, hf⟩ := hrel
    obtain ⟨pr, cr, rfl⟩ := row_slice ho
    have HO := Lib.hid ho
    have HF := Lib.hid hf
    clear ho hf
    by_cases hk1 : k < m
    · have hkd : (k : Int) < (m : Int) := by omega
      have hk1200 : (k : Int) < 1200 := by have := HN.out; have := HM.out; omega
      obtain ⟨q, x, y, ad, hA, hq, hql, hxy, q1, q2, q3⟩ := AT.out (k + 2) (by omega) wr HF.out
      obtain ⟨e0, _, _⟩ := MW.out wr HF.out
      obtain ⟨e4, e5⟩ := FCL.out wr e0
      have hq2 : (q : Int) < (l.length : Int) := by omega
      have hl2 : (l.length : Int) ≤ 500 := by have := HL.out; omega
      have q1' : wr.cell? ⟨ga, oa + 2 + k, none⟩ = some (.int .i64 (q : Int)) := by rw [Nat.add_assoc, Nat.add_comm 2 k]; exact q1
      clear q1 e0
      obtain ⟨i0, hi0, hz0, hz1, hz2⟩ := info_parts pinfo24
      subst hA
      have HRS := Lib.hid (show flat (restL l p (k + 1)) = flat (restL l p k) ++ [.int .i64 x, .int .i64 y] from by rw [RS.out k, flat_app, hq, hxy])
      clear hk hq hxy
      go_wp2_with (at_builtin; refine wpList_append_own_at _ rfl (.tmp 19) (.tmp 27) 44 rfl W.heap.size 24 i0 _ 2 16 Try.underlying44 hi0 hz0 hz1 hz2 rfl (by decide) (.slice pr k cr) k (flat (restL l p k)) rfl (HO.out.alloc _) ⟨wr.heap.size, 0, none⟩ 1 1 [.int .i64 x, .int .i64 y] rfl rfl ?d1 ?d2 ?d3 ?d4 ?d5 ?more)
      case d1 => exact World.news_of_block (cs := #[.int .i64 x, .int .i64 y]) (t := 24) (fr := (0, 0)) (heap_alloc_new wr _)
      case d2 => intro u hu; simp at hu; rcases hu with rfl | rfl <;> rfl
      case d3 => have := HN.out; have := HM.out; unfold maxLen; omega
      case d4 => have := HN.out; have := HM.out; omega
      case d5 => have e1 := HF.out.size; simp; omega
      case more =>
        intro v2 w2 hown2 hgrow _ _
        rw [← HRS.out] at hown2
        have HO2 := Lib.hid hown2
        have HG2 := Lib.hid hgrow
        clear hown2 hgrow
        go_wp2_with fail
        go_roundw
        case rel => exact ⟨k + 1, by omega, by go_num, HO2.out, (HF.out.alloc _).grown HG2.out (fun k hk => .inr (rbase HO.out k hk).1)⟩
        case measure => simp [intOf]; omega
    · have hkm : k = m := by omega
      subst hkm
      obtain ⟨gr, cr', hv⟩ := row_some HO.out (by omega)
      simp only [Value.slice.injEq] at hv
      obtain ⟨rfl, _, rfl⟩ := hv
      have HPR := Lib.hid (fun w (hf : Fr (fun _ => False) wr w) => (show Calls Try.prog 93 #[pt (Hf.pt l (p.getD 0 0)).1 (Hf.pt l (p.getD 0 0)).2, pt (Hf.pt l (p.getD 1 0)).1 (Hf.pt l (p.getD 1 0)).2, .slice (some ⟨gr, 0, none⟩) k cr] w (fun e w' => e = .returned (.int .i64 (Hf.pick l p)) ∧ Fr (fun _ => False) w w') from by
        have ho := HO.out
        rw [RA.out] at ho
        have h := BST.out (some ⟨gr, 0, none⟩) cr w (Pts.fr (pts_row ho) hf)
        rw [List.length_map, List.length_drop, HM.out, Nat.add_sub_cancel] at h
        exact h))
      obtain ⟨q0, x0, y0, ad, hA, hq0, hql0, hxy0, q1, q2, q3⟩ := AT.out 0 (by omega) wr HF.out
      obtain ⟨q1', x1, y1, ad', hA', hq1, hql1, hxy1, r1, r2, r3⟩ := AT.out 1 (by omega) wr HF.out
      obtain rfl : ad = ad' := by rw [hA] at hA'; exact Option.some.inj hA'
      clear hA'
      subst hA
      rw [hq0, hq1, hxy0, hxy1] at HPR
      unfold pt at HPR
      have hql0' : (q0 : Int) < (l.length : Int) := by omega
      have hql1' : (q1' : Int) < (l.length : Int) := by omega
      have hl2 : (l.length : Int) ≤ 500 := by have := HL.out; omega
      obtain ⟨e0, _, _⟩ := MW.out wr HF.out
      obtain ⟨e4, e5⟩ := FCL.out wr e0
      have h02 : (0 : Int) < (k : Int) + 2 := by omega
      have h12 : (1 : Int) < (k : Int) + 2 := by omega
      have MR := Lib.hid (fun w (hf : Fr (fun _ => False) wr w) => (show w.cell? ⟨bf, 0, none⟩ = some (.slice (some ad) l.length cp) ∧ w.cell? ⟨ga, oa, none⟩ = some (.int .i64 (q0 : Int)) ∧ w.cell? ⟨ga, oa + 1, none⟩ = some (.int .i64 (q1' : Int)) ∧ w.cell? (ad.add (q0 * 2)) = some (.int .i64 x0) ∧ w.cell? ⟨(ad.add (q0 * 2)).block, (ad.add (q0 * 2)).off + 1, none⟩ = some (.int .i64 y0) ∧ w.cell? (ad.add (q1' * 2)) = some (.int .i64 x1) ∧ w.cell? ⟨(ad.add (q1' * 2)).block, (ad.add (q1' * 2)).off + 1, none⟩ = some (.int .i64 y1) from ⟨fr_cell e4 hf, fr_cell q1 hf, fr_cell r1 hf, fr_cell q2 hf, fr_cell q3 hf, fr_cell r2 hf, fr_cell r3 hf⟩))
      clear e0 e5 q1 q2 q3 r1 r2 r3 e4
      generalize hpk : Hf.pick l p = pk at HPR PK
      have HPK := Lib.hid hpk
      clear hpk
      go_upto_region 9 with fail
      obtain ⟨e4, q1, r1, q2, q3, r2, r3⟩ := MR.out wr.drew (Fr.refl _ wr).drew
      go_region_held3 (fun w' => w'.cell? ⟨bf, 0, none⟩ = some (.slice (some ad) l.length cp) ∧ w'.cell? ⟨ga, oa, none⟩ = some (.int .i64 (q0 : Int)) ∧ w'.cell? ⟨ga, oa + 1, none⟩ = some (.int .i64 (q1' : Int)) ∧ w'.cell? (ad.add (q0 * 2)) = some (.int .i64 x0) ∧ w'.cell? ⟨(ad.add (q0 * 2)).block, (ad.add (q0 * 2)).off + 1, none⟩ = some (.int .i64 y0) ∧ w'.cell? (ad.add (q1' * 2)) = some (.int .i64 x1) ∧ w'.cell? ⟨(ad.add (q1' * 2)).block, (ad.add (q1' * 2)).off + 1, none⟩ = some (.int .i64 y1))
        (refine ⟨?_, ?_, ?_, ?_, ?_, ?_, ?_⟩ <;> with_reducible assumption)
        ((go_at_call 93; have hc_ := HPR.out wr.drew (Fr.refl _ wr).drew; (with_reducible refine hc_.mono ?_); clear hc_; rintro e w5 ⟨rfl, f5⟩; have E5 := Lib.hid ((Fr.refl (fun _ => False) wr).drew.trans f5 (fun _ h _ => h)); obtain ⟨y4, z1, z2, z3, z4, z5, z6⟩ := MR.out w5 E5.out; clear f5))
      all_goals
        clear e4 q1 r1 q2 q3 r2 r3 y4 z1 z2 z3 z4 z5 z6
        rcases PK.out with hpk | ⟨i, hi, hpk⟩
        · have HFL := Lib.hid (Hf.fl_none HSM.out (HPK.out.trans hpk))
          subst hpk
          go_wp2_with fail
          go_ret
          rw [HFL.out]
          exact ⟨rfl, (HF.out.trans E5.out (fun _ h _ => h)).mono (fun _ h => h.elim), fun x hx => by cases hx⟩
        · have HFL := Lib.hid (Hf.fl_some HSM.out (HPK.out.trans hpk))
          subst hpk
          have him : i < k := by have := HM.out; omega
          obtain ⟨q2, x2, y2, ad2, hA2, hq2, hql2, hxy2, s1, s2, s3⟩ := AT.out (i + 2) (by omega) w5 (HF.out.trans E5.out (fun _ h _ => h))
          cases hA2
          have hi0 : ¬ (i : Int) < 0 := by omega
          have hi1 : (0 : Int) ≤ (i : Int) + 2 := by omega
          have hi2 : (i : Int) + 2 < (k : Int) + 2 := by omega
          have hw23 : IntKind.i64.wrap ((i : Int) + 2) = (i : Int) + 2 ∧ IntKind.i64.wrap ((i : Int) + 3) = (i : Int) + 3 := by
            have := HN.out; have := HM.out; exact ⟨IntWalk.i64_in _ ⟨by omega, by omega⟩, IntWalk.i64_in _ ⟨by omega, by omega⟩⟩
          have HW := Lib.hid hw23
          have HI2 := Lib.hid hi2
          clear hw23
          go_upto_region 12 with fail
          have F5 := Lib.hid (HF.out.trans E5.out (fun _ h _ => h))
          have R5 := Lib.hid (row_fr HR.out F5.out (fun _ _ h => h))
          have B5 := Lib.hid (MW.out w5 F5.out).1
          have C5 := Lib.hid (show w5.cell? ⟨ga, oa, none⟩ = some (.int .i64 (q0 : Int)) ∧ w5.cell? ⟨ga, oa + 1, none⟩ = some (.int .i64 (q1' : Int)) from by
            obtain ⟨_, z1, z2, _⟩ := MR.out w5 E5.out
            exact ⟨z1, z2⟩)
          have D5 := Lib.hid (show w5.cell? ⟨ga, oa + ((i : Int) + 2).toNat, none⟩ = some (.int .i64 (q2 : Int)) from by rw [show ((i : Int) + 2).toNat = i + 2 from by omega]; exact s1)
          clear s1 s2 s3 MR HPR E5 HF BST HPK PK
          go_cut [] (fun wx => ∃ gg cap, wx.heap[bf]? = some (.cells #[.slice (some ad) l.length cp, .slice (some ⟨gg, 0, none⟩) (n + 1) cap] 117 (0, 0)) ∧ wx.ownsRow B 60 3 (.slice (some ⟨gg, 0, none⟩) (n + 1) cap) (n + 1) (xs ++ [.int .i64 (q0 : Int), .int .i64 (q1' : Int), .int .i64 (q2 : Int)]) ∧ (v.ownBlock = some gg ∨ W.heap.size ≤ gg) ∧ Fr (fun k => k = bf ∨ v.ownBlock = some k) W wx)
          case first =>
            obtain ⟨i0, hi0', hz0, hz1, hz2⟩ := info_parts pinfo60
            have e0 := B5.out
            obtain ⟨e4, e5⟩ := FCL.out w5 e0
            obtain ⟨q1, r1⟩ := C5.out
            have s1 := D5.out
            have z5 := ZFr.blk_free e0 1
            have SZ := Lib.hid (Nat.le_trans HBB.out F5.out.size)
            obtain ⟨hw2, hw3⟩ := HW.out
            have x50 : (w5.alloc (Obj.cells #[.int .i64 (q0 : Int), .int .i64 (q1' : Int), .int .i64 (q2 : Int)] 60)).drew.cell? ⟨bf, 1, none⟩ = some v := ZFr.blk_cell (ZFr.blk_alloc e0 _) 1
            clear hi1 hi2 him hi0 hq2 hxy2
            have hi1 : (0 : Int) ≤ (i : Int) + 2 := by omega
            have hi2 := HI2.out
            go_region_law ((first
              | ((refine step_append_lies _ (by rfl) _ _ _ (by rfl) B 60 i0 _ 3 24 Try.underlying45 hi0' hz0 hz1 hz2 rfl (by decide) v n xs (by rfl) (R5.out.drew.alloc _) ⟨w5.heap.size, 0, none⟩ 1 1 [.int .i64 (q0 : Int), .int .i64 (q1' : Int), .int .i64 (q2 : Int)] (by rfl) (by rfl) (World.news_of_block (cs := #[.int .i64 (q0 : Int), .int .i64 (q1' : Int), .int .i64 (q2 : Int)]) (t := 60) (fr := (0, 0)) (heap_alloc_new w5.drew _)) (by intro u hu; simp at hu; rcases hu with rfl | rfl | rfl <;> rfl) (by decide) (by have h1 := HN.out; have h2 := HM.out; unfold maxLen; omega) (by have h1 := HN.out; have h2 := HM.out; omega) (by simp; exact Nat.le_succ_of_le SZ.out) (w5.heap.size + 1) (by simp) ?_; intro gg cap w7 hown7 hgrow hat hlt7; have b7 := ZFr.blk_grown (ZFr.blk_alloc (show w5.drew.heap[bf]? = some (.cells #[.slice (some ad) l.length cp, v] 117 (0, 0)) from e0) (Obj.cells #[.int .i64 (q0 : Int), .int .i64 (q1' : Int), .int .i64 (q2 : Int)] 60)) hgrow N5.out; have x5 : w7.cell? ⟨bf, 1, none⟩ = some v := ZFr.blk_cell b7 1; have z7 := ZFr.blk_free b7 1; have B7 := Lib.hid b7; have A7 := Lib.hid hat; clear b7 hat))))
            all_goals
              clear e0 q1 r1 s1 e4 e5 z5 x5 z7 x50
              have HO7 := Lib.hid hown7
              have HG7 := Lib.hid hgrow
              clear hown7 hgrow
              clear hw2 hw3
              go_wp2_with fail
              go_meet
              refine ⟨gg, cap, ZFr.blk_set B7.out 1 _, ?_, ?_, ?_⟩
              · exact ownsRow_setCell_other (a := ⟨bf, 1, none⟩) HO7.out (ZFr.row_ne HO7.out B7.out (by decide)) _
              · rcases A7.out with h | h
                · exact .inl h
                · exact .inr (by have h2 := F5.out.size; omega)
              · exact (((((F5.out.drew.alloc (Obj.cells #[.int .i64 (q0 : Int), .int .i64 (q1' : Int), .int .i64 (q2 : Int)] 60)).mono (fun _ h => h.elim) : Fr (fun k => k = bf ∨ v.ownBlock = some k) W _)).grown HG7.out (fun k hk => .inl (.inr hk))).set _ _ (.inl (.inl rfl)))
          case rest =>
            obtain ⟨gg, cap, hb9, hr9, hgg, hf9⟩ := hcut
            have F9 := Lib.hid hf9
            have HGG := Lib.hid hgg
            have HX := Lib.hid (show flatT [((q0, q1', q2) : Hf.Tr)] = [.int .i64 (q0 : Int), .int .i64 (q1' : Int), .int .i64 (q2 : Int)] from rfl)
            rw [← HX.out] at hr9
            have P1 := Lib.hid (part_first IH HM.out him HPF.out HPI.out (ZFr.blk_lt HB.out) HP.out HI.out hf9 hb9 hr9 hgg HBB.out HN.out HCC.out N1.out N3.out N5.out N4.out)
            have HIw := Lib.hid (HI.out.frS hf9 (fun h => h.elim N1.out N3.out))
            have HPw := Lib.hid (HP.out.frS hf9 (fun a ha h => h.elim (N4.out a ha).1 (N4.out a ha).2))
            have R9 := Lib.hid hr9
            have NG := Lib.hid (And.intro (rbase hr9) (ZFr.blk_lt HB.out))
            have HIM := Lib.hid him
            have NB := Lib.hid (And.intro F9.out.size HBB.out)
            clear hb9 hr9 hf9 hgg F5 R5 B5 C5 D5 him
            have GGA := Lib.hid (show gg ≠ ga from by
              rintro rfl
              rcases HGG.out with h | h
              · exact N3.out h
              · have h2 : gg < W.heap.size := World.block_lt_of_cell? W _ (HI.out 0 (by have := HM.out; omega))
                omega)
            have GNG := Lib.hid (show ¬ (ga = bf ∨ (Value.slice (some ⟨gg, 0, none⟩) (n + 1) cap).ownBlock = some ga) from fun h => h.elim N1.out (fun h => GGA.out (by simpa [Value.ownBlock] using h)))
            have hp0 := Lib.hid (show p[0]'(by have := HM.out; omega) = q0 from by rw [← hq0]; simp [List.getD, show 0 < p.length from by have := HM.out; omega])
            have hc01 : ¬ c = 1 := by have := HCC.out; have := HM.out; omega
            have hc02 : ¬ c = i + 2 := by have := HCC.out; have := HM.out; have := HIM.out; omega
            have ht2 : ((i : Int) + 2).toNat = i + 2 := by omega
            have ht3 : ((i : Int) + 3).toNat = i + 3 := by omega
            have hi3 : (1 : Int) ≤ (i : Int) + 3 := by omega
            have hi4 : (i : Int) + 3 ≤ (c : Int) := by omega
            have hi5 : (i : Int) + 2 ≤ (k : Int) + 2 := by omega
            have hw2 := HW.out.1
            have hw3 := HW.out.2
            rw [hq0, hq1, hq2] at HFL
            rcases hfl1 : Hf.fl l ((p.drop 1).take (i + 2)) with _ | o1
            · rw [hfl1] at P1 HFL
              go_upto_region 13 with fail
              have c10' := HIw.out 0 (by have := HM.out; omega)
              rw [hp0.out] at c10'
              have c10 : wc.drew.cell? ⟨ga, oa, none⟩ = some (.int .i64 (q0 : Int)) := c10'
              clear c10'
              refine wp_region_held_drew (S := fun _ => True) (by kernel_rfl) trivial (fun hHeld => ?_)
              refine wpAnyH_take (i := 0) (v := .pointer (some ⟨bf, 0, none⟩)) rfl (by kernel_rfl) (by kernel_rfl) (by kernel_rfl) (fun _ _ _ h => h) (Or.inl ⟨by rfl, fun w _ => by go_simp⟩) trivial ?_
              try simp only [Act.put, List.setIfInBounds_toArray, List.set_cons_zero, List.set_cons_succ]
              refine wpAnyH_take (i := 1) (v := .slice (some ⟨ga, oa, none⟩) (k + 2) c) rfl (by kernel_rfl) (by kernel_rfl) (by kernel_rfl) (fun _ _ _ h => h) (Or.inl ⟨by rfl, fun w _ => by go_simp⟩) trivial ?_
              try simp only [Act.put, List.setIfInBounds_toArray, List.set_cons_zero, List.set_cons_succ]
              refine wpAnyH_take (i := 2) (v := .int .i64 (i : Int)) rfl (by kernel_rfl) (by kernel_rfl) (by kernel_rfl) (fun _ _ _ h => h) (Or.inl ⟨by rfl, fun w _ => by go_simp⟩) trivial ?_
              try simp only [Act.put, List.setIfInBounds_toArray, List.set_cons_zero, List.set_cons_succ]
              refine wpAnyH_take (i := 3) (v := .int .i64 ((i : Int) + 3)) rfl (by kernel_rfl) (by kernel_rfl) (by kernel_rfl) (fun _ _ _ h => h) (Or.inl ⟨by rfl, fun w _ => by go_simp⟩) trivial ?_
              try simp only [Act.put, List.setIfInBounds_toArray, List.set_cons_zero, List.set_cons_succ]
              refine wpAnyH_take (i := 4) (v := .slice (some ⟨ga, oa + 1, none⟩) (i + 2) (c - 1)) rfl (by kernel_rfl) (by kernel_rfl) (by kernel_rfl) (fun _ _ _ h => h) (Or.inl ⟨by rfl, fun w _ => by go_simp⟩) trivial ?_
              try simp only [Act.put, List.setIfInBounds_toArray, List.set_cons_zero, List.set_cons_succ]
              refine wpAnyH_ready (rs := [5]) (by kernel_rfl) (by simp) (AllReadyH.cons rfl (fun K hK => ?_) AllReadyH.nil)
              go_simp
              go_at_call 70
              have hc_ := P1.out wc.drew (Fr.refl _ wc).drew
              (with_reducible refine hc_.mono ?_)
              clear hc_
              rintro e w14 ⟨rfl, q14⟩
              have Q14 := Lib.hid q14
              clear q14
              refine hK.out _ _ trivial (fun hHeld => ?_)
              clear hK K
              refine wpAnyH_take (i := 6) (v := .bool false) rfl (by kernel_rfl) (by kernel_rfl) (by kernel_rfl) (fun _ _ _ h => h) (Or.inl ⟨by rfl, fun w _ => by go_simp⟩) trivial ?_
              try simp only [Act.put, List.setIfInBounds_toArray, List.set_cons_zero, List.set_cons_succ]
              refine wpAnyH_take (i := 7) (v := undef) rfl (by kernel_rfl) (by kernel_rfl) (by kernel_rfl) (fun _ _ _ h => h) (Or.inr ⟨by kernel_rfl, rfl⟩) trivial ?_
              try simp only [Act.put, List.setIfInBounds_toArray, List.set_cons_zero, List.set_cons_succ]
              refine wpAnyH_take (i := 8) (v := undef) rfl (by kernel_rfl) (by kernel_rfl) (by kernel_rfl) (fun _ _ _ h => h) (Or.inr ⟨by kernel_rfl, rfl⟩) trivial ?_
              try simp only [Act.put, List.setIfInBounds_toArray, List.set_cons_zero, List.set_cons_succ]
              refine wpAnyH_take (i := 9) (v := undef) rfl (by kernel_rfl) (by kernel_rfl) (by kernel_rfl) (fun _ _ _ h => h) (Or.inr ⟨by kernel_rfl, rfl⟩) trivial ?_
              try simp only [Act.put, List.setIfInBounds_toArray, List.set_cons_zero, List.set_cons_succ]
              refine wpAnyH_take (i := 10) (v := undef) rfl (by kernel_rfl) (by kernel_rfl) (by kernel_rfl) (fun _ _ _ h => h) (Or.inr ⟨by kernel_rfl, rfl⟩) trivial ?_
              try simp only [Act.put, List.setIfInBounds_toArray, List.set_cons_zero, List.set_cons_succ]
              refine wpAnyH_take (i := 11) (v := undef) rfl (by kernel_rfl) (by kernel_rfl) (by kernel_rfl) (fun _ _ _ h => h) (Or.inr ⟨by kernel_rfl, rfl⟩) trivial ?_
              try simp only [Act.put, List.setIfInBounds_toArray, List.set_cons_zero, List.set_cons_succ]
              refine wpAnyH_take (i := 12) (v := undef) rfl (by kernel_rfl) (by kernel_rfl) (by kernel_rfl) (fun _ _ _ h => h) (Or.inr ⟨by kernel_rfl, rfl⟩) trivial ?_
              try simp only [Act.put, List.setIfInBounds_toArray, List.set_cons_zero, List.set_cons_succ]
              refine wpAnyH_take (i := 13) (v := undef) rfl (by kernel_rfl) (by kernel_rfl) (by kernel_rfl) (fun _ _ _ h => h) (Or.inr ⟨by kernel_rfl, rfl⟩) trivial ?_
              try simp only [Act.put, List.setIfInBounds_toArray, List.set_cons_zero, List.set_cons_succ]
              refine wpAnyH_take (i := 14) (v := undef) rfl (by kernel_rfl) (by kernel_rfl) (by kernel_rfl) (fun _ _ _ h => h) (Or.inr ⟨by kernel_rfl, rfl⟩) trivial ?_
              try simp only [Act.put, List.setIfInBounds_toArray, List.set_cons_zero, List.set_cons_succ]
              refine wpAnyH_take (i := 15) (v := undef) rfl (by kernel_rfl) (by kernel_rfl) (by kernel_rfl) (fun _ _ _ h => h) (Or.inr ⟨by kernel_rfl, rfl⟩) trivial ?_
              try simp only [Act.put, List.setIfInBounds_toArray, List.set_cons_zero, List.set_cons_succ]
              refine wpAnyH_take (i := 16) (v := undef) rfl (by kernel_rfl) (by kernel_rfl) (by kernel_rfl) (fun _ _ _ h => h) (Or.inr ⟨by kernel_rfl, rfl⟩) trivial ?_
              try simp only [Act.put, List.setIfInBounds_toArray, List.set_cons_zero, List.set_cons_succ]
              refine wpAnyH_take (i := 17) (v := undef) rfl (by kernel_rfl) (by kernel_rfl) (by kernel_rfl) (fun _ _ _ h => h) (Or.inr ⟨by kernel_rfl, rfl⟩) trivial ?_
              try simp only [Act.put, List.setIfInBounds_toArray, List.set_cons_zero, List.set_cons_succ]
              refine wpAnyH_take (i := 18) (v := undef) rfl (by kernel_rfl) (by kernel_rfl) (by kernel_rfl) (fun _ _ _ h => h) (Or.inr ⟨by kernel_rfl, rfl⟩) trivial ?_
              try simp only [Act.put, List.setIfInBounds_toArray, List.set_cons_zero, List.set_cons_succ]
              refine wpAnyH_take (i := 19) (v := .bool false) rfl (by kernel_rfl) (by kernel_rfl) (by kernel_rfl) (fun _ _ _ h => h) (Or.inl ⟨by rfl, fun w _ => by go_simp⟩) trivial ?_
              try simp only [Act.put, List.setIfInBounds_toArray, List.set_cons_zero, List.set_cons_succ]
              refine wpAnyH_take (i := 20) (v := .bool false) rfl (by kernel_rfl) (by kernel_rfl) (by kernel_rfl) (fun _ _ _ h => h) (Or.inl ⟨by rfl, fun w _ => by go_simp⟩) trivial ?_
              try simp only [Act.put, List.setIfInBounds_toArray, List.set_cons_zero, List.set_cons_succ]
              refine wpAnyH_done (by kernel_rfl) ?_ _
              all_goals
                go_wp2_with fail
                go_ret
                rw [HFL.out]
                exact ⟨rfl, F9.out.trans (((Fr.refl (fun k => k = bf ∨ (Value.slice (some ⟨gg, 0, none⟩) (n + 1) cap).ownBlock = some k) wc).drew).trans Q14.out.1 (fun _ h _ => h)) (fun j h hlt => by
                  rcases h with h | h
                  · exact .inl h
                  · simp only [Value.ownBlock, Option.some.injEq] at h
                    subst h
                    rcases HGG.out with h | h
                    · exact .inr h
                    · omega), fun x hx => by cases hx⟩
            · rw [hfl1] at P1 HFL
              have ADL := Lib.hid (show ad.block < W.heap.size from by
                obtain ⟨ad', e, h1, _⟩ := HP.out q0 hql0
                cases e
                have h2 := World.block_lt_of_cell? W _ h1
                have h3 : (ad.add (q0 * 2)).block = ad.block := by unfold Addr.add; split <;> rfl
                omega)
              have GAL := Lib.hid (show ga < W.heap.size from World.block_lt_of_cell? W _ (HI.out 0 (by have := HM.out; omega)))
              have OL := Lib.hid (show o1.length = i from by
                have h1 := HM.out
                have h2 := HIM.out
                have h3 := fl_len (by simp; omega) hfl1
                rw [h3]; simp; omega)
              have MID := Lib.hid (fun w14 q => @part_mid l bf gg cap (n + 1) B ga oa cp ad v (xs ++ flatT [((q0, q1', q2) : Hf.Tr)]) p o1 W wc w14 q HPw.out HIw.out (ZFr.blk_lt HB.out) GAL.out ADL.out F9.out.size HGG.out N1.out N3.out N5.out (N4.out ad rfl))
              have k14 := HM.out
              go_upto_region 13 with fail
              have c10' := HIw.out 0 (by have := HM.out; omega)
              rw [hp0.out] at c10'
              have c10 : wc.drew.cell? ⟨ga, oa, none⟩ = some (.int .i64 (q0 : Int)) := c10'
              clear c10' k14
              obtain ⟨i3, hi3', hz0, hz1, hz2⟩ := info_parts pinfo3
              go_region_held3 (fun w' => w'.cell? ⟨ga, oa, none⟩ = some (.int .i64 (q0 : Int)))
                (first | with_reducible assumption | exact fr_cell (by with_reducible assumption) ((Fr.refl (fun _ => False) _).alloc _))
                (first
                  | ((go_at_call 70; have hc_ := P2.out ga2 cap2 w14.heap.size w16 E16.out G16.out H16.out; (with_reducible refine hc_.mono ?_); clear hc_; rintro e w17 ⟨rfl, q17⟩; have Q17 := Lib.hid q17; have c17 := cell_frS c16 q17.1 (fun h => h.elim N1.out (fun h => (V6.out _ h).elim N3.out (fun h => absurd GAL.out (Nat.not_lt_of_le h)))); clear q17))
                  | ((refine step_append_g (by rfl) _ _ _ (by rfl) w14.heap.size 3 i3 _ 1 8 Try.underlying37 hi3' hz0 hz1 hz2 rfl (by decide) (.slice p15 (k - i) d15) (k - i) (flatI (p.drop (i + 2))) (by rfl) (R15.out.alloc _) ⟨w15.heap.size, 0, none⟩ 1 1 [.int .i64 (q0 : Int)] (by rfl) (by rfl) (World.news_of_block (cs := #[.int .i64 (q0 : Int)]) (t := 3) (fr := (0, 0)) (heap_alloc_new w15 _)) (by intro u hu; simp at hu; subst hu; rfl) (by decide) (by have h1 := HN.out; have h2 := HM.out; unfold maxLen; omega) (by have h1 := HN.out; have h2 := HM.out; omega) (by simp; exact Nat.le_succ_of_le E15.out.size) (w15.heap.size + 1) (by simp) ?_; intro ga2 cap2 w16 hown16 hgrow16 hat16 hlt16; have E16 := Lib.hid ((E15.out.alloc _).grown hgrow16 (fun k hk => .inr (rbase R15.out k hk).1)); have G16 := Lib.hid (rbase hown16 ga2 rfl).1; have c16 := fr_cell c14 E16.out; have H16 := Lib.hid hown16; clear hown16 hgrow16 hat16 hlt16))
                  | ((refine step_append_g (by rfl) _ _ _ (by rfl) w14.heap.size 3 i3 _ 1 8 Try.underlying37 hi3' hz0 hz1 hz2 rfl (by decide) (.slice p15 (k - i) d15) (k - i) (flatI (p.drop (i + 2))) (by rfl) R15.out ⟨w14.heap.size, 0, none⟩ 1 1 [.int .i64 (q0 : Int)] (by rfl) (by rfl) (World.news_of_block (cs := #[.int .i64 (q0 : Int)]) (t := 3) (fr := (0, 0)) N15.out) (by intro u hu; simp at hu; subst hu; rfl) (by decide) (by have h1 := HN.out; have h2 := HM.out; unfold maxLen; omega) (by have h1 := HN.out; have h2 := HM.out; omega) E15.out.size w15.heap.size rfl ?_; intro ga2 cap2 w16 hown16 hgrow16 hat16 hlt16; have E16 := Lib.hid (E15.out.grown hgrow16 (fun k hk => .inr (rbase R15.out k hk).1)); have G16 := Lib.hid (rbase hown16 ga2 rfl).1; have c16 := fr_cell c14 E16.out; have H16 := Lib.hid hown16; clear hown16 hgrow16 hat16 hlt16))
                  | ((go_at_call 94; have hc_ := CLN.out w14 (Fr.refl _ w14); (with_reducible refine hc_.mono ?_); clear hc_; rintro e w15 ⟨p15, d15, rfl, r15, f15⟩; have R15 := Lib.hid r15; have E15 := Lib.hid f15; have c15 := fr_cell c14 f15; clear r15 f15))
                  | ((go_at_call 94; have hc_ := CLN.out (w14.alloc (Obj.cells #[.int .i64 (q0 : Int)] 3)) ((Fr.refl _ w14).alloc _); (with_reducible refine hc_.mono ?_); clear hc_; rintro e w15 ⟨p15, d15, rfl, r15, f15⟩; have R15 := Lib.hid (ZFr.row_low (b' := w14.heap.size) r15 (by simp)); have N15 := Lib.hid (ZFr.blk_fr (heap_alloc_new w14 (Obj.cells #[.int .i64 (q0 : Int)] 3)) f15 (fun h => h)); have E15 := Lib.hid (((Fr.refl (fun _ => False) w14).alloc (Obj.cells #[.int .i64 (q0 : Int)] 3)).trans f15 (fun _ h _ => h)); have c15 := fr_cell c14 E15.out; clear r15 f15))
                  | ((go_at_call 70; have hc_ := P1.out wc.drew (Fr.refl _ wc).drew; (with_reducible refine hc_.mono ?_); clear hc_; rintro e w14 ⟨rfl, q14⟩; obtain ⟨f14, v6, hb6, hr6, hn5, hn4, hP6, hI6, hv6⟩ := MID.out w14 ⟨(Fr.refl _ wc).drew.trans q14.1 (fun _ h _ => h), q14.2⟩; have F14 := Lib.hid f14; have V6 := Lib.hid hv6; have R6 := Lib.hid hr6; have c14' := hI6 0 (by have := HM.out; omega); rw [hp0.out] at c14'; have c14 : w14.cell? ⟨ga, oa, none⟩ = some (.int .i64 (q0 : Int)) := c14'; have CLN := Lib.hid (fun w (hw : Fr (fun _ => False) w14 w) => clone_rest (c := c) HM.out HIM.out (by have := HN.out; have := HM.out; omega) (hI6.frS hw (fun h => h))); have P2 := Lib.hid (part_second IH HM.out HIM.out HPF.out HPI.out hq0 hP6 hb6 hr6 (by have := NB.out; have := f14.size; omega) (by have := OL.out; have := HM.out; have := HN.out; have := HIM.out; omega) hn5 (fun a ha => by cases ha; exact ⟨(N4.out ad rfl).1, hn4⟩)); clear c14' q14 f14 hb6 hr6 hn5 hn4 hP6 hI6 hv6)))
              all_goals
                clear c10 c14 c15 c16 c17
                have FF := Lib.hid (part_fr F9.out F14.out E16.out Q17.out.1 HGG.out V6.out)
                rcases hfl2 : Hf.fl l (p.drop (i + 2) ++ [q0]) with _ | o2
                · rw [hfl2] at Q17 HFL
                  go_wp2_with fail
                  go_ret
                  rw [HFL.out]
                  exact ⟨rfl, FF.out, fun x hx => by cases hx⟩
                · rw [hfl2] at Q17 HFL
                  go_wp2_with fail
                  go_ret
                  rw [HFL.out]
                  refine ⟨rfl, FF.out, fun x hx => ?_⟩
                  cases hx
                  obtain ⟨v7, hb7, hr7, hv7⟩ := Q17.out.2 o2 rfl
                  refine ⟨v7, hb7, ?_, fun j hj => ?_⟩
                  · have e1 : xs ++ flatT ((q0, q1', q2) :: (o1 ++ o2)) = xs ++ flatT [((q0, q1', q2) : Hf.Tr)] ++ flatT o1 ++ flatT o2 := by unfold flatT; simp
                    have e2 : n + ((q0, q1', q2) :: (o1 ++ o2)).length = n + 1 + o1.length + o2.length := by rw [List.length_cons, List.length_append]; omega
                    rw [e1, e2]
                    exact hr7
                  · rcases hv7 j hj with h | h
                    · exact V6.out j h
                    · exact .inr (Nat.le_trans (Nat.le_trans F9.out.size F14.out.size) (Nat.le_trans E16.out.size h))
end Go.Proofs.Ytngmkjgklonfmaa.Wd

