/- What is used of RiD. -/
import Derived.Test.YtgaicbodpneeoaaSkRiB
import Derived.Test.YtgaicbodpneeoaaSkRiC
import Derived.Deep.RegionLaw
namespace Go.Proofs.Ytgaicbodpneeoaa.Rs
open Go.RowKit Go.Proofs.ZFr Go.Proofs.Ytgaicbodpneeoaa.PRasterImages Go.Proofs.Ytgaicbodpneeoaa.Wd Go.Proofs.YtgaicbodpneeoaaW.PrintWords
open Go.Proofs.Ytgaicbodpneeoaa.Big (nb zP canD fv okP sqP inP nb_le nearest28_walk Pls)
theorem pls_site {w : World} {A : Option Addr} {l : List Site} (h : SiteC w A l) : Pls w A (trs l) := fun i hi => by
  have hi' : i < l.length := by simpa [trs] using hi
  obtain ⟨ad, e, h1, h2, h3⟩ := h i hi'
  have he : (trs l)[i] = (l[i].id, l[i].x, l[i].y) := by simp [trs, tr, toP]
  rw [he]
  exact ⟨ad, e, h1, h2, h3⟩
set_option maxRecDepth 100000 in
set_option maxHeartbeats 4000000 in
theorem rat_walk (A : Option Addr) (c : Nat) (l : List Site) (n x y : Int) (W : World) (h : SiteC W A l) (hl : l.length ≤ 30) (h0 : l ≠ []) (hd : canD (trs l) n x y) : Calls Try.prog 10 #[.slice A l.length c, .int .i64 n, .int .i64 x, .int .i64 y] W fun e w' => e = .returned (.int .i64 (idA l n x y)) ∧ Fr (fun _ => False) W w' := by
  have htl : (trs l).length = l.length := by simp [trs]
  have hp : 0 < l.length := List.length_pos_iff.2 h0
  have NW := Lib.hid (nearest28_walk A c (trs l) n x y W (by rw [htl]; omega) (by rw [htl]; exact hp) (pls_site h) hd)
  have hle := nb_le (trs l) n x y (l.length - 1)
  have hid : idA l n x y = ((trs l).getD (nb (trs l) n x y (l.length - 1)) zP).1 := rfl
  rw [htl] at NW
  obtain ⟨I, hI⟩ : ∃ I, idA l n x y = I := ⟨_, rfl⟩
  obtain ⟨m, hm⟩ : ∃ m, nb (trs l) n x y (l.length - 1) = m := ⟨_, rfl⟩
  rw [hm] at NW hle hid
  have hml : m < l.length := by omega
  rw [hI]
  have HV := Lib.hid (show l[m].id = I from by rw [← hI, hid]; simp [trs, tr, toP, List.getD, hml])
  have HS := Lib.hid (fun w (hf : Fr (fun _ => False) W w) => (show ∃ ad, A = some ad ∧ w.cell? (ad.add (m * 3)) = some (.int .i64 I) from by
    obtain ⟨ad, e, h1, _⟩ := (h.fr hf) m hml
    rw [HV.out] at h1
    exact ⟨ad, e, h1⟩))
  obtain ⟨ad, rfl, _⟩ := HS.out W (Fr.refl _ _)
  have HC := Lib.hid (fun w (hf : Fr (fun _ => False) W w) => (show w.cell? (ad.add (m * 3)) = some (.int .i64 I) from by
    obtain ⟨ad', e, h1⟩ := HS.out w hf
    simp only [Option.some.injEq] at e
    subst e
    exact h1))
  have hmi : (m : Int) < l.length := by omega
  clear h hl h0 hd htl hp hle hid hI hm HV HS
  go_enter Try.func10, Try.ntmps10
  go_wp2_with (go_at_call 21; have hc_ := NW.out; (with_reducible refine hc_.mono ?_); clear hc_; rintro e w2 ⟨rfl, f2⟩; have F2 := Lib.hid f2; have q0 := HC.out w2 f2; clear f2)
  go_ret
  exact ⟨rfl, F2.out⟩
set_option maxRecDepth 100000 in
set_option maxHeartbeats 4000000 in
theorem law_images (A : Option Addr) (c : Nat) (l : List Site) (n side : Int) (W : World) (hR : SiteC W A l) (hc : l.length ≤ c) (hs : i64Q side) : Calls Try.prog 4 #[.slice A l.length c, .int .i64 n, .int .i64 side] W fun e w' => e = .returned (.bool true) ∧ Fr (fun _ => False) W w' := by
  have LV := Lib.hid lives_walk
  have FW := Lib.hid (few_walk A c l W hR hc)
  obtain ⟨L, hL⟩ : ∃ L, l.take 6 = L := ⟨_, rfl⟩
  obtain ⟨m, hm⟩ : ∃ m, L.length = m := ⟨_, rfl⟩
  have H6 := Lib.hid (show m ≤ 6 from by rw [← hm, ← hL, List.length_take]; omega)
  rw [hL, hm] at FW
  have HM := Lib.hid hm
  have HS := Lib.hid hs
  clear hR hc hL hm hs
  obtain ⟨sd, hsd⟩ : ∃ sd, (if 8 < side ∧ side ≤ 64 then Int.tmod side 8 else side) = sd := ⟨_, rfl⟩
  have HSD := Lib.hid hsd
  clear hsd
  go_enter Try.func4, Try.ntmps4
  go_upto_region 2 with (go_at_call 5; have hc_ := FW.out; (with_reducible refine hc_.mono ?_); clear hc_; rintro e w2 ⟨g2, c2, rfl, s2, f2⟩; have S2 := Lib.hid s2; have F2 := Lib.hid f2; clear s2 f2)
  obtain ⟨cd, hcd⟩ : ∃ cd, decide (8 < side ∧ side ≤ 64) = cd := ⟨_, rfl⟩
  have HCD := Lib.hid hcd
  clear hcd
  go_cut [18] (fun s wx => s = .bool cd ∧ wx = w2)
  case first =>
    by_cases h1 : 8 < side
    · by_cases h2 : side ≤ 64
      · have e : cd = true := by rw [← HCD.out]; exact decide_eq_true ⟨h1, h2⟩
        subst e
        go_wp2_with fail
        go_meet
        exact ⟨rfl, rfl⟩
      · have e : cd = false := by rw [← HCD.out]; exact decide_eq_false (fun h => h2 h.2)
        subst e
        go_wp2_with fail
        go_meet
        exact ⟨rfl, rfl⟩
    · have e : cd = false := by rw [← HCD.out]; exact decide_eq_false (fun h => h1 h.1)
      subst e
      go_wp2_with fail
      go_meet
      exact ⟨rfl, rfl⟩
  case rest =>
    obtain ⟨rfl, rfl⟩ := hcut
    go_upto_if 18 with fail
    go_cut [2] (fun s wz => s = .int .i64 sd ∧ wz = wc)
    case first =>
      cases cd
      · have e2 : side = sd := by rw [← HSD.out, if_neg (of_decide_eq_false HCD.out)]
        have E2 := Lib.hid e2
        clear e2
        go_wp2_with fail
        go_meet
        exact ⟨by rw [E2.out], rfl⟩
      · have h := of_decide_eq_true HCD.out
        have e1 : IntKind.i64.wrap (Int.tmod side 8) = Int.tmod side 8 := by rw [Go.Proofs.YtgaicbodpneeoaaW.PrintLast.i64_w, Int.tmod_eq_emod_of_nonneg (by omega)]; unfold wrap64; omega
        have e2 : Int.tmod side 8 = sd := by rw [← HSD.out, if_pos h]
        rw [e2] at e1
        clear h
        go_wp2_with fail
        go_meet
        exact ⟨by first | rfl | rw [e2], rfl⟩
    case rest =>
      obtain ⟨rfl, rfl⟩ := hcut
      have EM := Lib.hid (row_empty wc 50 3)
      have GA := Lib.hid ((Fr.refl (fun _ => False) wc).alloc (.cells #[] 50))
      have SA := Lib.hid (S2.out.fr GA.out)
      have RG := Lib.hid (fun w (h : Fr (fun _ => False) wc w) => (show Calls Try.prog 9 #[.slice (some ⟨g2, 0, none⟩) m c2, .int .i64 n] w (fun e w' => e = .returned (.bool (goodB L n)) ∧ Fr (fun _ => False) w w') from by
        have h9 := rgood_walk (some ⟨g2, 0, none⟩) c2 L n w (S2.out.fr h) (by rw [HM.out]; have := H6.out; omega)
        rw [HM.out] at h9
        exact h9))
      by_cases hok : goodB L n = true ∧ ¬ sd < 1 ∧ ¬ 64 < sd
      · obtain ⟨s, rfl⟩ : ∃ s : Nat, sd = (s : Int) := ⟨sd.toNat, by omega⟩
        obtain ⟨hg, hs1, hs2⟩ := hok
        have HSS := Lib.hid (show 1 ≤ s ∧ s ≤ 64 from by omega)
        have IY := Lib.hid (fun w g c (h : SiteC w (some ⟨g, 0, none⟩) L) (hc : m ≤ c) => (show Calls Try.prog 8 #[.slice (some ⟨g, 0, none⟩) m c, .int .i64 n, .int .i64 s] w (fun e w' => ∃ v, e = .returned (.tuple #[v, .bool true]) ∧ ImgC w' w.heap.size v L n s s ∧ Fr (fun _ => False) w w') from by
          have h9 := image_yes (some ⟨g, 0, none⟩) c L n s w h (by rw [HM.out]; exact hc) (by rw [HM.out]; have := H6.out; omega) hg HSS.out.1 HSS.out.2
          rw [HM.out] at h9
          exact h9))
        obtain ⟨hn, h0, _⟩ := good_ok hg
        have HN := Lib.hid hn
        have RA := Lib.hid (fun w (i k : Nat) (h : Fr (fun _ => False) wc w) (hi : i < s) (hk : k < s) => (show Calls Try.prog 10 #[.slice (some ⟨g2, 0, none⟩) m c2, .int .i64 n, .int .i64 ((i : Int) * n / s), .int .i64 ((k : Int) * n / s)] w (fun e w' => e = .returned (.int .i64 (idA L n ((i : Int) * n / s) ((k : Int) * n / s))) ∧ Fr (fun _ => False) w w') from by
          have h9 := rat_walk (some ⟨g2, 0, none⟩) c2 L n ((i : Int) * n / s) ((k : Int) * n / s) w (S2.out.fr h) (by rw [HM.out]; have := H6.out; omega) h0 (can_img hg HSS.out.2 hi hk)
          rw [HM.out] at h9
          exact h9))
        rw [hg] at RG
        clear hg hn h0
        have z4 : ((s : Int) == 0) = false := by rw [beq_eq_false_iff_ne]; have := HSS.out; omega
        have z3 : ¬ (s : Int) = 0 := by have := HSS.out; omega
        have z5 : ¬ s = 0 := by have := HSS.out; omega
        go_upto_region 7 with (first
          | (go_at_call 9; have hc_ := RG.out w4 K4.out; (with_reducible refine hc_.mono ?_); clear hc_; rintro e w5 ⟨rfl, f5⟩; have I5 := Lib.hid (I4.out.fr f5); have K5 := Lib.hid (K4.out.trans f5 (fun _ h _ => h)); clear f5)
          | (go_at_call 8; have hc_ := IY.out w3 g3 c3 S3.out C3.out; (with_reducible refine hc_.mono ?_); clear hc_; rintro e w4 ⟨v4, rfl, i4, f4⟩; have I4 := Lib.hid i4; have K4 := Lib.hid (K3.out.trans f4 (fun _ h _ => h)); clear i4 f4)
          | (at_builtin; refine wp_appN (by rfl) (.tmp 22) (.tmp 23) 22 (by rfl) info_place Try.underlying22 (by rfl) (by decide) (by decide) (by rfl) EM.out (by simp) (m := m) (by rfl) (news := L.flatMap cellsT) (by rw [flat_len cellsT_len, HM.out]) SA.out.news (one_cellT _) (by have := H6.out; omega) (by simp) ?_; intro g3 c3 w3 hown3 f3 _; rw [Nat.zero_add, List.nil_append] at hown3; have C3 := Lib.hid (row_cap hown3).1; have S3 := Lib.hid (row_site hown3); have K3 := Lib.hid (GA.out.trans f3 (fun k hk hlt => by simp [Value.ownBlock] at hk; omega)); have F3 := Lib.hid (F2.out.trans K3.out (fun _ h _ => h)); clear hown3 f3; (rw [Nat.zero_add])))
        obtain ⟨vals, hv1, hv2⟩ := I5.out
        obtain ⟨g4, c4, rfl⟩ := row_some hv1 (by have := HSS.out; omega)
        have VR := Lib.hid (fun w (h : Fr (fun _ => False) w5 w) (k : Nat) (hk : k < s) => (show ∃ q c, w.cell? ⟨g4, k, none⟩ = some (.slice (some ⟨q, 0, none⟩) s c) ∧ s ≤ c ∧ ∀ i : Nat, i < s → w.cell? ⟨q, i, none⟩ = some (.int .i64 (idA L n ((i : Int) * n / s) ((k : Int) * n / s))) from by
          obtain ⟨p, c, h3, h4⟩ := hv2 k hk
          obtain ⟨q, c', he⟩ := row_some h4 (by omega)
          simp only [Value.slice.injEq, true_and] at he
          obtain ⟨rfl, rfl⟩ := he
          refine ⟨q, c, cell_fr (row_at hv1 h3) h, (row_cap h4).1, fun i hi => cell_fr (row_at h4 ?_) h⟩
          rw [List.getElem?_map]
          simp [imgRow, hi, encI]))
        clear hv1 hv2 I5
        have FK := Lib.hid (F2.out.trans K5.out (fun _ h _ => h))
        go_wp2_with fail
        go_loopw [9, 10] (fun v9 _ wr => ∃ k : Nat, k ≤ s ∧ v9 = .int .i64 (k : Int) ∧ Fr (fun _ => False) w5 wr) (fun v9 _ _ => (s - intOf v9).toNat)
        case atStart => exact ⟨0, by omega, rfl, Fr.refl _ _⟩
        case round =>
          obtain ⟨k, hk, rfl, hf⟩ := hrel
          have F := Lib.hid hf
          clear hf
          by_cases hks : k < s
          · have hksi : (k : Int) < s := by omega
            have HK := Lib.hid hks
            obtain ⟨q, cq, r0, hcq, hcell⟩ := VR.out wr F.out k hks
            have HQ := Lib.hid (show ∀ w, Fr (fun _ => False) wr w → w.cell? ⟨g4, k, none⟩ = some (.slice (some ⟨q, 0, none⟩) s cq) from fun w h => cell_fr r0 h)
            have HCE := Lib.hid (show ∀ w, Fr (fun _ => False) wr w → ∀ i : Nat, i < s → w.cell? ⟨q, i, none⟩ = some (.int .i64 (idA L n ((i : Int) * n / s) ((k : Int) * n / s))) from fun w h i hi => cell_fr (hcell i hi) h)
            clear hcq hcell
            obtain ⟨wo, hwo⟩ : ∃ wo : World, wo = wr := ⟨_, rfl⟩
            have FO := Lib.hid (show Fr (fun _ => False) wo wr from by rw [hwo]; exact Fr.refl _ _)
            rw [← hwo] at HQ HCE F
            clear hwo hks
            have hk64 : (k : Int) < 64 := by have := HK.out; have := HSS.out; omega
            go_wp2_with fail
            go_loopw [10] (fun v10 wr => ∃ i : Nat, i ≤ s ∧ v10 = .int .i64 (i : Int) ∧ Fr (fun _ => False) wo wr) (fun v10 _ => (s - intOf v10).toNat)
            case atStart => exact ⟨0, by omega, rfl, FO.out⟩
            case round =>
              clear FO r0
              obtain ⟨i, hi, rfl, hf⟩ := hrel
              have FI := Lib.hid hf
              clear hf
              by_cases his : i < s
              · have hisi : (i : Int) < s := by omega
                have hi64 : (i : Int) < 64 := by have := HSS.out; omega
                have e1 : ∀ j : Nat, j < s → IntKind.i64.wrap ((j : Int) * n) = (j : Int) * n := fun j hj => by
                  have h1 := HN.out
                  have h2 := HSS.out
                  have h3 : 0 ≤ (j : Int) * n := Int.mul_nonneg (by omega) (by omega)
                  have h4 : (j : Int) * n ≤ 64 * 1073741824 := Int.mul_le_mul (by omega) h1.2 (by omega) (by omega)
                  rw [Go.Proofs.YtgaicbodpneeoaaW.PrintLast.i64_w]; unfold wrap64; omega
                have e2 : ∀ j : Nat, Int.tdiv ((j : Int) * n) (s : Int) = (j : Int) * n / s := fun j => Int.tdiv_eq_ediv_of_nonneg (Int.mul_nonneg (by omega) (by have := HN.out; omega))
                have e3 : ∀ j : Nat, j < s → IntKind.i64.wrap ((j : Int) * n / s) = (j : Int) * n / s := fun j hj => by
                  have h1 := HN.out
                  have h3 : 0 ≤ (j : Int) * n := Int.mul_nonneg (by omega) (by omega)
                  have h4 : (j : Int) * n ≤ 64 * 1073741824 := Int.mul_le_mul (by have := HSS.out; omega) h1.2 (by omega) (by omega)
                  have h5 : 0 ≤ (j : Int) * n / s := Int.ediv_nonneg h3 (by omega)
                  have h6 : (j : Int) * n / s ≤ (j : Int) * n := Int.ediv_le_self _ h3
                  rw [Go.Proofs.YtgaicbodpneeoaaW.PrintLast.i64_w]; unfold wrap64; omega
                have e1i := e1 i his
                have e1k := e1 k HK.out
                have e2i := e2 i
                have e2k := e2 k
                have e3i := e3 i his
                have e3k := e3 k HK.out
                clear e1 e2 e3
                have NC := Lib.hid (fun w h => RA.out w i k h his HK.out)
                have q0 := HQ.out wr.drew FI.out.drew
                have q1 := HCE.out wr.drew FI.out.drew i his
                have HQ2 := Lib.hid (fun w (h : Fr (fun _ => False) wo w) => And.intro (HQ.out w h) (HCE.out w h i his))
                obtain ⟨X, hX⟩ : ∃ X, (i : Int) * n / s = X := ⟨_, rfl⟩
                obtain ⟨Y, hY⟩ : ∃ Y, (k : Int) * n / s = Y := ⟨_, rfl⟩
                rw [hX] at e2i e3i NC q1 HQ2
                rw [hY] at e2k e3k NC q1 HQ2
                obtain ⟨I, hI⟩ : ∃ I, idA L n X Y = I := ⟨_, rfl⟩
                rw [hI] at NC q1 HQ2
                obtain ⟨P, hP⟩ : ∃ P, (i : Int) * n = P := ⟨_, rfl⟩
                obtain ⟨Q, hQ⟩ : ∃ Q, (k : Int) * n = Q := ⟨_, rfl⟩
                rw [hP] at e2i
                rw [hQ] at e2k
                replace e1i := e1i.trans hP
                replace e1k := e1k.trans hQ
                have w1i := e1i
                have w1k := e1k
                have w3i := e3i
                have w3k := e3k
                rw [Go.Proofs.YtgaicbodpneeoaaW.PrintLast.i64_w] at w1i w1k w3i w3k
                clear hX hY hI hP hQ
                go_upto_region 17 with fail
                go_region_law ((go_simp; (first
                    | ((go_at_call 10; have hc_ := NC.out wr.drew (K5.out.trans (F.out.trans FI.out.drew (fun _ h _ => h)) (fun _ h _ => h)); (with_reducible refine hc_.mono ?_); clear hc_; rintro e w7 ⟨rfl, f7⟩; have F7 := Lib.hid (FI.out.drew.trans f7 (fun _ h _ => h)); obtain ⟨t0, t1⟩ := HQ2.out w7 F7.out; clear f7)))))
                all_goals
                  clear q0 q1 t0 t1
                  go_wp2_with fail
                  go_roundw
                  case rel => exact ⟨i + 1, by omega, by go_num, F7.out⟩
                  case measure => simp [intOf]; omega
              · have hie : i = s := by omega
                subst hie
                go_wp2_with fail
                go_roundw
                case rel => exact ⟨k + 1, by have := HK.out; omega, by go_num, F.out.trans FI.out (fun _ h _ => h)⟩
                case measure => have := HK.out; simp [intOf]; omega
          · have hke : k = s := by omega
            subst hke
            go_wp2_with (go_at_call 7; have hc_ := LV.out wr; (with_reducible refine hc_.mono ?_); clear hc_; rintro e w6 ⟨rfl, f6⟩; have F6 := Lib.hid (FK.out.trans (F.out.trans f6 (fun _ h _ => h)) (fun _ h _ => h)); clear f6)
            go_ret
            exact ⟨rfl, F6.out⟩
      · have IN := Lib.hid (fun w g c (h : SiteC w (some ⟨g, 0, none⟩) L) => (show Calls Try.prog 8 #[.slice (some ⟨g, 0, none⟩) m c, .int .i64 n, .int .i64 sd] w (fun e w' => e = .returned (.tuple #[.slice none 0 0, .bool false]) ∧ Fr (fun _ => False) w w') from by
          have h9 := image_no (some ⟨g, 0, none⟩) c L n sd w h (by rw [HM.out]; have := H6.out; omega) hok
          rw [HM.out] at h9
          exact h9))
        obtain ⟨G0, hG0⟩ : ∃ b, goodB L n = b := ⟨_, rfl⟩
        rw [hG0] at RG hok
        clear hG0
        cases G0
        · clear hok
          go_wp2_with (first
            | (go_at_call 7; have hc_ := LV.out w5; (with_reducible refine hc_.mono ?_); clear hc_; rintro e w6 ⟨rfl, f6⟩; have F6 := Lib.hid (F5.out.trans f6 (fun _ h _ => h)); clear f6)
            | (go_at_call 9; have hc_ := RG.out w4 K4.out; (with_reducible refine hc_.mono ?_); clear hc_; rintro e w5 ⟨rfl, f5⟩; have F5 := Lib.hid (F4.out.trans f5 (fun _ h _ => h)); clear f5)
            | (go_at_call 8; have hc_ := IN.out w3 g3 c3 S3.out; (with_reducible refine hc_.mono ?_); clear hc_; rintro e w4 ⟨rfl, f4⟩; have K4 := Lib.hid (K3.out.trans f4 (fun _ h _ => h)); have F4 := Lib.hid (F3.out.trans f4 (fun _ h _ => h)); clear f4)
            | (at_builtin; refine wp_appN (by rfl) (.tmp 22) (.tmp 23) 22 (by rfl) info_place Try.underlying22 (by rfl) (by decide) (by decide) (by rfl) EM.out (by simp) (m := m) (by rfl) (news := L.flatMap cellsT) (by rw [flat_len cellsT_len, HM.out]) SA.out.news (one_cellT _) (by have := H6.out; omega) (by simp) ?_; intro g3 c3 w3 hown3 f3 _; rw [Nat.zero_add, List.nil_append] at hown3; have S3 := Lib.hid (row_site hown3); have K3 := Lib.hid (GA.out.trans f3 (fun k hk hlt => by simp [Value.ownBlock] at hk; omega)); have F3 := Lib.hid (F2.out.trans K3.out (fun _ h _ => h)); clear hown3 f3; (rw [Nat.zero_add])))
          go_ret
          exact ⟨rfl, F6.out⟩
        · by_cases h1 : sd < 1
          · clear hok
            go_wp2_with (first
              | (go_at_call 7; have hc_ := LV.out w5; (with_reducible refine hc_.mono ?_); clear hc_; rintro e w6 ⟨rfl, f6⟩; have F6 := Lib.hid (F5.out.trans f6 (fun _ h _ => h)); clear f6)
              | (go_at_call 9; have hc_ := RG.out w4 K4.out; (with_reducible refine hc_.mono ?_); clear hc_; rintro e w5 ⟨rfl, f5⟩; have F5 := Lib.hid (F4.out.trans f5 (fun _ h _ => h)); clear f5)
              | (go_at_call 8; have hc_ := IN.out w3 g3 c3 S3.out; (with_reducible refine hc_.mono ?_); clear hc_; rintro e w4 ⟨rfl, f4⟩; have K4 := Lib.hid (K3.out.trans f4 (fun _ h _ => h)); have F4 := Lib.hid (F3.out.trans f4 (fun _ h _ => h)); clear f4)
              | (at_builtin; refine wp_appN (by rfl) (.tmp 22) (.tmp 23) 22 (by rfl) info_place Try.underlying22 (by rfl) (by decide) (by decide) (by rfl) EM.out (by simp) (m := m) (by rfl) (news := L.flatMap cellsT) (by rw [flat_len cellsT_len, HM.out]) SA.out.news (one_cellT _) (by have := H6.out; omega) (by simp) ?_; intro g3 c3 w3 hown3 f3 _; rw [Nat.zero_add, List.nil_append] at hown3; have S3 := Lib.hid (row_site hown3); have K3 := Lib.hid (GA.out.trans f3 (fun k hk hlt => by simp [Value.ownBlock] at hk; omega)); have F3 := Lib.hid (F2.out.trans K3.out (fun _ h _ => h)); clear hown3 f3; (rw [Nat.zero_add])))
            go_ret
            exact ⟨rfl, F6.out⟩
          · have h2 : 64 < sd := by
              by_cases h2 : 64 < sd
              · exact h2
              · exact absurd ⟨rfl, h1, h2⟩ hok
            clear hok
            go_wp2_with (first
              | (go_at_call 7; have hc_ := LV.out w5; (with_reducible refine hc_.mono ?_); clear hc_; rintro e w6 ⟨rfl, f6⟩; have F6 := Lib.hid (F5.out.trans f6 (fun _ h _ => h)); clear f6)
              | (go_at_call 9; have hc_ := RG.out w4 K4.out; (with_reducible refine hc_.mono ?_); clear hc_; rintro e w5 ⟨rfl, f5⟩; have F5 := Lib.hid (F4.out.trans f5 (fun _ h _ => h)); clear f5)
              | (go_at_call 8; have hc_ := IN.out w3 g3 c3 S3.out; (with_reducible refine hc_.mono ?_); clear hc_; rintro e w4 ⟨rfl, f4⟩; have K4 := Lib.hid (K3.out.trans f4 (fun _ h _ => h)); have F4 := Lib.hid (F3.out.trans f4 (fun _ h _ => h)); clear f4)
              | (at_builtin; refine wp_appN (by rfl) (.tmp 22) (.tmp 23) 22 (by rfl) info_place Try.underlying22 (by rfl) (by decide) (by decide) (by rfl) EM.out (by simp) (m := m) (by rfl) (news := L.flatMap cellsT) (by rw [flat_len cellsT_len, HM.out]) SA.out.news (one_cellT _) (by have := H6.out; omega) (by simp) ?_; intro g3 c3 w3 hown3 f3 _; rw [Nat.zero_add, List.nil_append] at hown3; have S3 := Lib.hid (row_site hown3); have K3 := Lib.hid (GA.out.trans f3 (fun k hk hlt => by simp [Value.ownBlock] at hk; omega)); have F3 := Lib.hid (F2.out.trans K3.out (fun _ h _ => h)); clear hown3 f3; (rw [Nat.zero_add])))
            go_ret
            exact ⟨rfl, F6.out⟩
end Go.Proofs.Ytgaicbodpneeoaa.Rs

