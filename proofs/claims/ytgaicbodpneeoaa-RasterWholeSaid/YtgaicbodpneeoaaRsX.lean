/- The law RasterWhole walked. -/
import Derived.Test.YtgaicbodpneeoaaRsW
namespace Go.Proofs.Ytgaicbodpneeoaa.Rs
open Go.RowKit Go.Proofs.ZFr Go.Proofs.Ytgaicbodpneeoaa.PRasterWhole Go.Proofs.Ytgaicbodpneeoaa.Wd Go.Proofs.YtgaicbodpneeoaaW.PrintWords
theorem prt_cells {w : World} {b : Nat} {x y z : Int} (H : w.heap[b]? = some (.cells #[.int .i64 x, .int .i64 y, .int .i64 z] 24 (0, 0))) : w.cell? ⟨b, 0, none⟩ = some (.int .i64 x) ∧ w.cell? ⟨b, 1, none⟩ = some (.int .i64 y) ∧ w.cell? ⟨b, 2, none⟩ = some (.int .i64 z) := ⟨ZFr.blk_cell H 0, ZFr.blk_cell H 1, ZFr.blk_cell H 2⟩
theorem Wh_le : ∀ {l : List Sp} {a b : Int}, Wh a l b → a ≤ b
  | [], _, _, h => by have : _ = _ := h; omega
  | s :: r, _, _, h => by have h1 := h.2.1; have h2 := Wh_le h.2.2.2; omega
theorem Wh_len' : ∀ {l : List Sp} {a b : Int}, Wh a l b → (l.length : Int) ≤ b - a
  | [], _, _, h => by have : _ = _ := h; simp; omega
  | s :: r, _, _, h => by have h1 := h.2.1; have h2 := Wh_len' h.2.2.2; simp only [List.length_cons]; omega
theorem Wh_len {l : List Sp} {a b : Int} (h : Wh a l b) (hb : b - a ≤ 4096) : l.length ≤ 1000000000 := by have := Wh_len' h; omega
attribute [local go_sem high] eqA31
set_option maxRecDepth 100000 in
set_option maxHeartbeats 4000000 in
theorem law_whole (A : Option Addr) (c : Nat) (l : List Site) (n y a t : Int) (W : World) (hR : SiteC W A l) (hc : l.length ≤ c) (hy : i64Q y) (ha : i64Q a) (ht : i64Q t) : Calls Try.prog 3 #[.slice A l.length c, .int .i64 n, .agg #[.int .i64 y, .int .i64 a, .int .i64 t]] W fun e w' => e = .returned (.bool true) ∧ Fr (fun _ => False) W w' := by
  have LV := Lib.hid lives_walk
  have T0 := Lib.hid (heap_alloc_new W (Obj.cells #[Value.int IntKind.i64 y, Value.int IntKind.i64 a, Value.int IntKind.i64 t] 24))
  have F0 := Lib.hid ((Fr.refl (fun _ => False) W).alloc (Obj.cells #[Value.int IntKind.i64 y, Value.int IntKind.i64 a, Value.int IntKind.i64 t] 24))
  have FW := Lib.hid (few_walk A c l _ (hR.fr F0.out) hc)
  obtain ⟨L, hL⟩ : ∃ L, l.take 6 = L := ⟨_, rfl⟩
  obtain ⟨m, hm⟩ : ∃ m, L.length = m := ⟨_, rfl⟩
  have H6 := Lib.hid (show m ≤ 6 from by rw [← hm, ← hL, List.length_take]; omega)
  rw [hL, hm] at FW
  have HM := Lib.hid hm
  have HY := Lib.hid hy
  have HA := Lib.hid ha
  have HT := Lib.hid ht
  have RN := Lib.hid (fun w g c y a t (h : SiteC w (some ⟨g, 0, none⟩) L) (hno : ¬ RowOk L n y a t) => (show Calls Try.prog 6 #[.slice (some ⟨g, 0, none⟩) m c, .int .i64 n, .int .i64 y, .int .i64 a, .int .i64 t] w fun e w' => e = .returned (.tuple #[.slice none 0 0, .bool false]) ∧ Fr (fun _ => False) w w' from by
    rw [← hm]
    exact row_no (some ⟨g, 0, none⟩) c L n y a t w h (by have := H6.out; omega) hno))
  have RY := Lib.hid (fun w g c y a t (h : SiteC w (some ⟨g, 0, none⟩) L) (hok : RowOk L n y a t) => (show Calls Try.prog 6 #[.slice (some ⟨g, 0, none⟩) m c, .int .i64 n, .int .i64 y, .int .i64 a, .int .i64 t] w fun e w' => ∃ v, e = .returned (.tuple #[v, .bool true]) ∧ OwnS w' w.heap.size v (row L n y a t).reverse ∧ Fr (fun _ => False) w w' from by
    rw [← hm]
    exact row_yes (some ⟨g, 0, none⟩) c L n y a t w h (by have := H6.out; omega) hok))
  clear hR hc hy ha ht hL hm
  go_enter Try.func3, Try.ntmps3
  go_upto_region 1 with fail
  generalize W.alloc (Obj.cells #[Value.int IntKind.i64 y, Value.int IntKind.i64 a, Value.int IntKind.i64 t] 24) = w1 at T0 F0 FW ⊢
  go_upto_region 2 with (go_at_call 5; have hc_ := FW.out; (with_reducible refine hc_.mono ?_); clear hc_; rintro e w2 ⟨g2, c2, rfl, s2, f2⟩; have T2 := Lib.hid (ZFr.blk_fr T0.out f2 (fun h => h)); have S2 := Lib.hid s2; have F2 := Lib.hid (F0.out.trans f2 (fun _ h _ => h)); clear s2 f2)
  obtain ⟨p0, p1, p2⟩ := prt_cells (w := w2.drew) T2.out
  have EM := Lib.hid (show (w2.alloc (.cells #[] 50)).drew.ownsRow w2.heap.size 50 3 (.slice (some ⟨w2.heap.size, 0, none⟩) 0 0) 0 [] from row_empty w2 50 3)
  have GA := Lib.hid ((Fr.refl (fun _ => False) w2).alloc (.cells #[] 50)).drew
  have SA := Lib.hid (S2.out.fr GA.out)
  obtain ⟨p0', p1', p2'⟩ := prt_cells (w := (w2.alloc (.cells #[] 50)).drew) (ZFr.blk_fr T2.out GA.out (fun h => h))
  clear T0 F0 FW
  by_cases hok : RowOk L n y a t
  · have HO := Lib.hid hok
    clear hok
    go_region_held3 (fun w' => w'.cell? ⟨W.heap.size, 0, none⟩ = some (.int .i64 y) ∧ w'.cell? ⟨W.heap.size, 1, none⟩ = some (.int .i64 a) ∧ w'.cell? ⟨W.heap.size, 2, none⟩ = some (.int .i64 t))
      (refine ⟨?_, ?_, ?_⟩ <;> with_reducible assumption)
      (first
        | ((refine step_appN (by rfl) (.tmp 16) (.tmp 17) 22 (by rfl) info_place Try.underlying22 (by rfl) (by decide) (by decide) (by rfl) EM.out (by simp) (m := m) (by rfl) (news := L.flatMap cellsT) (by rw [flat_len cellsT_len, HM.out]) SA.out.news (one_cellT _) (by have := H6.out; omega) (by simp) ?_; intro g3 c3 w3 hown3 f3 _; rw [Nat.zero_add, List.nil_append] at hown3; have S3 := Lib.hid (row_site hown3); have F3 := Lib.hid (GA.out.trans f3 (fun k hk hlt => by simp [Value.ownBlock] at hk; omega)); obtain ⟨q0, q1, q2⟩ := prt_cells (ZFr.blk_fr T2.out F3.out (fun h => h)); clear hown3 f3))
        | ((go_at_call 6; have hc_ := RY.out w3 g3 c3 y a t S3.out HO.out; (with_reducible refine hc_.mono ?_); clear hc_; rintro e w4 ⟨v4, rfl, h4, f4⟩; have O4 := Lib.hid (ZFr.row_low h4 (Nat.le_trans F2.out.size F3.out.size)); have SB := Lib.hid (S2.out.fr (F3.out.trans f4 (fun _ h _ => h))); have T4 := Lib.hid (ZFr.blk_fr T2.out (F3.out.trans f4 (fun _ h _ => h)) (fun h => h)); have F4 := Lib.hid (F2.out.trans (F3.out.trans f4 (fun _ h _ => h)) (fun _ h _ => h)); obtain ⟨r0, r1, r2⟩ := prt_cells (ZFr.blk_fr T2.out (F3.out.trans f4 (fun _ h _ => h)) (fun h => h)); clear f4 h4)))
    clear p0 p1 p2 p0' p1' p2' q0 q1 q2
    by_cases b1 : 549755813888 < y
    · go_wp2_with fail
      go_ret
      exact ⟨rfl, F4.out⟩
    by_cases b2 : y < -549755813888
    · go_wp2_with fail
      go_ret
      exact ⟨rfl, F4.out⟩
    by_cases b3 : 549755813888 < a
    · go_wp2_with fail
      go_ret
      exact ⟨rfl, F4.out⟩
    by_cases b4 : a < -549755813888
    · go_wp2_with fail
      go_ret
      exact ⟨rfl, F4.out⟩
    have hB := HO.out
    unfold RowOk at hB
    obtain ⟨hn, h0, hst⟩ := good_ok hB.1
    have HB := Lib.hid (show (-549755813888 ≤ y ∧ y ≤ 549755813888) ∧ (-549755813888 ≤ a ∧ a ≤ 549755813888) ∧ (a ≤ t ∧ t - a ≤ 4096) ∧ 1 ≤ n ∧ n ≤ 1073741824 from by omega)
    have HO2 := Lib.hid (show RowOk L n (y + n) (a - n) (t - n) from by
      have h := HB.out
      refine ⟨hB.1, ?_, ?_, by omega, by omega⟩ <;> (unfold inQ; omega))
    have HWH := Lib.hid (row_whole L n y a t hn.1 h0 HB.out.2.2.1.1)
    have HSH := Lib.hid (show (row L n (y + n) (a - n) (t - n)).reverse = (row L n y a t).reverse.map (shift (-n)) from by rw [row_shift _ _ _ _ _ hn.1, List.map_reverse])
    have e1 : IntKind.i64.wrap (y + n) = y + n := by have := HB.out; rw [Go.Proofs.YtgaicbodpneeoaaW.PrintLast.i64_w]; unfold wrap64; omega
    have e2 : IntKind.i64.wrap (a - n) = a - n := by have := HB.out; rw [Go.Proofs.YtgaicbodpneeoaaW.PrintLast.i64_w]; unfold wrap64; omega
    have e3 : IntKind.i64.wrap (t - n) = t - n := by have := HB.out; rw [Go.Proofs.YtgaicbodpneeoaaW.PrintLast.i64_w]; unfold wrap64; omega
    clear hB hn h0 hst
    have RY2 := Lib.hid (fun w g c (h : SiteC w (some ⟨g, 0, none⟩) L) => RY.out w g c (y + n) (a - n) (t - n) h HO2.out)
    rw [HSH.out] at RY2
    obtain ⟨S, hS⟩ : ∃ S, (row L n y a t).reverse = S := ⟨_, rfl⟩
    rw [hS] at RY2 O4 HWH
    clear hS HSH HO HO2
    have HSL := Lib.hid (show S.length ≤ 1000000000 from Wh_len HWH.out HB.out.2.2.1.2)
    obtain ⟨pv, pc, rfl⟩ := row_slice O4.out
    go_upto_region 5 with fail
    clear r0 r1 r2 b1 b2 b3 b4
    obtain ⟨p0, p1, p2⟩ := prt_cells (w := w4.drew) T4.out
    have EM2 := Lib.hid (show (w4.alloc (.cells #[] 50)).drew.ownsRow w4.heap.size 50 3 (.slice (some ⟨w4.heap.size, 0, none⟩) 0 0) 0 [] from row_empty w4 50 3)
    have GA2 := Lib.hid ((Fr.refl (fun _ => False) w4).alloc (.cells #[] 50)).drew
    have SA2 := Lib.hid (SB.out.fr GA2.out)
    obtain ⟨p0', p1', p2'⟩ := prt_cells (w := (w4.alloc (.cells #[] 50)).drew) (ZFr.blk_fr T4.out GA2.out (fun h => h))
    go_region_held3 (fun w' => w'.cell? ⟨W.heap.size, 0, none⟩ = some (.int .i64 y) ∧ w'.cell? ⟨W.heap.size, 1, none⟩ = some (.int .i64 a) ∧ w'.cell? ⟨W.heap.size, 2, none⟩ = some (.int .i64 t))
      (refine ⟨?_, ?_, ?_⟩ <;> with_reducible assumption)
      (first
        | ((refine step_appN (by rfl) (.tmp 61) (.tmp 62) 22 (by rfl) info_place Try.underlying22 (by rfl) (by decide) (by decide) (by rfl) EM2.out (by simp) (m := m) (by rfl) (news := L.flatMap cellsT) (by rw [flat_len cellsT_len, HM.out]) SA2.out.news (one_cellT _) (by have := H6.out; omega) (by simp) ?_; intro g5 c5 w5 hown5 f5 _; rw [Nat.zero_add, List.nil_append] at hown5; have S5 := Lib.hid (row_site hown5); have F5 := Lib.hid (GA2.out.trans f5 (fun k hk hlt => by simp [Value.ownBlock] at hk; omega)); obtain ⟨q0, q1, q2⟩ := prt_cells (ZFr.blk_fr T4.out F5.out (fun h => h)); clear hown5 f5))
        | ((go_at_call 6; have hc_ := RY2.out w5 g5 c5 S5.out; (with_reducible refine hc_.mono ?_); clear hc_; rintro e w6 ⟨v6, rfl, h6, f6⟩; have O6 := Lib.hid (ZFr.row_low h6 (Nat.le_trans F4.out.size F5.out.size)); have O7 := Lib.hid (ZFr.row_fr O4.out (F5.out.trans f6 (fun _ h _ => h)) (fun _ _ h => h)); have F6 := Lib.hid (F4.out.trans (F5.out.trans f6 (fun _ h _ => h)) (fun _ h _ => h)); have T6 := Lib.hid (ZFr.blk_fr T4.out (F5.out.trans f6 (fun _ h _ => h)) (fun h => h)); obtain ⟨r0, r1, r2⟩ := prt_cells T6.out; clear f6 h6)))
    clear p0 p1 p2 p0' p1' p2' q0 q1 q2 O4 SB T4 SA2 EM2 GA2 S5 F5 F4 S2 S3 F3 T2 EM GA SA F2
    obtain ⟨p6, c6, rfl⟩ := row_slice O6.out
    have hml : (S.map (shift (-n))).length = S.length := List.length_map ..
    rw [hml] at O6
    rw [hml]
    have HML := Lib.hid hml
    clear hml
    go_wp2_with fail
    go_loopw [11, 12] (fun v11 v12 wr => ∃ (k : Nat) (at_ : Int), k ≤ S.length ∧ v12 = .int .i64 (k : Int) ∧ v11 = .int .i64 at_ ∧ Hid (a ≤ at_ ∧ Wh at_ (S.drop k) t ∧ (0 < k → ∀ s u, S[k - 1]? = some s → S[k]? = some u → u.id ≠ s.id)) ∧ Fr (fun _ => False) w6 wr) (fun _ v12 _ => (S.length - intOf v12).toNat)
    case atStart => exact ⟨0, a, by omega, rfl, rfl, Lib.hid ⟨Int.le_refl _, by simpa using HWH.out, fun h => absurd h (by omega)⟩, Fr.refl _ _⟩
    case round =>
      clear r0 r1 r2
      obtain ⟨k, at_, hk, rfl, rfl, HK, hf⟩ := hrel
      have F := Lib.hid hf
      clear hf
      by_cases hkl : k < S.length
      · obtain ⟨q7, _, hv⟩ := row_some O7.out (by omega)
        simp only [Value.slice.injEq, true_and] at hv
        obtain ⟨rfl, rfl⟩ := hv
        obtain ⟨q6, _, hv⟩ := row_some O6.out (by omega)
        simp only [Value.slice.injEq, true_and] at hv
        obtain ⟨rfl, rfl⟩ := hv
        obtain ⟨hat, hwh, hid⟩ := HK.out
        rw [List.drop_eq_getElem_cons hkl] at hwh
        obtain ⟨hf1, hf2, hf3, hf4⟩ := hwh
        have hle := Wh_le hf4
        have HNX := Lib.hid (show a ≤ S[k].t ∧ Wh S[k].t (S.drop (k + 1)) t ∧ (0 < k + 1 → ∀ s u, S[k + 1 - 1]? = some s → S[k + 1]? = some u → u.id ≠ s.id) from by
          refine ⟨by omega, hf4, fun _ s u hs hu => ?_⟩
          rw [Nat.add_sub_cancel, List.getElem?_eq_getElem hkl] at hs
          simp only [Option.some.injEq] at hs
          subst hs
          exact hf3 u (by rw [List.head?_drop, hu]; rfl))
        have k0 := cell_fr (row_el cellsS_len O7.out hkl (j := 0) rfl) F.out
        have k1 := cell_fr (row_el cellsS_len O7.out hkl (j := 1) rfl) F.out
        have k2 := cell_fr (row_el cellsS_len O7.out hkl (j := 2) rfl) F.out
        have hkl6 : k < (S.map (shift (-n))).length := by rw [List.length_map]; exact hkl
        have j0 := cell_fr (row_el cellsS_len O6.out hkl6 (j := 0) rfl) F.out
        have j1 := cell_fr (row_el cellsS_len O6.out hkl6 (j := 1) rfl) F.out
        have j2 := cell_fr (row_el cellsS_len O6.out hkl6 (j := 2) rfl) F.out
        rw [List.getElem_map] at j0 j1 j2
        have HPV := Lib.hid (fun (h : 0 < k) => (show ∃ s, S[k - 1]? = some s ∧ s.id ≠ S[k].id ∧ wr.cell? ⟨q7, (k - 1) * 3 + 2, none⟩ = some (.int .i64 s.id) from by
          have hk1 : k - 1 < S.length := by omega
          exact ⟨S[k - 1], List.getElem?_eq_getElem hk1, fun e => hid h _ _ (List.getElem?_eq_getElem hk1) (List.getElem?_eq_getElem hkl) e.symm, cell_fr (row_el cellsS_len O7.out hk1 (j := 2) rfl) F.out⟩))
        obtain ⟨s, hs⟩ : ∃ s, S[k] = s := ⟨_, rfl⟩
        rw [hs] at k0 k1 k2 j0 j1 j2 HPV HNX hf1 hf2 hle
        clear hs hf3 hf4 hid
        obtain ⟨sf, st, si⟩ := s
        simp only [shift, Nat.add_zero, ← Int.sub_eq_add_neg] at k0 k1 k2 j0 j1 j2 HPV HNX hf1 hf2 hle
        subst hf1
        have e1 : IntKind.i64.wrap (sf - n) = sf - n := by have := HB.out; rw [Go.Proofs.YtgaicbodpneeoaaW.PrintLast.i64_w]; unfold wrap64; omega
        have e2 : IntKind.i64.wrap (st - n) = st - n := by have := HB.out; rw [Go.Proofs.YtgaicbodpneeoaaW.PrintLast.i64_w]; unfold wrap64; omega
        have hkli : (k : Int) < S.length := by omega
        have hlb : decide (st ≤ sf) = false := decide_eq_false (by omega)
        have hst : ¬ st ≤ sf := by omega
        clear hat hf2 hle
        by_cases hk0 : k = 0
        · subst hk0
          clear HPV
          have z0 : ¬ (0 : Int) < ((0 : Nat) : Int) := by omega
          go_upto_region 12 with fail
          go_quiet (fail)
          generalize hw2 : World.drewN wr _ = wq
          have FQ := Lib.hid (show Fr (fun _ => False) w6 wq from by rw [← hw2]; exact F.out.drewN _)
          have k1' : wq.cell? ⟨q7, 0 * 3 + 1, none⟩ = some (.int .i64 st) := by rw [← hw2]; exact k1
          clear hw2 k0 k1 k2 j0 j1 j2 
          go_wp2_with fail
          go_roundw
          case rel => exact ⟨0 + 1, st, by omega, by go_num, rfl, Lib.hid HNX.out, FQ.out⟩
          case measure => simp [intOf]; omega
        · obtain ⟨⟨vf, vt, vi⟩, _, hne, kp⟩ := HPV.out (by omega)
          clear HPV
          simp only at hne kp
          have e5 : IntKind.i64.wrap ((k : Int) - 1) = ((k - 1 : Nat) : Int) := by
            have h9 := HSL.out
            rw [Go.Proofs.YtgaicbodpneeoaaW.PrintLast.i64_w]; unfold wrap64; omega
          have z0 : (0 : Int) < (k : Int) := by omega
          have z3 : 0 < k := by omega
          have z4 : decide (0 < k) = true := decide_eq_true (by omega)
          have z1 : ((k - 1 : Nat) : Int) < S.length := by omega
          have z2 : (si == vi) = false := by rw [beq_eq_false_iff_ne]; exact fun e => hne e.symm
          clear hne
          go_upto_region 12 with fail
          go_quiet (fail)
          generalize hw2 : World.drewN wr _ = wq
          have FQ := Lib.hid (show Fr (fun _ => False) w6 wq from by rw [← hw2]; exact F.out.drewN _)
          have k1' : wq.cell? ⟨q7, k * 3 + 1, none⟩ = some (.int .i64 st) := by rw [← hw2]; exact k1
          clear hw2 k0 k1 k2 j0 j1 j2 kp
          have hkb : (k : Int) < 1000000000 := by have := HSL.out; omega
          go_wp2_with fail
          go_roundw
          case rel => exact ⟨k + 1, st, by omega, by go_num, rfl, Lib.hid HNX.out, FQ.out⟩
          case measure => simp [intOf]; omega
      · have hke : k = S.length := by omega
        subst hke
        have hat : at_ = t := by have h := HK.out.2.1; rw [List.drop_of_length_le (Nat.le_refl _)] at h; exact h
        subst hat
        obtain ⟨r0, r1, r2⟩ := prt_cells (ZFr.blk_fr T6.out F.out (fun h => h))
        go_wp2_with (go_at_call 7; have hc_ := LV.out wr; (with_reducible refine hc_.mono ?_); clear hc_; rintro e w7 ⟨rfl, f7⟩; have F7 := Lib.hid (F6.out.trans (F.out.trans f7 (fun _ h _ => h)) (fun _ h _ => h)); clear f7)
        go_ret
        exact ⟨rfl, F7.out⟩
  · have HO := Lib.hid hok
    clear hok
    go_region_held3 (fun w' => w'.cell? ⟨W.heap.size, 0, none⟩ = some (.int .i64 y) ∧ w'.cell? ⟨W.heap.size, 1, none⟩ = some (.int .i64 a) ∧ w'.cell? ⟨W.heap.size, 2, none⟩ = some (.int .i64 t))
      (refine ⟨?_, ?_, ?_⟩ <;> with_reducible assumption)
      (first
        | ((refine step_appN (by rfl) (.tmp 16) (.tmp 17) 22 (by rfl) info_place Try.underlying22 (by rfl) (by decide) (by decide) (by rfl) EM.out (by simp) (m := m) (by rfl) (news := L.flatMap cellsT) (by rw [flat_len cellsT_len, HM.out]) SA.out.news (one_cellT _) (by have := H6.out; omega) (by simp) ?_; intro g3 c3 w3 hown3 f3 _; rw [Nat.zero_add, List.nil_append] at hown3; have S3 := Lib.hid (row_site hown3); have F3 := Lib.hid (GA.out.trans f3 (fun k hk hlt => by simp [Value.ownBlock] at hk; omega)); obtain ⟨q0, q1, q2⟩ := prt_cells (ZFr.blk_fr T2.out F3.out (fun h => h)); clear hown3 f3))
        | ((go_at_call 6; have hc_ := RN.out w3 g3 c3 y a t S3.out HO.out; (with_reducible refine hc_.mono ?_); clear hc_; rintro e w4 ⟨rfl, f4⟩; have F4 := Lib.hid (F2.out.trans (F3.out.trans f4 (fun _ h _ => h)) (fun _ h _ => h)); obtain ⟨r0, r1, r2⟩ := prt_cells (ZFr.blk_fr T2.out (F3.out.trans f4 (fun _ h _ => h)) (fun h => h)); clear f4)))
    go_wp2_with (go_at_call 7; have hc_ := LV.out w4; (with_reducible refine hc_.mono ?_); clear hc_; rintro e w5 ⟨rfl, f5⟩; have F5 := Lib.hid (F4.out.trans f5 (fun _ h _ => h)); clear f5)
    go_ret
    exact ⟨rfl, F5.out⟩
theorem site_of {w : World} {A : Option Addr} {l : List S50} (h : Kd.C k50 w A l.length l) : SiteC w A (l.map fun p => ⟨p.f0, p.f1.f0, p.f1.f1⟩) := fun i hi => by
  rw [List.length_map] at hi
  obtain ⟨ad, e, h0, h1, h2⟩ := at_T50 h (i : Int) (by omega) (by omega)
  rw [Int.toNat_natCast] at h0 h1 h2
  have hr : rd_T50 l (i : Int) = l[i] := by unfold rd_T50; rw [Int.toNat_natCast]; simp [List.getD, hi]
  rw [hr] at h0 h1 h2
  refine ⟨ad, e, ?_, ?_, ?_⟩
  · rw [List.getElem_map]; exact h0
  · rw [List.getElem_map]; exact h1
  · rw [List.getElem_map]; exact h2
end Go.Proofs.Ytgaicbodpneeoaa.Rs
