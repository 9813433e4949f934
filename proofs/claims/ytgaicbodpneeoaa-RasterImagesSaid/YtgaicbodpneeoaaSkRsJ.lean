/- What is used of RsJ. -/
import Derived.Test.YtgaicbodpneeoaaSkRsH
namespace Go.Proofs.Ytgaicbodpneeoaa.Rs
open Go.RowKit Go.Proofs.ZFr Go.Proofs.Ytgaicbodpneeoaa.PRasterImages Go.Proofs.Ytgaicbodpneeoaa.Wd Go.Proofs.YtgaicbodpneeoaaW.PrintWords
/-- Sites that lie in memory. -/
def SiteC (w : World) (A : Option Addr) (l : List Site) : Prop :=
  ∀ i (h : i < l.length), ∃ ad, A = some ad ∧ w.cell? (ad.add (i * 3)) = some (.int .i64 l[i].id) ∧ w.cell? ⟨(ad.add (i * 3)).block, (ad.add (i * 3)).off + 1, none⟩ = some (.int .i64 l[i].x) ∧ w.cell? ⟨(ad.add (i * 3)).block, (ad.add (i * 3)).off + 2, none⟩ = some (.int .i64 l[i].y)
theorem SiteC.fr {w w' : World} {A : Option Addr} {l : List Site} (h : SiteC w A l) (hf : Fr (fun _ => False) w w') : SiteC w' A l := fun i hi => by
  obtain ⟨ad, e, h1, h2, h3⟩ := h i hi
  exact ⟨ad, e, cell_fr h1 hf, cell_fr h2 hf, cell_fr h3 hf⟩
def okSt (n : Int) (p : Site) : Prop := (0 ≤ p.x ∧ p.x < n) ∧ 0 ≤ p.y ∧ p.y < n
theorem info_cone : (Try.prog.info? 72).map (fun i => (i.zero, i.size, i.bytes)) = some (some (.agg #[.int .i64 0, .int .i64 0, .int .u64 0, .int .i64 0]), 4, 32) := by kernel_rfl
theorem place_cells {w : World} {b : Nat} {x y z : Int} (H : w.heap[b]? = some (.cells #[.int .i64 x, .int .i64 y, .int .i64 z] 50 (0, 0))) : w.cell? ⟨b, 0, none⟩ = some (.int .i64 x) ∧ w.cell? ⟨b, 1, none⟩ = some (.int .i64 y) ∧ w.cell? ⟨b, 2, none⟩ = some (.int .i64 z) := ⟨ZFr.blk_cell H 0, ZFr.blk_cell H 1, ZFr.blk_cell H 2⟩
theorem wide_cells {w : World} {b : Nat} {x y : Int} (H : w.heap[b]? = some (.cells #[.int .i64 x, .int .u64 y] 54 (0, 0))) : w.cell? ⟨b, 0, none⟩ = some (.int .i64 x) ∧ w.cell? ⟨b, 1, none⟩ = some (.int .u64 y) := ⟨ZFr.blk_cell H 0, ZFr.blk_cell H 1⟩
theorem raw_snoc (l : List Site) (p : Site) (n row : Int) : raw (l ++ [p]) n row = raw l n row ++ three n row p := by unfold raw; rw [List.flatMap_append]; simp
theorem three_at (n row : Int) (p : Site) (j : Nat) (h : j < 3) : (three n row p).take (j + 1) = (three n row p).take j ++ [⟨p.x + ((j : Int) - 1) * n, gapd p.y row n * gapd p.y row n, p.id⟩] := by
  obtain rfl | rfl | rfl : j = 0 ∨ j = 1 ∨ j = 2 := by omega
  all_goals rfl
set_option maxRecDepth 100000 in
set_option maxHeartbeats 4000000 in
theorem cones_walk (A : Option Addr) (cp : Nat) (l : List Site) (n row : Int) (W : World) (hR : SiteC W A l) (hok : ∀ x ∈ l, okSt n x) (hn : 1 ≤ n ∧ n ≤ 1073741824) (hr : 0 ≤ row ∧ row < n) (hl : l.length ≤ 100) (h0 : l ≠ []) :
    Calls Try.prog 26 #[.slice A l.length cp, .int .i64 n, .int .i64 row] W fun e w' => ∃ g c, e = .returned (.slice (some ⟨g, 0, none⟩) (cones l n row).length c) ∧ RowC w' g (cones l n row) ∧ Fr (fun _ => False) W w' := by
  have HR := Lib.hid hR
  have HO := Lib.hid hok
  have H1 := Lib.hid hn
  have H2 := Lib.hid hr
  have HL := Lib.hid hl
  have HZ := Lib.hid h0
  clear hR hok hn hr hl h0
  go_enter Try.func26, Try.ntmps26
  go_wp2_with fail
  go_loopw [7, 9, 10, 11, 14] (fun v7 _ _ _ v14 wr => ∃ (k : Nat), k ≤ l.length ∧ v14 = .int .i64 (k : Int) ∧ wr.ownsRow W.heap.size 72 4 v7 (raw (l.take k) n row).length ((raw (l.take k) n row).flatMap cellsC) ∧ Fr (fun _ => False) W wr) (fun _ _ _ _ v14 _ => (l.length - intOf v14).toNat)
  case atStart => exact ⟨0, by omega, rfl, row_nil _ _ _ _, Fr.refl _ _⟩
  case round =>
    obtain ⟨k, hk, rfl, hown, hf⟩ := hrel
    have OW := Lib.hid hown
    have F := Lib.hid hf
    clear hown hf
    by_cases hkl : k < l.length
    · obtain ⟨p, hp⟩ : ∃ p, l[k] = p := ⟨_, rfl⟩
      have hok := HO.out l[k] (List.getElem_mem hkl)
      obtain ⟨ad, rfl, r0, r1, r2⟩ := HR.out.fr F.out k hkl
      rw [hp] at hok r0 r1 r2
      have HT := Lib.hid (show raw (l.take (k + 1)) n row = raw (l.take k) n row ++ three n row p from by rw [List.take_succ_eq_append_getElem hkl, raw_snoc, hp])
      have HM := Lib.hid (show (raw (l.take k) n row).length ≤ 300 from by rw [raw_length, List.length_take]; have := HL.out; omega)
      have hkli : (k : Int) < l.length := by omega
      have hk100 : (k : Int) < 100 := by have := HL.out; omega
      clear hp
      obtain ⟨pi, px, py⟩ := p
      have HK := Lib.hid hok
      simp only [okSt] at HK
      clear hok
      simp only at r0 r1 r2 HK
      have HG := Lib.hid (fun w => gap_c py row n HK.out.2 H2.out H1.out.2 w)
      obtain ⟨D, hD⟩ : ∃ D, gapd py row n * gapd py row n = D := ⟨_, rfl⟩
      rw [hD] at HG
      have HD := Lib.hid hD
      clear hD
      unfold encW at HG
      obtain ⟨d1, hd1⟩ : ∃ d1, hiW D = d1 := ⟨_, rfl⟩
      obtain ⟨d2, hd2⟩ : ∃ d2, loW D = d2 := ⟨_, rfl⟩
      rw [hd1, hd2] at HG
      have D1 := Lib.hid hd1
      have D2 := Lib.hid hd2
      clear hd1 hd2
      have T9 := Lib.hid (heap_alloc_new wr (Obj.cells #[Value.int IntKind.i64 pi, Value.int IntKind.i64 px, Value.int IntKind.i64 py] 50))
      have F9 := Lib.hid (F.out.alloc (Obj.cells #[Value.int IntKind.i64 pi, Value.int IntKind.i64 px, Value.int IntKind.i64 py] 50))
      have OW9 := Lib.hid (row_alloc OW.out (Obj.cells #[Value.int IntKind.i64 pi, Value.int IntKind.i64 px, Value.int IntKind.i64 py] 50))
      clear OW F
      go_upto_region 5 with fail
      clear r0 r1 r2
      obtain ⟨w9, hw9⟩ : ∃ w9, wr.alloc (Obj.cells #[Value.int IntKind.i64 pi, Value.int IntKind.i64 px, Value.int IntKind.i64 py] 50) = w9 := ⟨_, rfl⟩
      obtain ⟨g9, hg9⟩ : ∃ g9, wr.heap.size = g9 := ⟨_, rfl⟩
      rw [hw9, hg9] at T9
      rw [hw9] at F9 OW9
      rw [hw9, hg9]
      clear hw9 hg9
      obtain ⟨p0, p1, p2⟩ := place_cells T9.out
      go_upto_region 6 with (go_at_call 35; have hc_ := HG.out w9; (with_reducible refine hc_.mono ?_); clear hc_; rintro e wA ⟨rfl, fA⟩; have TA := Lib.hid (ZFr.blk_fr T9.out fA (fun h => h)); have FA := Lib.hid (F9.out.trans fA (fun _ h _ => h)); have OWA := Lib.hid (ZFr.row_fr OW9.out fA (fun _ _ h => h)); clear fA)
      clear T9 F9 OW9 p0 p1 p2
      have TB := Lib.hid (ZFr.blk_alloc TA.out (Obj.cells #[Value.int IntKind.i64 d1, Value.int IntKind.u64 d2] 54))
      have UB := Lib.hid (heap_alloc_new wA (Obj.cells #[Value.int IntKind.i64 d1, Value.int IntKind.u64 d2] 54))
      have FB := Lib.hid (FA.out.alloc (Obj.cells #[Value.int IntKind.i64 d1, Value.int IntKind.u64 d2] 54))
      have OWB := Lib.hid (row_alloc OWA.out (Obj.cells #[Value.int IntKind.i64 d1, Value.int IntKind.u64 d2] 54))
      clear TA FA OWA
      obtain ⟨wB, hwB⟩ : ∃ wB, wA.alloc (Obj.cells #[Value.int IntKind.i64 d1, Value.int IntKind.u64 d2] 54) = wB := ⟨_, rfl⟩
      obtain ⟨gB, hgB⟩ : ∃ gB, wA.heap.size = gB := ⟨_, rfl⟩
      rw [hwB, hgB] at UB
      rw [hwB] at FB OWB TB
      rw [hwB, hgB]
      clear hwB hgB
      obtain ⟨wo, rfl⟩ : ∃ wo : World, wo = wr := ⟨_, rfl⟩
      obtain ⟨M0, hM0⟩ : ∃ M0, raw (l.take k) n row = M0 := ⟨_, rfl⟩
      rw [hM0] at OWB HT HM
      clear hM0
      go_wp2_with fail
      go_loopw [7, 11] (fun v7 v11 wr => ∃ (j : Nat) (M : List Cone), j ≤ 3 ∧ v11 = .int .i64 ((j : Int) - 1) ∧ Hid (M = M0 ++ (three n row ⟨pi, px, py⟩).take j) ∧ Hid (M.length ≤ 300 + j) ∧ wr.ownsRow W.heap.size 72 4 v7 M.length (M.flatMap cellsC) ∧ wr.heap[g9]? = some (Obj.cells #[Value.int IntKind.i64 pi, Value.int IntKind.i64 px, Value.int IntKind.i64 py] 50 (0, 0)) ∧ wr.heap[gB]? = some (Obj.cells #[Value.int IntKind.i64 d1, Value.int IntKind.u64 d2] 54 (0, 0)) ∧ Fr (fun _ => False) W wr) (fun _ v11 _ => (5 - intOf v11).toNat)
      case atStart => exact ⟨0, M0, by omega, rfl, Lib.hid (by simp), Lib.hid HM.out, OWB.out, TB.out, UB.out, FB.out⟩
      case round =>
        clear TB UB FB OWB
        obtain ⟨j, M, hj, rfl, HS, HLM, hown, ht, hu, hf⟩ := hrel
        have OW := Lib.hid hown
        have T := Lib.hid ht
        have U := Lib.hid hu
        have F := Lib.hid hf
        obtain ⟨p0, p1, p2⟩ := place_cells ht
        obtain ⟨u0, u1⟩ := wide_cells hu
        clear hown ht hu hf
        by_cases hj3 : j < 3
        · have HJ := Lib.hid (three_at n row ⟨pi, px, py⟩ j hj3)
          have e3 : IntKind.i64.wrap ((j : Int) - 1 + 1) = ((j + 1 : Nat) : Int) - 1 := by rw [Go.Proofs.YtgaicbodpneeoaaW.PrintLast.i64_w]; unfold wrap64; omega
          have HIV := Lib.hid (show -1 ≤ (j : Int) - 1 ∧ (j : Int) - 1 ≤ 1 from by omega)
          obtain ⟨iv, hiv⟩ : ∃ iv, (j : Int) - 1 = iv := ⟨_, rfl⟩
          rw [hiv] at e3 HJ HIV
          rw [hiv]
          have HV := Lib.hid hiv
          clear hiv
          obtain ⟨q, hq⟩ : ∃ q, iv * n = q := ⟨_, rfl⟩
          have hq2 : -1073741824 ≤ q ∧ q ≤ 1073741824 := by
            have := HIV.out
            have := H1.out
            obtain rfl | rfl | rfl : iv = -1 ∨ iv = 0 ∨ iv = 1 := by omega
            all_goals omega
          have e1 : IntKind.i64.wrap (iv * n) = q := by rw [hq, Go.Proofs.YtgaicbodpneeoaaW.PrintLast.i64_w]; unfold wrap64; omega
          have e2 : IntKind.i64.wrap (px + q) = px + q := by have := HK.out; have := H1.out; rw [Go.Proofs.YtgaicbodpneeoaaW.PrintLast.i64_w]; unfold wrap64; omega
          simp only at HJ
          rw [hq] at HJ
          have hle : iv ≤ 1 := HIV.out.2
          clear hq hq2
          have HM4 := Lib.hid (show M.length ≤ 100000000 from by have := HLM.out; omega)
          go_wp2_with (at_builtin; refine wp_app (by rfl) (.tmp 28) (.tmp 40) 69 (by rfl) info_cone Try.underlying69 (by rfl) (by decide) (by decide) (by rfl) OW.out [.int .i64 (px + q), .int .i64 d1, .int .u64 d2, .int .i64 pi] (by rfl) (by rfl) ?d1 HM4.out F.out.size ?more)
          case d1 => intro u hu; simp at hu; rcases hu with rfl | rfl | rfl | rfl <;> rfl
          case more =>
            intro p2 e2' w2 hown2 f2 _
            have OX := Lib.hid hown2
            have hT : ∀ k, (_ : Value).ownBlock = some k → k ≠ g9 ∧ k ≠ gB := fun k hk => ⟨fun e => row_ne OW.out T.out (by decide) (e ▸ hk), fun e => row_ne OW.out U.out (by decide) (e ▸ hk)⟩
            have T2 := Lib.hid (ZFr.blk_fr T.out f2 (fun h => (hT _ h).1 rfl))
            have U2 := Lib.hid (ZFr.blk_fr U.out f2 (fun h => (hT _ h).2 rfl))
            have F2 := Lib.hid (F.out.trans f2 (fun k hk hlt => by have := row_own OW.out k hk; omega))
            clear hown2 f2 hT
            go_wp2_with fail
            go_roundw
            case rel =>
              refine ⟨j + 1, M ++ [⟨px + q, D, pi⟩], by omega, congrArg (Value.int IntKind.i64) (by omega), Lib.hid (by rw [HJ.out, HS.out, List.append_assoc, HD.out]), Lib.hid (by have := HLM.out; simp; omega), ?_, T2.out, U2.out, F2.out⟩
              rw [List.flatMap_append, List.length_append]
              have h := OX.out
              rw [← D1.out, ← D2.out] at h
              exact h
            case measure => simp [intOf]; have := HV.out; omega
        · have hj2 : j = 3 := by omega
          subst hj2
          go_wp2_with fail
          go_roundw
          case rel =>
            refine ⟨k + 1, by omega, by go_num, ?_, F.out⟩
            rw [HT.out, ← show M = M0 ++ three n row ⟨pi, px, py⟩ from by rw [HS.out]; rfl]
            exact OW.out
          case measure => simp [intOf]; omega
    · have hke : k = l.length := by omega
      subst hke
      have OW' : Hid (wr.ownsRow W.heap.size 72 4 _ (raw l n row).length ((raw l n row).flatMap cellsC)) := Lib.hid (by have h := OW.out; rw [List.take_of_length_le (Nat.le_refl _)] at h; exact h)
      have h3 := raw_length l n row
      have hpos : 0 < l.length := List.length_pos_iff.2 HZ.out
      obtain ⟨g, c, rfl⟩ := row_some OW'.out (by omega)
      have HC := Lib.hid (sort_walk W.heap.size g c (raw l n row) wr OW'.out (by have := HL.out; omega))
      have HG := Lib.hid (row_cap OW'.out).2.1
      have HQ := Lib.hid (show (cones l n row).length = (raw l n row).length from by unfold cones; rw [List.length_mergeSort])
      clear OW h3 hpos
      go_wp2_with (go_at_call 36; have hc_ := HC.out; (with_reducible refine hc_.mono ?_); clear hc_; rintro e w2 ⟨rfl, f2, hr2⟩; have F2 := Lib.hid (F.out.trans f2 (fun k hk hlt => by have := HG.out; omega)); have R2 := Lib.hid hr2; clear f2 hr2)
      go_ret
      exact ⟨g, c, by rw [HQ.out]; rfl, R2.out, F2.out⟩
end Go.Proofs.Ytgaicbodpneeoaa.Rs

