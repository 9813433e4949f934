/- What is used of RiB. -/
import Derived.Test.YtgaicbodpneeoaaSkRiA
import Derived.Test.YtgaicbodpneeoaaSkNNear
import Derived.BigRegion
import Derived.Deep.DeepCutAuto
namespace Go.Proofs.Ytgaicbodpneeoaa.Rs
open Go.RowKit Go.Proofs.ZFr Go.Proofs.Ytgaicbodpneeoaa.PRasterImages Go.Proofs.Ytgaicbodpneeoaa.Wd Go.Proofs.YtgaicbodpneeoaaW.PrintWords
open Go.Proofs.Ytgaicbodpneeoaa.Big (nb zP canD fv okP sqP inP)
def trs (l : List Site) : List (Int × Int × Int) := (l.map toP).map tr
def idA (l : List Site) (n x y : Int) : Int := ((trs l).getD (nb (trs l) n x y (l.length - 1)) zP).1
def imgRow (l : List Site) (n : Int) (s k : Nat) : List Int := (List.range s).map fun (i : Nat) => idA l n ((i : Int) * n / s) ((k : Int) * n / s)
def encI (x : Int) : Value := .int .i64 x
theorem imgRow_take (l : List Site) (n : Int) (s k i : Nat) (h : i < s) : (imgRow l n s k).take (i + 1) = (imgRow l n s k).take i ++ [idA l n ((i : Int) * n / s) ((k : Int) * n / s)] := by
  have hl : i < (imgRow l n s k).length := by simp [imgRow]; exact h
  rw [List.take_succ_eq_append_getElem hl]
  congr 2
  simp [imgRow]
/-- The image's first m rows. -/
def ImgC (w : World) (B : Nat) (v : Value) (l : List Site) (n : Int) (s m : Nat) : Prop :=
  ∃ vals : List Value, w.ownsRow B 37 1 v m vals ∧ ∀ k, k < m → ∃ p c, vals[k]? = some (.slice p s c) ∧ w.ownsRow B 3 1 (.slice p s c) s ((imgRow l n s k).map encI)
theorem ImgC.fr {w w' : World} {B : Nat} {v : Value} {l : List Site} {n : Int} {s m : Nat} (h : ImgC w B v l n s m) (hf : Fr (fun _ => False) w w') : ImgC w' B v l n s m := by
  obtain ⟨vals, h1, h2⟩ := h
  refine ⟨vals, ZFr.row_fr h1 hf (fun _ _ h => h), fun k hk => ?_⟩
  obtain ⟨p, c, h3, h4⟩ := h2 k hk
  exact ⟨p, c, h3, ZFr.row_fr h4 hf (fun _ _ h => h)⟩
theorem can_img {l : List Site} {n : Int} (h : goodB l n = true) {s k i : Nat} (hs : s ≤ 64) (hi : i < s) (hk : k < s) : canD (trs l) n ((i : Int) * n / s) ((k : Int) * n / s) := by
  obtain ⟨hn, _, hst⟩ := good_ok h
  have hb : ∀ j : Nat, j < s → 0 ≤ (j : Int) * n / s ∧ (j : Int) * n / s < n := fun j hj => by
    have hs0 : (0 : Int) < s := by omega
    refine ⟨Int.ediv_nonneg (Int.mul_nonneg (by omega) (by omega)) (by omega), Int.ediv_lt_of_lt_mul hs0 ?_⟩
    rw [Int.mul_comm n]
    exact Int.mul_lt_mul_of_pos_right (by omega) (by omega)
  have h1 := hb i hi
  have h2 := hb k hk
  refine ⟨hn, ⟨by unfold Big.inP; omega, by unfold Big.inP; omega⟩, fun p hp => ?_⟩
  unfold trs at hp
  rw [List.map_map, List.mem_map] at hp
  obtain ⟨q, hq, rfl⟩ := hp
  have := hst q hq
  unfold okSt at this
  exact ⟨⟨this.1.1, this.1.2⟩, ⟨this.2.1, this.2.2⟩⟩
theorem near_c (A : Option Addr) (c : Nat) (l : List Site) (n x y : Int) (W : World) (h : SiteC W A l) (hc : l.length ≤ c) (hl : l.length ≤ 30) (h0 : l ≠ []) (hd : canD (trs l) n x y) : Calls Try.prog 17 #[.slice A l.length c, .int .i64 n, .agg #[.int .i64 x, .int .i64 y]] W fun e w' => (∃ d, e = .returned (.tuple #[.int .i64 (idA l n x y), encW d, .bool true])) ∧ Fr (fun _ => False) W w' := by
  have hp : 0 < (l.map toP).length := by rw [List.length_map]; exact List.length_pos_iff.2 h0
  have hk := nnear_yes A c (l.map toP) n x y W (by rw [List.length_map]; omega) (kd_site h (by omega)) (by rw [List.length_map]; exact hc) hd hp
  rw [List.length_map] at hk
  refine hk.mono ?_
  rintro e w' ⟨rfl, f⟩
  exact ⟨⟨_, rfl⟩, f⟩
theorem info_ints : (Try.prog.info? 37).map (fun i => (i.zero, i.size, i.bytes)) = some (some (.slice none 0 0), 1, 24) := by kernel_rfl
theorem info_int : (Try.prog.info? 3).map (fun i => (i.zero, i.size, i.bytes)) = some (some (.int .i64 0), 1, 8) := by kernel_rfl
set_option maxRecDepth 100000 in
set_option maxHeartbeats 4000000 in
theorem image_no (A : Option Addr) (cp : Nat) (l : List Site) (n s : Int) (W : World) (hR : SiteC W A l) (hl : l.length ≤ 30) (hno : ¬ (goodB l n = true ∧ ¬ s < 1 ∧ ¬ 64 < s)) :
    Calls Try.prog 8 #[.slice A l.length cp, .int .i64 n, .int .i64 s] W fun e w' => e = .returned (.tuple #[.slice none 0 0, .bool false]) ∧ Fr (fun _ => False) W w' := by
  have HG := Lib.hid (good_walk A cp l n W hR hl)
  obtain ⟨g, hg⟩ : ∃ g, goodB l n = g := ⟨_, rfl⟩
  rw [hg] at HG hno
  clear hR hl hg
  go_enter Try.func8, Try.ntmps8
  cases g
  · go_wp2_with (go_at_call 11; have hc_ := HG.out; (with_reducible refine hc_.mono ?_); clear hc_; rintro e w3 ⟨rfl, f3⟩; have F3 := Lib.hid f3; clear f3)
    go_ret2
    exact ⟨rfl, F3.out⟩
  · by_cases h1 : s < 1
    · go_wp2_with (go_at_call 11; have hc_ := HG.out; (with_reducible refine hc_.mono ?_); clear hc_; rintro e w3 ⟨rfl, f3⟩; have F3 := Lib.hid f3; clear f3)
      go_ret2
      exact ⟨rfl, F3.out⟩
    · have h2 : 64 < s := by
        by_cases h2 : 64 < s
        · exact h2
        · exact absurd ⟨rfl, h1, h2⟩ hno
      clear hno
      go_wp2_with (go_at_call 11; have hc_ := HG.out; (with_reducible refine hc_.mono ?_); clear hc_; rintro e w3 ⟨rfl, f3⟩; have F3 := Lib.hid f3; clear f3)
      go_ret2
      exact ⟨rfl, F3.out⟩
set_option maxRecDepth 100000 in
set_option maxHeartbeats 4000000 in
theorem image_yes (A : Option Addr) (cp : Nat) (l : List Site) (n : Int) (s : Nat) (W : World) (hR : SiteC W A l) (hc : l.length ≤ cp) (hl : l.length ≤ 30) (hg : goodB l n = true) (h1 : 1 ≤ s) (h2 : s ≤ 64) :
    Calls Try.prog 8 #[.slice A l.length cp, .int .i64 n, .int .i64 s] W fun e w' => ∃ v, e = .returned (.tuple #[v, .bool true]) ∧ ImgC w' W.heap.size v l n s s ∧ Fr (fun _ => False) W w' := by
  have HG := Lib.hid (good_walk A cp l n W hR hl)
  rw [hg] at HG
  obtain ⟨hn, h0, _⟩ := good_ok hg
  have HN := Lib.hid hn
  have HS := Lib.hid (show 1 ≤ s ∧ s ≤ 64 from ⟨h1, h2⟩)
  have NR := Lib.hid (fun w (i k : Nat) (h : Fr (fun _ => False) W w) (hi : i < s) (hk : k < s) => near_c A cp l n ((i : Int) * n / s) ((k : Int) * n / s) w (hR.fr h) hc hl h0 (can_img hg h2 hi hk))
  have z1 : ¬ (s : Int) < 1 := by omega
  have z2 : ¬ 64 < (s : Int) := by omega
  have z3 : ¬ (s : Int) = 0 := by omega
  have z4 : ((s : Int) == 0) = false := by rw [beq_eq_false_iff_ne]; exact z3
  clear hR hc hl hg hn h0 h1 h2
  go_enter Try.func8, Try.ntmps8
  go_upto_region 3 with (go_at_call 11; have hc_ := HG.out; (with_reducible refine hc_.mono ?_); clear hc_; rintro e w3 ⟨rfl, f3⟩; have F3 := Lib.hid f3; clear f3)
  clear HG
  go_wp2_with fail
  go_loopw [8, 9, 10, 11, 12, 13, 14, 15, 29] (fun v8 _ _ _ _ _ _ _ v29 wr => ∃ k : Nat, k ≤ s ∧ v29 = .int .i64 (k : Int) ∧ ImgC wr W.heap.size v8 l n s k ∧ Fr (fun _ => False) W wr) (fun _ _ _ _ _ _ _ _ v29 _ => (s - intOf v29).toNat)
  case atStart => exact ⟨0, by omega, rfl, ⟨[], row_nil _ _ _ _, fun k hk => absurd hk (by omega)⟩, F3.out⟩
  case round =>
    clear F3
    obtain ⟨k, hk, rfl, him, hf⟩ := hrel
    have IM := Lib.hid him
    have F := Lib.hid hf
    clear him hf
    by_cases hks : k < s
    · have hksi : (k : Int) < s := by omega
      have HK := Lib.hid hks
      obtain ⟨wo, hwo⟩ : ∃ wo : World, wo = wr := ⟨_, rfl⟩
      have FO := Lib.hid (show Fr (fun _ => False) wo wr from by rw [hwo]; exact Fr.refl _ _)
      rw [← hwo] at IM F
      clear hwo hks
      go_wp2_with fail
      go_loopw [10, 11, 12, 13, 14, 15, 33] (fun v10 _ _ _ _ _ v33 wr => ∃ i : Nat, i ≤ s ∧ v33 = .int .i64 (i : Int) ∧ wr.ownsRow wo.heap.size 3 1 v10 i (((imgRow l n s k).take i).map encI) ∧ Fr (fun _ => False) wo wr) (fun _ _ _ _ _ _ v33 _ => (s - intOf v33).toNat)
      case atStart => exact ⟨0, by omega, rfl, by simpa using row_nil _ _ _ _, FO.out⟩
      case round =>
        clear FO
        obtain ⟨i, hi, rfl, hown, hf⟩ := hrel
        have OW := Lib.hid hown
        have FI := Lib.hid hf
        clear hown hf
        by_cases his : i < s
        · have hisi : (i : Int) < s := by omega
          have e1 : ∀ j : Nat, j < s → IntKind.i64.wrap ((j : Int) * n) = (j : Int) * n := fun j hj => by
            have h1 := HN.out
            have h2 := HS.out
            have h3 : 0 ≤ (j : Int) * n := Int.mul_nonneg (by omega) (by omega)
            have h4 : (j : Int) * n ≤ 64 * 1073741824 := Int.mul_le_mul (by omega) h1.2 (by omega) (by omega)
            rw [Go.Proofs.YtgaicbodpneeoaaW.PrintLast.i64_w]; unfold wrap64; omega
          have e2 : ∀ j : Nat, Int.tdiv ((j : Int) * n) (s : Int) = (j : Int) * n / s := fun j => Int.tdiv_eq_ediv_of_nonneg (Int.mul_nonneg (by omega) (by have := HN.out; omega))
          have e3 : ∀ j : Nat, j < s → IntKind.i64.wrap ((j : Int) * n / s) = (j : Int) * n / s := fun j hj => by
            have h1 := HN.out
            have h3 : 0 ≤ (j : Int) * n := Int.mul_nonneg (by omega) (by omega)
            have h4 : (j : Int) * n ≤ 64 * 1073741824 := Int.mul_le_mul (by have := HS.out; omega) h1.2 (by omega) (by omega)
            have h5 : 0 ≤ (j : Int) * n / s := Int.ediv_nonneg h3 (by omega)
            have h6 : (j : Int) * n / s ≤ (j : Int) * n := Int.ediv_le_self _ h3
            rw [Go.Proofs.YtgaicbodpneeoaaW.PrintLast.i64_w]; unfold wrap64; omega
          have e1i := e1 i his
          have e1k := e1 k HK.out
          have e2i := e2 i
          have e2k := e2 k
          have e3i := e3 i his
          have e3k := e3 k HK.out
          clear e1 e2 e3
          have HT := Lib.hid (imgRow_take l n s k i his)
          have NC := Lib.hid (fun w h => NR.out w i k h his HK.out)
          obtain ⟨X, hX⟩ : ∃ X, (i : Int) * n / s = X := ⟨_, rfl⟩
          obtain ⟨Y, hY⟩ : ∃ Y, (k : Int) * n / s = Y := ⟨_, rfl⟩
          obtain ⟨I, hI⟩ : ∃ I, idA l n X Y = I := ⟨_, rfl⟩
          rw [hX] at e2i e3i HT NC
          rw [hY] at e2k e3k HT NC
          rw [hI] at HT NC
          obtain ⟨P, hP⟩ : ∃ P, (i : Int) * n = P := ⟨_, rfl⟩
          obtain ⟨Q, hQ⟩ : ∃ Q, (k : Int) * n = Q := ⟨_, rfl⟩
          rw [hP] at e2i
          rw [hQ] at e2k
          rw [hP] at e1i
          rw [hQ] at e1k
          have HEX := Lib.hid (show wrap64 ((wrap64 ((i : Int) * n)).tdiv (s : Int)) = X from by rw [← Go.Proofs.YtgaicbodpneeoaaW.PrintLast.i64_w, ← Go.Proofs.YtgaicbodpneeoaaW.PrintLast.i64_w, hP, e1i, e2i]; exact e3i)
          have HEY := Lib.hid (show wrap64 ((wrap64 ((k : Int) * n)).tdiv (s : Int)) = Y from by rw [← Go.Proofs.YtgaicbodpneeoaaW.PrintLast.i64_w, ← Go.Proofs.YtgaicbodpneeoaaW.PrintLast.i64_w, hQ, e1k, e2k]; exact e3k)
          clear hX hY hI hP hQ e1i e1k e2i e2k e3i e3k
          go_upto_region 11 with fail
          go_cut [12] (fun s12 wx => s12 = .pointer (some ⟨wr.heap.size, 0, none⟩) ∧ wx.heap[wr.heap.size]? = some (.cells #[.int .i64 X, .int .i64 Y] 41 (0, 0)) ∧ Fr (fun _ => False) wr wx)
          case first =>
            go_region
            all_goals
              go_wp2_with fail
              go_meet
              refine ⟨rfl, ?_, ((Fr.refl _ wr).alloc _).drew⟩
              rw [HEX.out, HEY.out]
              exact heap_alloc_new wr _
          case rest =>
            obtain ⟨rfl, ht, hf⟩ := hcut
            have T := Lib.hid ht
            have FC := Lib.hid (FI.out.trans hf (fun _ h _ => h))
            have OC := Lib.hid (ZFr.row_fr OW.out hf (fun _ _ h => h))
            obtain ⟨p0, p1⟩ := pt_cells ht
            clear ht hf OW FI
            have HI8 := Lib.hid (show i ≤ 100000000 from by have := HS.out; omega)
            go_upto_region 13 with (go_at_call 17; have hc_ := NC.out wc (F.out.trans FC.out (fun _ h _ => h)); (with_reducible refine hc_.mono ?_); clear hc_; rintro e w5 ⟨⟨d5, rfl⟩, f5⟩; have F5 := Lib.hid (FC.out.trans f5 (fun _ h _ => h)); have O5 := Lib.hid (ZFr.row_fr OC.out f5 (fun _ _ h => h)); clear f5; (unfold encW))
            have F6 := Lib.hid (F5.out.alloc (Obj.cells #[Value.int IntKind.i64 (hiW d5), Value.int IntKind.u64 (loW d5)] 54))
            have O6 := Lib.hid (row_alloc O5.out (Obj.cells #[Value.int IntKind.i64 (hiW d5), Value.int IntKind.u64 (loW d5)] 54))
            generalize w5.alloc (Obj.cells #[Value.int IntKind.i64 (hiW d5), Value.int IntKind.u64 (loW d5)] 54) = w6 at F6 O6 ⊢
            clear p0 p1
            go_wp2_with (at_builtin; refine wp_app (by rfl) (.tmp 55) (.tmp 57) 37 (by rfl) info_int Try.underlying37 (by rfl) (by decide) (by decide) (by rfl) O6.out [.int .i64 I] (by rfl) (by rfl) ?a1 HI8.out F6.out.size ?a2)
            case a1 => first | rfl | exact ⟨rfl⟩ | (intro u hu; simp at hu; subst hu; rfl)
            case a2 =>
              intro p2 e2 w7 hown7 f7 _
              have O7 := Lib.hid hown7
              have F7 := Lib.hid (F6.out.trans f7 (fun b hb hlt => by have := row_own O6.out b hb; omega))
              clear hown7 f7
              go_wp2_with fail
              go_roundw
              case rel =>
                refine ⟨i + 1, by omega, by go_num, ?_, F7.out⟩
                rw [HT.out, List.map_append]
                have h := O7.out
                try rw [← List.map_take] at h
                exact h
              case measure => simp [intOf]; omega
        · have hie : i = s := by omega
          subst hie
          have hrl : (imgRow l n i k).take i = imgRow l n i k := List.take_of_length_le (by simp [imgRow])
          rw [hrl] at OW
          obtain ⟨pr, cr, rfl⟩ := row_slice OW.out
          obtain ⟨vals, hv1, hv2⟩ := (IM.out.fr FI.out)
          have V1 := Lib.hid hv1
          have V2 := Lib.hid hv2
          have FA := Lib.hid (F.out.trans FI.out (fun _ h _ => h))
          have HK8 := Lib.hid (show k ≤ 100000000 from by have := HS.out; omega)
          clear hv1 hv2 hrl IM
          go_wp2_with (at_builtin; refine wp_app (by rfl) (.tmp 60) (.tmp 62) 33 (by rfl) info_ints Try.underlying33 (by rfl) (by decide) (by decide) (by rfl) V1.out [.slice pr i cr] (by rfl) (by rfl) ?b1 HK8.out FA.out.size ?b2)
          case b1 => first | rfl | (intro u hu; simp at hu; subst hu; rfl)
          case b2 =>
            intro p2 e2 w7 hown7 f7 _
            have O7 := Lib.hid hown7
            have F7 := Lib.hid (FA.out.trans f7 (fun b hb hlt => by have := row_own V1.out b hb; omega))
            have R7 := Lib.hid (fun (B : Nat) (v : Value) (xs : List Value) (m : Nat) (h : wr.ownsRow B 3 1 v m xs) => ZFr.row_fr h f7 (fun b hb hb2 => row_two V1.out h (by decide) b hb2 hb))
            clear hown7 f7
            go_wp2_with fail
            go_roundw
            case rel =>
              refine ⟨k + 1, by omega, by go_num, ⟨vals ++ [.slice pr i cr], O7.out, fun j hj => ?_⟩, F7.out⟩
              have hvl : vals.length = k := by have := V1.out.1; simpa using this
              by_cases hjk : j < k
              · obtain ⟨p, c, h3, h4⟩ := V2.out j hjk
                exact ⟨p, c, by rw [List.getElem?_append_left (by omega)]; exact h3, R7.out _ _ _ _ h4⟩
              · have hje : j = k := by omega
                subst hje
                exact ⟨pr, cr, by rw [List.getElem?_append_right (by omega), hvl, Nat.sub_self]; rfl, ZFr.row_low (R7.out _ _ _ _ OW.out) F.out.size⟩
            case measure => simp [intOf]; omega
    · have hke : k = s := by omega
      subst hke
      go_wp2_with fail
      go_ret2
      exact ⟨_, rfl, IM.out, F.out⟩
end Go.Proofs.Ytgaicbodpneeoaa.Rs

