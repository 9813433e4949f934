/- What is used of HfX. -/
import Derived.Test.YtngmkjgklonfmaaSkHfW
namespace Go.Proofs.Ytngmkjgklonfmaa.Wd
open Go.RowKit Go.Proofs.ZFr Go.Proofs.Ytngmkjgklonfmaa.PNearNearest Go.Proofs.Ytngmkjgklonfmaa.Big Go.Proofs.YtngmkjgklonfmaaW.PrintWords Go.Proofs.Ytngmkjgklonfmaa.Inv
attribute [local go_sem ↓] Go.wp_at_zero Go.wp_at_succ
set_option linter.unusedVariables false
set_option linter.unusedSimpArgs false
theorem row_some' {w : World} {base : Nat} {e : TypeId} {size : Nat} {v : Value} {n : Nat} {xs : List Value} (h : w.ownsRow base e size v n xs) (hv : v ≠ .slice none 0 0) : ∃ g c, v = .slice (some ⟨g, 0, none⟩) n c := by
  rcases h.2 with ⟨rfl, _⟩ | ⟨g, cap, cur, rfl, _⟩
  · exact absurd rfl hv
  · exact ⟨_, _, rfl⟩
theorem fq_none {W : World} {e : Ending} {w' : World} (h : FillQ W none e w') : ∃ A c, e = .returned (.tuple #[.slice A 0 c, .bool false]) ∧ Fr (fun _ => False) W w' := by
  obtain ⟨v, rfl, hr, hf⟩ := h
  obtain ⟨A, c, rfl⟩ := row_slice hr
  exact ⟨A, c, rfl, hf⟩
theorem fq_some {W : World} {o : List Hf.Tr} {e : Ending} {w' : World} (h : FillQ W (some o) e w') : ∃ A c, e = .returned (.tuple #[.slice A o.length c, .bool true]) ∧ Trs w' A o.length (fun i => ((o.getD i (0, 0, 0)).1 : Int)) (fun i => ((o.getD i (0, 0, 0)).2.1 : Int)) (fun i => ((o.getD i (0, 0, 0)).2.2 : Int)) ∧ Fr (fun _ => False) W w' := by
  obtain ⟨v, rfl, hr, hf⟩ := h
  obtain ⟨A, c, rfl, ht⟩ := trs_row hr
  exact ⟨A, c, rfl, ht, hf⟩
set_option maxRecDepth 100000 in
set_option maxHeartbeats 8000000 in
theorem law_fills (A : Option Addr) (c : Nat) (l : List Hf.P) (W : World) (hp : Pts W A l) (hq : ∀ p ∈ l, i64Q p) (hc : l.length ≤ c) (hA : A = none → l.length = 0 ∧ c = 0) : Calls Try.prog 4 #[.slice A l.length c] W fun e w' => e = .returned (.bool true) ∧ Fr (fun _ => False) W w' := by
  have LV := Lib.hid (lives13 icz)
  obtain ⟨L, hL⟩ : ∃ L, l.take 16 = L := ⟨_, rfl⟩
  have PL := Lib.hid (show Pts W A L from hL ▸ hp.take 16)
  have QL := Lib.hid (show ∀ p ∈ L, i64Q p from fun p h => hq p (List.mem_of_mem_take (hL ▸ h)))
  have H16 := Lib.hid (show L.length ≤ 16 from by rw [← hL, List.length_take]; omega)
  have HLC := Lib.hid (show L.length ≤ c from by rw [← hL, List.length_take]; omega)
  have HLL := Lib.hid (show (16 < l.length → L.length = 16) ∧ (¬ 16 < l.length → L.length = l.length) from by rw [← hL, List.length_take]; omega)
  have HNO := Lib.hid (show A = none → L.length = 0 ∧ c = 0 from fun h => by have := hA h; rw [← hL, List.length_take]; omega)
  clear hL
  have HP := Lib.hid hp
  have HC := Lib.hid hc
  clear hp hc hq hA
  go_enter Try.func4, Try.ntmps4
  go_upto_if 9 with fail
  go_cut [0] (fun s wx => s = .slice A L.length c ∧ wx = W)
  case first =>
    by_cases h16 : 16 < l.length
    · obtain ⟨ad, rfl, hcl⟩ := HP.out 0 (by omega)
      clear hcl
      have h1 : (16 : Int) < (l.length : Int) := by omega
      have h2 : (16 : Int) ≤ (c : Int) := by have := HC.out; omega
      have h3 := HLL.out.1 h16
      clear h16
      go_wp2_with fail
      go_meet
      exact ⟨by rw [h3], rfl⟩
    · have h1 : ¬ (16 : Int) < (l.length : Int) := by omega
      have h3 := HLL.out.2 h16
      clear h16
      go_wp2_with fail
      go_meet
      exact ⟨by rw [h3], rfl⟩
  case rest =>
    obtain ⟨rfl, rfl⟩ := hcut
    clear HP HC HLL
    obtain ⟨i24, hi24, hz0, hz1, hz2⟩ := info_parts pinfo24
    have hl16 : (L.length : Int) ≤ 16 := by have := H16.out; omega
    obtain ⟨wA, hwA⟩ : ∃ x, x = wc := ⟨_, rfl⟩
    subst hwA
    go_upto_region 3 with fail
    go_cut [0] (fun s wx => (∃ g cc, s = .slice (some ⟨g, 0, none⟩) L.length cc) ∧ wx.ownsRow wA.heap.size 24 2 s L.length (flat L) ∧ Fr (fun _ => False) wA wx)
    case first =>
      have TE := Lib.hid (heap_alloc_new wA (Obj.cells #[] 24))
      have FE := Lib.hid ((Fr.refl (fun _ => False) wA).alloc (Obj.cells #[] 24))
      have OE := Lib.hid (show (wA.alloc (Obj.cells #[] 24)).ownsRow wA.heap.size 24 2 (.slice (some ⟨wA.heap.size, 0, none⟩) 0 0) 0 [] from own_nil TE.out (Nat.le_refl _))
      have FLN := Lib.hid (flat_len L)
      have FL1 := Lib.hid (flat_one L)
      rcases A with _ | ad
      · obtain ⟨e1, rfl⟩ := HNO.out rfl
        have e2 : L = [] := List.eq_nil_of_length_eq_zero e1
        subst e2
        go_wp2_with (at_builtin; refine wpList_append_fits_any _ rfl (.tmp 12) (.tmp 13) 44 rfl wA.heap.size 24 i24 2 Try.underlying44 hi24 hz1 wA.heap.size 0 0 [] rfl OE.out none 0 0 [] rfl rfl (fun _ => ⟨rfl, rfl⟩) (fun ad h => by cases h) (by simp) (by decide) ?more)
        case more =>
          intro w3 hown3 hgrow3
          have R3 := Lib.hid hown3
          have F3 := Lib.hid (FE.out.grown hgrow3 (fun k hk => .inr (by cases hk; exact Nat.le_refl _)))
          clear hown3 hgrow3
          go_wp2_with fail
          go_meet
          exact ⟨⟨_, _, rfl⟩, R3.out, F3.out⟩
      · have PC := Lib.hid (pts_cells PL.out)
        go_wp2_with (at_builtin; refine wpList_append_own_at _ rfl (.tmp 12) (.tmp 13) 44 rfl wA.heap.size 24 i24 _ 2 16 Try.underlying44 hi24 hz0 hz1 hz2 rfl (by decide) (.slice (some ⟨wA.heap.size, 0, none⟩) 0 0) 0 [] rfl OE.out ad L.length c (flat L) rfl FLN.out (fun j u hu => fr_cell (PC.out j u hu) FE.out) FL1.out (by unfold maxLen; omega) (by omega) (by simp) ?more)
        case more =>
          intro v3 w3 hown3 hgrow3 hn3 _
          have NN := Lib.hid (row_some' hown3 (fun h => hn3 h))
          clear hn3
          have F3 := Lib.hid (FE.out.grown hgrow3 (fun k hk => .inr (rbase OE.out k hk).1))
          have R3 := Lib.hid hown3
          clear hown3 hgrow3
          go_wp2_with fail
          go_meet
          have h := R3.out
          have h2 := NN.out
          exact ⟨h2, h, F3.out⟩
    case rest =>
      obtain ⟨⟨g0, cc, rfl⟩, hr0, hf0⟩ := hcut
      obtain ⟨wB, hwB⟩ : ∃ x, x = wc := ⟨_, rfl⟩
      subst hwB
      have F0 := Lib.hid hf0
      have R0 := Lib.hid hr0
      have P0 := Lib.hid (show Pts wB (some ⟨g0, 0, none⟩) L from pts_row hr0)
      have FLN := Lib.hid (flat_len L)
      have FL1 := Lib.hid (flat_one L)
      have HLEN := Lib.hid (fun o => @fillO_len L o)
      have FP := Lib.hid (fun A' c' w (h : Pts w A' L) => Fill_c L A' c' w (by have := H16.out; omega) h)
      have FQ := Lib.hid (fun w (h : Pts w (some ⟨g0, 0, none⟩) L) => fillR_c L (some ⟨g0, 0, none⟩) cc w (by have := H16.out; omega) QL.out h)
      clear hr0 hf0 PL QL HLC HNO
      have TE := Lib.hid (heap_alloc_new wB (Obj.cells #[] 24))
      have FE := Lib.hid ((Fr.refl (fun _ => False) wB).alloc (Obj.cells #[] 24))
      have OE := Lib.hid (show (wB.alloc (Obj.cells #[] 24)).ownsRow wB.heap.size 24 2 (.slice (some ⟨wB.heap.size, 0, none⟩) 0 0) 0 [] from own_nil TE.out (Nat.le_refl _))
      go_wp2_with (at_builtin; refine wpList_append_own_at _ rfl (.tmp 16) (.tmp 17) 44 rfl wB.heap.size 24 i24 _ 2 16 Try.underlying44 hi24 hz0 hz1 hz2 rfl (by decide) (.slice (some ⟨wB.heap.size, 0, none⟩) 0 0) 0 [] rfl OE.out ⟨g0, 0, none⟩ L.length cc (flat L) rfl FLN.out (fun j u hu => by rw [add0]; exact fr_cell (row_cell R0.out j u hu) FE.out) FL1.out (by unfold maxLen; omega) (by omega) (by simp) ?more)
      case more =>
        intro v3 w3 hown3 hgrow3 _ _
        have F3 := Lib.hid (FE.out.grown hgrow3 (fun k hk => .inr (rbase OE.out k hk).1))
        have R3 := Lib.hid (show w3.ownsRow wB.heap.size 24 2 v3 L.length (flat L) from by simpa using hown3)
        clear hown3 hgrow3
        obtain ⟨A3, c3, rfl, pt3⟩ := pts_own R3.out
        have P3 := Lib.hid pt3
        clear pt3
        generalize fillO L = oo at FP FQ HLEN
        cases oo with
        | none =>
          go_wp2_with (first
            | (go_at_call 20; have hc_ := LV.out w6; (with_reducible refine hc_.mono ?_); clear hc_; rintro e w7 ⟨rfl, f7⟩; have E7 := Lib.hid (E6.out.trans f7 (fun _ h _ => h)); clear f7)
            | (go_at_call 19; have hc_ := same_walk A4 A5 0 c4 c5 (fun _ => 0) (fun _ => 0) (fun _ => 0) w5 (by decide) (fun i hi => absurd hi (Nat.not_lt_zero _)) (fun i hi => absurd hi (Nat.not_lt_zero _)); (with_reducible refine hc_.mono ?_); clear hc_; rintro e w6 ⟨rfl, f6⟩; have E6 := Lib.hid (E5.out.trans f6 (fun _ h _ => h)); clear f6)
            | (go_at_call 18; have hc_ := FQ.out w4 (P0.out.fr E4.out); (with_reducible refine hc_.mono ?_); clear hc_; intro e w5 h5; obtain ⟨A5, c5, rfl, f5⟩ := fq_none h5; have E5 := Lib.hid (E4.out.trans f5 (fun _ h _ => h)); clear f5 h5)
            | (go_at_call 17; have hc_ := FP.out A3 c3 w3 P3.out; (with_reducible refine hc_.mono ?_); clear hc_; intro e w4 h4; obtain ⟨A4, c4, rfl, f4⟩ := fq_none h4; have E4 := Lib.hid (F3.out.trans f4 (fun _ h _ => h)); clear f4 h4))
          go_ret
          exact ⟨rfl, F0.out.trans E7.out (fun _ h _ => h)⟩
        | some x =>
          obtain ⟨hx1, hx2⟩ := HLEN.out x rfl
          have hxl : (x.length : Int) = (L.length : Int) - 2 := by omega
          have hx5 : x.length ≤ 5000 := by have := H16.out; omega
          have hwx : IntKind.i64.wrap ((L.length : Int) - 2) = (L.length : Int) - 2 := IntWalk.i64_in _ ⟨by omega, by omega⟩
          clear hx1 hx2 HLEN
          go_wp2_with (first
            | (go_at_call 20; have hc_ := LV.out w6; (with_reducible refine hc_.mono ?_); clear hc_; rintro e w7 ⟨rfl, f7⟩; have E7 := Lib.hid (E6.out.trans f7 (fun _ h _ => h)); clear f7)
            | (go_at_call 19; have hc_ := same_walk A4 A5 x.length c4 c5 _ _ _ w5 hx5 (T4.out.fr G5.out) T5.out; (with_reducible refine hc_.mono ?_); clear hc_; rintro e w6 ⟨rfl, f6⟩; have E6 := Lib.hid (E5.out.trans f6 (fun _ h _ => h)); clear f6)
            | (go_at_call 18; have hc_ := FQ.out w4 (P0.out.fr E4.out); (with_reducible refine hc_.mono ?_); clear hc_; intro e w5 h5; obtain ⟨A5, c5, rfl, t5, f5⟩ := fq_some h5; have T5 := Lib.hid t5; have G5 := Lib.hid f5; have E5 := Lib.hid (E4.out.trans f5 (fun _ h _ => h)); clear f5 h5 t5)
            | (go_at_call 17; have hc_ := FP.out A3 c3 w3 P3.out; (with_reducible refine hc_.mono ?_); clear hc_; intro e w4 h4; obtain ⟨A4, c4, rfl, t4, f4⟩ := fq_some h4; have T4 := Lib.hid t4; have E4 := Lib.hid (F3.out.trans f4 (fun _ h _ => h)); clear f4 h4 t4))
          go_ret
          exact ⟨rfl, F0.out.trans E7.out (fun _ h _ => h)⟩
end Go.Proofs.Ytngmkjgklonfmaa.Wd

