/- What is used of RiC. -/
import Derived.Test.YtgaicbodpneeoaaSkRiA
import Derived.Deep.DeepCutAuto
import Derived.Deep.RegionHeld3
import Derived.Deep.RegionLaw
namespace Go.Proofs.Ytgaicbodpneeoaa.Rs
open Go.RowKit Go.Proofs.ZFr Go.Proofs.Ytgaicbodpneeoaa.PRasterImages Go.Proofs.Ytgaicbodpneeoaa.Wd Go.Proofs.YtgaicbodpneeoaaW.PrintWords
theorem add_block (ad : Addr) (i : Nat) : (ad.add i).block = ad.block := by unfold Addr.add; split <;> rfl
theorem SiteC.set {w : World} {A : Option Addr} {l : List Site} (h : SiteC w A l) (a : Addr) (u : Value) (hA : ∀ x, A = some x → x.block ≠ a.block) : SiteC (w.setCell a u) A l := fun i hi => by
  obtain ⟨ad, rfl, h1, h2, h3⟩ := h i hi
  have hb : (ad.add (i * 3)).block ≠ a.block := by rw [add_block]; exact hA ad rfl
  exact ⟨ad, rfl, cell_far h1 hb, cell_far h2 hb, cell_far h3 hb⟩
set_option maxRecDepth 100000 in
set_option maxHeartbeats 4000000 in
theorem eat_walk (g : Nat) (n id : Int) (l : List Site) (W : World) (h : Eng W g n l) (hl : l.length ≤ 100) : Calls Try.prog 19 #[.pointer (some ⟨g, 0, none⟩), .int .i64 id] W fun e w' => (∃ r, e = .returned (.int .i64 r) ∧ (0 ≤ r ↔ id ∈ l.map (·.id))) ∧ Fr (fun _ => False) W w' := by
  obtain ⟨A, c, hg, hs, hc, _⟩ := h
  have G := Lib.hid hg
  have S := Lib.hid hs
  have HC := Lib.hid hc
  have HL := Lib.hid hl
  clear hg hs hc hl
  go_enter Try.func19, Try.ntmps19
  go_wp2_with fail
  go_loopw [5] (fun v5 wr => ∃ k : Nat, k ≤ l.length ∧ v5 = .int .i64 (k : Int) ∧ Hid (id ∉ (l.take k).map (·.id)) ∧ Fr (fun _ => False) W wr) (fun v5 _ => (l.length - intOf v5).toNat)
  case atStart => exact ⟨0, by omega, rfl, Lib.hid (by simp), Fr.refl _ _⟩
  case round =>
    obtain ⟨k, hk, rfl, HN, hf⟩ := hrel
    have F := Lib.hid hf
    clear hf
    have hgg := ZFr.blk_fr G.out F.out (fun h => h)
    have c2 := ZFr.blk_cell hgg 2
    simp at c2
    clear hgg
    by_cases hkl : k < l.length
    · obtain ⟨ad, rfl, r0, _, _⟩ := S.out.fr F.out k hkl
      have hkli : (k : Int) < l.length := by omega
      have hk100 : (k : Int) < 100 := by have := HL.out; omega
      obtain ⟨p, hp⟩ : ∃ p, l[k] = p := ⟨_, rfl⟩
      rw [hp] at r0
      have HT := Lib.hid (show (l.take (k + 1)).map (·.id) = (l.take k).map (·.id) ++ [p.id] from by rw [List.take_succ_eq_append_getElem hkl, hp]; simp)
      have HM := Lib.hid (show p.id ∈ l.map (·.id) from List.mem_map.2 ⟨p, hp ▸ List.getElem_mem hkl, rfl⟩)
      clear hp
      obtain ⟨pi, px, py⟩ := p
      simp only at r0 HT HM
      by_cases he : pi = id
      · have heb : (pi == id) = true := by simp [he]
        have HE := Lib.hid he
        clear he
        go_wp2_with fail
        go_ret
        exact ⟨⟨_, rfl, ⟨fun _ => HE.out ▸ HM.out, fun _ => by omega⟩⟩, F.out⟩
      · have heb : (pi == id) = false := by simp [he]
        have HE := Lib.hid he
        clear he
        go_wp2_with fail
        go_roundw
        case rel =>
          refine ⟨k + 1, by omega, by go_num, Lib.hid ?_, F.out⟩
          rw [HT.out, List.mem_append]
          rintro (h | h)
          · exact HN.out h
          · simp at h; exact HE.out h.symm
        case measure => simp [intOf]; omega
    · have hke : k = l.length := by omega
      subst hke
      go_wp2_with fail
      go_ret
      refine ⟨⟨_, rfl, ⟨fun h => absurd h (by decide), fun h => ?_⟩⟩, F.out⟩
      have h9 := HN.out
      rw [List.take_of_length_le (Nat.le_refl _)] at h9
      exact absurd h h9
set_option maxRecDepth 100000 in
set_option maxHeartbeats 4000000 in
theorem rgood_walk (A : Option Addr) (cp : Nat) (l : List Site) (n : Int) (W : World) (hR : SiteC W A l) (hl : l.length ≤ 30) :
    Calls Try.prog 9 #[.slice A l.length cp, .int .i64 n] W fun e w' => e = .returned (.bool (goodB l n)) ∧ Fr (fun _ => False) W w' := by
  have HR := Lib.hid hR
  have HL := Lib.hid hl
  obtain ⟨G0, hG0⟩ : ∃ b, goodB l n = b := ⟨_, rfl⟩
  rw [hG0]
  have HG0 := Lib.hid hG0
  have E0 := Lib.hid (show Eng (W.alloc (Obj.cells #[Value.int IntKind.i64 n, Value.int IntKind.i64 0, Value.slice none 0 0] 59)) W.heap.size n [] from ⟨none, 0, heap_alloc_new W _, fun i hi => absurd hi (by simp), by simp, fun x hx => by cases hx⟩)
  have F0 := Lib.hid ((Fr.refl (fun _ => False) W).alloc (Obj.cells #[Value.int IntKind.i64 n, Value.int IntKind.i64 0, Value.slice none 0 0] 59))
  clear hR hl hG0
  go_enter Try.func9, Try.ntmps9
  go_upto_region 2 with fail
  generalize W.alloc (Obj.cells #[Value.int IntKind.i64 n, Value.int IntKind.i64 0, Value.slice none 0 0] 59) = w1 at E0 F0 ⊢
  obtain ⟨g, hg⟩ : ∃ g, W.heap.size = g := ⟨_, rfl⟩
  rw [hg] at E0
  rw [hg]
  have HGS := Lib.hid hg
  clear hg
  go_wp2_with fail
  go_loopw [6] (fun v6 wr => ∃ (k : Nat) (EL : List Site), k ≤ l.length ∧ v6 = .int .i64 (k : Int) ∧ Eng wr g n EL ∧ Hid (EL.length = k ∧ (∀ x, x ∈ EL.map (·.id) ↔ x ∈ (l.take k).map (·.id)) ∧ gd n ((l.take k).map (·.id)) (l.drop k) = gd n [] l) ∧ Fr (fun _ => False) W wr) (fun v6 _ => (l.length - intOf v6).toNat)
  case atStart => exact ⟨0, [], by omega, rfl, E0.out, Lib.hid ⟨rfl, by simp, by simp⟩, F0.out⟩
  case round =>
    clear E0 F0
    obtain ⟨k, EL, hk, rfl, he, HX, hf⟩ := hrel
    have E := Lib.hid he
    have F := Lib.hid hf
    clear he hf
    by_cases hkl : k < l.length
    · obtain ⟨ad, rfl, r0, r1, r2⟩ := HR.out.fr F.out k hkl
      have hkli : (k : Int) < l.length := by omega
      have hk100 : (k : Int) < 100 := by have := HL.out; omega
      obtain ⟨p, hp⟩ : ∃ p, l[k] = p := ⟨_, rfl⟩
      rw [hp] at r0 r1 r2
      have HD := Lib.hid (show l.drop k = p :: l.drop (k + 1) from by rw [List.drop_eq_getElem_cons hkl, hp])
      have HT := Lib.hid (show (l.take (k + 1)).map (·.id) = (l.take k).map (·.id) ++ [p.id] from by rw [List.take_succ_eq_append_getElem hkl, hp]; simp)
      have HP := Lib.hid (fun w (h : Fr (fun _ => False) W w) => (show w.cell? (ad.add (k * 3)) = some (.int .i64 p.id) ∧ w.cell? ⟨(ad.add (k * 3)).block, (ad.add (k * 3)).off + 1, none⟩ = some (.int .i64 p.x) ∧ w.cell? ⟨(ad.add (k * 3)).block, (ad.add (k * 3)).off + 2, none⟩ = some (.int .i64 p.y) from by
        obtain ⟨ad', e, h1, h2, h3⟩ := HR.out.fr h k hkl
        simp only [Option.some.injEq] at e
        subst e
        rw [hp] at h1 h2 h3
        exact ⟨h1, h2, h3⟩))
      clear hp
      have SW := Lib.hid (fun w (h : Eng w g n EL) => site_walk g n p.x p.y EL w h)
      have AW := Lib.hid (fun w (h : Eng w g n EL) => eat_walk g n p.id EL w h (by have := HX.out.1; have := HL.out; omega))
      obtain ⟨b, hb⟩ : ∃ b, decide ((0 ≤ p.x ∧ p.x < n) ∧ 0 ≤ p.y ∧ p.y < n) = b := ⟨_, rfl⟩
      rw [hb] at SW
      have HB := Lib.hid hb
      clear hb
      cases b
      · have hbad : goodB l n = false := by
          have h1 := of_decide_eq_false HB.out
          have h2 := HX.out.2.2
          rw [HD.out, gd, if_pos (by omega)] at h2
          unfold goodB
          rw [← h2, Bool.and_false]
        have e : G0 = false := by rw [← HG0.out]; exact hbad
        subst e
        go_wp2_with (go_at_call 18; have hc_ := SW.out wr E.out; (with_reducible refine hc_.mono ?_); clear hc_; rintro e w3 ⟨rfl, f3⟩; have F3 := Lib.hid (F.out.trans f3 (fun _ h _ => h)); clear f3)
        go_ret
        exact ⟨rfl, F3.out⟩
      · have h1 := of_decide_eq_true HB.out
        have HOK := Lib.hid h1
        clear h1
        by_cases hmem : p.id ∈ EL.map (·.id)
        · have hbad : goodB l n = false := by
            have h2 := HX.out.2.2
            rw [HD.out, gd, if_pos (.inr (.inr (.inr (.inr ((HX.out.2.1 _).1 hmem)))))] at h2
            unfold goodB
            rw [← h2, Bool.and_false]
          have e : G0 = false := by rw [← HG0.out]; exact hbad
          subst e
          have HM := Lib.hid hmem
          clear hmem hbad
          go_wp2_with (first
            | (go_at_call 18; have hc_ := SW.out wr E.out; (with_reducible refine hc_.mono ?_); clear hc_; rintro e w3 ⟨rfl, f3⟩; have F3 := Lib.hid (F.out.trans f3 (fun _ h _ => h)); have E3 := Lib.hid (E.out.fr f3); obtain ⟨s0, s1, s2⟩ := HP.out w3 F3.out; clear f3)
            | (go_at_call 19; have hc_ := AW.out w3 E3.out; (with_reducible refine hc_.mono ?_); clear hc_; rintro e w4 ⟨⟨r, rfl, hr⟩, f4⟩; have hr0 := (show 0 ≤ r from hr.2 HM.out); have F4 := Lib.hid (F3.out.trans f4 (fun _ h _ => h)); have E4 := Lib.hid (E3.out.fr f4); clear hr f4))
          go_ret
          exact ⟨rfl, F4.out⟩
        · have HM := Lib.hid hmem
          clear hmem
          go_upto_region 7 with (first
            | (go_at_call 18; have hc_ := SW.out wr E.out; (with_reducible refine hc_.mono ?_); clear hc_; rintro e w3 ⟨rfl, f3⟩; have F3 := Lib.hid (F.out.trans f3 (fun _ h _ => h)); have E3 := Lib.hid (E.out.fr f3); obtain ⟨s0, s1, s2⟩ := HP.out w3 F3.out; clear f3)
            | (go_at_call 19; have hc_ := AW.out w3 E3.out; (with_reducible refine hc_.mono ?_); clear hc_; rintro e w4 ⟨⟨r, rfl, hr⟩, f4⟩; have hr0 := (show ¬ 0 ≤ r from fun h => HM.out (hr.1 h)); have F4 := Lib.hid (F3.out.trans f4 (fun _ h _ => h)); have E4 := Lib.hid (E3.out.fr f4); clear hr f4))
          clear r0 r1 r2 s0 s1 s2 hr0
          obtain ⟨A4, c4, hg4, hs4, hc4, ha4⟩ := E4.out
          have G4 := Lib.hid hg4
          have S4 := Lib.hid hs4
          have A4N := Lib.hid ha4
          have PW := Lib.hid (put17_c A4 c4 EL p w4.drew (hs4.fr ((Fr.refl (fun _ => False) w4).drew)) hc4 (by have := HX.out.1; have := HL.out; omega))
          have q2 : w4.drew.cell? ⟨g, 2, none⟩ = some (.slice A4 EL.length c4) := ZFr.blk_cell (w := w4.drew) hg4 2
          obtain ⟨s0, s1, s2⟩ := HP.out w4.drew F4.out.drew
          clear hg4 hs4 hc4 ha4
          go_region_law ((go_simp; (first
              | ((go_at_call 20; have hc_ := PW.out; (with_reducible refine hc_.mono ?_); clear hc_; rintro e w5 ⟨A5, c5, rfl, s5, hc5, ha5, f5⟩; have S5 := Lib.hid s5; have C5 := Lib.hid hc5; have N5 := Lib.hid ha5; have F5 := Lib.hid (F4.out.drew.trans f5 (fun _ h _ => h)); have G5 := Lib.hid (ZFr.blk_fr (w := w4.drew) G4.out f5 (fun h => h)); have q5 := (show w5.cell? ⟨g, 2, none⟩ = some (.slice A4 EL.length c4) from ZFr.blk_cell G5.out 2); have z5 := ZFr.blk_free G5.out 2; obtain ⟨t0, t1, t2⟩ := HP.out w5 F5.out; clear s5 hc5 ha5 f5)))))
          all_goals
            go_wp2_with fail
            go_roundw
            case rel =>
              have hgl : g < w4.heap.size := ZFr.blk_lt G4.out
              refine ⟨k + 1, ins EL p, by omega, by go_num, ⟨A5, c5, ?_, ?_, by rw [ins_len]; exact C5.out, fun x hx => ?_⟩, Lib.hid ⟨by rw [ins_len, HX.out.1], fun x => ?_, ?_⟩, F5.out.set _ _ (.inr (Nat.le_of_eq HGS.out))⟩
              · rw [ins_len]; exact ZFr.blk_set G5.out 2 _
              · exact S5.out.set _ _ (fun x hx e => by have h1 := N5.out x hx; have h2 : w4.drew.heap.size = w4.heap.size := rfl; simp only at e; omega)
              · have h1 := N5.out x hx
                have h2 : w4.drew.heap.size = w4.heap.size := rfl
                omega
              · rw [ins_mem, HT.out, List.mem_append, List.mem_singleton]; exact or_congr (HX.out.2.1 x) Iff.rfl
              · have h2 := HX.out.2.2
                rw [HD.out, gd] at h2
                have h1 := HOK.out
                have h3 := fun h => HM.out ((HX.out.2.1 p.id).2 h)
                rw [if_neg (by intro h; rcases h with h | h | h | h | h; all_goals first | omega | exact h3 h)] at h2
                rw [HT.out]
                exact h2
            case measure => simp [intOf]; omega
    · have hke : k = l.length := by omega
      subst hke
      have hgd : gd n [] l = true := by
        have h := HX.out.2.2
        rw [List.drop_of_length_le (Nat.le_refl _), gd] at h
        exact h.symm
      have HQ := Lib.hid (show G0 = decide (1 ≤ n ∧ n ≤ 1073741824 ∧ l ≠ []) from by rw [← HG0.out]; unfold goodB; rw [hgd, Bool.and_true])
      clear hgd
      by_cases n1 : 1 ≤ n
      · by_cases n2 : n ≤ 1073741824
        · by_cases n3 : 0 < l.length
          · have e : G0 = true := by rw [HQ.out]; exact decide_eq_true ⟨n1, n2, fun e => by rw [e] at n3; simp at n3⟩
            subst e
            go_wp2_with fail
            go_ret
            exact ⟨rfl, F.out⟩
          · have e : G0 = false := by rw [HQ.out]; exact decide_eq_false (fun h => h.2.2 (List.eq_nil_of_length_eq_zero (by omega)))
            subst e
            go_wp2_with fail
            go_ret
            exact ⟨rfl, F.out⟩
        · have e : G0 = false := by rw [HQ.out]; exact decide_eq_false (fun h => n2 h.2.1)
          subst e
          go_wp2_with fail
          go_ret
          exact ⟨rfl, F.out⟩
      · have e : G0 = false := by rw [HQ.out]; exact decide_eq_false (fun h => n1 h.1)
        subst e
        go_wp2_with fail
        go_ret
        exact ⟨rfl, F.out⟩
end Go.Proofs.Ytgaicbodpneeoaa.Rs

