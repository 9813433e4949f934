/- The walk of ArenaFew. -/
import Derived.Test.YtkhdnkmocbceeaaArenaC
import Derived.Test.YtkhdnkmocbceeaaWWords
namespace Go.Proofs.Ytkhdnkmocbceeaa.Arena
open Go.RowKit Go.Proofs.ZFr Go.Proofs.YtkhdnkmocbceeaaW.PrintWords

theorem takeL_len (L : List Int) (C : List Nat) : (takeL L C).length = if C = [] then L.length + 1 else L.length := by
  cases C <;> simp [takeL]
theorem freeL_len (L : List Int) (C : List Nat) (n : Int) : (freeL L C n).length = L.length := by
  unfold freeL; split <;> simp
theorem mem_alls {L : List Int} {k : Nat} {x : Int} : x ∈ alls L k ↔ ∃ i : Nat, i < k ∧ L[i]? = some (-2) ∧ x = i := by
  simp only [alls, List.mem_filterMap, List.mem_range]
  constructor
  · rintro ⟨i, hi, h⟩
    by_cases hc : L[i]? = some (-2)
    · rw [if_pos hc] at h; exact ⟨i, hi, hc, (Option.some.inj h).symm⟩
    · rw [if_neg hc] at h; cases h
  · rintro ⟨i, hi, hc, rfl⟩
    exact ⟨i, hi, by rw [if_pos hc]⟩
theorem taken_fresh {L : List Int} {C : List Nat} (h : Fits L C) : ((taken L C : Nat) : Int) ∉ alls L L.length := by
  intro hm
  obtain ⟨i, hi, hc, he⟩ := mem_alls.1 hm
  obtain rfl : taken L C = i := by omega
  cases C with
  | nil => simp [taken] at hi
  | cons c cs => exact (chain_lt h.1 c (by simp)).2 hc
theorem alls_count_aux (L : List Int) : ∀ k, k ≤ L.length → (alls L k).length = (L.take k).count (-2) := by
  intro k
  induction k with
  | zero => intro _; simp [alls]
  | succ k ih =>
    intro hk
    rw [alls_snoc, List.take_succ_eq_append_getElem (by omega), List.count_append, List.length_append, ih (by omega)]
    congr 1
    simp only [live, Int.toNat_natCast, Int.natCast_nonneg, decide_true, Bool.true_and, decide_eq_true_eq, List.getElem?_eq_getElem (show k < L.length by omega), Option.some.injEq]
    by_cases h : L[k] = -2 <;> simp [h]
theorem alls_count (L : List Int) : (alls L L.length).length = L.count (-2) := by
  rw [alls_count_aux L L.length (Nat.le_refl _), List.take_length]

theorem all_AC (w : World) (B ab : Nat) (v : Value) (L : List Int) (C : List Nat) (h : AC w B ab v L C) (hL : L.length ≤ 100000) :
    Calls Try.prog 26 #[.pointer (some ⟨ab, 0, none⟩)] w fun e w' => ∃ p c, e = .returned (.slice p (L.count (-2)) c) ∧ w'.ownsRow w.heap.size 3 1 (.slice p (L.count (-2)) c) (L.count (-2)) ((alls L L.length).map (Value.int .i64)) ∧ AC w' B ab v L C ∧ Below w.heap.size w w' := by
  refine (all_any w B ab v L _ _ h.ar hL).mono ?_
  rintro e w' ⟨u, rfl, ho, hb⟩
  rw [alls_count] at ho
  obtain ⟨p, c, rfl⟩ := row_slice ho
  exact ⟨p, c, rfl, ho, h.fr (Fr.of_below hb) (fun _ _ h => h), hb⟩

theorem AC.below {w w1 w2 : World} {B ab : Nat} {v : Value} {L : List Int} {C : List Nat} (h : AC w1 B ab v L C) (hb : Below B w w1) (hf : Fr (Own ab v) w1 w2) (hB : B ≤ w.heap.size) : Below B w w2 :=
  hb.trans (hf.below B (by have := hb.size; omega) (fun k hk => (h.own_lt k hk).1))
theorem freeL_le (L : List Int) (C : List Nat) (n : Int) (k : Nat) (h : L.length ≤ k) : (freeL L C n).length ≤ k + 1 := by rw [freeL_len]; omega

set_option maxRecDepth 100000 in
set_option maxHeartbeats 1600000 in
theorem arenaFew (A : Option Addr) (cap : Nat) (l : List Int) (w : World) (hr : ReadsInt w .i64 A l.length l) (hm : l.length ≤ maxLen) :
    Calls Try.prog 8 #[.slice A l.length cap] w fun e w' => e = .returned (.bool true) ∧ Below w.heap.size w w' := by
  unfold maxLen at hm
  have HR := Lib.hid hr
  clear hr
  go_enter Try.func8, Try.ntmps8
  go_wp2_with fail
  refine (new_AC w w.heap.size (Nat.le_refl _)).mono ?_
  rintro e w1 ⟨rfl, h1, f1⟩
  have H1 := Lib.hid h1
  have hb1 := f1.below w.heap.size (Nat.le_refl _) (fun _ h => h.elim)
  have F1 := Lib.hid hb1
  clear h1 f1 hb1
  go_wp2_with fail
  go_loopw [4, 5] (fun m i wr => ∃ (k : Nat) (L : List Int) (C : List Nat) (v : Value), k ≤ l.length ∧ k ≤ 80 ∧ i = .int .i64 k ∧ m = .int .i64 L.length ∧ L.length ≤ k ∧ AC wr w.heap.size w.heap.size v L C ∧ Below w.heap.size w wr) (fun _ i _ => l.length - (intOf i).toNat)
  case atStart => exact ⟨0, [], [], _, Nat.zero_le _, by omega, rfl, rfl, Nat.le_refl _, H1.out, F1.out⟩
  case round =>
    obtain ⟨k, L, C, v, hk, hk80, rfl, rfl, hLk, hac, hbel⟩ := hrel
    have HAC := Lib.hid hac
    have HB := Lib.hid hbel
    clear hac hbel
    by_cases hlt : k < l.length ∧ k < 80
    · obtain ⟨hlt, hlt80⟩ := hlt
      obtain ⟨ad, hA, hc⟩ := HR.out.2.2 (by omega)
      subst hA
      have hcell : wr.cell? (ad.add k) = some (.int .i64 (l.getD k 0)) := pw_cell_below HB.out (hc k hlt)
      clear hc
      generalize l.getD k 0 = x at hcell
      by_cases hx : 0 ≤ x
      · go_wp2_with fail
        refine (free_AC wr _ _ _ L C x HAC.out (by omega)).mono ?_
        rintro e w2 ⟨rfl, h2, f2⟩
        have H2 := Lib.hid h2
        have F2 := Lib.hid f2
        clear h2 f2
        go_wp2_with fail
        go_roundw
        case rel => exact ⟨k + 1, _, _, _, by omega, by omega, by go_num, by rw [freeL_len], freeL_le _ _ _ _ hLk, H2.out, HAC.out.below HB.out F2.out (Nat.le_refl _)⟩
        case measure => simp [intOf]; omega
      · go_wp2_with fail
        refine (all_AC wr _ _ _ L C HAC.out (by omega)).mono ?_
        rintro e w2 ⟨p, c, rfl, ho, h2, b2⟩
        have HO := Lib.hid ho
        have H2 := Lib.hid h2
        have B2 := Lib.hid b2
        clear ho h2 b2
        go_wp2_with fail
        refine (take_AC w2 _ _ _ L C H2.out (by omega)).mono ?_
        rintro e w3 ⟨rfl, v3, h3, f3⟩
        have hfresh := Lib.hid (taken_fresh H2.out.fits)
        have ho3 : w3.ownsRow wr.heap.size 3 1 (.slice p (L.count (-2)) c) (L.count (-2)) ((alls L L.length).map (Value.int .i64)) :=
          row_fr HO.out f3 (fun g hg => by
            rcases HO.out.2 with ⟨hv, _⟩ | ⟨g', cap', cur, hv, _, hgg, _⟩
            · rw [hv] at hg; simp [Value.ownBlock] at hg
            · rw [hv] at hg; simp [Value.ownBlock] at hg; subst hg
              exact H2.out.not_own hgg (by decide) (by decide))
        have HO3 := Lib.hid ho3
        have H3 := Lib.hid h3
        have hb3 : Below w.heap.size w w3 := H2.out.below (HB.out.trans (B2.out.mono (by have := HB.out.size; exact this))) f3 (Nat.le_refl _)
        have B3 := Lib.hid hb3
        clear h3 f3 ho3 hb3 hcell
        have hcnt := count_le L
        go_wp2_with fail
        obtain ⟨wo, rfl⟩ : ∃ wo : World, wo = w3 := ⟨_, rfl⟩
        go_loop [8] (fun i => ∃ j : Nat, j ≤ L.count (-2) ∧ i = .int .i64 j) (fun i => L.count (-2) - (intOf i).toNat)
        case atStart => exact ⟨0, Nat.zero_le _, rfl⟩
        case round =>
          obtain ⟨j, hj, rfl⟩ := hrel
          by_cases hjl : j < L.count (-2)
          · obtain ⟨g, c', hv⟩ := row_some HO3.out (by omega)
            simp only [Value.slice.injEq, true_and] at hv
            obtain ⟨hp, _⟩ := hv
            subst hp
            have hgc := HO3.out.cellAt j (by omega)
            have hjl' : j < (alls L L.length).length := by rw [alls_count]; exact hjl
            have hxm : (alls L L.length)[j] ∈ alls L L.length := List.getElem_mem _
            rw [List.getElem?_map, List.getElem?_eq_getElem hjl', Option.map_some] at hgc
            have hne : ((alls L L.length)[j] == ((taken L C : Nat) : Int)) = false := by
              rw [beq_eq_false_iff_ne]; intro e; exact hfresh.out (e ▸ hxm)
            clear hxm
            generalize (alls L L.length)[j] = y at hgc hne
            go_wp2_with fail
            go_round
            case rel => exact ⟨j + 1, by omega, by go_num⟩
            case measure => simp [intOf]; omega
          · obtain ⟨hf3, hc3⟩ := fits_take H2.out.fits
            have HLN := Lib.hid H2.out.fits.2
            have htl := takeL_len L C
            have HL3 := Lib.hid htl
            have HC3 := Lib.hid hc3
            clear htl hc3
            go_wp2_with fail
            refine (len_AC wo _ _ _ _ _ H3.out).mono ?_
            rintro e w4 ⟨he, rfl⟩
            rw [HC3.out] at he
            subst he
            by_cases hC : C = []
            · have hcl : L.count (-2) = L.length := by have hlen := HLN.out; rw [hC] at hlen; simpa using hlen.symm
              have HCL := Lib.hid hcl
              have HCN := Lib.hid hC
              have hgt : L.length < L.count (-2) + 1 := by omega
              clear hcl hC
              go_wp2_with fail
              refine (len_AC wo _ _ _ _ _ H3.out).mono ?_
              rintro e w4 ⟨he, rfl⟩
              rw [HC3.out, HCL.out] at he
              subst he
              go_wp2_with fail
              go_roundw
              case rel =>
                have e3 : (takeL L C).length = L.length + 1 := by rw [HL3.out, if_pos HCN.out]
                exact ⟨k + 1, _, _, _, by omega, by omega, by go_num, by rw [e3]; go_num, by rw [e3]; omega, H3.out, B3.out⟩
              case measure => simp [intOf]; omega
            · have HCN := Lib.hid hC
              have hgt : L.count (-2) + 1 ≤ L.length := by
                have : 0 < C.length := List.length_pos_iff.2 hC
                have hlen := HLN.out
                omega
              clear hC
              go_wp2_with fail
              go_roundw
              case rel =>
                have e3 : (takeL L C).length = L.length := by rw [HL3.out, if_neg HCN.out]
                exact ⟨k + 1, _, _, _, by omega, by omega, by go_num, by rw [e3], by rw [e3]; omega, H3.out, B3.out⟩
              case measure => simp [intOf]; omega
    · go_wp2_with fail
      all_goals
        refine (top_AC wr _ _ _ L C HAC.out).mono ?_
        rintro e w2 ⟨rfl, rfl⟩
        go_wp2_with fail
        refine (all_AC wr _ _ _ L C HAC.out (by omega)).mono ?_
        rintro e w2 ⟨p, c, rfl, ho, h2, b2⟩
        have H2 := Lib.hid h2
        have B2 := Lib.hid b2
        clear ho h2 b2
        go_wp2_with fail
        refine (len_AC w2 _ _ _ L C H2.out).mono ?_
        rintro e w3 ⟨rfl, rfl⟩
        go_wp2_with fail
        refine (lives w2).mono ?_
        rintro e w4 ⟨rfl, b4⟩
        have B4 := Lib.hid b4
        clear b4
        go_wp2_with fail
        go_ret
        have hsz := HB.out.size
        have hsz2 := B2.out.size
        exact ⟨rfl, (HB.out.trans (B2.out.mono hsz)).trans (B4.out.mono (Nat.le_trans hsz hsz2))⟩

end Go.Proofs.Ytkhdnkmocbceeaa.Arena
