/- What is used of HfS. -/
import Derived.Test.YtngmkjgklonfmaaSkHfR
import Derived.Deep.DeepCutAuto
namespace Go.Proofs.Ytngmkjgklonfmaa.Wd
open Go.RowKit Go.Proofs.ZFr Go.Proofs.Ytngmkjgklonfmaa.PNearNearest Go.Proofs.Ytngmkjgklonfmaa.Big Go.Proofs.YtngmkjgklonfmaaW.PrintWords
attribute [local go_sem ↓] Go.wp_at_zero Go.wp_at_succ
set_option linter.unusedVariables false
set_option linter.unusedSimpArgs false
/-- No one of the first k places does away with place i. -/
def okB (Lt : Nat → Bool) (C : Nat → Nat → Bool) (i : Nat) : Nat → Bool
  | 0 => Lt i
  | k + 1 => okB Lt C i k && (!Lt k || !C i k)
theorem okB_left {Lt : Nat → Bool} {C : Nat → Nat → Bool} {i : Nat} : ∀ {k : Nat}, okB Lt C i k = true → Lt i = true
  | 0, h => h
  | k + 1, h => by rw [okB, Bool.and_eq_true] at h; exact okB_left h.1
theorem okB_false {Lt : Nat → Bool} {C : Nat → Nat → Bool} {i k : Nat} (h : okB Lt C i k = false) : ∀ d, okB Lt C i (k + d) = false
  | 0 => h
  | d + 1 => by rw [← Nat.add_assoc, okB, okB_false h d]; rfl
theorem okB_all {Lt : Nat → Bool} {C : Nat → Nat → Bool} {i : Nat} : ∀ {k : Nat}, okB Lt C i k = true ↔ Lt i = true ∧ ∀ j, j < k → Lt j = true → C i j = false
  | 0 => ⟨fun h => ⟨h, fun j hj => absurd hj (Nat.not_lt_zero _)⟩, fun h => h.1⟩
  | k + 1 => by
    rw [okB, Bool.and_eq_true, okB_all]
    constructor
    · rintro ⟨⟨h1, h2⟩, h3⟩
      refine ⟨h1, fun j hj hl => ?_⟩
      rcases Nat.lt_succ_iff_lt_or_eq.1 hj with h | rfl
      · exact h2 j h hl
      · simpa [hl] using h3
    · rintro ⟨h1, h2⟩
      refine ⟨⟨h1, fun j hj => h2 j (by omega)⟩, ?_⟩
      cases hl : Lt k
      · rfl
      · simp [h2 k (by omega) hl]
set_option maxRecDepth 100000 in
set_option maxHeartbeats 8000000 in
theorem bestR_walk (a1 a2 b1 b2 : Int) (A : Option Addr) (n c : Nat) (X Y : Nat → Int) (Lt : Nat → Bool) (C : Nat → Nat → Bool) (W : World) (hn : n ≤ 1000)
    (hp : ∀ i, i < n → ∃ ad, A = some ad ∧ W.cell? (ad.add (i * 2)) = some (.int .i64 (X i)) ∧ W.cell? ⟨(ad.add (i * 2)).block, (ad.add (i * 2)).off + 1, none⟩ = some (.int .i64 (Y i)))
    (hL : ∀ i, i < n → ∀ w, Calls Try.prog 71 #[pt a1 a2, pt b1 b2, pt (X i) (Y i)] w fun e w' => e = .returned (.bool (Lt i)) ∧ Fr (fun _ => False) w w')
    (hC : ∀ i j, i < n → j < n → Lt i = true → Lt j = true → ∀ w, Calls Try.prog 72 #[pt a1 a2, pt b1 b2, pt (X i) (Y i), pt (X j) (Y j)] w fun e w' => e = .returned (.bool (C i j)) ∧ Fr (fun _ => False) w w') :
    Calls Try.prog 40 #[pt a1 a2, pt b1 b2, .slice A n c] W fun e w' => ((∃ i : Nat, i < n ∧ e = .returned (.int .i64 (i : Int)) ∧ okB Lt C i n = true ∧ ∀ j, j < i → okB Lt C j n = false) ∨ (e = .returned (.int .i64 (-1)) ∧ ∀ j, j < n → okB Lt C j n = false)) ∧ Fr (fun _ => False) W w' := by
  have HL := Lib.hid hL
  have HC := Lib.hid hC
  have HN := Lib.hid hn
  have HG := Lib.hid (fun i (hi : i < n) w (hf : Fr (fun _ => False) W w) => (show ∃ ad, A = some ad ∧ w.cell? (ad.add (i * 2)) = some (.int .i64 (X i)) ∧ w.cell? ⟨(ad.add (i * 2)).block, (ad.add (i * 2)).off + 1, none⟩ = some (.int .i64 (Y i)) from by
    obtain ⟨ad, e, h1, h2⟩ := hp i hi
    exact ⟨ad, e, fr_cell h1 hf, fr_cell h2 hf⟩))
  clear hL hC hn hp
  unfold pt at HL HC ⊢
  have t1 := ZFr.blk_alloc (heap_alloc_new W (pb a1 a2)) (pb b1 b2)
  have t2 := second W (pb a1 a2) (pb b1 b2)
  have f2 := ((Fr.refl (fun _ => False) W).alloc (pb a1 a2)).alloc (pb b1 b2)
  unfold pb at t1 t2 f2
  go_enter Try.func40, Try.ntmps40
  go_wp2_with fail
  generalize (W.alloc (Obj.cells #[.int .i64 a1, .int .i64 a2] 24)).alloc (Obj.cells #[.int .i64 b1, .int .i64 b2] 24) = w2 at t1 t2 f2 ⊢
  have T1 := Lib.hid t1
  have T2 := Lib.hid t2
  have F2 := Lib.hid f2
  clear t1 t2 f2
  have PC := Lib.hid (fun w (hf : Fr (fun _ => False) w2 w) => And.intro (point_cells (ZFr.blk_fr T1.out hf (fun h => h))) (point_cells (ZFr.blk_fr T2.out hf (fun h => h))))
  have PG := Lib.hid (fun i (hi : i < n) w (hf : Fr (fun _ => False) w2 w) => HG.out i hi w (F2.out.trans hf (fun _ h _ => h)))
  clear HG
  generalize W.heap.size = g1 at T1 T2 PC ⊢
  go_loopw [7] (fun i wr => ∃ k : Nat, k ≤ n ∧ i = .int .i64 (k : Int) ∧ (∀ j, j < k → okB Lt C j n = false) ∧ Fr (fun _ => False) w2 wr) (fun i _ => (n - intOf i).toNat)
  case atStart => exact ⟨0, Nat.zero_le _, rfl, fun j h => absurd h (Nat.not_lt_zero _), Fr.refl _ _⟩
  case round =>
    obtain ⟨i, hi, rfl, hO, hf⟩ := hrel
    have HF := Lib.hid hf
    have HO := Lib.hid hO
    clear hf hO
    by_cases hi1 : i < n
    · have hid1 : (i : Int) < (n : Int) := by omega
      have hi100 : (i : Int) < 1000 := by have := HN.out; omega
      obtain ⟨ad, rfl, k0, k1⟩ := PG.out i hi1 wr HF.out
      have HI1 := Lib.hid hi1
      have PGi := Lib.hid (fun j (hj : j < n) w (hf : Fr (fun _ => False) w2 w) => (show w.cell? (ad.add (j * 2)) = some (.int .i64 (X j)) ∧ w.cell? ⟨(ad.add (j * 2)).block, (ad.add (j * 2)).off + 1, none⟩ = some (.int .i64 (Y j)) from by
        obtain ⟨ad', e, h⟩ := PG.out j hj w hf
        cases e
        exact h))
      have LFi := Lib.hid (HL.out i hi1)
      clear hi hi1 k0 k1
      go_upto_region 4 with fail
      obtain ⟨k0, k1⟩ := PGi.out i HI1.out wr.drew HF.out.drew
      obtain ⟨⟨p1, p2⟩, p3, p4⟩ := PC.out wr.drew HF.out.drew
      have LD := Lib.hid (fun w (hf : Fr (fun _ => False) wr.drew w) => And.intro (PC.out w (HF.out.drew.trans hf (fun _ h _ => h))) (PGi.out i HI1.out w (HF.out.drew.trans hf (fun _ h _ => h))))
      go_region_held3 (fun w' => w'.cell? ⟨g1, 0, none⟩ = some (.int .i64 a1) ∧ w'.cell? ⟨g1, 1, none⟩ = some (.int .i64 a2) ∧ w'.cell? ⟨g1 + 1, 0, none⟩ = some (.int .i64 b1) ∧ w'.cell? ⟨g1 + 1, 1, none⟩ = some (.int .i64 b2) ∧ w'.cell? (ad.add (i * 2)) = some (.int .i64 (X i)) ∧ w'.cell? ⟨(ad.add (i * 2)).block, (ad.add (i * 2)).off + 1, none⟩ = some (.int .i64 (Y i)))
        (refine ⟨?_, ?_, ?_, ?_, ?_, ?_⟩ <;> with_reducible assumption)
        ((go_at_call 71; have hc_ := LFi.out wr.drew; (with_reducible refine hc_.mono ?_); clear hc_; rintro e w5 ⟨rfl, f5⟩; have E5 := Lib.hid (HF.out.drew.trans f5 (fun _ h _ => h)); obtain ⟨⟨⟨z1, z2⟩, z3, z4⟩, y1, y2⟩ := LD.out w5 f5; clear f5))
      all_goals
        clear k0 k1 p1 p2 p3 p4 z1 z2 z3 z4 y1 y2 LD
        go_wp2_with fail
        go_loopw [8, 9] (fun ok kk wr => ∃ k : Nat, k ≤ n ∧ kk = .int .i64 (k : Int) ∧ ok = .bool (okB Lt C i k) ∧ Fr (fun _ => False) w2 wr) (fun _ kk _ => (n - intOf kk).toNat)
        case atStart => exact ⟨0, Nat.zero_le _, rfl, rfl, E5.out⟩
        case round =>
          obtain ⟨k, hk, rfl, rfl, hf⟩ := hrel
          have HFk := Lib.hid hf
          clear hf
          generalize hok : okB Lt C i k = ok
          have HOK := Lib.hid hok
          clear hok
          by_cases hk1 : k < n
          · have hkd : (k : Int) < (n : Int) := by omega
            have hk100 : (k : Int) < 1000 := by have := HN.out; omega
            have HK1 := Lib.hid hk1
            clear hk hk1
            cases ok
            · -- not this one
              have HNX := Lib.hid (show ∀ j, j < i + 1 → okB Lt C j n = false from fun j hj => by
                rcases Nat.lt_succ_iff_lt_or_eq.1 hj with h | rfl
                · exact HO.out j h
                · have h := okB_false HOK.out (n - k)
                  rw [show k + (n - k) = n from by have := HK1.out; omega] at h
                  exact h)
              go_wp2_with fail
              go_roundw
              case rel => exact ⟨i + 1, HI1.out, by go_num, HNX.out, HFk.out⟩
              case measure => simp [intOf]; omega
            · have LFk := Lib.hid (HL.out k HK1.out)
              have CFk := Lib.hid (fun h => HC.out i k HI1.out HK1.out (okB_left HOK.out) h)
              have HNX := Lib.hid (show okB Lt C i (k + 1) = (!Lt k || !C i k) from by rw [okB, HOK.out, Bool.true_and])
              generalize hlk : Lt k = lk at LFk CFk HNX
              clear hlk
              go_upto_region 8 with fail
              obtain ⟨k0, k1⟩ := PGi.out i HI1.out wr.drew HFk.out.drew
              obtain ⟨m0, m1⟩ := PGi.out k HK1.out wr.drew HFk.out.drew
              obtain ⟨⟨p1, p2⟩, p3, p4⟩ := PC.out wr.drew HFk.out.drew
              have LD := Lib.hid (fun w (hf : Fr (fun _ => False) wr.drew w) => And.intro (PC.out w (HFk.out.drew.trans hf (fun _ h _ => h))) (And.intro (PGi.out i HI1.out w (HFk.out.drew.trans hf (fun _ h _ => h))) (PGi.out k HK1.out w (HFk.out.drew.trans hf (fun _ h _ => h)))))
              cases lk
              · clear CFk
                refine wp_region_held_drew (S := (fun w' => w'.cell? ⟨g1, 0, none⟩ = some (.int .i64 a1) ∧ w'.cell? ⟨g1, 1, none⟩ = some (.int .i64 a2) ∧ w'.cell? ⟨g1 + 1, 0, none⟩ = some (.int .i64 b1) ∧ w'.cell? ⟨g1 + 1, 1, none⟩ = some (.int .i64 b2) ∧ w'.cell? (ad.add (k * 2)) = some (.int .i64 (X k)) ∧ w'.cell? ⟨(ad.add (k * 2)).block, (ad.add (k * 2)).off + 1, none⟩ = some (.int .i64 (Y k)))) (by kernel_rfl) ⟨p1, p2, p3, p4, m0, m1⟩ (fun hHeld => ?_)
                refine wpAnyH_take (i := 0) (v := .agg #[.int .i64 a1, .int .i64 a2]) rfl (by kernel_rfl) (by kernel_rfl) (by kernel_rfl) (fun _ _ _ h => h) (Or.inl ⟨by rfl, fun w hS => by (obtain ⟨s1, s2, s3, s4, s5, s6⟩ := hS; go_simp)⟩) hHeld ?_
                try simp only [Act.put, List.setIfInBounds_toArray, List.set_cons_zero, List.set_cons_succ]
                refine wpAnyH_take (i := 1) (v := .agg #[.int .i64 b1, .int .i64 b2]) rfl (by kernel_rfl) (by kernel_rfl) (by kernel_rfl) (fun _ _ _ h => h) (Or.inl ⟨by rfl, fun w hS => by (obtain ⟨s1, s2, s3, s4, s5, s6⟩ := hS; go_simp)⟩) hHeld ?_
                try simp only [Act.put, List.setIfInBounds_toArray, List.set_cons_zero, List.set_cons_succ]
                refine wpAnyH_take (i := 2) (v := .slice (some ad) n c) rfl (by kernel_rfl) (by kernel_rfl) (by kernel_rfl) (fun _ _ _ h => h) (Or.inl ⟨by rfl, fun w hS => by (obtain ⟨s1, s2, s3, s4, s5, s6⟩ := hS; go_simp)⟩) hHeld ?_
                try simp only [Act.put, List.setIfInBounds_toArray, List.set_cons_zero, List.set_cons_succ]
                refine wpAnyH_take (i := 3) (v := .int .i64 (k : Int)) rfl (by kernel_rfl) (by kernel_rfl) (by kernel_rfl) (fun _ _ _ h => h) (Or.inl ⟨by rfl, fun w hS => by (obtain ⟨s1, s2, s3, s4, s5, s6⟩ := hS; go_simp)⟩) hHeld ?_
                try simp only [Act.put, List.setIfInBounds_toArray, List.set_cons_zero, List.set_cons_succ]
                refine wpAnyH_take (i := 4) (v := .pointer (some (ad.add (k * 2)))) rfl (by kernel_rfl) (by kernel_rfl) (by kernel_rfl) (fun _ _ _ h => h) (Or.inl ⟨by rfl, fun w hS => by (obtain ⟨s1, s2, s3, s4, s5, s6⟩ := hS; go_simp)⟩) hHeld ?_
                try simp only [Act.put, List.setIfInBounds_toArray, List.set_cons_zero, List.set_cons_succ]
                refine wpAnyH_take (i := 5) (v := .agg #[.int .i64 (X k), .int .i64 (Y k)]) rfl (by kernel_rfl) (by kernel_rfl) (by kernel_rfl) (fun _ _ _ h => h) (Or.inl ⟨by rfl, fun w hS => by (obtain ⟨s1, s2, s3, s4, s5, s6⟩ := hS; go_simp)⟩) hHeld ?_
                try simp only [Act.put, List.setIfInBounds_toArray, List.set_cons_zero, List.set_cons_succ]
                refine wpAnyH_ready (rs := [6]) (by kernel_rfl) (by simp) (AllReadyH.cons rfl (fun K hK => ?_) AllReadyH.nil)
                go_simp
                go_at_call 71
                have hc_ := LFk.out wr.drew
                (with_reducible refine hc_.mono ?_)
                clear hc_
                rintro e w6 ⟨rfl, f6⟩
                have E6 := Lib.hid f6
                obtain ⟨⟨⟨z1, z2⟩, z3, z4⟩, ⟨y1, y2⟩, x1, x2⟩ := LD.out w6 E6.out
                clear f6
                refine hK.out _ _ ⟨z1, z2, z3, z4, x1, x2⟩ (fun hHeld => ?_)
                clear hK K
                try simp only [Act.put, List.setIfInBounds_toArray, List.set_cons_zero, List.set_cons_succ]
                refine wpAnyH_take (i := 7) (v := .bool true) rfl (by kernel_rfl) (by kernel_rfl) (by kernel_rfl) (fun _ _ _ h => h) (Or.inl ⟨by rfl, fun w hS => by (obtain ⟨s1, s2, s3, s4, s5, s6⟩ := hS; go_simp)⟩) hHeld ?_
                try simp only [Act.put, List.setIfInBounds_toArray, List.set_cons_zero, List.set_cons_succ]
                refine wpAnyH_take (i := 8) (v := .bool true) rfl (by kernel_rfl) (by kernel_rfl) (by kernel_rfl) (fun _ _ _ h => h) (Or.inl ⟨by rfl, fun w hS => by (obtain ⟨s1, s2, s3, s4, s5, s6⟩ := hS; go_simp)⟩) hHeld ?_
                try simp only [Act.put, List.setIfInBounds_toArray, List.set_cons_zero, List.set_cons_succ]
                refine wpAnyH_take (i := 9) (v := undef) rfl (by kernel_rfl) (by kernel_rfl) (by kernel_rfl) (fun _ _ _ h => h) (Or.inr ⟨by kernel_rfl, rfl⟩) hHeld ?_
                try simp only [Act.put, List.setIfInBounds_toArray, List.set_cons_zero, List.set_cons_succ]
                refine wpAnyH_take (i := 10) (v := undef) rfl (by kernel_rfl) (by kernel_rfl) (by kernel_rfl) (fun _ _ _ h => h) (Or.inr ⟨by kernel_rfl, rfl⟩) hHeld ?_
                try simp only [Act.put, List.setIfInBounds_toArray, List.set_cons_zero, List.set_cons_succ]
                refine wpAnyH_take (i := 11) (v := undef) rfl (by kernel_rfl) (by kernel_rfl) (by kernel_rfl) (fun _ _ _ h => h) (Or.inr ⟨by kernel_rfl, rfl⟩) hHeld ?_
                try simp only [Act.put, List.setIfInBounds_toArray, List.set_cons_zero, List.set_cons_succ]
                refine wpAnyH_take (i := 12) (v := undef) rfl (by kernel_rfl) (by kernel_rfl) (by kernel_rfl) (fun _ _ _ h => h) (Or.inr ⟨by kernel_rfl, rfl⟩) hHeld ?_
                try simp only [Act.put, List.setIfInBounds_toArray, List.set_cons_zero, List.set_cons_succ]
                refine wpAnyH_take (i := 13) (v := undef) rfl (by kernel_rfl) (by kernel_rfl) (by kernel_rfl) (fun _ _ _ h => h) (Or.inr ⟨by kernel_rfl, rfl⟩) hHeld ?_
                try simp only [Act.put, List.setIfInBounds_toArray, List.set_cons_zero, List.set_cons_succ]
                refine wpAnyH_take (i := 14) (v := undef) rfl (by kernel_rfl) (by kernel_rfl) (by kernel_rfl) (fun _ _ _ h => h) (Or.inr ⟨by kernel_rfl, rfl⟩) hHeld ?_
                try simp only [Act.put, List.setIfInBounds_toArray, List.set_cons_zero, List.set_cons_succ]
                refine wpAnyH_take (i := 15) (v := undef) rfl (by kernel_rfl) (by kernel_rfl) (by kernel_rfl) (fun _ _ _ h => h) (Or.inr ⟨by kernel_rfl, rfl⟩) hHeld ?_
                try simp only [Act.put, List.setIfInBounds_toArray, List.set_cons_zero, List.set_cons_succ]
                refine wpAnyH_take (i := 16) (v := undef) rfl (by kernel_rfl) (by kernel_rfl) (by kernel_rfl) (fun _ _ _ h => h) (Or.inr ⟨by kernel_rfl, rfl⟩) hHeld ?_
                try simp only [Act.put, List.setIfInBounds_toArray, List.set_cons_zero, List.set_cons_succ]
                refine wpAnyH_take (i := 17) (v := undef) rfl (by kernel_rfl) (by kernel_rfl) (by kernel_rfl) (fun _ _ _ h => h) (Or.inr ⟨by kernel_rfl, rfl⟩) hHeld ?_
                try simp only [Act.put, List.setIfInBounds_toArray, List.set_cons_zero, List.set_cons_succ]
                refine wpAnyH_take (i := 18) (v := undef) rfl (by kernel_rfl) (by kernel_rfl) (by kernel_rfl) (fun _ _ _ h => h) (Or.inr ⟨by kernel_rfl, rfl⟩) hHeld ?_
                try simp only [Act.put, List.setIfInBounds_toArray, List.set_cons_zero, List.set_cons_succ]
                refine wpAnyH_take (i := 19) (v := undef) rfl (by kernel_rfl) (by kernel_rfl) (by kernel_rfl) (fun _ _ _ h => h) (Or.inr ⟨by kernel_rfl, rfl⟩) hHeld ?_
                try simp only [Act.put, List.setIfInBounds_toArray, List.set_cons_zero, List.set_cons_succ]
                refine wpAnyH_take (i := 20) (v := undef) rfl (by kernel_rfl) (by kernel_rfl) (by kernel_rfl) (fun _ _ _ h => h) (Or.inr ⟨by kernel_rfl, rfl⟩) hHeld ?_
                try simp only [Act.put, List.setIfInBounds_toArray, List.set_cons_zero, List.set_cons_succ]
                refine wpAnyH_take (i := 21) (v := .bool true) rfl (by kernel_rfl) (by kernel_rfl) (by kernel_rfl) (fun _ _ _ h => h) (Or.inl ⟨by rfl, fun w hS => by (obtain ⟨s1, s2, s3, s4, s5, s6⟩ := hS; go_simp)⟩) hHeld ?_
                try simp only [Act.put, List.setIfInBounds_toArray, List.set_cons_zero, List.set_cons_succ]
                refine wpAnyH_take (i := 22) (v := .bool true) rfl (by kernel_rfl) (by kernel_rfl) (by kernel_rfl) (fun _ _ _ h => h) (Or.inl ⟨by rfl, fun w hS => by (obtain ⟨s1, s2, s3, s4, s5, s6⟩ := hS; go_simp)⟩) hHeld ?_
                try simp only [Act.put, List.setIfInBounds_toArray, List.set_cons_zero, List.set_cons_succ]
                refine wpAnyH_done (by kernel_rfl) ?_ _
                go_wp2_with fail
                go_roundw
                case rel => exact ⟨k + 1, HK1.out, by go_num, by rw [HNX.out]; rfl, HFk.out.drew.trans E6.out (fun _ h _ => h)⟩
                case measure => simp [intOf]; omega
              · generalize hcik : C i k = cik at CFk HNX
                clear hcik
                go_region_held3 (fun w' => w'.cell? ⟨g1, 0, none⟩ = some (.int .i64 a1) ∧ w'.cell? ⟨g1, 1, none⟩ = some (.int .i64 a2) ∧ w'.cell? ⟨g1 + 1, 0, none⟩ = some (.int .i64 b1) ∧ w'.cell? ⟨g1 + 1, 1, none⟩ = some (.int .i64 b2) ∧ w'.cell? (ad.add (i * 2)) = some (.int .i64 (X i)) ∧ w'.cell? ⟨(ad.add (i * 2)).block, (ad.add (i * 2)).off + 1, none⟩ = some (.int .i64 (Y i)) ∧ w'.cell? (ad.add (k * 2)) = some (.int .i64 (X k)) ∧ w'.cell? ⟨(ad.add (k * 2)).block, (ad.add (k * 2)).off + 1, none⟩ = some (.int .i64 (Y k)))
                  (refine ⟨?_, ?_, ?_, ?_, ?_, ?_, ?_, ?_⟩ <;> with_reducible assumption)
                  (first
                    | ((go_at_call 72; have hc_ := CFk.out (by trivial) w6; (with_reducible refine hc_.mono ?_); clear hc_; rintro e w7 ⟨rfl, f7⟩; have E7 := Lib.hid (E6.out.trans f7 (fun _ h _ => h)); obtain ⟨⟨⟨z1, z2⟩, z3, z4⟩, ⟨y1, y2⟩, x1, x2⟩ := LD.out w7 E7.out; clear f7))
                    | ((go_at_call 71; have hc_ := LFk.out wr.drew; (with_reducible refine hc_.mono ?_); clear hc_; rintro e w6 ⟨rfl, f6⟩; have E6 := Lib.hid f6; obtain ⟨⟨⟨z1, z2⟩, z3, z4⟩, ⟨y1, y2⟩, x1, x2⟩ := LD.out w6 E6.out; clear f6)))
                all_goals
                  go_wp2_with fail
                  go_roundw
                  case rel => exact ⟨k + 1, HK1.out, by go_num, by rw [HNX.out]; rfl, HFk.out.drew.trans E7.out (fun _ h _ => h)⟩
                  case measure => simp [intOf]; omega
          · have hkn : k = n := by omega
            subst hkn
            cases ok
            · have HNX := Lib.hid (show ∀ j, j < i + 1 → okB Lt C j k = false from fun j hj => by
                rcases Nat.lt_succ_iff_lt_or_eq.1 hj with h | rfl
                · exact HO.out j h
                · exact HOK.out)
              go_wp2_with fail
              go_roundw
              case rel => exact ⟨i + 1, HI1.out, by go_num, HNX.out, HFk.out⟩
              case measure => simp [intOf]; omega
            · go_wp2_with fail
              go_ret
              exact ⟨.inl ⟨i, HI1.out, rfl, HOK.out, HO.out⟩, F2.out.trans HFk.out (fun _ h _ => h)⟩
    · have hkn : i = n := by omega
      subst hkn
      go_wp2_with fail
      go_ret
      exact ⟨.inr ⟨rfl, HO.out⟩, F2.out.trans HF.out (fun _ h _ => h)⟩
theorem bestR_c (a b : Hf.P) (A : Option Addr) (l : List Hf.P) (c : Nat) (W : World) (hl : l.length ≤ 1000) (ha : i64Q a) (hb : i64Q b) (hq : ∀ p ∈ l, i64Q p) (hp : Pts W A l) : Calls Try.prog 40 #[pt a.1 a.2, pt b.1 b.2, .slice A l.length c] W fun e w' => e = .returned (.int .i64 (Hf.best a b l)) ∧ Fr (fun _ => False) W w' := by
  have gx : ∀ i (h : i < l.length), l.getD i (0, 0) = l[i] := fun i h => by simp [List.getD, h]
  refine (bestR_walk a.1 a.2 b.1 b.2 A l.length c (fun i => (l.getD i (0, 0)).1) (fun i => (l.getD i (0, 0)).2) (fun i => decide (Hf.Lf a b (l.getD i (0, 0)))) (fun i j => decide (Hf.Cf a b (l.getD i (0, 0)) (l.getD j (0, 0)))) W hl ?_ ?_ ?_).mono ?_
  · intro i hi
    obtain ⟨ad, e, h1, h2⟩ := hp i hi
    exact ⟨ad, e, by rw [gx i hi]; exact h1, by rw [gx i hi]; exact h2⟩
  · intro i hi w
    have hm := hq (l.getD i (0, 0)) (by rw [gx i hi]; exact List.getElem_mem hi)
    exact left_c a b (l.getD i (0, 0)) ha hb hm w
  · intro i j _ _ h1 h2 w
    have l1 := of_decide_eq_true h1
    have l2 := of_decide_eq_true h2
    exact conflictR_c a b _ _ l1.1.1 l1.1.2.1 l1.1.2.2 l2.1.2.2 w
  · rintro e w' ⟨h, f⟩
    refine ⟨?_, f⟩
    have no : ∀ j (hj : j < l.length), okB (fun i => decide (Hf.Lf a b (l.getD i (0, 0)))) (fun i j => decide (Hf.Cf a b (l.getD i (0, 0)) (l.getD j (0, 0)))) j l.length = false → Hf.Lf a b l[j] → ∃ k, ∃ hk : k < l.length, Hf.Lf a b l[k] ∧ Hf.Cf a b l[j] l[k] := fun j hj h hl => by
      refine Classical.byContradiction fun hno => ?_
      have : okB (fun i => decide (Hf.Lf a b (l.getD i (0, 0)))) (fun i j => decide (Hf.Cf a b (l.getD i (0, 0)) (l.getD j (0, 0)))) j l.length = true := okB_all.2 ⟨by rw [gx j hj]; exact decide_eq_true hl, fun k hk hkl => by
        rw [gx k hk] at hkl ⊢
        rw [gx j hj]
        exact decide_eq_false fun hc => hno ⟨k, hk, of_decide_eq_true hkl, hc⟩⟩
      rw [this] at h
      cases h
    rcases h with ⟨i, hi, rfl, h1, h2⟩ | ⟨rfl, h2⟩
    · obtain ⟨h3, h4⟩ := okB_all.1 h1
      rw [gx i hi] at h3
      rw [Hf.best_of hi (of_decide_eq_true h3) (fun k hk hl => by
        have h5 := h4 k hk (by rw [gx k hk]; exact decide_eq_true hl)
        rw [gx k hk, gx i hi] at h5
        exact of_decide_eq_false h5) (fun k hk hlt hl => no k hk (h2 k hlt) hl)]
    · rw [Hf.best_none (fun k hk hl => no k hk (h2 k hk) hl)]
end Go.Proofs.Ytngmkjgklonfmaa.Wd

