/- The document's whole numbers of any length: division walked. -/
import Derived.Test.YtngmkjgklonfmaaBigY
import Derived.Test.YtngmkjgklonfmaaBigD
namespace Go.Proofs.Ytngmkjgklonfmaa.Big
open Go.RowKit Go.Proofs.ZFr Go.Proofs.Ytngmkjgklonfmaa.PNearNearest Go.Proofs.YtngmkjgklonfmaaW.PrintWords

def encI (qs : List Int) : Array Value := (qs.map (Value.int .i64)).toArray
theorem encI_set (qs : List Int) (j : Nat) (v : Int) : (encI qs).setIfInBounds j (.int .i64 v) = encI (qs.set j v) := by
  unfold encI
  rw [List.map_set, List.setIfInBounds_toArray]
theorem encI_get (qs : List Int) (j : Nat) (h : j < qs.length) : (encI qs)[j]? = some (.int .i64 (qs.getD j 0)) := by
  unfold encI
  simp [List.getElem?_eq_getElem h, List.getD]
theorem made_ints (n : Nat) : madeCells #[Value.int .i64 0] (n * 1) = encI (List.replicate n 0) := by
  unfold encI madeCells
  have e : ∀ x, (#[Value.int IntKind.i64 0][x % #[Value.int IntKind.i64 0].size]! : Value) = .int .i64 0 := fun x => by
    rw [show x % #[Value.int IntKind.i64 0].size = 0 from Nat.mod_one x]; rfl
  rw [Array.map_congr_left (g := fun _ => Value.int IntKind.i64 0) (fun x _ => e x)]
  apply Array.ext
  · simp
  · intro i h1 h2; simp
theorem make_ints (n : Nat) (hn : n < 1000000) (W : World) : (Instr.makeSlice 37 (.int .i64 n) (.int .i64 n)).run Try.prog W = .ok (.slice (some ⟨W.heap.size, 0, none⟩) n n) (W.alloc (.cells (encI (List.replicate n 0)) 3)) := by
  obtain ⟨i, hi, hz, h1, h2⟩ := info_parts info3
  have := run_makeSlice (P := Try.prog) (w := W) 37 3 i (.int .i64 0) Try.underlying37 hi hz .i64 .i64 n n (by omega) (by omega) (by rw [h1]; omega) (by rw [h2]; omega) (by omega)
  rw [h1, Int.toNat_natCast, show (Value.int IntKind.i64 0).cells = #[.int .i64 0] from rfl, made_ints] at this
  exact this
theorem pow2_le {t : Nat} (h : t < 16) : (2 : Int) ^ t ≤ 32768 := by
  have : (2 : Nat) ^ t ≤ 2 ^ 15 := Nat.pow_le_pow_right (by omega) (by omega)
  have e : ((2 ^ t : Nat) : Int) = 2 ^ t := by rw [Int.natCast_pow]; rfl
  omega
theorem dgs_zero (w : World) (S : Nat → Prop) (A : Option Addr) (c : Nat) : Dgs w S (.slice A 0 c) 0 :=
  ⟨A, c, by rw [dg_zero]; rfl, by rw [dg_zero]; exact ⟨rfl, by decide, fun h => absurd h (by decide)⟩, by rw [dg_zero]; exact Nat.zero_le _, fun _ _ h => by rw [dg_zero] at h; exact absurd h (by decide)⟩
theorem own_blk {w : World} {g base : Nat} {qs : List Int} (h : w.heap[g]? = some (.cells (encI qs) 3 (0, 0))) (hb : base ≤ g) (hl : qs.length ≤ 1000000) : w.ownsRow base 3 1 (.slice (some ⟨g, 0, none⟩) qs.length qs.length) qs.length (qs.map (Value.int .i64)) := by
  refine ⟨by simp, .inr ⟨g, qs.length, encI qs, rfl, hb, h, Nat.le_refl _, ?_, ?_, ?_⟩⟩
  · simp [maxLen]; omega
  · simp [encI]
  · simp only [encI, Nat.mul_one]
    exact List.take_of_length_le (by simp)
theorem dg_lt (m : Nat) : m < 65536 ^ (dg m).length := by
  have := val_lt (dg_dig m)
  rw [dg_val] at this
  exact Int.ofNat_lt.1 (by rw [Int.natCast_pow]; exact this)
theorem dgs_cell {w : World} {S : Nat → Prop} {A : Option Addr} {l c n i : Nat} (h : Dgs w S (.slice A l c) n) (hi : i < l) : ∃ ad, A = some ad ∧ w.cell? (ad.add i) = some (.int .i64 ((dg n).getD i 0)) ∧ l = (dg n).length := by
  obtain ⟨A', c', he, hC, hc, _⟩ := h
  cases he
  obtain ⟨ad, cs, rfl, hl, hK, hx⟩ := Kd.C_get hC 0 (i : Int) (by omega) (by omega)
  refine ⟨ad, rfl, ?_, rfl⟩
  have hk : cs = [.int .i64 ((dg n).getD ((i : Int).toNat) 0)] := hK
  subst hk
  have h1 := hx 0 _ rfl
  rw [show (i : Int).toNat * (Kd.int .i64).sz + 0 = i from Nat.mul_one _] at h1
  exact h1
theorem fr_cell {w w' : World} {a : Addr} {v : Value} (h : w.cell? a = some v) (hf : Fr (fun _ => False) w w') : w'.cell? a = some v := by
  have hb := World.block_lt_of_cell? w a h
  have := hf.block a.block hb (fun h => h)
  unfold World.cell? at *
  rw [this]; exact h
theorem dgs_blk {w : World} {S : Nat → Prop} {g n : Nat} (h : w.heap[g]? = some (.cells (encI (dg n)) 3 (0, 0))) (hl : (dg n).length ≤ 1000000) (hS : ∀ k, S k → k < g) : Dgs w S (.slice (some ⟨g, 0, none⟩) (dg n).length (dg n).length) n :=
  dgs_of_R (Kd.R_of_own (base := g) (ok := fun _ => True) (h1 := fun _ => rfl) (own_blk h (Nat.le_refl g) hl) (fun _ _ => trivial)) hS
theorem dgs_one {w : World} {S : Nat → Prop} {g : Nat} (h : w.heap[g]? = some (.cells #[.int .i64 1] 3 (0, 0))) (hS : ∀ k, S k → k < g) : Dgs w S (.slice (some ⟨g, 0, none⟩) 1 1) 1 := by
  have e : dg 1 = [1] := by rw [dg]; rw [dif_neg (by decide)]; rw [show 1 / 65536 = 0 from rfl, dg_zero]; rfl
  have := dgs_blk (n := 1) (S := S) (g := g) (w := w) (by rw [e]; exact h) (by rw [e]; decide) hS
  rw [e] at this
  exact this
theorem qs_cell {w : World} {g j : Nat} {qs : List Int} (h : w.heap[g]? = some (.cells (encI qs) 3 (0, 0))) (hj : j < qs.length) : w.cell? ⟨g, j, none⟩ = some (.int .i64 (qs.getD j 0)) ∧ w.frozen? ⟨g, j, none⟩ = false := ⟨(ZFr.blk_cell h j).trans (encI_get qs j hj), ZFr.blk_free h j⟩
set_option maxRecDepth 100000 in
set_option maxHeartbeats 4000000 in
theorem divmod_walk (m n : Nat) (va vb : Value) (S : Nat → Prop) (w : World) (hS : ∀ k, S k → k < w.heap.size) (ha : Dgs w S va m) (hb : Dgs w S vb n) (la : (dg m).length < 800) (lb : (dg n).length < 800) (hn : 0 < n) : Calls Try.prog 87 #[va, vb] w fun e w' => ∃ v1 v2, e = .returned (.tuple #[v1, v2]) ∧ Dgs w' S v1 (m / n) ∧ Dgs w' S v2 (m % n) ∧ Fr (fun _ => False) w w' := by
  obtain ⟨A, c, rfl⟩ := ha.slice
  obtain ⟨A', c', rfl⟩ := hb.slice
  have hA := Lib.hid ha
  have hB := Lib.hid hb
  clear ha hb
  have hmk := make_ints (dg m).length (by omega)
  have hw1 : IntKind.i64.wrap (16 * ((dg m).length : Int)) = 16 * (dg m).length := by rw [Go.Proofs.YtngmkjgklonfmaaW.PrintLast.i64_w, w64 (by omega) (by omega)]
  have hw2 : IntKind.i64.wrap (16 * ((dg m).length : Int) - 1) = 16 * (dg m).length - 1 := by rw [Go.Proofs.YtngmkjgklonfmaaW.PrintLast.i64_w, w64 (by omega) (by omega)]
  go_enter Try.func87, Try.ntmps87
  go_wp2_with fail
  clear hmk hw1 hw2
  have hup : ∀ o, Fr (fun _ => False) w (w.alloc o) := fun o => (Fr.refl _ w).alloc o
  go_loopw [7, 8] (fun r i wr => ∃ (M : Nat) (qs : List Int) (R : Nat), M ≤ 16 * (dg m).length ∧ i = .int .i64 ((M : Int) - 1) ∧ DivInv m n (dg m).length M qs R ∧ Dgs wr (fun k => S k ∨ k = w.heap.size) r R ∧ wr.heap[w.heap.size]? = some (.cells (encI qs) 3 (0, 0)) ∧ Fr (fun _ => False) w wr) (fun _ i _ => (intOf i + 1).toNat)
  case atStart => exact ⟨16 * (dg m).length, _, _, Nat.le_refl _, by congr 2, div_init m n _ (dg_lt m), dgs_zero _ _ _ _, ZFr.blk_alloc (heap_alloc_new w _) _, (hup _).alloc _⟩
  case round =>
    obtain ⟨M, qs, R, hM, rfl, hinv, hr, hq, hfr⟩ := hrel
    obtain ⟨Ar, cr, rfl⟩ := hr.slice
    have HR := Lib.hid hr
    have HQ := Lib.hid hq
    have HF := Lib.hid hfr
    have HI := Lib.hid hinv
    clear hr hq hfr hinv
    cases M with
    | zero =>
      obtain ⟨e1, e2, e3⟩ := div_done HI.out
      subst e1
      have e2 := e2
      have hql := HI.out.2.1
      have E2 := Lib.hid e2
      have E3 := Lib.hid e3
      have HTR := zelligeref03_Trim.calls 2000 (fun k => k = w.heap.size) (.slice (some ⟨w.heap.size, 0, none⟩) (dg m).length (dg m).length) qs (dg (m / n)) w wr (HF.out.below _ (Nat.le_refl _) (fun _ h => h.elim)) (Kd.R_of_own (h1 := fun _ => rfl) (by rw [← hql]; exact own_blk HQ.out (Nat.le_refl _) (by omega)) (fun k hk => by simpa [Value.ownBlock] using hk.symm)) (trim_f 2000 e2 (by omega) (by omega) e3)
      have HTR2 := Lib.hid HTR
      clear e2 e3 HTR
      go_wp2_with (go_at_call 66; refine HTR2.out.mono ?_; rintro e w4 ⟨v4, rfl, h4, hb4, hk4⟩; have H4 := Lib.hid (dgs_of_R h4 hS); have hf4 : Fr (fun k => k = w.heap.size) wr w4 := ⟨hb4.os.trans HF.out.os.symm, hb4.tape.trans HF.out.tape.symm, hb4.output.trans HF.out.output.symm, hk4.1, hk4.2⟩; have hf5 : Fr (fun _ => False) w w4 := ⟨hb4.os, hb4.tape, hb4.output, Nat.le_trans HF.out.size hk4.1, fun k hk _ => hb4.block k hk⟩; have HF5 := Lib.hid hf5; have HF4 := Lib.hid hf4; clear h4 hb4 hk4 hf4 hf5)
      go_ret2
      exact ⟨_, _, rfl, H4.out, (HR.out.fr HF4.out (fun _ h => .inr h)).mono (fun _ h => .inl h), HF5.out⟩
    | succ M =>
      rw [show ((M + 1 : Nat) : Int) - 1 = (M : Int) from by omega]
      obtain ⟨j, hj, hjl⟩ : ∃ j, M / 16 = j ∧ j < (dg m).length := ⟨_, rfl, by omega⟩
      have hq1 : Int.tdiv (M : Int) 16 = (j : Int) := by rw [Int.tdiv_eq_ediv_of_nonneg (by omega)]; omega
      have hr1 : Int.tmod (M : Int) 16 = ((M % 16 : Nat) : Int) := by rw [Int.tmod_eq_emod_of_nonneg (by omega)]; omega
      obtain ⟨t, ht, ht16⟩ : ∃ t, M % 16 = t ∧ t < 16 := ⟨_, rfl, by omega⟩
      rw [ht] at hr1
      have HQ1 := Lib.hid hq1
      have HR1 := Lib.hid hr1
      clear hq1 hr1
      have hjl' : (j : Int) < (dg m).length := by omega
      obtain ⟨ad, rfl, hcell0, _⟩ := dgs_cell (i := j) hA.out hjl
      have hcell := fr_cell hcell0 HF.out
      clear hcell0
      obtain ⟨st1, st2⟩ := div_step hn (by omega) HI.out
      have hbt := bit_at (dg_dig m) (dg_val m) M
      rw [hj, ht] at hbt st1
      have hd0 := (dg_dig m).getD j
      generalize (dg m).getD j 0 = d at hcell hbt hd0
      have hql := HI.out.2.1
      obtain ⟨β, hβ, hβ2⟩ : ∃ β, m / 2 ^ M % 2 = β ∧ β < 2 := ⟨_, rfl, by omega⟩
      rw [hβ] at hbt st1 st2
      have hdt : Int.tmod (d / 2 ^ t) 2 = (β : Int) := by rw [Int.tmod_eq_emod_of_nonneg (Int.ediv_nonneg hd0.1 (Int.le_of_lt (Int.pow_pos (by omega))))]; exact hbt
      have HDT := Lib.hid hdt
      clear hbt hdt
      have hRn : R < n := by rw [HI.out.1]; exact Nat.mod_lt _ hn
      have hlr : (dg R).length ≤ (dg n).length := dg_mono (Nat.le_of_lt hRn)
      have hl9 : (dg R).length < 900 := by omega
      have hl8 : (dg (R + R)).length < 900 := by have := dg_add (m := R) (n := R) (k := (dg n).length) hlr hlr; omega
      have hl7 : (dg (R + R + 1)).length < 900 := Nat.lt_of_le_of_lt (dg_mono (by omega : R + R + 1 ≤ n + n)) (by have := dg_add (m := n) (n := n) (k := (dg n).length) (Nat.le_refl _) (Nat.le_refl _); omega)
      have hl1 : (dg 1).length < 900 := by rw [dg, dif_neg (by decide), show 1 / 65536 = 0 from rfl, dg_zero]; decide
      have hS2 : ∀ k, (S k ∨ k = w.heap.size) → k < wr.heap.size := fun k hk => by
        have h1 := ZFr.blk_lt HQ.out
        rcases hk with hk | hk
        · have := hS k hk; omega
        · omega
      have HC := Lib.hid hcell
      have HS2 := Lib.hid hS2
      have HL9 := Lib.hid hl9
      have HL8 := Lib.hid hl8
      have HL7 := Lib.hid hl7
      have HL1 := Lib.hid hl1
      clear hcell hS2 hl9 hl8 hl7 hl1
      by_cases hb1 : β = 1
      · subst hb1
        by_cases hge : n ≤ R + R + 1
        · have hq9 : 0 ≤ cmp3 ((R + R + 1) : Nat) n := by unfold cmp3; split; omega; split <;> omega
          obtain ⟨q, hq, hq0⟩ : ∃ q, cmp3 ((R + R + 1) : Nat) n = q ∧ 0 ≤ q := ⟨_, rfl, hq9⟩
          have HQC := Lib.hid hq
          have hfin := st1 (by omega)
          rw [show 2 * R + 1 = R + R + 1 from by omega] at hfin
          have HGE := Lib.hid (show n ≤ (R + R + 1) from by omega)
          have HJL := Lib.hid (show j < qs.length from by omega)
          have hqv : 0 ≤ qs.getD j 0 ∧ qs.getD j 0 < 65536 := by
            obtain ⟨u, hu, hub⟩ := HI.out.2.2.2 j hjl
            have : 0 < 2 ^ (min 16 (M + 1 - 16 * j)) := Nat.pow_pos (by omega)
            omega
          obtain ⟨qv, hqe⟩ : ∃ qv, qs.getD j 0 = qv := ⟨_, rfl⟩
          rw [hqe] at hqv hfin
          have HQE := Lib.hid hqe
          have h2t : (2 : Int) ^ t ≤ 32768 := pow2_le ht16
          have h2p : (0 : Int) < 2 ^ t := Int.pow_pos (by omega)
          clear hqe
          have HFIN := Lib.hid hfin
          clear hq hq9 hfin st1 st2 hge hlr hRn hβ hj ht
          have hq1 := HQ1.out
          have hr1 := HR1.out
          have hdt := HDT.out
          go_wp2_with (first
            | (go_at_call 88; refine (nadd_c (R + R) 1 _ _ (fun k => S k ∨ k = w.heap.size) _ (fun k hk => Nat.lt_of_lt_of_le (Z2.out k hk) ((Fr.refl (fun _ => False) w2).alloc _).size) HL8.out HL1.out (H2.out.fr ((Fr.refl (fun _ => False) w2).alloc _) (fun _ h => h.elim)) (dgs_one (heap_alloc_new w2 _) Z2.out)).mono ?_; rintro e w3 ⟨v3, rfl, h3, f3⟩; obtain ⟨A3, c3, rfl⟩ := h3.slice; have H3 := Lib.hid h3; have Q3 := Lib.hid (ZFr.blk_fr (ZFr.blk_alloc Q2.out _) f3 (fun h => h)); have F3 := Lib.hid ((F2.out.alloc _).trans f3 (fun _ h _ => h)); have Z3 := Lib.hid (fun k hk => Nat.lt_of_lt_of_le (Z2.out k hk) (Nat.le_trans ((Fr.refl (fun _ => False) w2).alloc (Obj.cells #[.int .i64 1] 3)).size f3.size)); clear h3 f3)
            | (go_at_call 88; refine (nadd_c R R _ _ (fun k => S k ∨ k = w.heap.size) _ HS2.out HL9.out HL9.out HR.out HR.out).mono ?_; rintro e w2 ⟨v2, rfl, h2, f2⟩; obtain ⟨A2, c2, rfl⟩ := h2.slice; have cc2 := fr_cell HC.out f2; have H2 := Lib.hid h2; have Q2 := Lib.hid (ZFr.blk_fr HQ.out f2 (fun h => h)); have F2 := Lib.hid (HF.out.trans f2 (fun _ h _ => h)); have Z2 := Lib.hid (fun k hk => Nat.lt_of_lt_of_le (HS2.out k hk) f2.size); clear h2 f2)
            | (go_at_call 89; refine (ncmp_c (R + R + 1) n _ _ S _ HL7.out (H3.out.mono (fun _ h => .inl h)) (hB.out.fr F3.out (fun _ h => h.elim))).mono ?_; rintro e w4 ⟨rfl, f4⟩; rw [HQC.out]; have Q4 := Lib.hid (ZFr.blk_fr Q3.out f4 (fun h => h)); have F4 := Lib.hid (F3.out.trans f4 (fun _ h _ => h)); have Z4 := Lib.hid (fun k hk => Nat.lt_of_lt_of_le (Z3.out k hk) f4.size); have H4 := Lib.hid (H3.out.fr f4 (fun _ h => h.elim)); clear f4)
            | (go_at_call 90; refine (nsub_c (R + R + 1) n _ _ (fun k => S k ∨ k = w.heap.size) _ Z4.out HL7.out HGE.out H4.out ((hB.out.up (w' := w4) F4.out).mono (fun k hk => hk.elim .inl (fun h => .inr ⟨Nat.le_of_eq h.symm, h ▸ ZFr.blk_lt Q4.out⟩)))).mono ?_; rintro e w5 ⟨v5, rfl, h5, f5⟩; obtain ⟨A5, c5, rfl⟩ := h5.slice; have q5 := ZFr.blk_fr Q4.out f5 (fun h => h); obtain ⟨cc5, fr5⟩ := qs_cell q5 HJL.out; rw [HQE.out] at cc5; have Q5 := Lib.hid q5; have F5 := Lib.hid (F4.out.trans f5 (fun _ h _ => h)); have H5 := Lib.hid h5; clear h5 f5 q5)
            )
          clear hq1 hr1 hdt
          go_roundw
          case rel => exact ⟨M, qs.set j (qv + 2 ^ t), (R + R + 1) - n, by omega, rfl, HFIN.out, H5.out.fr ((Fr.refl (fun k => S k ∨ k = w.heap.size) w5).set ⟨w.heap.size, j, none⟩ _ (.inl (.inr rfl))) (fun _ h => h), (by rw [← encI_set]; exact ZFr.blk_set Q5.out j _), F5.out.set _ _ (.inr (Nat.le_refl _))⟩
          case measure => simp [intOf]
  
        · have hq9 : cmp3 ((R + R + 1) : Nat) n < 0 := by unfold cmp3; split; omega; split <;> omega
          obtain ⟨q, hq, hq0⟩ : ∃ q, cmp3 ((R + R + 1) : Nat) n = q ∧ q < 0 := ⟨_, rfl, hq9⟩
          have hq0x : ¬ 0 ≤ q := by omega
          have HQC := Lib.hid hq
          have hfin := st2 (by omega)
          rw [show 2 * R + 1 = R + R + 1 from by omega] at hfin
          have HFIN := Lib.hid hfin
          clear hq hq9 hfin st1 st2 hge hlr hRn hβ hj ht
          have hq1 := HQ1.out
          have hr1 := HR1.out
          have hdt := HDT.out
          go_wp2_with (first
            | (go_at_call 88; refine (nadd_c (R + R) 1 _ _ (fun k => S k ∨ k = w.heap.size) _ (fun k hk => Nat.lt_of_lt_of_le (Z2.out k hk) ((Fr.refl (fun _ => False) w2).alloc _).size) HL8.out HL1.out (H2.out.fr ((Fr.refl (fun _ => False) w2).alloc _) (fun _ h => h.elim)) (dgs_one (heap_alloc_new w2 _) Z2.out)).mono ?_; rintro e w3 ⟨v3, rfl, h3, f3⟩; obtain ⟨A3, c3, rfl⟩ := h3.slice; have H3 := Lib.hid h3; have Q3 := Lib.hid (ZFr.blk_fr (ZFr.blk_alloc Q2.out _) f3 (fun h => h)); have F3 := Lib.hid ((F2.out.alloc _).trans f3 (fun _ h _ => h)); have Z3 := Lib.hid (fun k hk => Nat.lt_of_lt_of_le (Z2.out k hk) (Nat.le_trans ((Fr.refl (fun _ => False) w2).alloc (Obj.cells #[.int .i64 1] 3)).size f3.size)); clear h3 f3)
            | (go_at_call 88; refine (nadd_c R R _ _ (fun k => S k ∨ k = w.heap.size) _ HS2.out HL9.out HL9.out HR.out HR.out).mono ?_; rintro e w2 ⟨v2, rfl, h2, f2⟩; obtain ⟨A2, c2, rfl⟩ := h2.slice; have cc2 := fr_cell HC.out f2; have H2 := Lib.hid h2; have Q2 := Lib.hid (ZFr.blk_fr HQ.out f2 (fun h => h)); have F2 := Lib.hid (HF.out.trans f2 (fun _ h _ => h)); have Z2 := Lib.hid (fun k hk => Nat.lt_of_lt_of_le (HS2.out k hk) f2.size); clear h2 f2)
            | (go_at_call 89; refine (ncmp_c (R + R + 1) n _ _ S _ HL7.out (H3.out.mono (fun _ h => .inl h)) (hB.out.fr F3.out (fun _ h => h.elim))).mono ?_; rintro e w4 ⟨rfl, f4⟩; rw [HQC.out]; have Q4 := Lib.hid (ZFr.blk_fr Q3.out f4 (fun h => h)); have F4 := Lib.hid (F3.out.trans f4 (fun _ h _ => h)); have Z4 := Lib.hid (fun k hk => Nat.lt_of_lt_of_le (Z3.out k hk) f4.size); have H4 := Lib.hid (H3.out.fr f4 (fun _ h => h.elim)); clear f4)
            )
          clear hq1 hr1 hdt
          go_roundw
          case rel => exact ⟨M, qs, (R + R + 1), by omega, rfl, HFIN.out, H4.out, Q4.out, F4.out⟩
          case measure => simp [intOf]
  
      · obtain rfl : β = 0 := by omega
        by_cases hge : n ≤ R + R
        · have hq9 : 0 ≤ cmp3 ((R + R) : Nat) n := by unfold cmp3; split; omega; split <;> omega
          obtain ⟨q, hq, hq0⟩ : ∃ q, cmp3 ((R + R) : Nat) n = q ∧ 0 ≤ q := ⟨_, rfl, hq9⟩
          have HQC := Lib.hid hq
          have hfin := st1 (by omega)
          rw [show 2 * R + 0 = R + R from by omega] at hfin
          have HGE := Lib.hid (show n ≤ (R + R) from by omega)
          have HJL := Lib.hid (show j < qs.length from by omega)
          have hqv : 0 ≤ qs.getD j 0 ∧ qs.getD j 0 < 65536 := by
            obtain ⟨u, hu, hub⟩ := HI.out.2.2.2 j hjl
            have : 0 < 2 ^ (min 16 (M + 1 - 16 * j)) := Nat.pow_pos (by omega)
            omega
          obtain ⟨qv, hqe⟩ : ∃ qv, qs.getD j 0 = qv := ⟨_, rfl⟩
          rw [hqe] at hqv hfin
          have HQE := Lib.hid hqe
          have h2t : (2 : Int) ^ t ≤ 32768 := pow2_le ht16
          have h2p : (0 : Int) < 2 ^ t := Int.pow_pos (by omega)
          clear hqe
          have HFIN := Lib.hid hfin
          clear hq hq9 hfin st1 st2 hge hlr hRn hβ hj ht
          have hq1 := HQ1.out
          have hr1 := HR1.out
          have hdt := HDT.out
          go_wp2_with (first
            | (go_at_call 88; refine (nadd_c R R _ _ (fun k => S k ∨ k = w.heap.size) _ HS2.out HL9.out HL9.out HR.out HR.out).mono ?_; rintro e w2 ⟨v2, rfl, h2, f2⟩; obtain ⟨A2, c2, rfl⟩ := h2.slice; have cc2 := fr_cell HC.out f2; have H2 := Lib.hid h2; have Q2 := Lib.hid (ZFr.blk_fr HQ.out f2 (fun h => h)); have F2 := Lib.hid (HF.out.trans f2 (fun _ h _ => h)); have Z2 := Lib.hid (fun k hk => Nat.lt_of_lt_of_le (HS2.out k hk) f2.size); clear h2 f2)
            | (go_at_call 89; refine (ncmp_c (R + R) n _ _ S _ HL8.out (H2.out.mono (fun _ h => .inl h)) (hB.out.fr F2.out (fun _ h => h.elim))).mono ?_; rintro e w4 ⟨rfl, f4⟩; rw [HQC.out]; have Q4 := Lib.hid (ZFr.blk_fr Q2.out f4 (fun h => h)); have F4 := Lib.hid (F2.out.trans f4 (fun _ h _ => h)); have Z4 := Lib.hid (fun k hk => Nat.lt_of_lt_of_le (Z2.out k hk) f4.size); have H4 := Lib.hid (H2.out.fr f4 (fun _ h => h.elim)); clear f4)
            | (go_at_call 90; refine (nsub_c (R + R) n _ _ (fun k => S k ∨ k = w.heap.size) _ Z4.out HL8.out HGE.out H4.out ((hB.out.up (w' := w4) F4.out).mono (fun k hk => hk.elim .inl (fun h => .inr ⟨Nat.le_of_eq h.symm, h ▸ ZFr.blk_lt Q4.out⟩)))).mono ?_; rintro e w5 ⟨v5, rfl, h5, f5⟩; obtain ⟨A5, c5, rfl⟩ := h5.slice; have q5 := ZFr.blk_fr Q4.out f5 (fun h => h); obtain ⟨cc5, fr5⟩ := qs_cell q5 HJL.out; rw [HQE.out] at cc5; have Q5 := Lib.hid q5; have F5 := Lib.hid (F4.out.trans f5 (fun _ h _ => h)); have H5 := Lib.hid h5; clear h5 f5 q5)
            )
          clear hq1 hr1 hdt
          go_roundw
          case rel => exact ⟨M, qs.set j (qv + 2 ^ t), (R + R) - n, by omega, rfl, HFIN.out, H5.out.fr ((Fr.refl (fun k => S k ∨ k = w.heap.size) w5).set ⟨w.heap.size, j, none⟩ _ (.inl (.inr rfl))) (fun _ h => h), (by rw [← encI_set]; exact ZFr.blk_set Q5.out j _), F5.out.set _ _ (.inr (Nat.le_refl _))⟩
          case measure => simp [intOf]
  
        · have hq9 : cmp3 ((R + R) : Nat) n < 0 := by unfold cmp3; split; omega; split <;> omega
          obtain ⟨q, hq, hq0⟩ : ∃ q, cmp3 ((R + R) : Nat) n = q ∧ q < 0 := ⟨_, rfl, hq9⟩
          have hq0x : ¬ 0 ≤ q := by omega
          have HQC := Lib.hid hq
          have hfin := st2 (by omega)
          rw [show 2 * R + 0 = R + R from by omega] at hfin
          have HFIN := Lib.hid hfin
          clear hq hq9 hfin st1 st2 hge hlr hRn hβ hj ht
          have hq1 := HQ1.out
          have hr1 := HR1.out
          have hdt := HDT.out
          go_wp2_with (first
            | (go_at_call 88; refine (nadd_c R R _ _ (fun k => S k ∨ k = w.heap.size) _ HS2.out HL9.out HL9.out HR.out HR.out).mono ?_; rintro e w2 ⟨v2, rfl, h2, f2⟩; obtain ⟨A2, c2, rfl⟩ := h2.slice; have cc2 := fr_cell HC.out f2; have H2 := Lib.hid h2; have Q2 := Lib.hid (ZFr.blk_fr HQ.out f2 (fun h => h)); have F2 := Lib.hid (HF.out.trans f2 (fun _ h _ => h)); have Z2 := Lib.hid (fun k hk => Nat.lt_of_lt_of_le (HS2.out k hk) f2.size); clear h2 f2)
            | (go_at_call 89; refine (ncmp_c (R + R) n _ _ S _ HL8.out (H2.out.mono (fun _ h => .inl h)) (hB.out.fr F2.out (fun _ h => h.elim))).mono ?_; rintro e w4 ⟨rfl, f4⟩; rw [HQC.out]; have Q4 := Lib.hid (ZFr.blk_fr Q2.out f4 (fun h => h)); have F4 := Lib.hid (F2.out.trans f4 (fun _ h _ => h)); have Z4 := Lib.hid (fun k hk => Nat.lt_of_lt_of_le (Z2.out k hk) f4.size); have H4 := Lib.hid (H2.out.fr f4 (fun _ h => h.elim)); clear f4)
            )
          clear hq1 hr1 hdt
          go_roundw
          case rel => exact ⟨M, qs, (R + R), by omega, rfl, HFIN.out, H4.out, Q4.out, F4.out⟩
          case measure => simp [intOf]
  
end Go.Proofs.Ytngmkjgklonfmaa.Big
