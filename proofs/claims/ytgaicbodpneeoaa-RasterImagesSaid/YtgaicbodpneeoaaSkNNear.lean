/- What is used of NNear. -/
import Derived.Test.YtgaicbodpneeoaaJK
import Derived.Deep.DeepCutAuto
namespace Go.Proofs.Ytgaicbodpneeoaa.Wd
open Go.RowKit Go.Proofs.ZFr Go.Proofs.Ytgaicbodpneeoaa.PRasterImages Go.Proofs.Ytgaicbodpneeoaa.Big Go.Proofs.YtgaicbodpneeoaaW.PrintWords
structure StP (u v D : Int) (b9 gl : Nat) (W wr : World) : Prop where
  q : wr.heap[b9]? = some (.cells #[.int .i64 u, .int .i64 v] 41 (0, 0))
  r : wr.heap[W.heap.size + 1]? = some (.cells #[.int .i64 0, .int .u64 0] 54 (0, 0))
  l : wr.heap[gl]? = some (.cells #[.int .i64 (hiW D), .int .u64 (loW D)] 54 (0, 0))
  f : Fr (fun _ => False) W wr
  low : W.heap.size + 1 < gl
set_option maxRecDepth 100000 in
set_option maxHeartbeats 4000000 in
theorem nnear_yes (A : Option Addr) (c : Nat) (l : List S50) (n x y : Int) (W : World) (hl : l.length ≤ 100) (hC : Kd.C k50 W A l.length l) (hc : l.length ≤ c) (hd : canD (l.map tr) n x y) (hp : 0 < l.length) : Calls Try.prog 17 #[.slice A l.length c, .int .i64 n, .agg #[.int .i64 x, .int .i64 y]] W fun e w' => e = .returned (.tuple #[.int .i64 ((l.map tr).getD (nb (l.map tr) n x y (l.length - 1)) zP).1, encW (fv (l.map tr) n x y (nb (l.map tr) n x y (l.length - 1))), .bool true]) ∧ Fr (fun _ => False) W w' := by
  obtain ⟨a, b, hf, hab⟩ := ncan_f l n x y hl
  obtain ⟨rfl, rfl⟩ := hab hd
  rw [decide_eq_true hd] at hf
  have t0 := ZFr.blk_alloc (heap_alloc_new W (Obj.cells #[Value.int IntKind.i64 x, Value.int IntKind.i64 y] 41)) (Obj.cells #[Value.int IntKind.i64 0, Value.int IntKind.u64 0] 54)
  have t1 := second W (Obj.cells #[Value.int IntKind.i64 x, Value.int IntKind.i64 y] 41) (Obj.cells #[Value.int IntKind.i64 0, Value.int IntKind.u64 0] 54)
  have f1 := ((Fr.refl (fun _ => False) W).alloc (Obj.cells #[Value.int IntKind.i64 x, Value.int IntKind.i64 y] 41)).alloc (Obj.cells #[Value.int IntKind.i64 0, Value.int IntKind.u64 0] 54)
  have CC := Lib.hid (fun w (h : Fr (fun _ => False) W w) => Kd.C_below hC (h.below W.heap.size (Nat.le_refl _) (fun _ h => h.elim)))
  have PL := Lib.hid (pls_of hC)
  have NF := Lib.hid hf
  have HC := Lib.hid hc
  have HD := Lib.hid hd
  have hll : (l.map tr).length = l.length := List.length_map ..
  have hg : ∀ i (h : i < l.length), (l.map tr).getD i zP = tr l[i] := fun i h => by simp [List.getD, h]
  have HN := Lib.hid hd.1
  have HU := Lib.hid (show sqP (x % n) n from ⟨Int.emod_nonneg _ (by have := HN.out; omega), Int.emod_lt_of_pos _ (by have := HN.out; omega)⟩)
  have HV := Lib.hid (show sqP (y % n) n from ⟨Int.emod_nonneg _ (by have := HN.out; omega), Int.emod_lt_of_pos _ (by have := HN.out; omega)⟩)
  have FAR := Lib.hid (fun i (h : i < l.length) w => (show Calls Try.prog 28 #[.agg #[.int .i64 (x % n), .int .i64 (y % n)], .agg #[.int .i64 l[i].f1.f0, .int .i64 l[i].f1.f1], .int .i64 n] w (fun e w' => e = .returned (encW (fv (l.map tr) n x y i)) ∧ Fr (fun _ => False) w w') from by
    have hok := hd.2.2 (tr l[i]) (List.mem_map.2 ⟨_, List.getElem_mem h, rfl⟩)
    have e : fv (l.map tr) n x y i = Big.mn (x % n) (y % n) l[i].f1.f0 l[i].f1.f1 n 9 := by unfold fv; rw [hg i h]; rfl
    rw [e]
    exact nfar_walk (x % n) (y % n) l[i].f1.f0 l[i].f1.f1 n w HN.out HU.out HV.out hok.1 hok.2))
  have FV0 : ∀ i, 0 ≤ fv (l.map tr) n x y i := fun i => by unfold fv; exact mn_nn _ _ _ _ _ 9
  unfold encW at FAR ⊢
  have HG := Lib.hid hg
  have HL := Lib.hid hll
  have H0 := Lib.hid hp
  have H100 := Lib.hid hl
  obtain ⟨L, hL⟩ : ∃ L, l.map tr = L := ⟨_, rfl⟩
  rw [hL] at PL FAR HG HL HD ⊢
  clear hC hf hc hd hll hg FV0 hL hab hl hp
  obtain ⟨u, hu⟩ : ∃ u, x % n = u := ⟨_, rfl⟩
  obtain ⟨v, hv⟩ : ∃ v, y % n = v := ⟨_, rfl⟩
  rw [hu, hv] at NF FAR
  clear HN HU HV hu hv
  go_enter Try.func17, Try.ntmps17
  go_wp2_with fail
  generalize (W.alloc (Obj.cells #[Value.int IntKind.i64 x, Value.int IntKind.i64 y] 41)).alloc (Obj.cells #[Value.int IntKind.i64 0, Value.int IntKind.u64 0] 54) = w1 at t0 t1 f1 ⊢
  have T1 := Lib.hid t1
  have F1 := Lib.hid f1
  obtain ⟨p1, p2⟩ := point_cells t0
  clear t0 t1 f1
  go_wp2_with (go_at_call 27; have hc_ := near_can.calls 200 A c l n x y u v true w1 (CC.out w1 F1.out) HC.out NF.out; (with_reducible refine hc_.mono ?_); clear hc_; rintro e w2 ⟨rfl, f2⟩; have G2 := Lib.hid (Fr.of_below f2); have F2 := Lib.hid (F1.out.trans G2.out (fun _ h _ => h)); have T2 := Lib.hid (ZFr.blk_fr T1.out G2.out (fun h => h)); have h0 := (show ¬ (l.length : Int) = 0 from (by have := H0.out; omega)); clear f2)
  have T3 := Lib.hid (ZFr.blk_alloc T2.out (Obj.cells #[Value.int IntKind.i64 u, Value.int IntKind.i64 v] 41))
  have Q3 := Lib.hid (heap_alloc_new w2 (Obj.cells #[Value.int IntKind.i64 u, Value.int IntKind.i64 v] 41))
  have F3 := Lib.hid (F2.out.alloc (Obj.cells #[Value.int IntKind.i64 u, Value.int IntKind.i64 v] 41))
  generalize w2.alloc (Obj.cells #[Value.int IntKind.i64 u, Value.int IntKind.i64 v] 41) = w3 at T3 Q3 F3 ⊢
  generalize w2.heap.size = b9 at Q3 ⊢
  clear p1 p2 T2 F2 G2 T1 F1
  have Z := H0.out
  obtain ⟨ad, rfl, k0, k1, k2⟩ := (PL.out.fr F3.out) 0 (by rw [HL.out]; exact Z)
  have hL0 : L[0]'(by rw [HL.out]; exact Z) = tr (l[0]'Z) := by have h := HG.out 0 Z; simpa [List.getD, HL.out, Z] using h
  rw [hL0] at k0 k1 k2
  have hf0 := FAR.out 0 Z
  obtain ⟨z0, hz0⟩ : ∃ z, (l[0]'Z).f0 = z := ⟨_, rfl⟩
  have k0' : w3.cell? (ad.add (0 * 3)) = some (.int .i64 z0) := hz0 ▸ k0
  have HZ := Lib.hid (show (L.getD 0 zP).1 = z0 from by rw [HG.out 0 Z]; exact hz0)
  obtain ⟨X0, hX0⟩ : ∃ z, (l[0]'Z).f1.f0 = z := ⟨_, rfl⟩
  obtain ⟨Y0, hY0⟩ : ∃ z, (l[0]'Z).f1.f1 = z := ⟨_, rfl⟩
  have k1' : w3.cell? ⟨(ad.add (0 * 3)).block, (ad.add (0 * 3)).off + 1, none⟩ = some (.int .i64 X0) := hX0 ▸ k1
  have k2' : w3.cell? ⟨(ad.add (0 * 3)).block, (ad.add (0 * 3)).off + 2, none⟩ = some (.int .i64 Y0) := hY0 ▸ k2
  rw [hX0, hY0] at hf0
  have FAR0 := Lib.hid hf0
  clear hf0 k0 k1 k2 hz0 hX0 hY0 hL0 Z
  have had : ad.add (0 * 3) = ad := by cases ad; rfl
  rw [had] at k0' k1' k2'
  have PF := Lib.hid (fun w (h : Fr (fun _ => False) w3 w) => And.intro (fr_cell k0' h) (And.intro (fr_cell k1' h) (And.intro (fr_cell k2' h) (point_cells (ZFr.blk_fr Q3.out h (fun h => h))))))
  clear k0' k1' k2' had
  have hlen := H0.out
  have LOW3 := Lib.hid (show W.heap.size + 1 < w3.heap.size from ZFr.blk_lt T3.out)
  go_upto_region 4 with fail
  go_cut [11, 12] (fun s11 s12 wx => ∃ gl : Nat, s11 = .int .i64 z0 ∧ s12 = .pointer (some ⟨gl, 0, none⟩) ∧ StP u v (fv L n x y 0) b9 gl W wx)
  case first =>
    obtain ⟨a1, a2, a3, a4, a5⟩ := PF.out w3.drew (Fr.refl _ w3).drew
    have b1 := fun o => (PF.out (w3.alloc o) ((Fr.refl _ w3).alloc o)).1
    have b2 := fun o => (PF.out (w3.alloc o) ((Fr.refl _ w3).alloc o)).2.1
    have b3 := fun o => (PF.out (w3.alloc o) ((Fr.refl _ w3).alloc o)).2.2.1
    have b4 := fun o => (PF.out (w3.alloc o) ((Fr.refl _ w3).alloc o)).2.2.2.1
    have b5 := fun o => (PF.out (w3.alloc o) ((Fr.refl _ w3).alloc o)).2.2.2.2
    go_region_law
        ((go_simp; (first
          | ((go_at_call 28; have hc_ := FAR0.out (w3.alloc (Obj.cells #[Value.int IntKind.i64 0, Value.int IntKind.u64 0] 54)).drew; (with_reducible refine hc_.mono ?_); clear hc_; rintro e w5 ⟨rfl, f5⟩; have L5 := Lib.hid (ZFr.blk_fr (w := (w3.alloc (Obj.cells #[Value.int IntKind.i64 0, Value.int IntKind.u64 0] 54)).drew) (heap_alloc_new w3 (Obj.cells #[Value.int IntKind.i64 0, Value.int IntKind.u64 0] 54)) f5 (fun h => h)); obtain ⟨i1, i2, i3, i4⟩ := wide_store L5.out; have J5 := Lib.hid (((Fr.refl (fun _ => False) w3).alloc (Obj.cells #[Value.int IntKind.i64 0, Value.int IntKind.u64 0] 54)).drew.trans f5 (fun _ h _ => h)); obtain ⟨c1, c2, c3, c4, c5⟩ := PF.out w5 J5.out; clear f5))
          | ((go_at_call 28; have hc_ := FAR0.out w3.drew; (with_reducible refine hc_.mono ?_); clear hc_; rintro e w5 ⟨rfl, f5⟩; have J5 := Lib.hid ((Fr.refl (fun _ => False) w3).drew.trans f5 (fun _ h _ => h)); obtain ⟨c1, c2, c3, c4, c5⟩ := PF.out w5 J5.out; have d1 := fun o => (PF.out (w5.alloc o) (J5.out.alloc o)).1; clear f5)))))
    all_goals
      go_wp2_with fail
      go_meet
      first
        | (have L6 := L5.out
           have B := (J5.out.set ⟨w3.heap.size, 0, none⟩ (.int .i64 (hiW (fv L n x y 0))) (.inr (Nat.le_refl _))).set ⟨w3.heap.size, 1, none⟩ (.int .u64 (loW (fv L n x y 0))) (.inr (Nat.le_refl _))
           exact ⟨w3.heap.size, rfl, rfl, ZFr.blk_fr Q3.out B (fun h => h), ZFr.blk_fr T3.out B (fun h => h), ZFr.blk_set (ZFr.blk_set L6 0 _) 1 _, F3.out.trans B (fun _ h _ => h), LOW3.out⟩)
        | (have B := J5.out.alloc (Obj.cells #[.int .i64 (hiW (fv L n x y 0)), .int .u64 (loW (fv L n x y 0))] 54)
           exact ⟨w5.heap.size, rfl, rfl, ZFr.blk_fr Q3.out B (fun h => h), ZFr.blk_fr T3.out B (fun h => h), heap_alloc_new w5 _, F3.out.trans B (fun _ h _ => h), Nat.lt_of_lt_of_le LOW3.out J5.out.size⟩)
  case rest =>
    obtain ⟨gl, rfl, rfl, st⟩ := hcut
    have ST0 := Lib.hid st
    clear st
    by_cases hc1 : c = 1
    · have hl1 : l.length ≤ 1 := by have := HC.out; omega
      have HL1 := Lib.hid hl1
      clear hl1
      subst hc1
      go_wp2_with fail
      go_loopw [46, 11] (fun i id wr => ∃ k : Nat, k + 1 ≤ l.length ∧ i = .int .i64 (k : Int) ∧ id = .int .i64 (L.getD (nb L n x y k) zP).1 ∧ StP u v (fv L n x y (nb L n x y k)) b9 gl W wr) (fun i _ _ => (l.length - 1 - intOf i).toNat)
      case atStart => exact ⟨0, H0.out, rfl, by rw [show nb L n x y 0 = 0 from rfl, HZ.out], ST0.out⟩
      case round =>
        obtain ⟨k, hk, rfl, rfl, st⟩ := hrel
        have ST := Lib.hid st
        clear st
        by_cases hk1 : k + 1 < l.length
        · exact absurd hk1 (by have := HL1.out; omega)
        · have HKE := Lib.hid (show k = l.length - 1 by omega)
          have hkd : ¬ (k : Int) < (l.length : Int) - 1 := by omega
          obtain ⟨zi, hzi⟩ : ∃ z, (L.getD (nb L n x y k) zP).1 = z := ⟨_, rfl⟩
          obtain ⟨D0, hD0⟩ : ∃ z, fv L n x y (nb L n x y k) = z := ⟨_, rfl⟩
          rw [hD0] at ST
          rw [hzi]
          have HZI := Lib.hid hzi
          have HD0 := Lib.hid hD0
          clear hzi hD0
          obtain ⟨l1, l2, l3, l4⟩ := wide_store (w := wr.drew) ST.out.l
          obtain ⟨r1, r2, r3, r4⟩ := wide_store (w := wr.drew) ST.out.r
          obtain ⟨r5, r6, r7, r8⟩ := wide_store ST.out.r
          go_wp2_with fail
          go_region
          all_goals
            go_wp2_with fail
            rw [← HZI.out]
            have HD0' := HD0.out
            rw [HKE.out] at HD0'
            refine bodyPost_ret (results_list (rs := [.tmp 6, .cell 7 54, .tmp 8]) rfl (by simp) (.tmp (.cell (W.heap.size + 1) 54 #[.int .i64 (hiW D0), .int .u64 (loW D0)] (0, 0) _ rfl (ZFr.blk_set (ZFr.blk_set (w := wr.drew) ST.out.r 0 _) 1 _) Try.underlying54 rfl (by kernel_rfl) (.tmp .nil)))) rfl ?_
            rw [HD0', HKE.out]
            exact ⟨rfl, (ST.out.f.drew.set _ _ (.inr (by dsimp only; omega))).set _ _ (.inr (by dsimp only; omega))⟩
    · go_wp2_with fail
      go_loopw [46, 11] (fun i id wr => ∃ k : Nat, k + 1 ≤ l.length ∧ i = .int .i64 (k : Int) ∧ id = .int .i64 (L.getD (nb L n x y k) zP).1 ∧ StP u v (fv L n x y (nb L n x y k)) b9 gl W wr) (fun i _ _ => (l.length - 1 - intOf i).toNat)
      case atStart => exact ⟨0, H0.out, rfl, by rw [show nb L n x y 0 = 0 from rfl, HZ.out], ST0.out⟩
      case round =>
        obtain ⟨k, hk, rfl, rfl, st⟩ := hrel
        have ST := Lib.hid st
        clear st
        by_cases hk1 : k + 1 < l.length
        · have hkd : (k : Int) < (l.length : Int) - 1 := by omega
          obtain ⟨ad', e, k0, k1, k2⟩ := (PL.out.fr ST.out.f) (k + 1) (by rw [HL.out]; exact hk1)
          obtain rfl := Option.some.inj e
          have hL0 : L[k + 1]'(by rw [HL.out]; exact hk1) = tr (l[k + 1]'hk1) := by have h := HG.out (k + 1) hk1; simpa [List.getD, HL.out, hk1] using h
          rw [hL0] at k0 k1 k2
          have hf0 := FAR.out (k + 1) hk1
          obtain ⟨z1, hz1⟩ : ∃ z, (l[k + 1]'hk1).f0 = z := ⟨_, rfl⟩
          have k0' : wr.cell? (ad.add ((k + 1) * 3)) = some (.int .i64 z1) := hz1 ▸ k0
          have HZ1 := Lib.hid (show (L.getD (k + 1) zP).1 = z1 from by rw [HG.out (k + 1) hk1]; exact hz1)
          obtain ⟨X1, hX1⟩ : ∃ z, (l[k + 1]'hk1).f1.f0 = z := ⟨_, rfl⟩
          obtain ⟨Y1, hY1⟩ : ∃ z, (l[k + 1]'hk1).f1.f1 = z := ⟨_, rfl⟩
          have k1' : wr.cell? ⟨(ad.add ((k + 1) * 3)).block, (ad.add ((k + 1) * 3)).off + 1, none⟩ = some (.int .i64 X1) := hX1 ▸ k1
          have k2' : wr.cell? ⟨(ad.add ((k + 1) * 3)).block, (ad.add ((k + 1) * 3)).off + 2, none⟩ = some (.int .i64 Y1) := hY1 ▸ k2
          rw [hX1, hY1] at hf0
          have FAR1 := Lib.hid hf0
          have HK1 := Lib.hid hk1
          clear hf0 k0 k1 k2 hz1 hX1 hY1 hL0 hk1 hk
          have e9 : ad.add ((k + 1) * 3) = ⟨ad.block, ad.off + 3 + k * 3, none⟩ := by unfold Addr.add; rw [if_neg (by omega)]; congr 1; omega
          rw [e9] at k0' k1' k2'
          clear e9
          have m2 : wr.cell? ⟨ad.block, ad.off + 3 + k * 3 + 2, none⟩ = some (.int .i64 Y1) := k2'
          have m1 : wr.cell? ⟨ad.block, ad.off + 3 + k * 3 + 1, none⟩ = some (.int .i64 X1) := k1'
          clear k1' k2'
          obtain ⟨zi, hzi⟩ : ∃ z, (L.getD (nb L n x y k) zP).1 = z := ⟨_, rfl⟩
          obtain ⟨D1, hD1⟩ : ∃ z, fv L n x y (k + 1) = z := ⟨_, rfl⟩
          obtain ⟨D0, hD0⟩ : ∃ z, fv L n x y (nb L n x y k) = z := ⟨_, rfl⟩
          have hbt : better L n x y (k + 1) (nb L n x y k) ↔ D1 < D0 ∨ (D1 = D0 ∧ z1 < zi) := by unfold better; rw [hD1, hD0, hzi, HZ1.out]
          have HNB := Lib.hid (show nb L n x y (k + 1) = if better L n x y (k + 1) (nb L n x y k) then k + 1 else nb L n x y k from rfl)
          have HZI := Lib.hid hzi
          have HD1 := Lib.hid hD1
          have HD0 := Lib.hid hD0
          rw [hD0] at ST
          rw [hD1] at FAR1
          rw [hzi]
          have HBTI := Lib.hid hbt
          clear hzi hD1 hD0 hbt
          obtain ⟨q, hq⟩ : ∃ q, cmpW D1 D0 = q := ⟨_, rfl⟩
          have CM := Lib.hid (fun w => cmp_walk D1 D0 w)
          rw [hq] at CM
          have HQ := Lib.hid (show (q < 0 ↔ D1 < D0) ∧ (q = 0 ↔ D1 = D0) from by rw [← hq]; unfold cmpW; split <;> (try split) <;> omega)
          clear hq
          unfold encW at CM
          have q1 : ∀ o, (wr.alloc o).cell? ⟨b9, 0, none⟩ = some (.int .i64 u) := fun o => (point_cells (ZFr.blk_alloc ST.out.q o)).1
          have q2 : ∀ o, (wr.alloc o).cell? ⟨b9, 1, none⟩ = some (.int .i64 v) := fun o => (point_cells (ZFr.blk_alloc ST.out.q o)).2
          have hk100 : (k : Int) < 100 := by have := H100.out; have := HK1.out; omega
          go_upto_region 10 with (first
            | (go_at_call 29; have hc_ := CM.out (w5.alloc (Obj.cells #[Value.int IntKind.i64 (hiW D1), Value.int IntKind.u64 (loW D1)] 54)); (with_reducible refine hc_.mono ?_); clear hc_; rintro e w6 ⟨rfl, f6⟩; have F6 := Lib.hid ((F5.out.alloc _).trans f6 (fun _ h _ => h)); have D6 := Lib.hid (ZFr.blk_fr (heap_alloc_new w5 _) f6 (fun h => h)); have P6 := Lib.hid (ZFr.blk_fr (ZFr.blk_alloc P5.out _) f6 (fun h => h)); have L6 := Lib.hid (ZFr.blk_fr ST.out.l F6.out (fun h => h)); clear f6)
            | (go_at_call 28; have hc_ := FAR1.out (wr.alloc (Obj.cells #[Value.int IntKind.i64 z1, Value.int IntKind.i64 X1, Value.int IntKind.i64 Y1] 50)); (with_reducible refine hc_.mono ?_); clear hc_; rintro e w5 ⟨rfl, f5⟩; have F5 := Lib.hid (((Fr.refl (fun _ => False) wr).alloc _).trans f5 (fun _ h _ => h)); have P5 := Lib.hid (ZFr.blk_fr (heap_alloc_new wr _) f5 (fun h => h)); have l1 := fun o => (wide_store (ZFr.blk_alloc (ZFr.blk_fr ST.out.l F5.out (fun h => h)) o)).1; have l2 := fun o => (wide_store (ZFr.blk_alloc (ZFr.blk_fr ST.out.l F5.out (fun h => h)) o)).2.1; clear f5))
          go_cut [69] (fun s wx => s = .bool (decide (better L n x y (k + 1) (nb L n x y k))) ∧ wx = w6)
          case first =>
            have s1 := ZFr.blk_cell P6.out 0
            simp at s1
            by_cases h1 : q < 0
            · have HB := Lib.hid (HBTI.out.2 (.inl (HQ.out.1.1 h1)))
              go_wp2_with fail
              go_meet
              exact ⟨by rw [decide_eq_true HB.out], rfl⟩
            · by_cases h2 : q = 0
              · by_cases h3 : z1 < zi
                · have HB := Lib.hid (HBTI.out.2 (.inr ⟨HQ.out.2.1 h2, h3⟩))
                  subst h2
                  go_wp2_with fail
                  go_meet
                  exact ⟨by rw [decide_eq_true HB.out], rfl⟩
                · have HB := Lib.hid (fun h => (HBTI.out.1 h).elim (fun h => h1 (HQ.out.1.2 h)) (fun h => h3 h.2))
                  subst h2
                  go_wp2_with fail
                  go_meet
                  exact ⟨by rw [decide_eq_false HB.out], rfl⟩
              · have HB := Lib.hid (fun h => (HBTI.out.1 h).elim (fun h => h1 (HQ.out.1.2 h)) (fun h => h2 (HQ.out.2.2 h.1)))
                go_wp2_with fail
                go_meet
                exact ⟨by rw [decide_eq_false HB.out], rfl⟩
          case rest =>
            obtain ⟨rfl, rfl⟩ := hcut
            by_cases HBT : better L n x y (k + 1) (nb L n x y k)
            · have HB := Lib.hid (HNB.out.trans (if_pos HBT))
              rw [decide_eq_true HBT]
              clear HBT
              obtain ⟨d3, d4, _, _⟩ := wide_store (w := wc.drew) D6.out
              obtain ⟨l5, l6, l7, l8⟩ := wide_store (w := wc.drew) L6.out
              obtain ⟨l1, l2, l3, l4⟩ := wide_store L6.out
              have s2 := ZFr.blk_cell (w := wc.drew) P6.out 0
              simp at s2
              go_wp2_with fail
              go_region
              all_goals
                go_wp2_with fail
                go_roundw
                case rel =>
                  have B := ((F6.out.drew.mono (T := fun i => i = gl) (fun _ h => h.elim)).set ⟨gl, 0, none⟩ (.int .i64 (hiW D1)) (.inl rfl)).set ⟨gl, 1, none⟩ (.int .u64 (loW D1)) (.inl rfl)
                  have low := ST.out.low
                  have hqg : ¬ b9 = gl := fun e => by have h1 := ST.out.q; rw [e, ST.out.l] at h1; simp at h1
                  refine ⟨k + 1, HK1.out, rfl, by rw [HB.out, HZ1.out], ZFr.blk_fr ST.out.q B hqg, ZFr.blk_fr ST.out.r B (by omega), ?_, ST.out.f.trans B (fun i hi hl => by omega), low⟩
                  rw [HB.out, HD1.out]
                  exact ZFr.blk_set (ZFr.blk_set (w := wc.drew) L6.out 0 _) 1 _
                case measure => have := HK1.out; simp [intOf]; omega
            · have HB := Lib.hid (HNB.out.trans (if_neg HBT))
              rw [decide_eq_false HBT]
              clear HBT
              go_wp2_with fail
              go_roundw
              case rel =>
                refine ⟨k + 1, HK1.out, rfl, by rw [HB.out, HZI.out], ZFr.blk_fr ST.out.q F6.out (fun h => h), ZFr.blk_fr ST.out.r F6.out (fun h => h), ?_, ST.out.f.trans F6.out (fun _ h _ => h), ST.out.low⟩
                rw [HB.out, HD0.out]
                exact L6.out
              case measure => have := HK1.out; simp [intOf]; omega
        · have HKE := Lib.hid (show k = l.length - 1 by omega)
          have hkd : ¬ (k : Int) < (l.length : Int) - 1 := by omega
          obtain ⟨zi, hzi⟩ : ∃ z, (L.getD (nb L n x y k) zP).1 = z := ⟨_, rfl⟩
          obtain ⟨D0, hD0⟩ : ∃ z, fv L n x y (nb L n x y k) = z := ⟨_, rfl⟩
          rw [hD0] at ST
          rw [hzi]
          have HZI := Lib.hid hzi
          have HD0 := Lib.hid hD0
          clear hzi hD0
          obtain ⟨l1, l2, l3, l4⟩ := wide_store (w := wr.drew) ST.out.l
          obtain ⟨r1, r2, r3, r4⟩ := wide_store (w := wr.drew) ST.out.r
          obtain ⟨r5, r6, r7, r8⟩ := wide_store ST.out.r
          go_wp2_with fail
          go_region
          all_goals
            go_wp2_with fail
            rw [← HZI.out]
            have HD0' := HD0.out
            rw [HKE.out] at HD0'
            refine bodyPost_ret (results_list (rs := [.tmp 6, .cell 7 54, .tmp 8]) rfl (by simp) (.tmp (.cell (W.heap.size + 1) 54 #[.int .i64 (hiW D0), .int .u64 (loW D0)] (0, 0) _ rfl (ZFr.blk_set (ZFr.blk_set (w := wr.drew) ST.out.r 0 _) 1 _) Try.underlying54 rfl (by kernel_rfl) (.tmp .nil)))) rfl ?_
            rw [HD0', HKE.out]
            exact ⟨rfl, (ST.out.f.drew.set _ _ (.inr (by dsimp only; omega))).set _ _ (.inr (by dsimp only; omega))⟩
end Go.Proofs.Ytgaicbodpneeoaa.Wd

