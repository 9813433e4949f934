/- Joined texts. -/
import Derived.Test.YtngmkjgklonfmaaNNear
import Derived.Test.YtngmkjgklonfmaaJB
import Derived.Test.YtngmkjgklonfmaaNP4
import Derived.ProofKit
import Derived.OpenShut
import Derived.Deep.Slices
import Derived.ChangeSame
import Derived.ChangeArms
/- The law's living call. -/
namespace Go.Proofs.Ytngmkjgklonfmaa.Wd
open Go.RowKit Go.Proofs.ZFr Go.Proofs.Ytngmkjgklonfmaa.PNearNearest Go.Proofs.Ytngmkjgklonfmaa.Big Go.Proofs.YtngmkjgklonfmaaW.PrintWords
attribute [local go_sem high] eqA28
theorem one_place {w : World} {g : Nat} {i x y : Int} (h : w.heap[g]? = some (.cells #[.int .i64 i, .int .i64 x, .int .i64 y] 35 (0, 0))) : Kd.C k35 w (some ⟨g, 0, none⟩) 1 [⟨i, ⟨x, y⟩⟩] := by
  refine ⟨rfl, by decide, fun _ => ⟨_, rfl, fun j p hj => ?_⟩⟩
  match j, hj with
  | 0, hj =>
    simp at hj; subst hj
    refine ⟨_, rfl, k35_mk w _, fun i u hu => ?_⟩
    match i, hu with
    | 0, hu => simp at hu; subst hu; exact ZFr.blk_cell h 0
    | 1, hu => simp at hu; subst hu; exact ZFr.blk_cell h 1
    | 2, hu => simp at hu; subst hu; exact ZFr.blk_cell h 2
set_option maxRecDepth 100000 in
set_option maxHeartbeats 4000000 in
theorem lives28 (W : World) : Calls Try.prog 11 #[] W fun e w' => e = .returned (.bool true) ∧ Fr (fun _ => False) W w' := by
  have t0 := heap_alloc_new W (Obj.cells #[Value.int IntKind.i64 7, Value.int IntKind.i64 9, Value.int IntKind.i64 9] 35)
  have f0 := (Fr.refl (fun _ => False) W).alloc (Obj.cells #[Value.int IntKind.i64 7, Value.int IntKind.i64 9, Value.int IntKind.i64 9] 35)
  have F0 := Lib.hid f0
  have NE := Lib.hid (show Calls Try.prog 9 #[.slice (some ⟨W.heap.size, 0, none⟩) 1 1, .int .i64 10, .agg #[.int .i64 0, .int .i64 0]] (W.alloc (Obj.cells #[Value.int IntKind.i64 7, Value.int IntKind.i64 9, Value.int IntKind.i64 9] 35)) (fun e w' => e = .returned (.tuple #[.int .i64 7, .agg #[.int .i64 0, .int .u64 2], .bool true]) ∧ Fr (fun _ => False) (W.alloc (Obj.cells #[Value.int IntKind.i64 7, Value.int IntKind.i64 9, Value.int IntKind.i64 9] 35)) w') from by
    have h := nnear_yes (some ⟨W.heap.size, 0, none⟩) 1 [⟨7, ⟨9, 9⟩⟩] 10 0 0 _ (by decide) (one_place t0) (by decide) (by decide) (by decide)
    have e1 : (([⟨7, ⟨9, 9⟩⟩] : List S35).map tr).getD (nb (([⟨7, ⟨9, 9⟩⟩] : List S35).map tr) 10 0 0 (([⟨7, ⟨9, 9⟩⟩] : List S35).length - 1)) zP = (7, 9, 9) := rfl
    have e2 : fv (([⟨7, ⟨9, 9⟩⟩] : List S35).map tr) 10 0 0 (nb (([⟨7, ⟨9, 9⟩⟩] : List S35).map tr) 10 0 0 (([⟨7, ⟨9, 9⟩⟩] : List S35).length - 1)) = 2 := by decide
    rw [e1, e2] at h
    exact h)
  clear t0 f0
  go_enter Try.func11, Try.ntmps11
  go_wp2_with (go_at_call 9; have hc_ := NE.out; (with_reducible refine hc_.mono ?_); clear hc_; rintro e w2 ⟨rfl, f2⟩; have F2 := Lib.hid (F0.out.trans f2 (fun _ h _ => h)); clear f2)
  go_ret
  exact ⟨rfl, F2.out.alloc _⟩
end Go.Proofs.Ytngmkjgklonfmaa.Wd

/- The law NearNearest walked. -/
namespace Go.Proofs.Ytngmkjgklonfmaa.Wd
open Go.RowKit Go.Proofs.ZFr Go.Proofs.Ytngmkjgklonfmaa.PNearNearest Go.Proofs.Ytngmkjgklonfmaa.Big Go.Proofs.YtngmkjgklonfmaaW.PrintWords
attribute [local go_sem high] eqA28
theorem mn_lt {x y X Y n : Int} (h : (1 ≤ n ∧ n ≤ 1073741824) ∧ sqP x n ∧ sqP y n ∧ sqP X n ∧ sqP Y n) : ∀ m, m ≤ 9 → Big.mn x y X Y n m < 170141183460469231731687303715884105728
  | 0, _ => by rw [Big.mn]; decide
  | m + 1, hm => by
    have hd : ∀ k, k < 9 → dAt x y X Y n k < 170141183460469231731687303715884105728 := fun k hk => by
      obtain ⟨h1, h2⟩ := w9_in hk h.1 h.2.2.2.1 h.2.2.2.2
      have hx := sq_in h.1 h.2.1
      have hy := sq_in h.1 h.2.2.1
      have e : dAt x y X Y n k = ((wp9 X Y n k).1 - x) * ((wp9 X Y n k).1 - x) + ((wp9 X Y n k).2 - y) * ((wp9 X Y n k).2 - y) := rfl
      have b1 := sq_bd (x := (wp9 X Y n k).1 - x) (by have := h1.1; have := h1.2; have := hx.1; have := hx.2; omega)
      have b2 := sq_bd (x := (wp9 X Y n k).2 - y) (by have := h2.1; have := h2.2; have := hy.1; have := hy.2; omega)
      rw [e]
      omega
    rw [Big.mn]
    split
    · exact hd 0 (by omega)
    · split
      · exact hd m (by omega)
      · exact mn_lt h m (by omega)
theorem tmod_bd (x n : Int) (hn : 0 < n) : -n < Int.tmod x n ∧ Int.tmod x n < n ∧ (Int.tmod x n = x % n ∨ Int.tmod x n = x % n - n) := by
  by_cases h0 : 0 ≤ x
  · have h1 := Int.tmod_nonneg n h0
    have h2 := Int.tmod_lt_of_pos x hn
    have h3 := Int.tmod_eq_emod_of_nonneg (b := n) h0
    exact ⟨by omega, h2, .inl h3⟩
  · have h1 := Int.tmod_nonneg (a := -x) n (by omega)
    have h2 := Int.tmod_lt_of_pos (-x) hn
    rw [Int.neg_tmod] at h1 h2
    have e := Int.mul_tdiv_add_tmod x n
    refine ⟨by omega, by omega, ?_⟩
    generalize Int.tmod x n = r at *
    generalize Int.tdiv x n = q at *
    by_cases hr : r < 0
    · have h9 : n * (q - 1) = n * q - n := by rw [Int.mul_sub, Int.mul_one]
      have h := (Int.ediv_emod_unique (a := x) (r := r + n) (q := q - 1) hn).2 ⟨by omega, by omega, by omega⟩
      exact .inr (by omega)
    · have h := (Int.ediv_emod_unique (a := x) (r := r) (q := q) hn).2 ⟨by omega, by omega, by omega⟩
      exact .inl h.2.symm
theorem home28_f (x y n : Int) (hn : 1 ≤ n ∧ n ≤ 1073741824) : zelligelaw28_home.f x y n = some (x % n, y % n) := by
  have hc : ∀ z : Int, Int.tmod (wrap64 (Int.tmod z n + n)) n = z % n := fun z => by
    obtain ⟨h1, h2, h3⟩ := tmod_bd z n (by omega)
    have h4 := Int.emod_nonneg z (show n ≠ 0 by omega)
    have h5 := Int.emod_lt_of_pos z (show 0 < n by omega)
    rw [w64 (n := Int.tmod z n + n) (by omega) (by omega), Int.tmod_eq_emod_of_nonneg (by omega)]
    rcases h3 with h3 | h3
    · rw [h3, Int.add_emod_right, Int.emod_emod]
    · rw [h3, show z % n - n + n = z % n from by omega, Int.emod_emod]
  unfold zelligelaw28_home.f
  rw [if_neg (by omega), hc, hc]
theorem few_f (l : List S35) : zelligelaw28_few.f l = some (l.take 8) := by
  unfold zelligelaw28_few.f
  by_cases h : (l.length : Int) > 8
  · rw [if_pos h, if_pos (by omega), Option.bind_some, Option.bind_some, if_pos (by simp; omega), List.nil_append]
  · rw [if_neg h, Option.bind_some, if_pos (by simp; omega), List.nil_append, List.take_of_length_le (by omega)]
set_option maxRecDepth 100000 in
set_option maxHeartbeats 4000000 in
theorem law_nearest (A : Option Addr) (c : Nat) (l : List S35) (n x y : Int) (W : World) (hC : Kd.C k35 W A l.length l) (hc : l.length ≤ c) (hx : i64P x) (hy : i64P y) : Calls Try.prog 3 #[.slice A l.length c, .int .i64 n, .agg #[.int .i64 x, .int .i64 y]] W fun e w' => e = .returned (.bool true) ∧ Fr (fun _ => False) W w' := by
  have LV := Lib.hid lives28
  have T0 := Lib.hid (heap_alloc_new W (Obj.cells #[Value.int IntKind.i64 x, Value.int IntKind.i64 y] 24))
  have F0 := Lib.hid ((Fr.refl (fun _ => False) W).alloc (Obj.cells #[Value.int IntKind.i64 x, Value.int IntKind.i64 y] 24))
  have CW := Lib.hid (Kd.C_below hC (F0.out.below W.heap.size (Nat.le_refl _) (fun _ h => h.elim)))
  have HC := Lib.hid hc
  have FE := Lib.hid (few_f l)
  have h8 : (l.take 8).length ≤ 8 := by rw [List.length_take]; omega
  obtain ⟨m, hm⟩ : ∃ m, (l.take 8).length = m := ⟨_, rfl⟩
  obtain ⟨LL, hLL⟩ : ∃ LL, l.take 8 = LL := ⟨_, rfl⟩
  rw [hLL] at FE hm h8
  have HM := Lib.hid hm
  have H8 := Lib.hid h8
  have HX := Lib.hid hx
  have HY := Lib.hid hy
  clear hC hc hLL hm h8 hx hy
  go_enter Try.func3, Try.ntmps3
  go_wp2_with fail
  generalize W.alloc (Obj.cells #[Value.int IntKind.i64 x, Value.int IntKind.i64 y] 24) = w1 at T0 F0 CW ⊢
  go_upto_region 2 with (go_at_call 8; have hc_ := zelligelaw28_few.calls A c l LL w1 CW.out HC.out FE.out; (with_reducible refine hc_.mono ?_); clear hc_; rintro e w2 ⟨v2, rfl, r2, f2⟩; have G2 := Lib.hid (Fr.of_below f2); obtain ⟨A2, c2, rfl, hc2, hC2⟩ := Kd.R_reads r2; rw [HM.out] at hc2; have C2 := Lib.hid hC2; have HC2 := Lib.hid hc2; rw [HM.out]; have F2 := Lib.hid (F0.out.trans G2.out (fun _ h _ => h)); have T2 := Lib.hid (ZFr.blk_fr T0.out G2.out (fun h => h)); clear r2 f2 hc2 hC2)
  have HLl := Lib.hid (show (LL.map tr).length = m from by rw [List.length_map]; exact HM.out)
  have PL2 := Lib.hid (pls_of (show Kd.C k35 w2 A2 LL.length LL from by exact C2.out))
  have h2c : m ≤ c2 := HC2.out
  have hm8 : m ≤ 8 := by rw [← HM.out]; exact H8.out
  have CAN := Lib.hid (fun w (h : Fr (fun _ => False) w2 w) => (show Calls Try.prog 10 #[.slice A2 m c2, .int .i64 n, .agg #[.int .i64 x, .int .i64 y]] w (fun e w' => e = .returned (.bool (decide (canD (LL.map tr) n x y))) ∧ Fr (fun _ => False) w w') from by
    have h9 := can28_walk A2 c2 (LL.map tr) n x y w (by rw [HLl.out]; omega) (PL2.out.fr h) HX.out HY.out
    rw [HLl.out] at h9
    exact h9))
  by_cases hyes : canD (LL.map tr) n x y ∧ 0 < m
  · have NE := Lib.hid (show Calls Try.prog 9 #[.slice A2 m c2, .int .i64 n, .agg #[.int .i64 x, .int .i64 y]] w2 (fun e w' => e = .returned (.tuple #[.int .i64 ((LL.map tr).getD (nb (LL.map tr) n x y (m - 1)) zP).1, encW (fv (LL.map tr) n x y (nb (LL.map tr) n x y (m - 1))), .bool true]) ∧ Fr (fun _ => False) w2 w') from by
      have h9 := nnear_yes A2 c2 LL n x y w2 (by rw [HM.out]; omega) C2.out (by rw [HM.out]; exact h2c) hyes.1 (by rw [HM.out]; exact hyes.2)
      rw [HM.out] at h9
      exact h9)
    have RE := Lib.hid (fun w (h : Fr (fun _ => False) w2 w) => (show Calls Try.prog 12 #[.slice A2 m c2, .int .i64 n, .agg #[.int .i64 x, .int .i64 y]] w (fun e w' => e = .returned (.int .i64 ((nb (LL.map tr) n x y (m - 1) : Nat) : Int)) ∧ Fr (fun _ => False) w w') from by
      have h9 := nearest28_walk A2 c2 (LL.map tr) n x y w (by rw [HLl.out]; omega) (by rw [HLl.out]; exact hyes.2) (PL2.out.fr h) hyes.1
      rw [HLl.out] at h9
      exact h9))
    rw [decide_eq_true hyes.1] at CAN
    obtain ⟨a, ha⟩ : ∃ a, nb (LL.map tr) n x y (m - 1) = a := ⟨_, rfl⟩
    have ham : a < m := by have h9 := nb_le (LL.map tr) n x y (m - 1); have := hyes.2; omega
    rw [ha] at NE RE
    obtain ⟨ad, rfl, k0, k1, k2⟩ := PL2.out a (by rw [HLl.out]; exact ham)
    have hgd : (LL.map tr).getD a zP = (LL.map tr)[a]'(by rw [HLl.out]; exact ham) := by simp [List.getD, ham, HM.out]
    have hok := hyes.1.2.2 _ (List.getElem_mem (l := LL.map tr) (n := a) (by rw [HLl.out]; exact ham))
    have hfv : fv (LL.map tr) n x y a = Big.mn (x % n) (y % n) ((LL.map tr).getD a zP).2.1 ((LL.map tr).getD a zP).2.2 n 9 := rfl
    rw [hgd] at NE hfv
    generalize (LL.map tr)[a]'(by rw [HLl.out]; exact ham) = p at k0 k1 k2 NE hfv hok
    obtain ⟨z, X, Y⟩ := p
    have hn := hyes.1.1
    have hu : sqP (x % n) n := ⟨Int.emod_nonneg _ (by omega), Int.emod_lt_of_pos _ (by omega)⟩
    have hv : sqP (y % n) n := ⟨Int.emod_nonneg _ (by omega), Int.emod_lt_of_pos _ (by omega)⟩
    have WI := Lib.hid (fun (w : World) => lawwide_walk (fv (LL.map tr) n x y a) (fun _ => False) w (fun _ h => h.elim) (by rw [hfv]; exact mn_nn _ _ _ _ _ 9) (by rw [hfv]; exact mn_lt ⟨hn, hu, hv, hok.1, hok.2⟩ 9 (by decide)))
    have HO := Lib.hid (fun (w : World) => zelligelaw28_home.calls x y n (x % n) (y % n) w (home28_f x y n hn))
    have FA := Lib.hid (fun (w : World) => (show Calls Try.prog 15 #[.agg #[.int .i64 (x % n), .int .i64 (y % n)], .agg #[.int .i64 X, .int .i64 Y], .int .i64 n] w (fun e w' => ∃ v, e = .returned v ∧ Whole w' (fun _ => False) v (fv (LL.map tr) n x y a) ∧ Fr (fun _ => False) w w') from by rw [hfv]; exact far_walk (x % n) (y % n) X Y n (fun _ => False) w (fun _ h => h.elim) hn hu hv hok.1 hok.2))
    have LD := Lib.hid (show (dg (fv (LL.map tr) n x y a).natAbs).length < 800 from by rw [hfv]; exact mn_len ⟨hn, hu, hv, hok.1, hok.2⟩ 9 (by decide))
    generalize fv (LL.map tr) n x y a = D at NE WI FA LD
    generalize x % n = u at HO FA
    generalize y % n = v at HO FA
    unfold encW at NE WI
    have PF := Lib.hid (fun w (h : Fr (fun _ => False) w2 w) => And.intro (fr_cell k0 h) (And.intro (fr_cell k1 h) (And.intro (fr_cell k2 h) (point_cells (ZFr.blk_fr T2.out h (fun h => h))))))
    have hm0 : ¬ (m : Int) = 0 := by have := hyes.2; omega
    have HAM := Lib.hid ham
    have HM8 := Lib.hid hm8
    have HM0 := Lib.hid hm0
    clear k0 k1 k2 hgd hok hfv hn hu hv hyes ha ham hm8 h2c hm0 PL2
    obtain ⟨p1, p2⟩ := point_cells T2.out
    go_upto_region 6 with (first
      | (go_at_call 12; have hc_ := RE.out w4 F4.out; (with_reducible refine hc_.mono ?_); clear hc_; rintro e w5 ⟨rfl, f5⟩; have F5 := Lib.hid (F4.out.trans f5 (fun _ h _ => h)); have D5 := Lib.hid (ZFr.blk_fr D4.out f5 (fun h => h)); clear f5)
      | (go_at_call 10; have hc_ := CAN.out (w3.alloc (Obj.cells #[Value.int IntKind.i64 (hiW D), Value.int IntKind.u64 (loW D)] 28)) (F3.out.alloc _); (with_reducible refine hc_.mono ?_); clear hc_; rintro e w4 ⟨rfl, f4⟩; have F4 := Lib.hid ((F3.out.alloc _).trans f4 (fun _ h _ => h)); have D4 := Lib.hid (ZFr.blk_fr (heap_alloc_new w3 _) f4 (fun h => h)); have p5 := (point_cells (ZFr.blk_fr T2.out F4.out (fun h => h))).1; have p6 := (point_cells (ZFr.blk_fr T2.out F4.out (fun h => h))).2; have hm0 := HM0.out; clear f4)
      | (go_at_call 9; have hc_ := NE.out; (with_reducible refine hc_.mono ?_); clear hc_; rintro e w3 ⟨rfl, f3⟩; have F3 := Lib.hid f3; have p3 := fun o => (point_cells (ZFr.blk_alloc (ZFr.blk_fr T2.out f3 (fun h => h)) o)).1; have p4 := fun o => (point_cells (ZFr.blk_alloc (ZFr.blk_fr T2.out f3 (fun h => h)) o)).2; clear f3))
    have HQ := Lib.hid (show sg (D - D) = 0 from by rw [Int.sub_self]; rfl)
    have PG := Lib.hid (fun w (h : Fr (fun _ => False) w5 w) => And.intro (PF.out w (F5.out.trans h (fun _ h _ => h))).1 (And.intro (PF.out w (F5.out.trans h (fun _ h _ => h))).2.1 (And.intro (PF.out w (F5.out.trans h (fun _ h _ => h))).2.2.1 (And.intro (PF.out w (F5.out.trans h (fun _ h _ => h))).2.2.2.1 (And.intro (PF.out w (F5.out.trans h (fun _ h _ => h))).2.2.2.2 (And.intro (wide_store (ZFr.blk_fr D5.out h (fun h => h))).1 (wide_store (ZFr.blk_fr D5.out h (fun h => h))).2.1))))))
    obtain ⟨s1, s2, s3, s4, s5, s6, s7⟩ := PG.out w5.drew (Fr.refl _ w5).drew
    have ham := HAM.out
    have ham' : (a : Int) < m := by omega
    clear p1 p2
    go_region_held3 (fun w' => w'.cell? (ad.add (a * 3)) = some (.int .i64 z) ∧ w'.cell? ⟨(ad.add (a * 3)).block, (ad.add (a * 3)).off + 1, none⟩ = some (.int .i64 X) ∧ w'.cell? ⟨(ad.add (a * 3)).block, (ad.add (a * 3)).off + 1 + 1, none⟩ = some (.int .i64 Y) ∧ w'.cell? ⟨W.heap.size, 0, none⟩ = some (.int .i64 x) ∧ w'.cell? ⟨W.heap.size, 1, none⟩ = some (.int .i64 y) ∧ w'.cell? ⟨w3.heap.size, 0, none⟩ = some (.int .i64 (hiW D)) ∧ w'.cell? ⟨w3.heap.size, 1, none⟩ = some (.int .u64 (loW D)))
      (refine ⟨?_, ?_, ?_, ?_, ?_, ?_, ?_⟩ <;> first | with_reducible assumption)
      (first
        | ((go_at_call 11; have hc_ := LV.out w9; (with_reducible refine hc_.mono ?_); clear hc_; rintro e w10 ⟨rfl, f10⟩; have K10 := Lib.hid f10; have E10 := Lib.hid (E9.out.trans f10 (fun _ h _ => h)); obtain ⟨s101, s102, s103, s104, s105, s106, s107⟩ := PG.out w10 E10.out; clear f10))
        | ((go_at_call 13; have hc_ := Big.cmp_walk D D _ _ (fun _ => False) w8 (fun _ h => h.elim) (Whole.mk (H6.out.fr (K7.out.trans K8.out (fun _ h _ => h)) (fun _ h => h))) (Whole.mk H8.out) LD.out LD.out; rw [HQ.out] at hc_; (with_reducible refine hc_.mono ?_); clear hc_; rintro e w9 ⟨rfl, f9⟩; have K9 := Lib.hid f9; have E9 := Lib.hid (E8.out.trans f9 (fun _ h _ => h)); obtain ⟨s91, s92, s93, s94, s95, s96, s97⟩ := PG.out w9 E9.out; clear f9))
        | ((go_at_call 15; have hc_ := FA.out w7; (with_reducible refine hc_.mono ?_); clear hc_; rintro e w8 ⟨v8, rfl, h8, f8⟩; obtain ⟨y8, rfl, h8⟩ := h8; obtain ⟨A8, c8, rfl⟩ := h8.slice; have H8 := Lib.hid h8; clear h8; have K8 := Lib.hid f8; have E8 := Lib.hid (E7.out.trans f8 (fun _ h _ => h)); obtain ⟨s81, s82, s83, s84, s85, s86, s87⟩ := PG.out w8 E8.out; clear f8))
        | ((go_at_call 16; have hc_ := HO.out w6; (with_reducible refine hc_.mono ?_); clear hc_; rintro e w7 ⟨rfl, b7⟩; have f7 := Fr.of_below b7; clear b7; have K7 := Lib.hid f7; have E7 := Lib.hid (E6.out.trans f7 (fun _ h _ => h)); obtain ⟨s71, s72, s73, s74, s75, s76, s77⟩ := PG.out w7 E7.out; clear f7))
        | ((go_at_call 14; have hc_ := WI.out w5.drew; (with_reducible refine hc_.mono ?_); clear hc_; rintro e w6 ⟨v6, rfl, h6, f6⟩; obtain ⟨y6, rfl, h6⟩ := h6; obtain ⟨A6, c6, rfl⟩ := h6.slice; have H6 := Lib.hid h6; clear h6; have K6 := Lib.hid f6; have E6 := Lib.hid ((Fr.refl (fun _ => False) w5).drew.trans f6 (fun _ h _ => h)); obtain ⟨s61, s62, s63, s64, s65, s66, s67⟩ := PG.out w6 E6.out; clear f6)))
    all_goals
      go_wp2_with fail
      go_ret
      exact ⟨rfl, F2.out.trans (F5.out.trans E10.out (fun _ h _ => h)) (fun _ h _ => h)⟩
  · have NE := Lib.hid (show Calls Try.prog 9 #[.slice A2 m c2, .int .i64 n, .agg #[.int .i64 x, .int .i64 y]] w2 (fun e w' => e = .returned (.tuple #[.int .i64 (-1), .agg #[.int .i64 0, .int .u64 0], .bool false]) ∧ Fr (fun _ => False) w2 w') from by
      have h9 := nnear_no A2 c2 LL n x y w2 (by rw [HM.out]; omega) C2.out (by rw [HM.out]; exact h2c) (by rw [HM.out]; exact hyes)
      rw [HM.out] at h9
      exact h9)
    obtain ⟨p1, p2⟩ := point_cells T2.out
    by_cases hcd : canD (LL.map tr) n x y
    · have hm0 : m = 0 := by
        by_cases h : 0 < m
        · exact absurd ⟨hcd, h⟩ hyes
        · omega
      rw [decide_eq_true hcd] at CAN
      have HM0 := Lib.hid (show (m : Int) = 0 from by omega)
      clear hcd hyes hm0 hm8 h2c PL2
      go_wp2_with (first
      | (go_at_call 11; have hc_ := LV.out w4; (with_reducible refine hc_.mono ?_); clear hc_; rintro e w5 ⟨rfl, f5⟩; have F5 := Lib.hid (F4.out.trans f5 (fun _ h _ => h)); clear f5)
      | (go_at_call 10; have hc_ := CAN.out (w3.alloc (Obj.cells #[Value.int IntKind.i64 0, Value.int IntKind.u64 0] 28)) (F3.out.alloc _); (with_reducible refine hc_.mono ?_); clear hc_; rintro e w4 ⟨rfl, f4⟩; have F4 := Lib.hid ((F3.out.alloc _).trans f4 (fun _ h _ => h)); have D4 := Lib.hid (ZFr.blk_fr (heap_alloc_new w3 _) f4 (fun h => h)); obtain ⟨d1, d2, _, _⟩ := wide_store D4.out; have hm0 := HM0.out; clear f4)
      | (go_at_call 9; have hc_ := NE.out; (with_reducible refine hc_.mono ?_); clear hc_; rintro e w3 ⟨rfl, f3⟩; have F3 := Lib.hid f3; have p3 := fun o => (point_cells (ZFr.blk_alloc (ZFr.blk_fr T2.out f3 (fun h => h)) o)).1; have p4 := fun o => (point_cells (ZFr.blk_alloc (ZFr.blk_fr T2.out f3 (fun h => h)) o)).2; clear f3))
      go_ret
      exact ⟨rfl, F2.out.trans F5.out (fun _ h _ => h)⟩
    · rw [decide_eq_false hcd] at CAN
      clear hcd hyes hm8 h2c PL2
      go_wp2_with (first
      | (go_at_call 11; have hc_ := LV.out w4; (with_reducible refine hc_.mono ?_); clear hc_; rintro e w5 ⟨rfl, f5⟩; have F5 := Lib.hid (F4.out.trans f5 (fun _ h _ => h)); clear f5)
      | (go_at_call 10; have hc_ := CAN.out (w3.alloc (Obj.cells #[Value.int IntKind.i64 0, Value.int IntKind.u64 0] 28)) (F3.out.alloc _); (with_reducible refine hc_.mono ?_); clear hc_; rintro e w4 ⟨rfl, f4⟩; have F4 := Lib.hid ((F3.out.alloc _).trans f4 (fun _ h _ => h)); have D4 := Lib.hid (ZFr.blk_fr (heap_alloc_new w3 _) f4 (fun h => h)); obtain ⟨d1, d2, _, _⟩ := wide_store D4.out; clear f4)
      | (go_at_call 9; have hc_ := NE.out; (with_reducible refine hc_.mono ?_); clear hc_; rintro e w3 ⟨rfl, f3⟩; have F3 := Lib.hid f3; have p3 := fun o => (point_cells (ZFr.blk_alloc (ZFr.blk_fr T2.out f3 (fun h => h)) o)).1; have p4 := fun o => (point_cells (ZFr.blk_alloc (ZFr.blk_fr T2.out f3 (fun h => h)) o)).2; clear f3))
      go_ret
      exact ⟨rfl, F2.out.trans F5.out (fun _ h _ => h)⟩
end Go.Proofs.Ytngmkjgklonfmaa.Wd

/- Places that come in, as the row opens them. -/
namespace Go.Proofs.Ytngmkjgklonfmaa.Wd
open Go.RowKit Go.Proofs.ZFr Go.Proofs.Ytngmkjgklonfmaa.PNearNearest Go.Proofs.Ytngmkjgklonfmaa.Big Go.Proofs.YtngmkjgklonfmaaW.PrintWords
theorem i64_wf {x : Int} (h : (Lit.int .i64 x).wf = true) : i64P x := by
  simp only [Lit.wf, Bool.and_eq_true, decide_eq_true_eq] at h
  have h1 : (-9223372036854775808 : Int) ≤ x := h.1
  have h2 : x ≤ 9223372036854775807 := h.2
  exact ⟨h1, by omega⟩
theorem add_k (a : Addr) (i k : Nat) (hk : 0 < k) : (a.add i).add k = a.add (i + k) := by
  unfold Addr.add
  rw [if_neg (show ¬ k = 0 by omega), if_neg (show ¬ i + k = 0 by omega)]
  by_cases h : i = 0
  · rw [if_pos h, h, Nat.zero_add]
  · rw [if_neg h]
    simp [Nat.add_assoc]
theorem mapM3 {f : Nat → Option Value} {cs : List Value} (h : (List.range 3).mapM f = some cs) : ∃ a b c, cs = [a, b, c] ∧ f 0 = some a ∧ f 1 = some b ∧ f 2 = some c := by
  rw [show List.range 3 = [0, 1, 2] from rfl] at h
  simp only [List.mapM_cons, List.mapM_nil, Option.pure_def, Option.bind_eq_bind, Option.bind_eq_some_iff, Option.some.injEq] at h
  obtain ⟨a, ha, bs, ⟨b, hb, cs', ⟨c, hc, d, rfl, rfl⟩, rfl⟩, rfl⟩ := h
  exact ⟨a, b, c, rfl, ha, hb, hc⟩
theorem open_places {H : Type} {enc : TypeId × Value → H} {W : World} {base : Nat} {spare : Nat → Bool} {held : Bool} {A : Option Addr} {len cap : Nat} {x : DataW H × List MemPlace} (h : ∃ fuel, DataW.trod enc Try.prog W base spare held fuel 22 [.slice A len cap] = some x) : ∃ l : List S35, l.length = len ∧ l.length ≤ cap ∧ Kd.C k35 W A l.length l := by
  obtain ⟨fuel, hf⟩ := h
  rcases Go.Deep.open_slice Try.underlying22 hf with ⟨hcs, _⟩ | ⟨a, l, c, m, n, D, Pl, hcs, _, hl, hm, hmm, _, hx⟩
  · simp at hcs
    obtain ⟨rfl, rfl, rfl⟩ := hcs
    exact ⟨[], rfl, Nat.le_refl _, Kd.C_nil _ _⟩
  · simp at hcs
    obtain ⟨rfl, rfl, rfl⟩ := hcs
    have hel : ∀ i, i < len → ∃ p : S35, W.cell? (a.add (i * 3)) = some (.int .i64 p.f0) ∧ W.cell? (a.add (i * 3 + 1)) = some (.int .i64 p.f1.f0) ∧ W.cell? (a.add (i * 3 + 2)) = some (.int .i64 p.f1.f1) := fun i hi => by
      obtain ⟨cs, hc, ht⟩ := hx i (by rw [hmm]; split <;> omega)
      rw [show Try.prog.cellsOf 35 = 3 from by kernel_rfl] at hc
      unfold World.cells? at hc
      split at hc
      · obtain ⟨c0, c1, c2, rfl, h0, h1, h2⟩ := mapM3 hc
        obtain ⟨y0, y1, n1, _, _, t0, t1⟩ := Go.ChangeShapes.trod_struct2 Try.underlying35 ht
        obtain ⟨y2, y3, n2, _, _, t2, t3⟩ := Go.ChangeShapes.trod_struct2 Try.underlying24 t1
        obtain ⟨z, e0, _, _⟩ := DataW.trod_int Try.underlying3 t0
        obtain ⟨X, e1, _, _⟩ := DataW.trod_int Try.underlying2 t2
        obtain ⟨Y, e2, _, _⟩ := DataW.trod_int Try.underlying2 t3
        rw [show Try.prog.cellsOf 3 = 1 from by kernel_rfl] at e0
        rw [show Try.prog.cellsOf 24 = 2 from by kernel_rfl, show Try.prog.cellsOf 2 = 1 from by kernel_rfl] at e1 e2
        simp at e0 e1 e2
        subst e0 e1 e2
        refine ⟨⟨z, ⟨X, Y⟩⟩, ?_, ?_, ?_⟩
        · have := h0; rwa [show (a.add (i * 3)).add 0 = a.add (i * 3) from by unfold Addr.add; rw [if_pos rfl]] at this
        · have := h1; rwa [show (a.add (i * 3)).add 1 = a.add (i * 3 + 1) from add_k _ _ _ (by decide)] at this
        · have := h2; rwa [show (a.add (i * 3)).add 2 = a.add (i * 3 + 2) from add_k _ _ _ (by decide)] at this
      · cases hc
    have hch : ∃ g : Nat → S35, ∀ i, i < len → W.cell? (a.add (i * 3)) = some (.int .i64 (g i).f0) ∧ W.cell? (a.add (i * 3 + 1)) = some (.int .i64 (g i).f1.f0) ∧ W.cell? (a.add (i * 3 + 2)) = some (.int .i64 (g i).f1.f1) :=
      ⟨fun i => if h : i < len then Classical.choose (hel i h) else z35, fun i hi => by
        simp only [dif_pos hi]
        exact Classical.choose_spec (hel i hi)⟩
    obtain ⟨g, hg⟩ := hch
    refine ⟨(List.range len).map g, by simp, by simp; exact hl, by simp, ?_, fun _ => ⟨a, rfl, fun j p hj => ?_⟩⟩
    · simp
      unfold maxLen at hm
      omega
    · have hjl : j < len := by have := (List.getElem?_eq_some_iff.1 hj).1; simpa using this
      have hp : p = g j := by
        rw [List.getElem?_map, List.getElem?_range hjl] at hj
        simpa using hj.symm
      subst hp
      refine ⟨_, rfl, k35_mk W _, fun i u hu => ?_⟩
      obtain ⟨h0, h1, h2⟩ := hg j hjl
      match i, hu with
      | 0, hu => simp at hu; subst hu; exact h0
      | 1, hu => simp at hu; subst hu; exact h1
      | 2, hu => simp at hu; subst hu; exact h2
theorem law_row (A : Option Addr) (c : Nat) (l : List S35) (n x y : Int) (W : World) (hC : Kd.C k35 W A l.length l) (hc : l.length ≤ c) (wx : (Lit.int .i64 x).wf = true) (wy : (Lit.int .i64 y).wf = true) : Calls Try.prog 3 #[.slice A l.length c, .int .i64 n, .agg #[.int .i64 x, .int .i64 y]] W fun e w' => e = .returned (.bool true) ∧ Below W.heap.size W w' :=
  (law_nearest A c l n x y W hC hc (i64_wf wx) (i64_wf wy)).mono fun _ _ ⟨h1, h2⟩ => ⟨h1, h2.below W.heap.size (Nat.le_refl _) (fun _ h => h.elim)⟩
end Go.Proofs.Ytngmkjgklonfmaa.Wd
