/- Joined texts. -/
import Derived.Test.YtgaicbodpneeoaaJE
import Derived.Deep.RegionLaw
/- What is used of Far28. -/
namespace Go.Proofs.Ytgaicbodpneeoaa.Big
open Go.RowKit Go.Proofs.ZFr Go.Proofs.Ytgaicbodpneeoaa.PRasterImages Go.Proofs.YtgaicbodpneeoaaW.PrintWords

/-- The distance by way of the m-th of nine squares, and the least of the first m. -/
def dAt (x y X Y n : Int) (m : Nat) : Int := d2 x y (X + (((m / 3 : Nat) : Int) - 1) * n) (Y + (((m % 3 : Nat) : Int) - 1) * n)
def mn (x y X Y n : Int) : Nat → Int
  | 0 => 0
  | m + 1 => if m = 0 then dAt x y X Y n 0 else if dAt x y X Y n m < mn x y X Y n m then dAt x y X Y n m else mn x y X Y n m
structure StF (x y X Y n : Int) (S : Nat → Prop) (w w4 wr : World) (m : Nat) : Prop where
  p : wr.heap[w.heap.size]? = some (.cells #[.int .i64 x, .int .i64 y] 41 (0, 0))
  q : wr.heap[w.heap.size + 1]? = some (.cells #[.int .i64 X, .int .i64 Y] 41 (0, 0))
  r : wr.heap[w.heap.size + 1 + 1]? = some (.cells #[.int .i64 0, .slice none 0 0] 82 (0, 0))
  o : ∃ s, wr.heap[w.heap.size + 1 + 1 + 1]? = some (.cells #[.int .i64 (sg (mn x y X Y n m)), s] 82 (0, 0)) ∧ Dgs wr (fun k => S k ∨ k < w4.heap.size) s (mn x y X Y n m).natAbs
  f : Fr (fun _ => False) w wr
  g : w4.heap.size ≤ wr.heap.size
theorem StF.put {x y X Y n : Int} {S : Nat → Prop} {w w4 V : World} {m : Nat} {D M : Int} {A : Option Addr} {c : Nat} {s0 : Value} (hp : V.heap[w.heap.size]? = some (.cells #[.int .i64 x, .int .i64 y] 41 (0, 0))) (hq : V.heap[w.heap.size + 1]? = some (.cells #[.int .i64 X, .int .i64 Y] 41 (0, 0))) (hr : V.heap[w.heap.size + 1 + 1]? = some (.cells #[.int .i64 0, .slice none 0 0] 82 (0, 0))) (ho : V.heap[w.heap.size + 1 + 1 + 1]? = some (.cells #[.int .i64 M, s0] 82 (0, 0))) (hg : Dgs V (fun k => S k ∨ k < w4.heap.size) (.slice A (dg D.natAbs).length c) D.natAbs) (hf : Fr (fun _ => False) w V) (hs : w4.heap.size ≤ V.heap.size) (hbo : w.heap.size + 1 + 1 + 1 < w4.heap.size) (hm : mn x y X Y n m = D) :
    StF x y X Y n S w w4 ((V.setCell ⟨w.heap.size + 1 + 1 + 1, 0, none⟩ (.int .i64 (sg D))).setCell ⟨w.heap.size + 1 + 1 + 1, 1, none⟩ (.slice A (dg D.natAbs).length c)) m := by
  subst hm
  refine ⟨ZFr.blk_set_other (ZFr.blk_set_other hp _ _ (by dsimp only; omega)) _ _ (by dsimp only; omega), ZFr.blk_set_other (ZFr.blk_set_other hq _ _ (by dsimp only; omega)) _ _ (by dsimp only; omega), ZFr.blk_set_other (ZFr.blk_set_other hr _ _ (by dsimp only; omega)) _ _ (by dsimp only; omega), ⟨_, ZFr.blk_set (ZFr.blk_set ho 0 _) 1 _, ?_⟩, (hf.set _ _ (.inr (by dsimp only; omega))).set _ _ (.inr (by dsimp only; omega)), by rw [ZFr.size_set, ZFr.size_set]; exact hs⟩
  exact hg.fr (((Fr.refl (fun k => S k ∨ k < w4.heap.size) V).set ⟨w.heap.size + 1 + 1 + 1, 0, none⟩ _ (.inl (.inr hbo))).set ⟨w.heap.size + 1 + 1 + 1, 1, none⟩ _ (.inl (.inr hbo))) (fun _ h => h)
theorem mul_self_nn (a : Int) : 0 ≤ a * a := by
  by_cases h : 0 ≤ a
  · exact Int.mul_nonneg h h
  · exact Int.mul_nonneg_of_nonpos_of_nonpos (by omega) (by omega)
theorem mn_nn (x y X Y n : Int) : ∀ m, 0 ≤ mn x y X Y n m
  | 0 => Int.le_refl 0
  | m + 1 => by
    have h : ∀ k, 0 ≤ dAt x y X Y n k := fun k => by
      unfold dAt d2
      exact Int.add_nonneg (mul_self_nn _) (mul_self_nn _)
    rw [mn]
    split
    · exact h 0
    · split
      · exact h m
      · exact mn_nn x y X Y n m
def sqP (a n : Int) : Prop := 0 ≤ a ∧ a < n
theorem far_num (x y X Y n : Int) (k j : Nat) (hk : k < 3) (hj : j < 3) (h : (1 ≤ n ∧ n ≤ 1073741824) ∧ sqP x n ∧ sqP y n ∧ sqP X n ∧ sqP Y n) : ∃ px py : Int, IntKind.i64.wrap (((k : Int) - 1) * n) = ((k : Int) - 1) * n ∧ IntKind.i64.wrap (((j : Int) - 1) * n) = ((j : Int) - 1) * n ∧ IntKind.i64.wrap (X + ((k : Int) - 1) * n) = px ∧ IntKind.i64.wrap (Y + ((j : Int) - 1) * n) = py ∧ i64P x ∧ i64P y ∧ i64P px ∧ i64P py ∧ dAt x y X Y n (3 * k + j) = d2 x y px py := by
  obtain ⟨⟨n1, n2⟩, ⟨x1, x2⟩, ⟨y1, y2⟩, ⟨X1, X2⟩, ⟨Y1, Y2⟩⟩ := h
  have b : ∀ t : Nat, t < 3 → -n ≤ ((t : Int) - 1) * n ∧ ((t : Int) - 1) * n ≤ n := fun t ht => by
    match t, ht with
    | 0, _ => simp; omega
    | 1, _ => simp; omega
    | 2, _ => simp; omega
  obtain ⟨k1, k2⟩ := b k hk
  obtain ⟨j1, j2⟩ := b j hj
  have e : dAt x y X Y n (3 * k + j) = d2 x y (X + ((k : Int) - 1) * n) (Y + ((j : Int) - 1) * n) := by
    unfold dAt
    rw [show (3 * k + j) / 3 = k from by omega, show (3 * k + j) % 3 = j from by omega]
  generalize ((k : Int) - 1) * n = U at *
  generalize ((j : Int) - 1) * n = V at *
  refine ⟨X + U, Y + V, ?_, ?_, ?_, ?_, ⟨by omega, by omega⟩, ⟨by omega, by omega⟩, ⟨by omega, by omega⟩, ⟨by omega, by omega⟩, e⟩
  · rw [Go.Proofs.YtgaicbodpneeoaaW.PrintLast.i64_w, w64 (n := U) (by omega) (by omega)]
  · rw [Go.Proofs.YtgaicbodpneeoaaW.PrintLast.i64_w, w64 (n := V) (by omega) (by omega)]
  · rw [Go.Proofs.YtgaicbodpneeoaaW.PrintLast.i64_w, w64 (n := X + U) (by omega) (by omega)]
  · rw [Go.Proofs.YtgaicbodpneeoaaW.PrintLast.i64_w, w64 (n := Y + V) (by omega) (by omega)]
theorem d2_len {x y px py : Int} (h1 : i64P x) (h2 : i64P y) (h3 : i64P px) (h4 : i64P py) : (dg (d2 x y px py).natAbs).length < 800 := by
  have l1 := len_diff h1 h3
  have l2 := len_diff h2 h4
  have l3 : (dg ((px - x) * (px - x)).natAbs).length ≤ 5 + 5 := by rw [Int.natAbs_mul]; exact dg_mul l1 l1
  have l4 : (dg ((py - y) * (py - y)).natAbs).length ≤ 5 + 5 := by rw [Int.natAbs_mul]; exact dg_mul l2 l2
  have := dg_add l3 l4
  unfold d2
  rw [Int.natAbs_add_of_nonneg (mul_self_nn _) (mul_self_nn _)]
  omega
theorem mn_len {x y X Y n : Int} (h : (1 ≤ n ∧ n ≤ 1073741824) ∧ sqP x n ∧ sqP y n ∧ sqP X n ∧ sqP Y n) : ∀ m, m ≤ 9 → (dg (mn x y X Y n m).natAbs).length < 800
  | 0, _ => by rw [mn, show (0 : Int).natAbs = 0 from rfl, dg_zero]; decide
  | m + 1, hm => by
    have hd : ∀ k, k < 9 → (dg (dAt x y X Y n k).natAbs).length < 800 := fun k hk => by
      obtain ⟨px, py, _, _, _, _, a, b, c, d, e⟩ := far_num x y X Y n (k / 3) (k % 3) (by omega) (by omega) h
      rw [show 3 * (k / 3) + k % 3 = k from by omega] at e
      rw [e]; exact d2_len a b c d
    rw [mn]
    split
    · exact hd 0 (by omega)
    · split
      · exact hd m (by omega)
      · exact mn_len h m (by omega)
set_option maxRecDepth 100000 in
set_option maxHeartbeats 8000000 in
theorem far_walk (x y X Y n : Int) (S : Nat → Prop) (w : World) (hS : ∀ k, S k → k < w.heap.size) (hn : 1 ≤ n ∧ n ≤ 1073741824) (hx : sqP x n) (hy : sqP y n) (hX : sqP X n) (hY : sqP Y n) : Calls Try.prog 32 #[.agg #[.int .i64 x, .int .i64 y], .agg #[.int .i64 X, .int .i64 Y], .int .i64 n] w fun e w' => ∃ v, e = .returned v ∧ Whole w' S v (mn x y X Y n 9) ∧ Fr (fun _ => False) w w' := by
  have HP := Lib.hid (And.intro hn (And.intro hx (And.intro hy (And.intro hX hY))))
  clear hn hx hy hX hY
  obtain ⟨t1, t2, t3, t4, f4⟩ := four w (Obj.cells #[Value.int IntKind.i64 x, Value.int IntKind.i64 y] 41) (Obj.cells #[Value.int IntKind.i64 X, Value.int IntKind.i64 Y] 41) (Obj.cells #[Value.int IntKind.i64 0, Value.slice none 0 0] 82) (Obj.cells #[Value.int IntKind.i64 0, Value.slice none 0 0] 82)
  go_enter Try.func32, Try.ntmps32
  go_wp2_with fail
  generalize (((w.alloc (Obj.cells #[Value.int IntKind.i64 x, Value.int IntKind.i64 y] 41)).alloc (Obj.cells #[Value.int IntKind.i64 X, Value.int IntKind.i64 Y] 41)).alloc (Obj.cells #[Value.int IntKind.i64 0, Value.slice none 0 0] 82)).alloc (Obj.cells #[Value.int IntKind.i64 0, Value.slice none 0 0] 82) = w4 at t1 t2 t3 t4 f4 ⊢
  have ST0 := Lib.hid (show StF x y X Y n S w w4 w4 0 from ⟨t1, t2, t3, ⟨_, t4, dgs_zero _ _ _ _⟩, f4, Nat.le_refl _⟩)
  have BO := Lib.hid (show w.heap.size + 1 + 1 + 1 < w4.heap.size from ZFr.blk_lt t4)
  clear t1 t2 t3 t4 f4
  go_loopw [8, 9] (fun b i wr => ∃ k : Nat, k ≤ 3 ∧ b = .bool (decide (0 < k)) ∧ i = .int .i64 ((k : Int) - 1) ∧ StF x y X Y n S w w4 wr (3 * k)) (fun _ i _ => (2 - intOf i).toNat)
  case atStart => exact ⟨0, by omega, rfl, rfl, ST0.out⟩
  case round =>
    obtain ⟨k, hk, rfl, rfl, hst⟩ := hrel
    have HST := Lib.hid hst
    clear hst
    by_cases hk3 : k < 3
    · have hkd : (k : Int) - 1 ≤ 1 := by omega
      obtain ⟨wo, rfl⟩ : ∃ wo : World, wo = wr := ⟨_, rfl⟩
      go_wp2_with fail
      go_loopw [8, 10] (fun b i ws => ∃ j : Nat, j ≤ 3 ∧ b = .bool (decide (0 < 3 * k + j)) ∧ i = .int .i64 ((j : Int) - 1) ∧ StF x y X Y n S w w4 ws (3 * k + j)) (fun _ i _ => (2 - intOf i).toNat)
      case atStart => exact ⟨0, by omega, by congr 2; simp, rfl, HST.out⟩
      case round =>
        obtain ⟨j, hj, rfl, rfl, hst⟩ := hrel
        have HSU := Lib.hid hst
        clear hst
        by_cases hj3 : j < 3
        · obtain ⟨px, py, e1, e2, e3, e4, ix, iy, ipx, ipy, hD⟩ := far_num x y X Y n k j hk3 hj3 HP.out
          have hjd : (j : Int) - 1 ≤ 1 := by omega
          obtain ⟨U, hU⟩ : ∃ U, (k : Int) - 1 = U := ⟨_, rfl⟩
          obtain ⟨V, hV⟩ : ∃ V, (j : Int) - 1 = V := ⟨_, rfl⟩
          rw [hU] at e1 e3 hkd ⊢
          rw [hV] at e2 e4 hjd ⊢
          have HU := Lib.hid hU
          have HV := Lib.hid hV
          have hmn := mn_nn x y X Y n (3 * k + j)
          have hms : mn x y X Y n (3 * k + j + 1) = if 3 * k + j = 0 then dAt x y X Y n 0 else if dAt x y X Y n (3 * k + j) < mn x y X Y n (3 * k + j) then dAt x y X Y n (3 * k + j) else mn x y X Y n (3 * k + j) := rfl
          obtain ⟨m, hm⟩ : ∃ m, 3 * k + j = m := ⟨_, rfl⟩
          have HM := Lib.hid hm
          rw [hm] at hD hmn hms HSU ⊢
          obtain ⟨sO, hO, hOd⟩ := HSU.out.o
          have hDn : 0 ≤ d2 x y px py := by unfold d2; exact Int.add_nonneg (mul_self_nn _) (mul_self_nn _)
          generalize hDD : d2 x y px py = D at hD hDn
          rw [hD] at hms
          generalize hMM : mn x y X Y n m = M at hO hOd hmn hms
          obtain ⟨AO, cO, rfl⟩ := hOd.slice
          obtain ⟨p0, p1⟩ := point_cells HSU.out.p
          obtain ⟨q0, q1⟩ := point_cells HSU.out.q
          have I := Lib.hid (And.intro ix (And.intro iy (And.intro ipx ipy)))
          have HDD := Lib.hid hDD
          have HO := Lib.hid hO
          have HOD := Lib.hid hOd
          have HMS := Lib.hid hms
          have HMM := Lib.hid hMM
          have HST2 := Lib.hid (show ∀ q, (S q ∨ q < w4.heap.size) → q < wr.heap.size from fun q hq => Nat.lt_of_lt_of_le (hq.elim (fun h => Nat.lt_of_lt_of_le (hS q h) (by have := BO.out; omega)) id) HSU.out.g)
          have HJ3 := Lib.hid (show k < 3 ∧ j < 3 from ⟨hk3, hj3⟩)
          have HDA := Lib.hid hD
          have HV1 := Lib.hid (show wrap64 (V + 1) = (j : Int) from by rw [← hV]; rw [show (j : Int) - 1 + 1 = j from by omega]; exact w64 (by omega) (by omega))
          clear hU hV hm hD ix iy ipx ipy hDD hO hOd hms hMM hk3 hj3 hk hj
          have LD := Lib.hid (show (dg D.natAbs).length < 800 from by rw [← HDD.out]; exact d2_len I.out.1 I.out.2.1 I.out.2.2.1 I.out.2.2.2)
          have LM := Lib.hid (show (dg M.natAbs).length < 800 from by rw [← HMM.out]; exact mn_len HP.out m (by have := HM.out; have := HJ3.out; omega))
          by_cases hm0 : m = 0
          · have hdec : decide (0 < m) = false := decide_eq_false (by omega)
            rw [hdec]
            clear hdec hmn hDn
            go_wp2_with (first
              | (go_at_call 49; have hc_ := dist_c x y px py I.out.1 I.out.2.1 I.out.2.2.1 I.out.2.2.2 (fun q => S q ∨ q < w4.heap.size) wr HST2.out; rw [HDD.out] at hc_; (with_reducible refine hc_.mono ?_); clear hc_; rintro e w5 ⟨v5, rfl, h5, f5⟩; obtain ⟨s5, rfl, g5⟩ := h5; obtain ⟨A5, c5, rfl⟩ := g5.slice; have G5 := Lib.hid g5; have P5 := Lib.hid (ZFr.blk_fr HSU.out.p f5 (fun h => h)); have Q5 := Lib.hid (ZFr.blk_fr HSU.out.q f5 (fun h => h)); have R5 := Lib.hid (ZFr.blk_fr HSU.out.r f5 (fun h => h)); have O5 := Lib.hid (ZFr.blk_fr HO.out f5 (fun h => h)); have z1 := fun o => (whole_store (ZFr.blk_alloc O5.out o)).1; have z2 := fun o => (whole_store (ZFr.blk_alloc O5.out o)).2.1; have z3 := fun o => (whole_store (ZFr.blk_alloc O5.out o)).2.2.1; have z4 := fun o => (whole_store (ZFr.blk_alloc O5.out o)).2.2.2; have K5 := Lib.hid f5; clear g5 f5)
              )
            clear e1 e2 e3 e4
            rw [HV1.out]
            go_roundw
            case rel =>
              have h1 := HM.out
              have h2 := HJ3.out
              refine ⟨j + 1, by omega, by rw [decide_eq_true (by omega)], by congr 1; omega, ?_⟩
              rw [show 3 * k + (j + 1) = m + 1 from by omega]
              have hmD : mn x y X Y n (m + 1) = D := by rw [HMS.out, if_pos hm0, ← HDA.out, hm0]
              exact StF.put (ZFr.blk_alloc P5.out _) (ZFr.blk_alloc Q5.out _) (ZFr.blk_alloc R5.out _) (ZFr.blk_alloc O5.out _) (G5.out.fr ((Fr.refl (fun _ => False) w5).alloc _) (fun _ h => h.elim)) ((HSU.out.f.trans K5.out (fun _ h _ => h)).alloc _) (Nat.le_trans HSU.out.g (K5.out.alloc (Obj.cells #[Value.int IntKind.i64 (sg D), Value.slice A5 (dg D.natAbs).length c5] 82)).size) BO.out hmD
            case measure => have h1 := HV.out; have h2 := HJ3.out; simp [intOf]; omega
          · have hdec : decide (0 < m) = true := decide_eq_true (by omega)
            rw [hdec]
            clear hdec
            by_cases hlt : D < M
            · have HQ := Lib.hid (show sg (D - M) = -1 from by unfold sg; rw [if_neg (by omega), if_pos (by omega)])
              have HLT := Lib.hid hlt
              clear hlt hmn hDn
              go_wp2_with (first
                | (go_at_call 31; have hc_ := cmp_walk D M _ _ (fun q => S q ∨ q < w4.heap.size) (w5.alloc (Obj.cells #[Value.int IntKind.i64 (sg D), Value.slice A5 (dg D.natAbs).length c5] 82)) (fun q hq => Nat.lt_of_lt_of_le (HST2.out q hq) (Nat.le_trans K5.out.size ((Fr.refl (fun _ => False) w5).alloc (Obj.cells #[Value.int IntKind.i64 (sg D), Value.slice A5 (dg D.natAbs).length c5] 82)).size)) (Whole.mk (G5.out.fr ((Fr.refl (fun _ => False) w5).alloc (Obj.cells #[Value.int IntKind.i64 (sg D), Value.slice A5 (dg D.natAbs).length c5] 82)) (fun _ h => h.elim))) (Whole.mk (HOD.out.fr (K5.out.alloc (Obj.cells #[Value.int IntKind.i64 (sg D), Value.slice A5 (dg D.natAbs).length c5] 82)) (fun _ h => h.elim))) LD.out LM.out; rw [HQ.out] at hc_; (with_reducible refine hc_.mono ?_); clear hc_; rintro e w6 ⟨rfl, f6⟩; have P6 := Lib.hid (ZFr.blk_fr (ZFr.blk_alloc P5.out _) f6 (fun h => h)); have Q6 := Lib.hid (ZFr.blk_fr (ZFr.blk_alloc Q5.out _) f6 (fun h => h)); have R6 := Lib.hid (ZFr.blk_fr (ZFr.blk_alloc R5.out _) f6 (fun h => h)); have O6 := Lib.hid (ZFr.blk_fr (ZFr.blk_alloc O5.out _) f6 (fun h => h)); have D6 := Lib.hid (ZFr.blk_fr (heap_alloc_new w5 (Obj.cells #[Value.int IntKind.i64 (sg D), Value.slice A5 (dg D.natAbs).length c5] 82)) f6 (fun h => h)); obtain ⟨d0, d1⟩ := whole_cells D6.out; obtain ⟨i1, i2, i3, i4⟩ := whole_store O6.out; have K6 := Lib.hid ((K5.out.alloc (Obj.cells #[Value.int IntKind.i64 (sg D), Value.slice A5 (dg D.natAbs).length c5] 82)).trans f6 (fun _ h _ => h)); have J6 := Lib.hid (((Fr.refl (fun _ => False) w5).alloc (Obj.cells #[Value.int IntKind.i64 (sg D), Value.slice A5 (dg D.natAbs).length c5] 82)).trans f6 (fun _ h _ => h)); clear f6)
                | (go_at_call 49; have hc_ := dist_c x y px py I.out.1 I.out.2.1 I.out.2.2.1 I.out.2.2.2 (fun q => S q ∨ q < w4.heap.size) wr HST2.out; rw [HDD.out] at hc_; (with_reducible refine hc_.mono ?_); clear hc_; rintro e w5 ⟨v5, rfl, h5, f5⟩; obtain ⟨s5, rfl, g5⟩ := h5; obtain ⟨A5, c5, rfl⟩ := g5.slice; have G5 := Lib.hid g5; have P5 := Lib.hid (ZFr.blk_fr HSU.out.p f5 (fun h => h)); have Q5 := Lib.hid (ZFr.blk_fr HSU.out.q f5 (fun h => h)); have R5 := Lib.hid (ZFr.blk_fr HSU.out.r f5 (fun h => h)); have O5 := Lib.hid (ZFr.blk_fr HO.out f5 (fun h => h)); have z1 := fun o => (whole_store (ZFr.blk_alloc O5.out o)).1; have z2 := fun o => (whole_store (ZFr.blk_alloc O5.out o)).2.1; have z3 := fun o => (whole_store (ZFr.blk_alloc O5.out o)).2.2.1; have z4 := fun o => (whole_store (ZFr.blk_alloc O5.out o)).2.2.2; have K5 := Lib.hid f5; clear g5 f5)
                )
              clear e1 e2 e3 e4
              rw [HV1.out]
              go_roundw
              case rel =>
                have h1 := HM.out
                have h2 := HJ3.out
                refine ⟨j + 1, by omega, by rw [decide_eq_true (by omega)], by congr 1; omega, ?_⟩
                rw [show 3 * k + (j + 1) = m + 1 from by omega]
                have hmD : mn x y X Y n (m + 1) = D := by rw [HMS.out, if_neg hm0, if_pos HLT.out]
                exact StF.put P6.out Q6.out R6.out O6.out (G5.out.fr J6.out (fun _ h => h.elim)) (HSU.out.f.trans K6.out (fun _ h _ => h)) (Nat.le_trans HSU.out.g K6.out.size) BO.out hmD
              case measure => have h1 := HV.out; have h2 := HJ3.out; simp [intOf]; omega
            · obtain ⟨q, HQ0, hq⟩ : ∃ q, sg (D - M) = q ∧ (q = 1 ∨ q = 0) := ⟨_, rfl, sg_nn (by omega)⟩
              have HQ := Lib.hid HQ0
              have HLT := Lib.hid hlt
              clear hlt hmn hDn HQ0
              rcases hq with rfl | rfl
              all_goals
                go_wp2_with (first
                  | (go_at_call 31; have hc_ := cmp_walk D M _ _ (fun q => S q ∨ q < w4.heap.size) (w5.alloc (Obj.cells #[Value.int IntKind.i64 (sg D), Value.slice A5 (dg D.natAbs).length c5] 82)) (fun q hq => Nat.lt_of_lt_of_le (HST2.out q hq) (Nat.le_trans K5.out.size ((Fr.refl (fun _ => False) w5).alloc (Obj.cells #[Value.int IntKind.i64 (sg D), Value.slice A5 (dg D.natAbs).length c5] 82)).size)) (Whole.mk (G5.out.fr ((Fr.refl (fun _ => False) w5).alloc (Obj.cells #[Value.int IntKind.i64 (sg D), Value.slice A5 (dg D.natAbs).length c5] 82)) (fun _ h => h.elim))) (Whole.mk (HOD.out.fr (K5.out.alloc (Obj.cells #[Value.int IntKind.i64 (sg D), Value.slice A5 (dg D.natAbs).length c5] 82)) (fun _ h => h.elim))) LD.out LM.out; rw [HQ.out] at hc_; (with_reducible refine hc_.mono ?_); clear hc_; rintro e w6 ⟨rfl, f6⟩; have P6 := Lib.hid (ZFr.blk_fr (ZFr.blk_alloc P5.out _) f6 (fun h => h)); have Q6 := Lib.hid (ZFr.blk_fr (ZFr.blk_alloc Q5.out _) f6 (fun h => h)); have R6 := Lib.hid (ZFr.blk_fr (ZFr.blk_alloc R5.out _) f6 (fun h => h)); have O6 := Lib.hid (ZFr.blk_fr (ZFr.blk_alloc O5.out _) f6 (fun h => h)); have D6 := Lib.hid (ZFr.blk_fr (heap_alloc_new w5 (Obj.cells #[Value.int IntKind.i64 (sg D), Value.slice A5 (dg D.natAbs).length c5] 82)) f6 (fun h => h)); obtain ⟨d0, d1⟩ := whole_cells D6.out; obtain ⟨i1, i2, i3, i4⟩ := whole_store O6.out; have K6 := Lib.hid ((K5.out.alloc (Obj.cells #[Value.int IntKind.i64 (sg D), Value.slice A5 (dg D.natAbs).length c5] 82)).trans f6 (fun _ h _ => h)); have J6 := Lib.hid (((Fr.refl (fun _ => False) w5).alloc (Obj.cells #[Value.int IntKind.i64 (sg D), Value.slice A5 (dg D.natAbs).length c5] 82)).trans f6 (fun _ h _ => h)); clear f6)
                  | (go_at_call 49; have hc_ := dist_c x y px py I.out.1 I.out.2.1 I.out.2.2.1 I.out.2.2.2 (fun q => S q ∨ q < w4.heap.size) wr HST2.out; rw [HDD.out] at hc_; (with_reducible refine hc_.mono ?_); clear hc_; rintro e w5 ⟨v5, rfl, h5, f5⟩; obtain ⟨s5, rfl, g5⟩ := h5; obtain ⟨A5, c5, rfl⟩ := g5.slice; have G5 := Lib.hid g5; have P5 := Lib.hid (ZFr.blk_fr HSU.out.p f5 (fun h => h)); have Q5 := Lib.hid (ZFr.blk_fr HSU.out.q f5 (fun h => h)); have R5 := Lib.hid (ZFr.blk_fr HSU.out.r f5 (fun h => h)); have O5 := Lib.hid (ZFr.blk_fr HO.out f5 (fun h => h)); have z1 := fun o => (whole_store (ZFr.blk_alloc O5.out o)).1; have z2 := fun o => (whole_store (ZFr.blk_alloc O5.out o)).2.1; have z3 := fun o => (whole_store (ZFr.blk_alloc O5.out o)).2.2.1; have z4 := fun o => (whole_store (ZFr.blk_alloc O5.out o)).2.2.2; have K5 := Lib.hid f5; clear g5 f5)
                  )
                clear e1 e2 e3 e4
                rw [HV1.out]
                go_roundw
                case rel =>
                  have h1 := HM.out
                  have h2 := HJ3.out
                  refine ⟨j + 1, by omega, by rw [decide_eq_true (by omega)], by congr 1; omega, ?_⟩
                  rw [show 3 * k + (j + 1) = m + 1 from by omega]
                  have hmD : mn x y X Y n (m + 1) = M := by rw [HMS.out, if_neg hm0, if_neg (Int.not_lt.2 HLT.out)]
                  exact ⟨P6.out, Q6.out, R6.out, ⟨_, by rw [hmD]; exact O6.out, by rw [hmD]; exact HOD.out.fr K6.out (fun _ h => h.elim)⟩, HSU.out.f.trans K6.out (fun _ h _ => h), Nat.le_trans HSU.out.g K6.out.size⟩
                case measure => have h1 := HV.out; have h2 := HJ3.out; simp [intOf]; omega
        · obtain rfl : j = 3 := by omega
          have HK := Lib.hid hk3
          clear hk3 hk hj
          go_wp2_with fail
          go_roundw
          case rel =>
            have h1 := HK.out
            exact ⟨k + 1, by omega, by rw [decide_eq_true (by omega), decide_eq_true (by omega)], by congr 1; omega, by rw [show 3 * (k + 1) = 3 * k + 3 from by omega]; exact HSU.out⟩
          case measure => have h1 := HK.out; simp [intOf]; omega
    · obtain rfl : k = 3 := by omega
      obtain ⟨sO, hO, hOd⟩ := HST.out.o
      obtain ⟨AO, cO, rfl⟩ := hOd.slice
      have HO := Lib.hid hO
      have HOD := Lib.hid hOd
      obtain ⟨i1, i2, i3, i4⟩ := whole_store HST.out.r
      obtain ⟨o1, o2⟩ := whole_cells hO
      clear hO hOd hk3 hk
      go_wp2_with fail
      refine bodyPost_ret (results_cell_row rfl _ _ (w.heap.size + 1 + 1) 82 #[.int .i64 (sg (mn x y X Y n 9)), .slice AO (dg (mn x y X Y n 9).natAbs).length cO] (0, 0) _ rfl (ZFr.blk_set (ZFr.blk_set HST.out.r 0 _) 1 _) Try.underlying82 rfl (by kernel_rfl)) rfl ?_
      have hb2 : w.heap.size + 1 + 1 < w4.heap.size := by have := BO.out; omega
      exact ⟨_, rfl, Whole.mk ((HOD.out.fr (((Fr.refl (fun k => S k ∨ k < w4.heap.size) wr).set ⟨w.heap.size + 1 + 1, 0, none⟩ _ (.inl (.inr hb2))).set ⟨w.heap.size + 1 + 1, 1, none⟩ _ (.inl (.inr hb2))) (fun _ h => h)).mono (fun _ h => .inl h)), (HST.out.f.set _ _ (.inr (by dsimp only; omega))).set _ _ (.inr (by dsimp only; omega))⟩
end Go.Proofs.Ytgaicbodpneeoaa.Big


/- What is used of Can28. -/
namespace Go.Proofs.Ytgaicbodpneeoaa.Big
open Go.RowKit Go.Proofs.ZFr Go.Proofs.Ytgaicbodpneeoaa.PRasterImages Go.Proofs.YtgaicbodpneeoaaW.PrintWords

/-- Places in memory: their ids and where they lie. -/
def Pls (w : World) (A : Option Addr) (l : List (Int × Int × Int)) : Prop :=
  ∀ i (h : i < l.length), ∃ ad, A = some ad ∧ w.cell? (ad.add (i * 3)) = some (.int .i64 l[i].1) ∧ w.cell? ⟨(ad.add (i * 3)).block, (ad.add (i * 3)).off + 1, none⟩ = some (.int .i64 l[i].2.1) ∧ w.cell? ⟨(ad.add (i * 3)).block, (ad.add (i * 3)).off + 2, none⟩ = some (.int .i64 l[i].2.2)
theorem Pls.fr {w w' : World} {A : Option Addr} {l : List (Int × Int × Int)} (h : Pls w A l) (hf : Fr (fun _ => False) w w') : Pls w' A l := fun i hi => by
  obtain ⟨ad, e, h1, h2, h3⟩ := h i hi
  exact ⟨ad, e, fr_cell h1 hf, fr_cell h2 hf, fr_cell h3 hf⟩
def okP (n : Int) (p : Int × Int × Int) : Prop := sqP p.2.1 n ∧ sqP p.2.2 n
instance (a n : Int) : Decidable (sqP a n) := inferInstanceAs (Decidable (_ ∧ _))
instance (n : Int) (p : Int × Int × Int) : Decidable (okP n p) := inferInstanceAs (Decidable (_ ∧ _))
def canD (l : List (Int × Int × Int)) (n x y : Int) : Prop := (1 ≤ n ∧ n ≤ 1073741824) ∧ (inP x ∧ inP y) ∧ ∀ p ∈ l, okP n p
instance (l : List (Int × Int × Int)) (n x y : Int) : Decidable (canD l n x y) := inferInstanceAs (Decidable (_ ∧ _))
end Go.Proofs.Ytgaicbodpneeoaa.Big


/- What is used of Near28. -/
namespace Go.Proofs.Ytgaicbodpneeoaa.Big
open Go.RowKit Go.Proofs.ZFr Go.Proofs.Ytgaicbodpneeoaa.PRasterImages Go.Proofs.YtgaicbodpneeoaaW.PrintWords

def zP : Int × Int × Int := (0, 0, 0)
def fv (l : List (Int × Int × Int)) (n x y : Int) (i : Nat) : Int := mn (x % n) (y % n) (l.getD i zP).2.1 (l.getD i zP).2.2 n 9
def better (l : List (Int × Int × Int)) (n x y : Int) (i a : Nat) : Prop := fv l n x y i < fv l n x y a ∨ (fv l n x y i = fv l n x y a ∧ (l.getD i zP).1 < (l.getD a zP).1)
instance (l : List (Int × Int × Int)) (n x y : Int) (i a : Nat) : Decidable (better l n x y i a) := inferInstanceAs (Decidable (_ ∨ _))
/-- The nearest of the first k + 1 places. -/
def nb (l : List (Int × Int × Int)) (n x y : Int) : Nat → Nat
  | 0 => 0
  | k + 1 => if better l n x y (k + 1) (nb l n x y k) then k + 1 else nb l n x y k
theorem nb_le (l : List (Int × Int × Int)) (n x y : Int) : ∀ k, nb l n x y k ≤ k
  | 0 => Nat.le_refl 0
  | k + 1 => by rw [nb]; split; omega; have := nb_le l n x y k; omega
set_option maxRecDepth 100000 in
set_option maxHeartbeats 4000000 in
theorem nearest28_walk (A : Option Addr) (c : Nat) (l : List (Int × Int × Int)) (n x y : Int) (w : World) (hl : l.length ≤ 100) (h0 : 0 < l.length) (hp : Pls w A l) (hc : canD l n x y) : Calls Try.prog 21 #[.slice A l.length c, .int .i64 n, .agg #[.int .i64 x, .int .i64 y]] w fun e w' => e = .returned (.int .i64 (nb l n x y (l.length - 1) : Nat)) ∧ Fr (fun _ => False) w w' := by
  have HP := Lib.hid hp
  have HC := Lib.hid hc
  clear hp hc
  have HN := Lib.hid HC.out.1
  have HU0 := Lib.hid (show sqP (x % n) n from ⟨Int.emod_nonneg _ (by have := HN.out; omega), Int.emod_lt_of_pos _ (by have := HN.out; omega)⟩)
  have HV0 := Lib.hid (show sqP (y % n) n from ⟨Int.emod_nonneg _ (by have := HN.out; omega), Int.emod_lt_of_pos _ (by have := HN.out; omega)⟩)
  have hfv : ∀ i (h : i < l.length), fv l n x y i = mn (x % n) (y % n) l[i].2.1 l[i].2.2 n 9 := fun i h => by unfold fv; rw [show l.getD i zP = l[i] from by simp [List.getD, h]]
  have hid : ∀ i (h : i < l.length), (l.getD i zP).1 = l[i].1 := fun i h => by rw [show l.getD i zP = l[i] from by simp [List.getD, h]]
  have hhome := fun W => home_walk x y n W HC.out.2.1.1 HC.out.2.1.2 HC.out.1
  obtain ⟨u, hu⟩ : ∃ u, x % n = u := ⟨_, rfl⟩
  obtain ⟨v, hv⟩ : ∃ v, y % n = v := ⟨_, rfl⟩
  obtain ⟨ou, hou⟩ : ∃ u, x / n = u := ⟨_, rfl⟩
  obtain ⟨ov, hov⟩ : ∃ v, y / n = v := ⟨_, rfl⟩
  rw [hu] at HU0 hfv
  rw [hv] at HV0 hfv
  rw [hu, hv, hou, hov] at hhome
  have HU := HU0
  have HV := HV0
  have HH := Lib.hid hhome
  have HFV := Lib.hid hfv
  have HID := Lib.hid hid
  clear hhome hfv hid hu hv hou hov
  have F0 := Lib.hid ((Fr.refl (fun _ => False) w).alloc (Obj.cells #[Value.int IntKind.i64 x, Value.int IntKind.i64 y] 41))
  go_enter Try.func21, Try.ntmps21
  go_wp2_with (go_at_call 30; have hc_ := HH.out (w.alloc (Obj.cells #[Value.int IntKind.i64 x, Value.int IntKind.i64 y] 41)); (with_reducible refine hc_.mono ?_); clear hc_; rintro e w2 ⟨rfl, f2⟩; have F2 := Lib.hid (F0.out.trans f2 (fun _ h _ => h)); clear f2)
  have t3 := ZFr.blk_alloc (heap_alloc_new w2 (Obj.cells #[Value.int IntKind.i64 u, Value.int IntKind.i64 v] 41)) (Obj.cells #[Value.int IntKind.i64 ou, Value.int IntKind.i64 ov] 44)
  have f3 := (F2.out.alloc (Obj.cells #[Value.int IntKind.i64 u, Value.int IntKind.i64 v] 41)).alloc (Obj.cells #[Value.int IntKind.i64 ou, Value.int IntKind.i64 ov] 44)
  generalize (w2.alloc (Obj.cells #[Value.int IntKind.i64 u, Value.int IntKind.i64 v] 41)).alloc (Obj.cells #[Value.int IntKind.i64 ou, Value.int IntKind.i64 ov] 44) = w3 at t3 f3 ⊢
  have T3 := Lib.hid t3
  have F3 := Lib.hid f3
  clear t3 f3
  go_loopw [10, 11] (fun b i wr => ∃ k : Nat, k ≤ l.length ∧ i = .int .i64 (k : Int) ∧ b = .int .i64 (if k = 0 then -1 else ((nb l n x y (k - 1) : Nat) : Int)) ∧ wr.heap[w2.heap.size]? = some (.cells #[.int .i64 u, .int .i64 v] 41 (0, 0)) ∧ Fr (fun _ => False) w wr) (fun _ i _ => (l.length - intOf i).toNat)
  case atStart => exact ⟨0, Nat.zero_le _, rfl, rfl, T3.out, F3.out⟩
  case round =>
    obtain ⟨k, hk, rfl, rfl, hg, hf⟩ := hrel
    have HF := Lib.hid hf
    have HG := Lib.hid hg
    obtain ⟨g1, g2⟩ := point_cells hg
    by_cases hkl : k < l.length
    · have hkl' : (k : Int) < l.length := by omega
      have HKL := Lib.hid hkl
      obtain ⟨ad, rfl, k1, k2, k3⟩ := (HP.out.fr hf) k hkl
      by_cases hk0 : k = 0
      · subst hk0
        rw [if_pos rfl]
        clear hg hf k1 k2 k3
        go_wp2_with fail
        go_roundw
        case rel => exact ⟨1, HKL.out, rfl, rfl, HG.out, HF.out⟩
        case measure => have := HKL.out; simp [intOf]; omega
      · rw [if_neg hk0]
        obtain ⟨a, ha⟩ : ∃ a, nb l n x y (k - 1) = a := ⟨_, rfl⟩
        have hak : a < k := by have := nb_le l n x y (k - 1); omega
        have hal : a < l.length := by omega
        have hal' : (a : Int) < l.length := by omega
        have ha0 : ¬ (a : Int) < 0 := by omega
        rw [ha]
        obtain ⟨ad', he, a1, a2, a3⟩ := (HP.out.fr hf) a hal
        cases he
        have hnb : nb l n x y k = if better l n x y k a then k else a := by
          obtain ⟨k', rfl⟩ : ∃ k', k = k' + 1 := ⟨k - 1, by omega⟩
          rw [nb, ← ha]; rfl
        have hF1 := HFV.out k hkl
        have hF2 := HFV.out a hal
        have OK1 := Lib.hid (HC.out.2.2 _ (List.getElem_mem hkl))
        have OK2 := Lib.hid (HC.out.2.2 _ (List.getElem_mem hal))
        have hI1 := HID.out k hkl
        have hI2 := HID.out a hal
        have hbt : better l n x y k a ↔ (fv l n x y k < fv l n x y a ∨ (fv l n x y k = fv l n x y a ∧ l[k].1 < l[a].1)) := by unfold better; rw [hI1, hI2]; exact Iff.rfl
        unfold okP at OK1 OK2
        generalize l[k].1 = I1 at k1 hbt
        generalize l[a].1 = I2 at a1 hbt
        generalize l[k].2.1 = X1 at k2 hF1 OK1
        generalize l[k].2.2 = Y1 at k3 hF1 OK1
        generalize l[a].2.1 = X2 at a2 hF2 OK2
        generalize l[a].2.2 = Y2 at a3 hF2 OK2
        generalize fv l n x y k = D1 at hbt hF1
        generalize fv l n x y a = D2 at hbt hF2
        have M1 := Lib.hid hF1.symm
        have M2 := Lib.hid hF2.symm
        have L1 := Lib.hid (show (dg D1.natAbs).length < 800 from by rw [hF1]; exact mn_len ⟨HN.out, HU.out, HV.out, OK1.out.1, OK1.out.2⟩ 9 (by decide))
        have L2 := Lib.hid (show (dg D2.natAbs).length < 800 from by rw [hF2]; exact mn_len ⟨HN.out, HU.out, HV.out, OK2.out.1, OK2.out.2⟩ 9 (by decide))
        have HNB := Lib.hid hnb
        have HBT := Lib.hid hbt
        have d1 : wr.drew.cell? ⟨w2.heap.size, 0, none⟩ = some (.int .i64 u) := g1
        have d2 : wr.drew.cell? ⟨w2.heap.size, 1, none⟩ = some (.int .i64 v) := g2
        have d3 : wr.drew.cell? ⟨(ad.add (k * 3)).block, (ad.add (k * 3)).off + 1, none⟩ = some (.int .i64 X1) := k2
        have d4 : wr.drew.cell? ⟨(ad.add (k * 3)).block, (ad.add (k * 3)).off + 1 + 1, none⟩ = some (.int .i64 Y1) := k3
        have d5 : wr.drew.cell? ⟨(ad.add (a * 3)).block, (ad.add (a * 3)).off + 1, none⟩ = some (.int .i64 X2) := a2
        have d6 : wr.drew.cell? ⟨(ad.add (a * 3)).block, (ad.add (a * 3)).off + 1 + 1, none⟩ = some (.int .i64 Y2) := a3
        replace k3 : wr.cell? ⟨(ad.add (k * 3)).block, (ad.add (k * 3)).off + 1 + 1, none⟩ = some (.int .i64 Y1) := k3
        replace a3 : wr.cell? ⟨(ad.add (a * 3)).block, (ad.add (a * 3)).off + 1 + 1, none⟩ = some (.int .i64 Y2) := a3
        clear hF1 hF2 hI1 hI2 hnb hbt ha hak hal hkl hg hf hk
        by_cases c1 : D1 < D2
        · have HQ := Lib.hid (show sg (D1 - D2) = -1 from by unfold sg; rw [if_neg (by omega), if_pos (by omega)])
          have HB := Lib.hid (HBT.out.2 (.inl c1))
          clear c1
          go_wp2_with fail
          go_region_held3 (fun w' => w'.cell? ⟨w2.heap.size, 0, none⟩ = some (.int .i64 u) ∧ w'.cell? ⟨w2.heap.size, 1, none⟩ = some (.int .i64 v) ∧ w'.cell? ⟨(ad.add (k * 3)).block, (ad.add (k * 3)).off + 1, none⟩ = some (.int .i64 X1) ∧ w'.cell? ⟨(ad.add (k * 3)).block, (ad.add (k * 3)).off + 1 + 1, none⟩ = some (.int .i64 Y1) ∧ w'.cell? ⟨(ad.add (a * 3)).block, (ad.add (a * 3)).off + 1, none⟩ = some (.int .i64 X2) ∧ w'.cell? ⟨(ad.add (a * 3)).block, (ad.add (a * 3)).off + 1 + 1, none⟩ = some (.int .i64 Y2))
            (refine ⟨?_, ?_, ?_, ?_, ?_, ?_⟩ <;> first | with_reducible assumption)
            (first
              | ((go_at_call 31; have hc_ := cmp_walk D1 D2 _ _ (fun _ => False) w6 (fun _ h => h.elim) (Whole.mk (G5.out.fr K6.out (fun _ h => h))) (Whole.mk G6.out) L1.out L2.out; rw [HQ.out] at hc_; (with_reducible refine hc_.mono ?_); clear hc_; rintro e w7 ⟨rfl, f7⟩; have F7 := Lib.hid (F6.out.trans f7 (fun _ h _ => h)); have s71 := fr_cell g1 F7.out; have s72 := fr_cell g2 F7.out; have s73 := fr_cell k2 F7.out; have s74 := fr_cell k3 F7.out; have s75 := fr_cell a2 F7.out; have s76 := fr_cell a3 F7.out; have s77 := fr_cell k1 F7.out; have s78 := fr_cell a1 F7.out; clear f7))
              | ((go_at_call 32; have hc_ := far_walk u v X2 Y2 n (fun _ => False) w5 (fun _ h => h.elim) HN.out HU.out HV.out OK2.out.1 OK2.out.2; rw [M2.out] at hc_; (with_reducible refine hc_.mono ?_); clear hc_; rintro e w6 ⟨v6, rfl, h6, f6⟩; obtain ⟨z6, rfl, h6⟩ := h6; obtain ⟨A6, c6, rfl⟩ := h6.slice; have G6 := Lib.hid h6; have K6 := Lib.hid f6; have F6 := Lib.hid (F5.out.trans f6 (fun _ h _ => h)); have s61 := fr_cell g1 F6.out; have s62 := fr_cell g2 F6.out; have s63 := fr_cell k2 F6.out; have s64 := fr_cell k3 F6.out; have s65 := fr_cell a2 F6.out; have s66 := fr_cell a3 F6.out; have s67 := fr_cell k1 F6.out; have s68 := fr_cell a1 F6.out; clear h6 f6))
              | ((go_at_call 32; have hc_ := far_walk u v X1 Y1 n (fun _ => False) wr.drew (fun _ h => h.elim) HN.out HU.out HV.out OK1.out.1 OK1.out.2; rw [M1.out] at hc_; (with_reducible refine hc_.mono ?_); clear hc_; rintro e w5 ⟨v5, rfl, h5, f5⟩; obtain ⟨z5, rfl, h5⟩ := h5; obtain ⟨A5, c5, rfl⟩ := h5.slice; have G5 := Lib.hid h5; have F5 := Lib.hid ((Fr.refl (fun _ => False) wr).drew.trans f5 (fun _ h _ => h)); have s51 := fr_cell g1 F5.out; have s52 := fr_cell g2 F5.out; have s53 := fr_cell k2 F5.out; have s54 := fr_cell k3 F5.out; have s55 := fr_cell a2 F5.out; have s56 := fr_cell a3 F5.out; have s57 := fr_cell k1 F5.out; have s58 := fr_cell a1 F5.out; clear h5 f5)))
          all_goals
            have FW := F7
            go_wp2_with fail
            go_quiet (fail)
            have HR9 := Lib.hid (show nb l n x y k = k from by rw [HNB.out]; exact if_pos HB.out)
            go_wp2_with fail
            go_roundw
            case rel => exact ⟨k + 1, HKL.out, rfl, (by rw [if_neg (Nat.succ_ne_zero k), Nat.add_sub_cancel, HR9.out]), ZFr.blk_fr HG.out (FW.out.drewN _) (fun h => h), HF.out.trans (FW.out.drewN _) (fun _ h _ => h)⟩
            case measure => have := HKL.out; simp [intOf]; omega
        by_cases c2 : D1 = D2
        · by_cases c3 : I1 < I2
          · have HQ := Lib.hid (show sg (D1 - D2) = 0 from by unfold sg; rw [if_pos (by omega)])
            have HB := Lib.hid (HBT.out.2 (.inr ⟨c2, c3⟩))
            clear c1 c2
            go_wp2_with fail
            go_region_held3 (fun w' => w'.cell? ⟨w2.heap.size, 0, none⟩ = some (.int .i64 u) ∧ w'.cell? ⟨w2.heap.size, 1, none⟩ = some (.int .i64 v) ∧ w'.cell? ⟨(ad.add (k * 3)).block, (ad.add (k * 3)).off + 1, none⟩ = some (.int .i64 X1) ∧ w'.cell? ⟨(ad.add (k * 3)).block, (ad.add (k * 3)).off + 1 + 1, none⟩ = some (.int .i64 Y1) ∧ w'.cell? ⟨(ad.add (a * 3)).block, (ad.add (a * 3)).off + 1, none⟩ = some (.int .i64 X2) ∧ w'.cell? ⟨(ad.add (a * 3)).block, (ad.add (a * 3)).off + 1 + 1, none⟩ = some (.int .i64 Y2))
              (refine ⟨?_, ?_, ?_, ?_, ?_, ?_⟩ <;> first | with_reducible assumption)
              (first
                | ((go_at_call 31; have hc_ := cmp_walk D1 D2 _ _ (fun _ => False) w6 (fun _ h => h.elim) (Whole.mk (G5.out.fr K6.out (fun _ h => h))) (Whole.mk G6.out) L1.out L2.out; rw [HQ.out] at hc_; (with_reducible refine hc_.mono ?_); clear hc_; rintro e w7 ⟨rfl, f7⟩; have F7 := Lib.hid (F6.out.trans f7 (fun _ h _ => h)); have s71 := fr_cell g1 F7.out; have s72 := fr_cell g2 F7.out; have s73 := fr_cell k2 F7.out; have s74 := fr_cell k3 F7.out; have s75 := fr_cell a2 F7.out; have s76 := fr_cell a3 F7.out; have s77 := fr_cell k1 F7.out; have s78 := fr_cell a1 F7.out; clear f7))
                | ((go_at_call 32; have hc_ := far_walk u v X2 Y2 n (fun _ => False) w5 (fun _ h => h.elim) HN.out HU.out HV.out OK2.out.1 OK2.out.2; rw [M2.out] at hc_; (with_reducible refine hc_.mono ?_); clear hc_; rintro e w6 ⟨v6, rfl, h6, f6⟩; obtain ⟨z6, rfl, h6⟩ := h6; obtain ⟨A6, c6, rfl⟩ := h6.slice; have G6 := Lib.hid h6; have K6 := Lib.hid f6; have F6 := Lib.hid (F5.out.trans f6 (fun _ h _ => h)); have s61 := fr_cell g1 F6.out; have s62 := fr_cell g2 F6.out; have s63 := fr_cell k2 F6.out; have s64 := fr_cell k3 F6.out; have s65 := fr_cell a2 F6.out; have s66 := fr_cell a3 F6.out; have s67 := fr_cell k1 F6.out; have s68 := fr_cell a1 F6.out; clear h6 f6))
                | ((go_at_call 32; have hc_ := far_walk u v X1 Y1 n (fun _ => False) wr.drew (fun _ h => h.elim) HN.out HU.out HV.out OK1.out.1 OK1.out.2; rw [M1.out] at hc_; (with_reducible refine hc_.mono ?_); clear hc_; rintro e w5 ⟨v5, rfl, h5, f5⟩; obtain ⟨z5, rfl, h5⟩ := h5; obtain ⟨A5, c5, rfl⟩ := h5.slice; have G5 := Lib.hid h5; have F5 := Lib.hid ((Fr.refl (fun _ => False) wr).drew.trans f5 (fun _ h _ => h)); have s51 := fr_cell g1 F5.out; have s52 := fr_cell g2 F5.out; have s53 := fr_cell k2 F5.out; have s54 := fr_cell k3 F5.out; have s55 := fr_cell a2 F5.out; have s56 := fr_cell a3 F5.out; have s57 := fr_cell k1 F5.out; have s58 := fr_cell a1 F5.out; clear h5 f5)))
            all_goals
              have FW := F7
              go_wp2_with fail
              go_quiet (fail)
              have HR9 := Lib.hid (show nb l n x y k = k from by rw [HNB.out]; exact if_pos HB.out)
              go_wp2_with fail
              go_roundw
              case rel => exact ⟨k + 1, HKL.out, rfl, (by rw [if_neg (Nat.succ_ne_zero k), Nat.add_sub_cancel, HR9.out]), ZFr.blk_fr HG.out (FW.out.drewN _) (fun h => h), HF.out.trans (FW.out.drewN _) (fun _ h _ => h)⟩
              case measure => have := HKL.out; simp [intOf]; omega
          · have HQ := Lib.hid (show sg (D1 - D2) = 0 from by unfold sg; rw [if_pos (by omega)])
            have HB := Lib.hid (fun h => (HBT.out.1 h).elim c1 (fun h => c3 h.2))
            clear c1 c2
            go_wp2_with fail
            go_region_held3 (fun w' => w'.cell? ⟨w2.heap.size, 0, none⟩ = some (.int .i64 u) ∧ w'.cell? ⟨w2.heap.size, 1, none⟩ = some (.int .i64 v) ∧ w'.cell? ⟨(ad.add (k * 3)).block, (ad.add (k * 3)).off + 1, none⟩ = some (.int .i64 X1) ∧ w'.cell? ⟨(ad.add (k * 3)).block, (ad.add (k * 3)).off + 1 + 1, none⟩ = some (.int .i64 Y1) ∧ w'.cell? ⟨(ad.add (a * 3)).block, (ad.add (a * 3)).off + 1, none⟩ = some (.int .i64 X2) ∧ w'.cell? ⟨(ad.add (a * 3)).block, (ad.add (a * 3)).off + 1 + 1, none⟩ = some (.int .i64 Y2))
              (refine ⟨?_, ?_, ?_, ?_, ?_, ?_⟩ <;> first | with_reducible assumption)
              (first
                | ((go_at_call 31; have hc_ := cmp_walk D1 D2 _ _ (fun _ => False) w6 (fun _ h => h.elim) (Whole.mk (G5.out.fr K6.out (fun _ h => h))) (Whole.mk G6.out) L1.out L2.out; rw [HQ.out] at hc_; (with_reducible refine hc_.mono ?_); clear hc_; rintro e w7 ⟨rfl, f7⟩; have F7 := Lib.hid (F6.out.trans f7 (fun _ h _ => h)); have s71 := fr_cell g1 F7.out; have s72 := fr_cell g2 F7.out; have s73 := fr_cell k2 F7.out; have s74 := fr_cell k3 F7.out; have s75 := fr_cell a2 F7.out; have s76 := fr_cell a3 F7.out; have s77 := fr_cell k1 F7.out; have s78 := fr_cell a1 F7.out; clear f7))
                | ((go_at_call 32; have hc_ := far_walk u v X2 Y2 n (fun _ => False) w5 (fun _ h => h.elim) HN.out HU.out HV.out OK2.out.1 OK2.out.2; rw [M2.out] at hc_; (with_reducible refine hc_.mono ?_); clear hc_; rintro e w6 ⟨v6, rfl, h6, f6⟩; obtain ⟨z6, rfl, h6⟩ := h6; obtain ⟨A6, c6, rfl⟩ := h6.slice; have G6 := Lib.hid h6; have K6 := Lib.hid f6; have F6 := Lib.hid (F5.out.trans f6 (fun _ h _ => h)); have s61 := fr_cell g1 F6.out; have s62 := fr_cell g2 F6.out; have s63 := fr_cell k2 F6.out; have s64 := fr_cell k3 F6.out; have s65 := fr_cell a2 F6.out; have s66 := fr_cell a3 F6.out; have s67 := fr_cell k1 F6.out; have s68 := fr_cell a1 F6.out; clear h6 f6))
                | ((go_at_call 32; have hc_ := far_walk u v X1 Y1 n (fun _ => False) wr.drew (fun _ h => h.elim) HN.out HU.out HV.out OK1.out.1 OK1.out.2; rw [M1.out] at hc_; (with_reducible refine hc_.mono ?_); clear hc_; rintro e w5 ⟨v5, rfl, h5, f5⟩; obtain ⟨z5, rfl, h5⟩ := h5; obtain ⟨A5, c5, rfl⟩ := h5.slice; have G5 := Lib.hid h5; have F5 := Lib.hid ((Fr.refl (fun _ => False) wr).drew.trans f5 (fun _ h _ => h)); have s51 := fr_cell g1 F5.out; have s52 := fr_cell g2 F5.out; have s53 := fr_cell k2 F5.out; have s54 := fr_cell k3 F5.out; have s55 := fr_cell a2 F5.out; have s56 := fr_cell a3 F5.out; have s57 := fr_cell k1 F5.out; have s58 := fr_cell a1 F5.out; clear h5 f5)))
            all_goals
              have FW := F7
              go_wp2_with fail
              go_quiet (fail)
              have HR9 := Lib.hid (show nb l n x y k = a from by rw [HNB.out]; exact if_neg HB.out)
              go_wp2_with fail
              go_roundw
              case rel => exact ⟨k + 1, HKL.out, rfl, (by rw [if_neg (Nat.succ_ne_zero k), Nat.add_sub_cancel, HR9.out]), ZFr.blk_fr HG.out (FW.out.drewN _) (fun h => h), HF.out.trans (FW.out.drewN _) (fun _ h _ => h)⟩
              case measure => have := HKL.out; simp [intOf]; omega
        · have HQ := Lib.hid (show sg (D1 - D2) = 1 from by unfold sg; rw [if_neg (by omega), if_neg (by omega)])
          have HB := Lib.hid (fun h => (HBT.out.1 h).elim c1 (fun h => c2 h.1))
          clear c1 c2
          go_wp2_with fail
          go_region_held3 (fun w' => w'.cell? ⟨w2.heap.size, 0, none⟩ = some (.int .i64 u) ∧ w'.cell? ⟨w2.heap.size, 1, none⟩ = some (.int .i64 v) ∧ w'.cell? ⟨(ad.add (k * 3)).block, (ad.add (k * 3)).off + 1, none⟩ = some (.int .i64 X1) ∧ w'.cell? ⟨(ad.add (k * 3)).block, (ad.add (k * 3)).off + 1 + 1, none⟩ = some (.int .i64 Y1) ∧ w'.cell? ⟨(ad.add (a * 3)).block, (ad.add (a * 3)).off + 1, none⟩ = some (.int .i64 X2) ∧ w'.cell? ⟨(ad.add (a * 3)).block, (ad.add (a * 3)).off + 1 + 1, none⟩ = some (.int .i64 Y2))
            (refine ⟨?_, ?_, ?_, ?_, ?_, ?_⟩ <;> first | with_reducible assumption)
            (first
              | ((go_at_call 31; have hc_ := cmp_walk D1 D2 _ _ (fun _ => False) w6 (fun _ h => h.elim) (Whole.mk (G5.out.fr K6.out (fun _ h => h))) (Whole.mk G6.out) L1.out L2.out; rw [HQ.out] at hc_; (with_reducible refine hc_.mono ?_); clear hc_; rintro e w7 ⟨rfl, f7⟩; have F7 := Lib.hid (F6.out.trans f7 (fun _ h _ => h)); have s71 := fr_cell g1 F7.out; have s72 := fr_cell g2 F7.out; have s73 := fr_cell k2 F7.out; have s74 := fr_cell k3 F7.out; have s75 := fr_cell a2 F7.out; have s76 := fr_cell a3 F7.out; have s77 := fr_cell k1 F7.out; have s78 := fr_cell a1 F7.out; clear f7))
              | ((go_at_call 32; have hc_ := far_walk u v X2 Y2 n (fun _ => False) w5 (fun _ h => h.elim) HN.out HU.out HV.out OK2.out.1 OK2.out.2; rw [M2.out] at hc_; (with_reducible refine hc_.mono ?_); clear hc_; rintro e w6 ⟨v6, rfl, h6, f6⟩; obtain ⟨z6, rfl, h6⟩ := h6; obtain ⟨A6, c6, rfl⟩ := h6.slice; have G6 := Lib.hid h6; have K6 := Lib.hid f6; have F6 := Lib.hid (F5.out.trans f6 (fun _ h _ => h)); have s61 := fr_cell g1 F6.out; have s62 := fr_cell g2 F6.out; have s63 := fr_cell k2 F6.out; have s64 := fr_cell k3 F6.out; have s65 := fr_cell a2 F6.out; have s66 := fr_cell a3 F6.out; have s67 := fr_cell k1 F6.out; have s68 := fr_cell a1 F6.out; clear h6 f6))
              | ((go_at_call 32; have hc_ := far_walk u v X1 Y1 n (fun _ => False) wr.drew (fun _ h => h.elim) HN.out HU.out HV.out OK1.out.1 OK1.out.2; rw [M1.out] at hc_; (with_reducible refine hc_.mono ?_); clear hc_; rintro e w5 ⟨v5, rfl, h5, f5⟩; obtain ⟨z5, rfl, h5⟩ := h5; obtain ⟨A5, c5, rfl⟩ := h5.slice; have G5 := Lib.hid h5; have F5 := Lib.hid ((Fr.refl (fun _ => False) wr).drew.trans f5 (fun _ h _ => h)); have s51 := fr_cell g1 F5.out; have s52 := fr_cell g2 F5.out; have s53 := fr_cell k2 F5.out; have s54 := fr_cell k3 F5.out; have s55 := fr_cell a2 F5.out; have s56 := fr_cell a3 F5.out; have s57 := fr_cell k1 F5.out; have s58 := fr_cell a1 F5.out; clear h5 f5)))
          all_goals
            have FW := F7
            go_wp2_with fail
            go_quiet (fail)
            have HR9 := Lib.hid (show nb l n x y k = a from by rw [HNB.out]; exact if_neg HB.out)
            go_wp2_with fail
            go_roundw
            case rel => exact ⟨k + 1, HKL.out, rfl, (by rw [if_neg (Nat.succ_ne_zero k), Nat.add_sub_cancel, HR9.out]), ZFr.blk_fr HG.out (FW.out.drewN _) (fun h => h), HF.out.trans (FW.out.drewN _) (fun _ h _ => h)⟩
            case measure => have := HKL.out; simp [intOf]; omega
    · obtain rfl : k = l.length := by omega
      have hkl' : ¬ (l.length : Int) < l.length := by omega
      rw [if_neg (by omega)]
      clear hg hf hk hkl g1 g2
      go_wp2_with fail
      go_ret
      exact ⟨rfl, HF.out⟩
end Go.Proofs.Ytgaicbodpneeoaa.Big

