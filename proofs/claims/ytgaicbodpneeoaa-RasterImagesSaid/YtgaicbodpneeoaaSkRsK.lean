/- What is used of RsK. -/
import Derived.Test.YtgaicbodpneeoaaSkRsI
import Derived.Test.YtgaicbodpneeoaaSkRsJ
namespace Go.Proofs.Ytgaicbodpneeoaa.Rs
open Go.RowKit Go.Proofs.ZFr Go.Proofs.Ytgaicbodpneeoaa.PRasterImages Go.Proofs.Ytgaicbodpneeoaa.Wd Go.Proofs.YtgaicbodpneeoaaW.PrintWords
def cellsS (s : Sp) : List Value := [.int .i64 s.f, .int .i64 s.t, .int .i64 s.id]
theorem cellsS_len (s : Sp) : (cellsS s).length = 3 := rfl
theorem spansR_len : ∀ (S : List Part) (hi : Int), (spansR S hi).length = S.length
  | [], _ => rfl
  | p :: r, hi => by rw [spansR, List.length_cons, List.length_cons, spansR_len r]
/-- The parts' spans, the first one first. -/
def spl : List Part → Int → List Sp
  | [], _ => []
  | [p], hi => [⟨p.fr, hi, p.c.id⟩]
  | p :: q :: r, hi => ⟨p.fr, q.fr, p.c.id⟩ :: spl (q :: r) hi
theorem spl_snoc : ∀ (P : List Part) (p : Part) (hi : Int), spl (P ++ [p]) hi = spl P p.fr ++ [⟨p.fr, hi, p.c.id⟩]
  | [], _, _ => rfl
  | [q], p, hi => rfl
  | q :: q' :: r, p, hi => by
    have := spl_snoc (q' :: r) p hi
    simp only [List.cons_append] at this ⊢
    rw [spl, this, spl]
    rfl
theorem spans_rev : ∀ (S : List Part) (hi : Int), (spansR S hi).reverse = spl S.reverse hi
  | [], _ => rfl
  | p :: r, hi => by rw [spansR, List.reverse_cons, spans_rev r p.fr, List.reverse_cons, spl_snoc]
theorem spl_len (P : List Part) (hi : Int) : (spl P hi).length = P.length := by
  have := spans_rev P.reverse hi
  rw [List.reverse_reverse] at this
  rw [← this, List.length_reverse, spansR_len, List.length_reverse]
theorem spl_at : ∀ (P : List Part) (hi : Int) (k : Nat) (h : k < P.length), (spl P hi)[k]? = some ⟨P[k].fr, if h2 : k + 1 < P.length then P[k + 1].fr else hi, P[k].c.id⟩
  | [p], hi, 0, _ => rfl
  | [p], hi, k + 1, h => absurd h (by simp)
  | p :: q :: r, hi, 0, _ => by rw [spl]; simp
  | p :: q :: r, hi, k + 1, h => by
    have := spl_at (q :: r) hi k (by simpa using h)
    rw [spl, List.getElem?_cons_succ, this]
    simp
theorem spl_take (P : List Part) (hi : Int) (k : Nat) (h : k < P.length) : (spl P hi).take (k + 1) = (spl P hi).take k ++ [⟨P[k].fr, if h2 : k + 1 < P.length then P[k + 1].fr else hi, P[k].c.id⟩] := by
  have hk : k < (spl P hi).length := by rw [spl_len]; exact h
  rw [List.take_succ_eq_append_getElem hk]
  have := spl_at P hi k h
  rw [List.getElem?_eq_getElem hk] at this
  rw [Option.some.inj this]
theorem info_span : (Try.prog.info? 31).map (fun i => (i.zero, i.size, i.bytes)) = some (some (.agg #[.int .i64 0, .int .i64 0, .int .i64 0]), 3, 24) := by kernel_rfl
theorem row_two {w : World} {B B' : Nat} {e t : TypeId} {K K' : Nat} {v v' : Value} {n n' : Nat} {xs ys : List Value} (h : w.ownsRow B e K v n xs) (h' : w.ownsRow B' t K' v' n' ys) (ht : t ≠ e) (b : Nat) (hb : v.ownBlock = some b) (hb' : v'.ownBlock = some b) : False := by
  rcases h'.2 with ⟨rfl, rfl⟩ | ⟨g, cap, cur, rfl, _, hg, _⟩
  · simp [Value.ownBlock] at hb'
  · simp only [Value.ownBlock, Option.some.injEq] at hb'
    subst hb'
    exact row_ne h hg ht hb
/-- The row of a square. -/
def spn (l : List Site) (n row lo hi : Int) : List Sp := spl (lower (cones l n row) lo hi).reverse hi
theorem lower_len (L : List Cone) (lo hi : Int) (h1 : okX lo) (h2 : okX hi) (hok : ∀ x ∈ L, okC x) : (lower L lo hi).length ≤ L.length := by
  have go : ∀ (L : List Cone) (S : List Part), (∀ x ∈ L, okC x) → OkS S → (L.foldl (push lo hi) S).length ≤ S.length + L.length := by
    intro L
    induction L with
    | nil => intro S _ _; exact Nat.le_refl _
    | cons a L ih =>
      intro S h hs
      obtain ⟨i1, i2⟩ := push_in lo hi h1 h2 S a (h a (by simp)) hs
      have := ih (push lo hi S a) (fun x hx => h x (by simp [hx])) i1
      simp only [List.foldl_cons, List.length_cons]
      omega
  have := go L [] hok (fun p hp => by simp at hp)
  simpa [lower] using this
theorem okC_cones {l : List Site} {n row : Int} (hn : 1 ≤ n ∧ n ≤ 1073741824) (hr : 0 ≤ row ∧ row < n) (hok : ∀ x ∈ l, okSt n x) : ∀ c ∈ cones l n row, okC c := by
  intro c hc
  unfold cones at hc
  rw [List.mem_mergeSort] at hc
  unfold raw at hc
  rw [List.mem_flatMap] at hc
  obtain ⟨p, hp, hc⟩ := hc
  have h := hok p hp
  unfold okSt at h
  have hg : 0 ≤ gapd p.y row n ∧ gapd p.y row n ≤ 1073741824 := by unfold gapd dist; split <;> omega
  have hq : 0 ≤ gapd p.y row n * gapd p.y row n ∧ gapd p.y row n * gapd p.y row n ≤ 1152921504606846976 := by
    refine ⟨Int.mul_nonneg hg.1 hg.1, ?_⟩
    exact Int.le_trans (Int.mul_le_mul hg.2 hg.2 hg.1 (by decide)) (by decide)
  unfold three at hc
  simp only [List.mem_cons, List.not_mem_nil, or_false] at hc
  generalize gapd p.y row n * gapd p.y row n = D at *
  rcases hc with rfl | rfl | rfl
  all_goals
    unfold okC okX
    simp only
    omega
set_option maxRecDepth 100000 in
set_option maxHeartbeats 4000000 in
theorem spans_walk (A : Option Addr) (cp : Nat) (l : List Site) (n row lo hi : Int) (W : World) (hR : SiteC W A l) (hok : ∀ x ∈ l, okSt n x) (hn : 1 ≤ n ∧ n ≤ 1073741824) (hr : 0 ≤ row ∧ row < n) (hl : l.length ≤ 30) (h0 : l ≠ []) (h1 : okX lo) (h2 : okX hi) :
    Calls Try.prog 14 #[.slice A l.length cp, .int .i64 n, .int .i64 row, .int .i64 lo, .int .i64 hi] W fun e w' => ∃ v, e = .returned v ∧ w'.ownsRow W.heap.size 31 3 v (spn l n row lo hi).length ((spn l n row lo hi).flatMap cellsS) ∧ Fr (fun _ => False) W w' := by
  have HCO := Lib.hid (okC_cones hn hr hok)
  have HC := Lib.hid (cones_walk A cp l n row W hR hok hn hr (by omega) h0)
  have hlc : (cones l n row).length = 3 * l.length := by unfold cones; rw [List.length_mergeSort, raw_length]
  have HLL := Lib.hid (show (lower (cones l n row) lo hi).length ≤ 90 from by have := lower_len (cones l n row) lo hi h1 h2 HCO.out; omega)
  unfold spn
  obtain ⟨L, hL⟩ : ∃ L, cones l n row = L := ⟨_, rfl⟩
  rw [hL] at HC HCO hlc HLL ⊢
  obtain ⟨P, hP⟩ : ∃ P, (lower L lo hi).reverse = P := ⟨_, rfl⟩
  have hPl : (lower L lo hi).length = P.length := by rw [← hP, List.length_reverse]
  have HLO : Hid (∀ w g c, RowC w g L → Calls Try.prog 25 #[.slice (some ⟨g, 0, none⟩) L.length c, .int .i64 lo, .int .i64 hi] w fun e w' => ∃ v, e = .returned v ∧ w'.ownsRow w.heap.size 74 5 v P.length (P.flatMap cellsP) ∧ Fr (fun _ => False) w w') := Lib.hid (fun w g c h => by
    rw [← hPl, ← hP]
    exact lower_walk g c L lo hi w h HCO.out h1 h2 (by omega))
  have HPL : Hid (P.length ≤ 90) := Lib.hid (by rw [← hPl]; exact HLL.out)
  rw [hP]
  clear hR hok hn hr hl h0 h1 h2 hL HCO hlc hP hPl HLL
  go_enter Try.func14, Try.ntmps14
  go_upto_region 2 with (first
    | (go_at_call 25; have hc_ := HLO.out w2 g2 c2 R2.out; (with_reducible refine hc_.mono ?_); clear hc_; rintro e w3 ⟨v3, rfl, ho3, f3⟩; have O3 := Lib.hid (ZFr.row_low ho3 F2.out.size); have F3 := Lib.hid (F2.out.trans f3 (fun _ h _ => h)); clear ho3 f3)
    | (go_at_call 26; have hc_ := HC.out; (with_reducible refine hc_.mono ?_); clear hc_; rintro e w2 ⟨g2, c2, rfl, hr2, f2⟩; have R2 := Lib.hid hr2; have F2 := Lib.hid f2; clear hr2 f2))
  obtain ⟨pv, pc, rfl⟩ := row_slice O3.out
  go_wp2_with fail
  go_loopw [12, 13, 14, 15, 25] (fun v12 _ _ _ v25 wr => ∃ (k : Nat), k ≤ P.length ∧ v25 = .int .i64 (k : Int) ∧ wr.ownsRow W.heap.size 31 3 v12 k (((spl P hi).take k).flatMap cellsS) ∧ wr.ownsRow W.heap.size 74 5 (.slice pv P.length pc) P.length (P.flatMap cellsP) ∧ Fr (fun _ => False) W wr) (fun _ _ _ _ v25 _ => (P.length - intOf v25).toNat)
  case atStart => exact ⟨0, by omega, rfl, row_nil _ _ _ _, O3.out, F3.out⟩
  case round =>
    clear O3 F3
    obtain ⟨k, hk, rfl, hown, hop, hf⟩ := hrel
    have OW := Lib.hid hown
    have OP := Lib.hid hop
    have F := Lib.hid hf
    clear hown hop hf
    by_cases hkl : k < P.length
    · obtain ⟨q, c', hv⟩ := row_some OP.out (by omega)
      simp only [Value.slice.injEq, true_and] at hv
      obtain ⟨rfl, rfl⟩ := hv
      have cl : ∀ i (h : i < P.length) j u, (cellsP P[i])[j]? = some u → wr.cell? ⟨q, i * 5 + j, none⟩ = some u := fun i h j u hu => row_el cellsP_len OP.out h hu
      have l0 := cl k hkl 0 _ rfl
      have l1 := cl k hkl 1 _ rfl
      have l2 := cl k hkl 2 _ rfl
      have l3 := cl k hkl 3 _ rfl
      have l4 := cl k hkl 4 _ rfl
      rw [Nat.add_zero] at l0
      have HT := Lib.hid (spl_take P hi k hkl)
      have hkli : (k : Int) < P.length := by omega
      have hk100 : (k : Int) < 100 := by have := HPL.out; omega
      have e0 : IntKind.i64.wrap ((k : Int) + 1) = ((k + 1 : Nat) : Int) := by rw [Go.Proofs.YtgaicbodpneeoaaW.PrintLast.i64_w]; unfold wrap64; omega
      have HK8 := Lib.hid (show k ≤ 100000000 from by have := HPL.out; omega)
      obtain ⟨p, hp⟩ : ∃ p, P[k] = p := ⟨_, rfl⟩
      rw [hp] at l0 l1 l2 l3 l4 HT
      clear hp
      obtain ⟨⟨px, pd, pi⟩, pf⟩ := p
      simp only at l0 l1 l2 l3 l4 HT
      obtain ⟨d1, hd1⟩ : ∃ d1, hiW pd = d1 := ⟨_, rfl⟩
      obtain ⟨d2, hd2⟩ : ∃ d2, loW pd = d2 := ⟨_, rfl⟩
      rw [hd1] at l1
      rw [hd2] at l2
      clear hd1 hd2
      have T9 := Lib.hid (heap_alloc_new wr (Obj.cells #[Value.int IntKind.i64 px, Value.int IntKind.i64 d1, Value.int IntKind.u64 d2, Value.int IntKind.i64 pi, Value.int IntKind.i64 pf] 74))
      have F9 := Lib.hid (F.out.alloc (Obj.cells #[Value.int IntKind.i64 px, Value.int IntKind.i64 d1, Value.int IntKind.u64 d2, Value.int IntKind.i64 pi, Value.int IntKind.i64 pf] 74))
      have OW9 := Lib.hid (row_alloc OW.out (Obj.cells #[Value.int IntKind.i64 px, Value.int IntKind.i64 d1, Value.int IntKind.u64 d2, Value.int IntKind.i64 pi, Value.int IntKind.i64 pf] 74))
      have OP9 := Lib.hid (row_alloc OP.out (Obj.cells #[Value.int IntKind.i64 px, Value.int IntKind.i64 d1, Value.int IntKind.u64 d2, Value.int IntKind.i64 pi, Value.int IntKind.i64 pf] 74))
      by_cases hk1 : k + 1 < P.length
      · have n4 := row_el cellsP_len OP9.out hk1 (j := 4) rfl
        rw [dif_pos hk1] at HT
        have hk1i : ((k + 1 : Nat) : Int) < P.length := by omega
        obtain ⟨nf, hnf⟩ : ∃ nf, P[k + 1].fr = nf := ⟨_, rfl⟩
        rw [hnf] at n4 HT
        clear hnf cl
        go_upto_region 7 with fail
        clear l0 l1 l2 l3 l4
        obtain ⟨w9, hw9⟩ : ∃ w9, wr.alloc (Obj.cells #[Value.int IntKind.i64 px, Value.int IntKind.i64 d1, Value.int IntKind.u64 d2, Value.int IntKind.i64 pi, Value.int IntKind.i64 pf] 74) = w9 := ⟨_, rfl⟩
        obtain ⟨g9, hg9⟩ : ∃ g9, wr.heap.size = g9 := ⟨_, rfl⟩
        rw [hw9, hg9] at T9
        rw [hw9] at F9 OW9 OP9 n4
        rw [hw9, hg9]
        clear hw9 hg9
        obtain ⟨l0, l1, l2, l3, l4⟩ := part_cells T9.out
        go_wp2_with (at_builtin; refine wp_app (by rfl) (.tmp 42) (.tmp 50) 26 (by rfl) info_span Try.underlying26 (by rfl) (by decide) (by decide) (by rfl) OW9.out [.int .i64 pf, .int .i64 nf, .int .i64 pi] (by rfl) (by rfl) ?d1a HK8.out F9.out.size ?more1)
        case d1a => first | exact ⟨rfl, rfl, rfl⟩ | (intro u hu; simp at hu; rcases hu with rfl | rfl | rfl <;> rfl)
        case more1 =>
          intro p2 e2' w2 hown2 f2 _
          have OX := Lib.hid hown2
          have OP2 := Lib.hid (ZFr.row_fr OP9.out f2 (fun b hb hs => row_two OW9.out OP9.out (by decide) b hs hb))
          have F2 := Lib.hid (F9.out.trans f2 (fun b hb hlt => by have := row_own OW9.out b hb; omega))
          clear hown2 f2
          go_wp2_with fail
          go_roundw
          case rel =>
            refine ⟨k + 1, by omega, by go_num, ?_, OP2.out, F2.out⟩
            rw [HT.out, List.flatMap_append]
            exact OX.out
          case measure => simp [intOf]; omega
      · rw [dif_neg hk1] at HT
        have hk1i : ¬ ((k + 1 : Nat) : Int) < P.length := by omega
        clear cl
        go_upto_region 7 with fail
        clear l0 l1 l2 l3 l4
        obtain ⟨w9, hw9⟩ : ∃ w9, wr.alloc (Obj.cells #[Value.int IntKind.i64 px, Value.int IntKind.i64 d1, Value.int IntKind.u64 d2, Value.int IntKind.i64 pi, Value.int IntKind.i64 pf] 74) = w9 := ⟨_, rfl⟩
        obtain ⟨g9, hg9⟩ : ∃ g9, wr.heap.size = g9 := ⟨_, rfl⟩
        rw [hw9, hg9] at T9
        rw [hw9] at F9 OW9 OP9
        rw [hw9, hg9]
        clear hw9 hg9
        obtain ⟨l0, l1, l2, l3, l4⟩ := part_cells T9.out
        go_wp2_with (at_builtin; refine wp_app (by rfl) (.tmp 42) (.tmp 50) 26 (by rfl) info_span Try.underlying26 (by rfl) (by decide) (by decide) (by rfl) OW9.out [.int .i64 pf, .int .i64 hi, .int .i64 pi] (by rfl) (by rfl) ?d1b HK8.out F9.out.size ?more2)
        case d1b => first | exact ⟨rfl, rfl, rfl⟩ | (intro u hu; simp at hu; rcases hu with rfl | rfl | rfl <;> rfl)
        case more2 =>
          intro p2 e2' w2 hown2 f2 _
          have OX := Lib.hid hown2
          have OP2 := Lib.hid (ZFr.row_fr OP9.out f2 (fun b hb hs => row_two OW9.out OP9.out (by decide) b hs hb))
          have F2 := Lib.hid (F9.out.trans f2 (fun b hb hlt => by have := row_own OW9.out b hb; omega))
          clear hown2 f2
          go_wp2_with fail
          go_roundw
          case rel =>
            refine ⟨k + 1, by omega, by go_num, ?_, OP2.out, F2.out⟩
            rw [HT.out, List.flatMap_append]
            exact OX.out
          case measure => simp [intOf]; omega
    · have hke : k = P.length := by omega
      subst hke
      go_wp2_with fail
      go_ret
      refine ⟨_, rfl, ?_, F.out⟩
      rw [spl_len]
      have h := OW.out
      rw [List.take_of_length_le (by rw [spl_len]; exact Nat.le_refl _)] at h
      exact h
end Go.Proofs.Ytgaicbodpneeoaa.Rs

