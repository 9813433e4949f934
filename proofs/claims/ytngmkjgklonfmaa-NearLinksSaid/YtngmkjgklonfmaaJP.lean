/- Joined texts. -/
import Derived.Test.YtngmkjgklonfmaaJO
import Derived.Test.YtngmkjgklonfmaaJC
import Derived.Laws.IdiomArrays
import Derived.Deep.SlicePairs
import Derived.ChangeSame
/- The law NearLinks walked. -/
namespace Go.Proofs.Ytngmkjgklonfmaa.Lk
open Go.RowKit Go.Lib Go.Proofs.ZFr Go.Proofs.Ytngmkjgklonfmaa.PNearLinks Go.Proofs.YtngmkjgklonfmaaW.PrintWords
theorem same_go (l : List S91) (hl : l.length ≤ 100) : ∀ (e i k : Nat), i + e = l.length → e < k → zelligeref28_Same.l0 k l l (i : Int) = some true
  | 0, i, k, hi, hk => by
    obtain ⟨k, rfl⟩ : ∃ m, k = m + 1 := ⟨k - 1, by omega⟩
    rw [zelligeref28_Same.l0, if_neg (by omega)]
  | e + 1, i, k, hi, hk => by
    obtain ⟨k, rfl⟩ : ∃ m, k = m + 1 := ⟨k - 1, by omega⟩
    have hw : wrap64 ((i : Int) + 1) = ((i + 1 : Nat) : Int) := by unfold wrap64; omega
    rw [zelligeref28_Same.l0, if_pos (by omega), if_pos (by omega), if_pos (by omega), hw, same_go l hl e (i + 1) k (by omega) (by omega)]
    simp
theorem same_f (l : List S91) (hl : l.length ≤ 100) : zelligeref28_Same.f 200 l l = some true := by
  unfold zelligeref28_Same.f
  rw [if_pos rfl]
  exact same_go l hl l.length 0 200 (by omega) (by omega)
/-- A face's cells, and all faces' cells. -/
def nine (f : Fa) : List Value := [.int .i64 (f 0), .int .i64 (f 1), .int .i64 (f 2), .int .i64 (f 3), .int .i64 (f 4), .int .i64 (f 5), .int .i64 (f 6), .int .i64 (f 7), .int .i64 (f 8)]
def flatF (l : List Fa) : List Value := l.flatMap nine
theorem flatF_len (l : List Fa) : (flatF l).length = l.length * 9 := by
  induction l with
  | nil => rfl
  | cons p l ih => simp only [flatF, List.flatMap_cons, List.length_append, List.length_cons] at *; rw [ih]; simp [nine]; omega
theorem nine_at (f : Fa) (t : Nat) (h : t < 9) : (nine f)[t]? = some (.int .i64 (f t)) := by
  match t, h with
  | 0, _ => rfl
  | 1, _ => rfl
  | 2, _ => rfl
  | 3, _ => rfl
  | 4, _ => rfl
  | 5, _ => rfl
  | 6, _ => rfl
  | 7, _ => rfl
  | 8, _ => rfl
theorem flatF_at : ∀ (l : List Fa) (i t : Nat) (hi : i < l.length), t < 9 → (flatF l)[i * 9 + t]? = some (.int .i64 (l[i] t))
  | p :: l, 0, t, _, ht => by
    rw [show flatF (p :: l) = nine p ++ flatF l from rfl, List.getElem?_append_left (by simp [nine]; omega), Nat.zero_mul, Nat.zero_add, nine_at p t ht]; rfl
  | p :: l, i + 1, t, hi, ht => by
    rw [show flatF (p :: l) = nine p ++ flatF l from rfl, List.getElem?_append_right (by simp [nine]; omega), show (i + 1) * 9 + t - (nine p).length = i * 9 + t from by simp [nine]; omega, flatF_at l i t (by simpa using hi) ht]; rfl
theorem flatF_one (l : List Fa) : ∀ u ∈ flatF l, u.oneCell' = true := by
  intro u hu
  unfold flatF at hu
  rw [List.mem_flatMap] at hu
  obtain ⟨f, _, hf⟩ := hu
  simp [nine] at hf
  rcases hf with rfl | rfl | rfl | rfl | rfl | rfl | rfl | rfl | rfl <;> rfl
/-- Faces that came in. -/
def FIn (w : World) (A : Option Addr) (l : List Fa) : Prop := ∀ i (h : i < l.length), ∃ ad, A = some ad ∧ ∀ t, t < 9 → w.cell? (ad.add (i * 9 + t)) = some (.int .i64 (l[i] t))
theorem FIn.fas {w : World} {A : Option Addr} {l : List Fa} (h : FIn w A l) : Fas w A l := fun i hi => by
  obtain ⟨ad, e, hc⟩ := h i hi
  refine ⟨ad, e, hc 0 (by decide), fun j h0 h9 => ?_⟩
  rw [← hc j h9]
  congr 1
  unfold Addr.add
  by_cases hz : i * 9 = 0
  · rw [if_pos hz, if_neg (by omega), hz, Nat.zero_add]
  · rw [if_neg hz, if_neg (by omega)]; simp only [Nat.add_assoc]
theorem FIn.fr {w w' : World} {A : Option Addr} {l : List Fa} (h : FIn w A l) (hf : Fr (fun _ => False) w w') : FIn w' A l := fun i hi => by
  obtain ⟨ad, e, h1⟩ := h i hi
  exact ⟨ad, e, fun t ht => fcell_fr (h1 t ht) hf⟩
theorem FIn.take {w : World} {A : Option Addr} {l : List Fa} (h : FIn w A l) (n : Nat) : FIn w A (l.take n) := fun i hi => by
  have hi' : i < l.length := by rw [List.length_take] at hi; omega
  obtain ⟨ad, e, h1⟩ := h i hi'
  refine ⟨ad, e, fun t ht => ?_⟩
  rw [h1 t ht, List.getElem_take]
theorem FIn.news {w : World} {ad : Addr} {l : List Fa} (h : FIn w (some ad) l) : ∀ (j : Nat) (u : Value), (flatF l)[j]? = some u → w.cell? (ad.add j) = some u := fun j u hj => by
  have hjl := (List.getElem?_eq_some_iff.1 hj).1
  rw [flatF_len] at hjl
  have hi : j / 9 < l.length := by omega
  obtain ⟨ad', e, h1⟩ := h (j / 9) hi
  simp only [Option.some.injEq] at e
  subst e
  have h2 := h1 (j % 9) (by omega)
  have h3 := flatF_at l (j / 9) (j % 9) hi (by omega)
  rw [show j / 9 * 9 + j % 9 = j from by omega] at h2 h3
  rw [h2, ← h3, hj]
theorem row_faces {w : World} {B c : Nat} {p : Option Addr} {l : List Fa} (h : w.ownsRow B 63 9 (.slice p l.length c) l.length (flatF l)) : FIn w p l := fun i hi => by
  obtain ⟨g, c', hv⟩ := row_some h (by omega)
  simp only [Value.slice.injEq] at hv
  obtain ⟨rfl, _, rfl⟩ := hv
  obtain ⟨_, h | ⟨g', cap, cur, he, _, hg, hn, hc, hs, ht⟩⟩ := h
  · simp at h
  · simp only [Value.slice.injEq, Option.some.injEq, Addr.mk.injEq, and_true, true_and] at he
    obtain ⟨rfl, rfl⟩ := he
    refine ⟨_, rfl, fun t ht9 => ?_⟩
    have ea : (⟨g, 0, none⟩ : Addr).add (i * 9 + t) = ⟨g, i * 9 + t, none⟩ := by unfold Addr.add; split <;> simp_all
    rw [ea, ZFr.blk_cell hg]
    have h9 := flatF_at l i t hi ht9
    rw [← ht, List.getElem?_take, if_pos (by omega), Array.getElem?_toList] at h9
    exact h9
theorem info63 : (Try.prog.info? 63).map (fun i => (i.zero, i.size, i.bytes)) = some (some (.agg #[.int .i64 0, .int .i64 0, .int .i64 0, .int .i64 0, .int .i64 0, .int .i64 0, .int .i64 0, .int .i64 0, .int .i64 0]), 9, 72) := by kernel_rfl
/-- 'append' of one's own row, behind a guard that lets it. -/
theorem append_g {P : Program} {w : World} {ops : Array Oper} {rest : List Oper} {o : Oper} {a : Act} {Q : Exit → Act → World → Prop} (hgd : Region.wanted o (yielded ops a.tmps) = true) (s x : Operand) (t : TypeId)
    (ho : o.op = .call { callee := .builtin .append, args := #[s, x], argTypes := #[t, t] })
    (base : Nat) (e : TypeId) (i : TypeInfo) (z : Value) (size bytes : Nat) (ht : P.underlying t = some (.slice e)) (hi : P.info? e = some i) (hz : i.zero = some z)
    (hsize : i.size = size) (hby : i.bytes = bytes) (hzs : z.cells.size = size) (hsz : 0 < size)
    (v : Value) (n : Nat) (xs : List Value) (hs : a.eval s = v) (hown : w.ownsRow base e size v n xs)
    (ad : Addr) (m c : Nat) (news : List Value) (hx : a.eval x = .slice (some ad) m c) (hl : news.length = m * size) (hnews : ∀ j u, news[j]? = some u → w.cell? (ad.add j) = some u) (h1 : ∀ u ∈ news, u.oneCell' = true)
    (h63 : n + m ≤ maxLen) (hbytes : (n + m) * bytes ≤ 140737488355328) (hbase : base ≤ w.heap.size)
    (h : ∀ v' w', w'.ownsRow base e size v' (n + m) (xs ++ news) → w.grownBy w' v.ownBlock → wpList P ops Q rest (a.put o.dst v') w') :
    wpList P ops Q (o :: rest) a w := by
  refine wpList_step fun K hK => ?_
  rw [if_pos hgd]
  obtain ⟨v', w', hr, h2, h3, h4, h5⟩ := run_append_own_at (P := P) w base t o.type e i z size bytes ht hi hz hsize hby hzs hsz v n xs hown ad m c news hl hnews h1 h63 hbytes hbase
  unfold Oper.wp execOp
  simp only [ho, resolve, invoke, builtin, Sem.run_bind, Sem.run_pure, Result.andThen_ok, List.map_toArray, List.map_cons, List.map_nil, hs, hx, hr]
  exact hK _ _ (h v' w' h2 h3)
theorem row_facesN {w : World} {B c n : Nat} {p : Option Addr} {l : List Fa} (hn : l.length = n) (h : w.ownsRow B 63 9 (.slice p n c) n (flatF l)) : FIn w p l := by
  subst hn; exact row_faces h
theorem own_low {W w : World} {k : Nat} (hk : (Value.slice (some ⟨w.heap.size, 0, none⟩) 0 0).ownBlock = some k) (hf : Fr (fun _ => False) W w) : W.heap.size ≤ k := by
  simp only [Value.ownBlock, Option.some.injEq] at hk
  subst hk; exact hf.size
theorem row0 (w : World) : (w.alloc (.cells #[] 63)).ownsRow w.heap.size 63 9 (.slice (some ⟨w.heap.size, 0, none⟩) 0 0) 0 [] := ⟨rfl, .inr ⟨w.heap.size, 0, #[], rfl, Nat.le_refl _, heap_alloc_new w _, Nat.le_refl _, Nat.zero_le _, rfl, rfl⟩⟩
set_option maxRecDepth 100000 in
set_option maxHeartbeats 4000000 in
theorem law_links (A : Option Addr) (c : Nat) (l : List Fa) (id : Int) (W : World) (hp : FIn W A l) (hc : l.length ≤ c) : Calls Try.prog 7 #[.slice A l.length c, .int .i64 id] W fun e w' => e = .returned (.bool true) ∧ Fr (fun _ => False) W w' := by
  have LV := Lib.hid Wd.lives28
  obtain ⟨L, hL⟩ : ∃ L, l.take 14 = L := ⟨_, rfl⟩
  have PL := Lib.hid (show FIn W A L from hL ▸ hp.take 14)
  have H14 := Lib.hid (show L.length ≤ 14 from by rw [← hL, List.length_take]; omega)
  have HLC := Lib.hid (show L.length ≤ c from by rw [← hL, List.length_take]; omega)
  have HLL := Lib.hid (show (14 < l.length → L.length = 14) ∧ (¬ 14 < l.length → L.length = l.length) from by rw [← hL, List.length_take]; omega)
  clear hL
  have HP := Lib.hid hp
  have HC := Lib.hid hc
  clear hp hc
  go_enter Try.func7, Try.ntmps7
  go_upto_if 10 with fail
  go_cut [0] (fun s wx => s = .slice A L.length c ∧ wx = W)
  case first =>
    by_cases h14 : 14 < l.length
    · obtain ⟨ad, rfl, hcl⟩ := HP.out 0 (by omega)
      clear hcl
      have h1 : (14 : Int) < (l.length : Int) := by omega
      have h2 : (14 : Int) ≤ (c : Int) := by have := HC.out; omega
      have h3 := HLL.out.1 h14
      clear h14
      go_wp2_with fail
      go_meet
      exact ⟨by rw [h3], rfl⟩
    · have h1 : ¬ (14 : Int) < (l.length : Int) := by omega
      have h3 := HLL.out.2 h14
      clear h14
      go_wp2_with fail
      go_meet
      exact ⟨by rw [h3], rfl⟩
  case rest =>
    obtain ⟨rfl, rfl⟩ := hcut
    clear HP HC HLL
    go_wp2_with fail
    go_loopw [5] (fun i wr => ∃ k : Nat, k ≤ L.length ∧ i = .int .i64 (k : Int) ∧ (∀ j (h : j < L.length), j < k → smF L[j]) ∧ Fr (fun _ => False) wc wr) (fun i _ => (L.length - intOf i).toNat)
    case atStart => exact ⟨0, by omega, rfl, fun j _ h => absurd h (by omega), Fr.refl _ _⟩
    case round =>
      obtain ⟨k, hk, rfl, hsm, hf⟩ := hrel
      have HSM := Lib.hid hsm
      have HF := Lib.hid hf
      clear hsm hf
      by_cases hkl : k < L.length
      · have hk100 : (k : Int) < 100 := by have := H14.out; omega
        have hkli : (k : Int) < L.length := by omega
        have HFC := Lib.hid (fun (w' : World) (h : Fr (fun _ => False) wc w') => ((PL.out.fr h).fas k hkl))
        obtain ⟨ad, rfl, hcl⟩ := HFC.out wc (Fr.refl _ _)
        clear hcl
        have FC := Lib.hid (fun (w' : World) (h : Fr (fun _ => False) wc w') => (show fc w' (ad.add (k * 9)) L[k] from by
          obtain ⟨ad', he, h9⟩ := HFC.out w' h
          simp only [Option.some.injEq] at he
          subst he
          exact h9))
        have HNX := Lib.hid (fun (hs : smF L[k]) => (show ∀ j (h : j < L.length), j < k + 1 → smF L[j] from fun j h hj => by
          by_cases e : j = k
          · subst e; exact hs
          · exact HSM.out j h (by omega)))
        clear HFC HSM
        generalize L[k] = f at FC HNX
        obtain ⟨wo, rfl⟩ : ∃ wo : World, wo = wr := ⟨_, rfl⟩
        go_wp2_with fail
        go_loopw [6] (fun i wr => ∃ j : Nat, j ≤ 3 ∧ i = .int .i64 (j : Int) ∧ (∀ t, 3 ≤ t → t < 3 + 2 * j → -1125899906842624 ≤ f t ∧ f t ≤ 1125899906842624) ∧ Fr (fun _ => False) wc wr) (fun i _ => (3 - intOf i).toNat)
        case atStart => exact ⟨0, by omega, rfl, fun t h1 h2 => absurd h2 (by omega), HF.out⟩
        case round =>
          clear HF
          obtain ⟨j, hj, rfl, hb, hf⟩ := hrel
          have HB := Lib.hid hb
          have HF := Lib.hid hf
          clear hb hf
          by_cases hj3 : j < 3
          · have hjd : (j : Int) < 3 := by omega
            have fcw := FC.out wr HF.out
            have q0 := fcw.2 (3 + j * 2) (by omega) (by omega)
            have q1 := fcw.2 (3 + j * 2 + 1) (by omega) (by omega)
            rw [← Nat.add_assoc] at q0
            rw [← Nat.add_assoc, ← Nat.add_assoc] at q1
            obtain ⟨x, hx⟩ : ∃ x, f (3 + j * 2) = x := ⟨_, rfl⟩
            obtain ⟨y, hy⟩ : ∃ y, f (3 + j * 2 + 1) = y := ⟨_, rfl⟩
            rw [hx] at q0
            rw [hy] at q1
            have HX := Lib.hid hx
            have HY := Lib.hid hy
            clear hx hy fcw
            have T3 := Lib.hid (heap_alloc_new wr (.cells #[.int .i64 x, .int .i64 y] 59))
            have F3 := Lib.hid (HF.out.alloc (.cells #[.int .i64 x, .int .i64 y] 59))
            go_upto_region 10 with fail
            clear q0 q1
            generalize wr.alloc (.cells #[.int .i64 x, .int .i64 y] 59) = w3 at T3 F3 ⊢
            generalize wr.heap.size = b3 at T3 ⊢
            have c0 := ZFr.blk_cell T3.out 0
            have c1 := ZFr.blk_cell T3.out 1
            by_cases h0 : 1125899906842624 < x
            · go_wp2_with (go_at_call 11; have hc_ := LV.out w3; (with_reducible refine hc_.mono ?_); clear hc_; rintro e w4 ⟨rfl, f4⟩; have F4 := Lib.hid f4; clear f4)
              go_ret
              exact ⟨rfl, F3.out.trans F4.out (fun _ h _ => h)⟩
            by_cases h1 : x < -1125899906842624
            · go_wp2_with (go_at_call 11; have hc_ := LV.out w3; (with_reducible refine hc_.mono ?_); clear hc_; rintro e w4 ⟨rfl, f4⟩; have F4 := Lib.hid f4; clear f4)
              go_ret
              exact ⟨rfl, F3.out.trans F4.out (fun _ h _ => h)⟩
            by_cases h2 : 1125899906842624 < y
            · go_wp2_with (go_at_call 11; have hc_ := LV.out w3; (with_reducible refine hc_.mono ?_); clear hc_; rintro e w4 ⟨rfl, f4⟩; have F4 := Lib.hid f4; clear f4)
              go_ret
              exact ⟨rfl, F3.out.trans F4.out (fun _ h _ => h)⟩
            by_cases h3 : y < -1125899906842624
            · go_wp2_with (go_at_call 11; have hc_ := LV.out w3; (with_reducible refine hc_.mono ?_); clear hc_; rintro e w4 ⟨rfl, f4⟩; have F4 := Lib.hid f4; clear f4)
              go_ret
              exact ⟨rfl, F3.out.trans F4.out (fun _ h _ => h)⟩
            have HOK := Lib.hid (show (-1125899906842624 ≤ x ∧ x ≤ 1125899906842624) ∧ -1125899906842624 ≤ y ∧ y ≤ 1125899906842624 from by omega)
            go_wp2_with fail
            go_roundw
            case rel =>
              refine ⟨j + 1, by omega, by go_num, fun t h1 h2 => ?_, F3.out⟩
              by_cases e0 : t = 3 + j * 2
              · rw [e0, HX.out]; exact HOK.out.1
              · by_cases e1 : t = 3 + j * 2 + 1
                · rw [e1, HY.out]; exact HOK.out.2
                · exact HB.out t h1 (by omega)
            case measure => simp [intOf]; omega
          · have hje : j = 3 := by omega
            subst hje
            go_wp2_with fail
            go_roundw
            case rel => exact ⟨k + 1, by omega, by go_num, HNX.out (fun t h1 h2 => HB.out t h1 (by omega)), HF.out⟩
            case measure => simp [intOf]; omega
      · have hke : k = L.length := by omega
        subst hke
        have HSF := Lib.hid (show ∀ f ∈ L, smF f from fun f hf => by
          obtain ⟨j, hj, rfl⟩ := List.getElem_of_mem hf
          exact HSM.out j hj hj)
        clear HSM
        obtain ⟨i0, hi0, hz0, hz1, hz2⟩ := info_parts info63
        have H30 : L.length ≤ 30 := by have := H14.out; omega
        have H100 : L.length ≤ 100 := by have := H14.out; omega
        have HLN := Lib.hid (show (insAll (lks L)).length ≤ 100 from by have h1 := insAll_len (lks L); have h2 := lks_len L; have := H14.out; omega)
        have LK := Lib.hid (fun p d w (h : FIn w p L) => links_walk p d L w H100 h.fas HSF.out)
        have DK := Lib.hid (fun w (h : Fr (fun _ => False) wc w) => dlinks_walk A c L w H100 (PL.out.fr h).fas HSF.out)
        have BK := Lib.hid (fun p d w (h : FIn w p L) => beside_walk p d L id w H100 h.fas)
        have DB := Lib.hid (fun w (h : Fr (fun _ => False) wc w) => dbeside_walk A c L id w H30 (PL.out.fr h).fas HSF.out)
        have SA := Lib.hid (fun p d p2 d2 w (h1 : Kd.C k91 w p (insAll (lks L)).length (insAll (lks L))) (h2 : (insAll (lks L)).length ≤ d) (h3 : Kd.C k91 w p2 (insAll (lks L)).length (insAll (lks L))) (h4 : (insAll (lks L)).length ≤ d2) => zelligeref28_Same.calls 200 p d (insAll (lks L)) p2 d2 (insAll (lks L)) true w h1 h2 h3 h4 (same_f _ HLN.out))
        have HBN := Lib.hid (show (bsd (insAll (lks L)) id).length ≤ 100 from by have h1 := bsd_len (insAll (lks L)) id; have := HLN.out; omega)
        have IA := Lib.hid (fun p d p2 d2 w (h1 : Kd.C (Kd.int .i64) w p (bsd (insAll (lks L)) id).length (bsd (insAll (lks L)) id)) (h2 : (bsd (insAll (lks L)) id).length ≤ d) (h3 : Kd.C (Kd.int .i64) w p2 (bsd (insAll (lks L)) id).length (bsd (insAll (lks L)) id)) (h4 : (bsd (insAll (lks L)) id).length ≤ d2) => zelligeref10_Ints.calls 200 p d (bsd (insAll (lks L)) id) p2 d2 (bsd (insAll (lks L)) id) true w h1 h2 h3 h4 (ints_f _ HBN.out))
        clear H30 H100
        go_upto_region 12 with fail
        obtain ⟨n, hn⟩ : ∃ n, L.length = n := ⟨_, rfl⟩
        have HN := Lib.hid hn
        have H14N := Lib.hid (show n ≤ 14 from by have := H14.out; omega)
        rw [hn] at LK DK BK DB ⊢
        clear hn
        generalize insAll (lks L) = ls at *
        generalize bsd ls id = bs at *
        cases A with
        | none =>
          have hn0 : L.length = 0 := by
            by_cases h : 0 < L.length
            · obtain ⟨_, h', _⟩ := PL.out 0 h
              cases h'
            · omega
          have TR := Lib.hid (fun (w : World) (p : Option Addr) => (show FIn w p L from fun i hi => absurd hi (by omega)))
          have hn9 : n = 0 := by rw [← HN.out]; exact hn0
          subst hn9
          clear hn0
          go_wp2_with (first
            | (go_at_call 11; have hc_ := LV.out w9; (with_reducible refine hc_.mono ?_); clear hc_; rintro e wA ⟨rfl, fA⟩; have FA := Lib.hid (F9.out.trans fA (fun _ h _ => h)); clear fA)
            | (go_at_call 22; have hc_ := IA.out p7 d7 p8 d8 w8 (Kd.C_below C7.out K8.out) D7.out C8.out D8.out; (with_reducible refine hc_.mono ?_); clear hc_; rintro e w9 ⟨rfl, f9⟩; have F9 := Lib.hid (F8.out.trans (fr_drawn f9) (fun _ h _ => h)); clear f9)
            | (go_at_call 28; have hc_ := DB.out w7 F7.out; (with_reducible refine hc_.mono ?_); clear hc_; rintro e w8 ⟨p8, d8, rfl, hd8, hC8, f8⟩; have D8 := Lib.hid hd8; have C8 := Lib.hid hC8; have K8 := Lib.hid (f8.below w7.heap.size (Nat.le_refl _) (fun _ h => h.elim)); have F8 := Lib.hid (F7.out.trans f8 (fun _ h _ => h)); clear hd8 hC8 f8)
            | (go_at_call 27; have hc_ := BK.out (some ⟨w4.heap.size, 0, none⟩) 0 (w4.alloc (.cells #[] 63)) (TR.out _ _); (with_reducible refine hc_.mono ?_); clear hc_; rintro e w7 ⟨p7, d7, rfl, hd7, hC7, f7⟩; have D7 := Lib.hid hd7; have C7 := Lib.hid hC7; have F7 := Lib.hid ((F4.out.alloc _).trans f7 (fun _ h _ => h)); clear hd7 hC7 f7)
            | (go_at_call 24; have hc_ := SA.out p2 d2 p3 d3 w3 (Kd.C_below C2.out K3.out) D2.out C3.out D3.out; (with_reducible refine hc_.mono ?_); clear hc_; rintro e w4 ⟨rfl, f4⟩; have F4 := Lib.hid (F3.out.trans (fr_drawn f4) (fun _ h _ => h)); clear f4)
            | (go_at_call 26; have hc_ := DK.out w2 F2.out; (with_reducible refine hc_.mono ?_); clear hc_; rintro e w3 ⟨p3, d3, rfl, hd3, hC3, f3⟩; have D3 := Lib.hid hd3; have C3 := Lib.hid hC3; have K3 := Lib.hid (f3.below w2.heap.size (Nat.le_refl _) (fun _ h => h.elim)); have F3 := Lib.hid (F2.out.trans f3 (fun _ h _ => h)); clear hd3 hC3 f3)
            | (go_at_call 25; have hc_ := LK.out (some ⟨wr.heap.size, 0, none⟩) 0 (wr.alloc (.cells #[] 63)) (TR.out _ _); (with_reducible refine hc_.mono ?_); clear hc_; rintro e w2 ⟨p2, d2, rfl, hd2, hC2, f2⟩; have D2 := Lib.hid hd2; have C2 := Lib.hid hC2; have F2 := Lib.hid ((HF.out.alloc _).trans f2 (fun _ h _ => h)); clear hd2 hC2 f2))
          go_ret
          exact ⟨rfl, FA.out⟩
        | some ad =>
          go_wp2_with (first
            | (go_at_call 11; have hc_ := LV.out w9; (with_reducible refine hc_.mono ?_); clear hc_; rintro e wA ⟨rfl, fA⟩; have FA := Lib.hid (F9.out.trans fA (fun _ h _ => h)); clear fA)
            | (go_at_call 22; have hc_ := IA.out p7 d7 p8 d8 w8 (Kd.C_below C7.out K8.out) D7.out C8.out D8.out; (with_reducible refine hc_.mono ?_); clear hc_; rintro e w9 ⟨rfl, f9⟩; have F9 := Lib.hid (F8.out.trans (fr_drawn f9) (fun _ h _ => h)); clear f9)
            | (go_at_call 28; have hc_ := DB.out w7 F7.out; (with_reducible refine hc_.mono ?_); clear hc_; rintro e w8 ⟨p8, d8, rfl, hd8, hC8, f8⟩; have D8 := Lib.hid hd8; have C8 := Lib.hid hC8; have K8 := Lib.hid (f8.below w7.heap.size (Nat.le_refl _) (fun _ h => h.elim)); have F8 := Lib.hid (F7.out.trans f8 (fun _ h _ => h)); clear hd8 hC8 f8)
            | (go_at_call 27; have hc_ := BK.out p6 c6 w6 I6.out; (with_reducible refine hc_.mono ?_); clear hc_; rintro e w7 ⟨p7, d7, rfl, hd7, hC7, f7⟩; have D7 := Lib.hid hd7; have C7 := Lib.hid hC7; have F7 := Lib.hid (F6.out.trans f7 (fun _ h _ => h)); clear hd7 hC7 f7)
            | (at_builtin; refine append_g (by rfl) (.tmp 57) (.tmp 58) 57 (by rfl) w4.heap.size 63 i0 _ 9 72 Try.underlying57 hi0 hz0 hz1 hz2 rfl (by decide) (.slice (some ⟨w4.heap.size, 0, none⟩) 0 0) 0 [] rfl (row0 w4) ad n c (flatF L) rfl (by rw [flatF_len, HN.out]) (FIn.news (PL.out.fr (F4.out.alloc _))) (flatF_one L) (by have h1 := H14N.out; unfold maxLen; omega) (by have h1 := H14N.out; omega) (by simp) ?_; intro v6 w6 hown6 hg6; rw [Nat.zero_add, List.nil_append] at hown6; obtain ⟨p6, c6, rfl⟩ := row_slice hown6; have I6 := Lib.hid (row_facesN HN.out hown6); have F6 := Lib.hid ((F4.out.alloc _).grown hg6 (fun k hk => .inr (own_low hk F4.out))); clear hown6 hg6)
            | (go_at_call 24; have hc_ := SA.out p2 d2 p3 d3 w3 (Kd.C_below C2.out K3.out) D2.out C3.out D3.out; (with_reducible refine hc_.mono ?_); clear hc_; rintro e w4 ⟨rfl, f4⟩; have F4 := Lib.hid (F3.out.trans (fr_drawn f4) (fun _ h _ => h)); clear f4)
            | (go_at_call 26; have hc_ := DK.out w2 F2.out; (with_reducible refine hc_.mono ?_); clear hc_; rintro e w3 ⟨p3, d3, rfl, hd3, hC3, f3⟩; have D3 := Lib.hid hd3; have C3 := Lib.hid hC3; have K3 := Lib.hid (f3.below w2.heap.size (Nat.le_refl _) (fun _ h => h.elim)); have F3 := Lib.hid (F2.out.trans f3 (fun _ h _ => h)); clear hd3 hC3 f3)
            | (go_at_call 25; have hc_ := LK.out p1 c1 w1 I1.out; (with_reducible refine hc_.mono ?_); clear hc_; rintro e w2 ⟨p2, d2, rfl, hd2, hC2, f2⟩; have D2 := Lib.hid hd2; have C2 := Lib.hid hC2; have F2 := Lib.hid (F1.out.trans f2 (fun _ h _ => h)); clear hd2 hC2 f2)
            | (at_builtin; refine wpList_append_own_at _ rfl (.tmp 49) (.tmp 50) 57 rfl wr.heap.size 63 i0 _ 9 72 Try.underlying57 hi0 hz0 hz1 hz2 rfl (by decide) (.slice (some ⟨wr.heap.size, 0, none⟩) 0 0) 0 [] rfl (row0 wr) ad n c (flatF L) rfl (by rw [flatF_len, HN.out]) (FIn.news (PL.out.fr (HF.out.alloc _))) (flatF_one L) (by have h1 := H14N.out; unfold maxLen; omega) (by have h1 := H14N.out; omega) (by simp) ?_; intro v1 w1 hown1 hg1 _ _; rw [Nat.zero_add, List.nil_append] at hown1; obtain ⟨p1, c1, rfl⟩ := row_slice hown1; have I1 := Lib.hid (row_facesN HN.out hown1); have F1 := Lib.hid ((HF.out.alloc _).grown hg1 (fun k hk => .inr (own_low hk HF.out))); clear hown1 hg1))
          go_ret
          exact ⟨rfl, FA.out⟩
end Go.Proofs.Ytngmkjgklonfmaa.Lk

/- Faces that come in, as the row opens them. -/
namespace Go.Proofs.Ytngmkjgklonfmaa.Lk
open Go.RowKit Go.Proofs.ZFr Go.Proofs.Ytngmkjgklonfmaa.PNearLinks Go.Proofs.YtngmkjgklonfmaaW.PrintWords
theorem trod_array3k {P : Program} {H : Type} {enc : TypeId × Value → H} {w : World} {base : Nat} {spare : Nat → Bool} {held : Bool} {t e : TypeId} {fuel : Nat} {c0 c1 c2 c3 c4 c5 : Value} {x : DataW H × List MemPlace} (ht : P.underlying t = some (.array 3 e)) (hce : P.cellsOf e = 2)
    (h : DataW.trod enc P w base spare held fuel t [c0, c1, c2, c3, c4, c5] = some x) :
    ∃ y0 y1 y2 n, DataW.trod enc P w base spare held n e [c0, c1] = some y0 ∧ DataW.trod enc P w base spare held n e [c2, c3] = some y1 ∧ DataW.trod enc P w base spare held n e [c4, c5] = some y2 := by
  cases fuel with
  | zero => simp [DataW.trod] at h
  | succ n =>
    unfold DataW.trod at h
    rw [ht] at h
    have r3 : List.range 3 = [0, 1, 2] := rfl
    simp [r3, hce] at h
    obtain ⟨_, h⟩ := h
    cases h0 : DataW.trod enc P w base spare held n e [c0, c1] with
    | none => simp [h0] at h
    | some y0 =>
      cases h1 : DataW.trod enc P w base spare held n e [c2, c3] with
      | none => simp [h0, h1] at h
      | some y1 =>
        cases h2 : DataW.trod enc P w base spare held n e [c4, c5] with
        | none => simp [h0, h1, h2] at h
        | some y2 => exact ⟨y0, y1, y2, n, h0, h1, h2⟩
theorem mapM9 {α : Type} {g : Nat → Option α} {cs : List α} (h : ([0, 1, 2, 3, 4, 5, 6, 7, 8] : List Nat).mapM g = some cs) : ∃ a0 a1 a2 a3 a4 a5 a6 a7 a8, cs = [a0, a1, a2, a3, a4, a5, a6, a7, a8] ∧ g 0 = some a0 ∧ g 1 = some a1 ∧ g 2 = some a2 ∧ g 3 = some a3 ∧ g 4 = some a4 ∧ g 5 = some a5 ∧ g 6 = some a6 ∧ g 7 = some a7 ∧ g 8 = some a8 := by
  simp only [List.mapM_cons, List.mapM_nil, Option.pure_def, Option.bind_eq_bind, Option.bind_eq_some_iff, Option.some.injEq] at h
  obtain ⟨a0, h0, _, ⟨a1, h1, _, ⟨a2, h2, _, ⟨a3, h3, _, ⟨a4, h4, _, ⟨a5, h5, _, ⟨a6, h6, _, ⟨a7, h7, _, ⟨a8, h8, _, rfl, rfl⟩, rfl⟩, rfl⟩, rfl⟩, rfl⟩, rfl⟩, rfl⟩, rfl⟩, rfl⟩ := h
  exact ⟨a0, a1, a2, a3, a4, a5, a6, a7, a8, rfl, h0, h1, h2, h3, h4, h5, h6, h7, h8⟩
set_option maxRecDepth 100000 in
theorem open_tris {H : Type} {enc : TypeId × Value → H} {W : World} {base : Nat} {spare : Nat → Bool} {held : Bool} {A : Option Addr} {len cap : Nat} {x : DataW H × List MemPlace} (h : ∃ fuel, DataW.trod enc Try.prog W base spare held fuel 57 [.slice A len cap] = some x) : ∃ l : List Fa, l.length = len ∧ l.length ≤ cap ∧ FIn W A l := by
  obtain ⟨fuel, hf⟩ := h
  rcases Go.Deep.open_slice Try.underlying57 hf with ⟨hcs, _⟩ | ⟨a, l, c, m, n, D, Pl, hcs, _, hl, hm, hmm, _, hx⟩
  · simp at hcs
    obtain ⟨rfl, rfl, rfl⟩ := hcs
    exact ⟨[], rfl, Nat.le_refl _, fun i hi => absurd hi (by simp)⟩
  · simp at hcs
    obtain ⟨rfl, rfl, rfl⟩ := hcs
    have hel : ∀ i, i < len → ∃ f : Fa, ∀ t, t < 9 → W.cell? (a.add (i * 9 + t)) = some (.int .i64 (f t)) := fun i hi => by
      obtain ⟨cs, hc, ht⟩ := hx i (by rw [hmm]; split <;> omega)
      rw [show Try.prog.cellsOf 63 = 9 from by kernel_rfl] at hc
      unfold World.cells? at hc
      split at hc
      · obtain ⟨a0, a1, a2, a3, a4, a5, a6, a7, a8, rfl, h0, h1, h2, h3, h4, h5, h6, h7, h8⟩ := mapM9 hc
        obtain ⟨y0, y1, n1, _, _, t0, t1⟩ := Go.ChangeShapes.trod_struct2 Try.underlying63 ht
        rw [show Try.prog.cellsOf 60 = 3 from by kernel_rfl] at t0
        rw [show Try.prog.cellsOf 61 = 6 from by kernel_rfl] at t1
        obtain ⟨z0, z1, z2, m0, _, u0, u1, u2⟩ := Go.ChangeShapes.trod_array3 Try.underlying60 (by kernel_rfl) t0
        obtain ⟨z3, z4, z5, m1, u3, u4, u5⟩ := trod_array3k Try.underlying61 (by kernel_rfl) t1
        obtain ⟨v0, e0, _, _⟩ := DataW.trod_int Try.underlying3 u0
        obtain ⟨v1, e1, _, _⟩ := DataW.trod_int Try.underlying3 u1
        obtain ⟨v2, e2, _, _⟩ := DataW.trod_int Try.underlying3 u2
        obtain ⟨_, _, _, _, _, s0, s1⟩ := Go.ChangeShapes.trod_struct2 Try.underlying59 u3
        obtain ⟨_, _, _, _, _, s2, s3⟩ := Go.ChangeShapes.trod_struct2 Try.underlying59 u4
        obtain ⟨_, _, _, _, _, s4, s5⟩ := Go.ChangeShapes.trod_struct2 Try.underlying59 u5
        obtain ⟨v3, e3, _, _⟩ := DataW.trod_int Try.underlying3 s0
        obtain ⟨v4, e4, _, _⟩ := DataW.trod_int Try.underlying3 s1
        obtain ⟨v5, e5, _, _⟩ := DataW.trod_int Try.underlying3 s2
        obtain ⟨v6, e6, _, _⟩ := DataW.trod_int Try.underlying3 s3
        obtain ⟨v7, e7, _, _⟩ := DataW.trod_int Try.underlying3 s4
        obtain ⟨v8, e8, _, _⟩ := DataW.trod_int Try.underlying3 s5
        rw [show Try.prog.cellsOf 3 = 1 from by kernel_rfl] at e3 e4 e5 e6 e7 e8
        simp at e0 e1 e2 e3 e4 e5 e6 e7 e8
        subst e0 e1 e2 e3 e4 e5 e6 e7 e8
        refine ⟨fun t => ([v0, v1, v2, v3, v4, v5, v6, v7, v8] : List Int).getD t 0, fun t ht => ?_⟩
        have ea : ∀ t, (a.add (i * 9)).add t = a.add (i * 9 + t) := fun t => by
          unfold Addr.add
          by_cases hz : i * 9 = 0
          · rw [if_pos hz, hz, Nat.zero_add]
          · rw [if_neg hz]
            by_cases ht0 : t = 0
            · subst ht0; rw [if_pos rfl, if_neg (by omega), Nat.add_zero]
            · rw [if_neg ht0, if_neg (by omega)]; simp only [Nat.add_assoc]
        rw [← ea]
        match t, ht with
        | 0, _ => exact h0
        | 1, _ => exact h1
        | 2, _ => exact h2
        | 3, _ => exact h3
        | 4, _ => exact h4
        | 5, _ => exact h5
        | 6, _ => exact h6
        | 7, _ => exact h7
        | 8, _ => exact h8
      · cases hc
    have hch : ∃ g : Nat → Fa, ∀ i, i < len → ∀ t, t < 9 → W.cell? (a.add (i * 9 + t)) = some (.int .i64 (g i t)) :=
      ⟨fun i => if h : i < len then Classical.choose (hel i h) else fun _ => 0, fun i hi => by
        simp only [dif_pos hi]
        exact Classical.choose_spec (hel i hi)⟩
    obtain ⟨g, hg⟩ := hch
    refine ⟨(List.range len).map g, by simp, by simp; exact hl, fun i hi => ⟨a, rfl, fun t ht => ?_⟩⟩
    have hil : i < len := by simpa using hi
    rw [hg i hil t ht]
    simp
theorem law_row7 (A : Option Addr) (c : Nat) (l : List Fa) (id : Int) (W : World) (hp : FIn W A l) (hc : l.length ≤ c) : Calls Try.prog 7 #[.slice A l.length c, .int .i64 id] W fun e w' => e = .returned (.bool true) ∧ Below W.heap.size W w' :=
  (law_links A c l id W hp hc).mono fun _ _ ⟨h1, h2⟩ => ⟨h1, h2.below W.heap.size (Nat.le_refl _) (fun _ h => h.elim)⟩
end Go.Proofs.Ytngmkjgklonfmaa.Lk
