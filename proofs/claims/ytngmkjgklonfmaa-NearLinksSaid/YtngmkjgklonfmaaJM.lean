/- Joined texts. -/
import Derived.Test.YtngmkjgklonfmaaJL
import Derived.Shelf.SlSortCmp.WholeK
import Derived.Test.YtngmkjgklonfmaaZFr
import Derived.Deep.DeepCutAuto
import Derived.Deep.QuietTactic
import Derived.BigQuiet
import Derived.BigRegion
import Derived.Deep.RegionHeld3
import Derived.Lib.Hide
import Derived.Lib.SliceRun
import Derived.Laws.IdiomCopy
import Derived.RowKit
import Derived.RowKit3
import Derived.WideLaws
import Derived.WalkLawsBesides
import Derived.WalkSpells
import Derived.Test.YtngmkjgklonfmaaWLk
import Derived.Deep.RegionLaw
import Derived.Deep.AppendLies
import Derived.Outline
import Derived.StillTailTactics
import Derived.Deep.DrawnRows
/- Links sorted by slices.SortFunc: what the sort wants of their order. -/
namespace Go.Proofs.Ytngmkjgklonfmaa.Lk
open Go.Shelf Go.RowKit Go.Lib Go.Sort Go.Proofs.Ytngmkjgklonfmaa.PNearLinks Go.Proofs.YtngmkjgklonfmaaW.PrintWords
theorem lt_iff (x y : S91) : ltOf cf x y = true ↔ ltL x y := by
  unfold ltOf; rw [decide_eq_true_iff, cf_neg]
theorem lt_false (x y : S91) : ltOf cf x y = false ↔ ¬ ltL x y := by rw [← lt_iff]; simp
theorem swo : SWO (ltOf cf) where
  irrefl x := by rw [lt_false]; exact ltL_irrefl x
  trans x y z h1 h2 := by rw [lt_iff] at *; exact ltL_trans h1 h2
  ntrans x y z h1 h2 := by
    rw [lt_false] at *
    intro h
    rcases ltL_tri x y with h3 | rfl | h3
    · exact h1 h3
    · exact h2 h
    · exact h2 (ltL_trans h3 h)
theorem tot (x y : S91) (h1 : ltOf cf x y = false) (h2 : ltOf cf y x = false) : x = y := by
  rw [lt_false] at *
  rcases ltL_tri x y with h3 | h3 | h3
  · exact absurd h3 h1
  · exact h3
  · exact absurd h3 h2
def le4 (a b : S91) : Bool := !(ltOf cf) b a
theorem le4_iff (a b : S91) : le4 a b = true ↔ ¬ ltL b a := by unfold le4; rw [Bool.not_eq_true', lt_false]
theorem le4_sorted (l : List S91) : (l.mergeSort le4).Pairwise (fun a b => ¬ ltL b a) := by
  have h := List.pairwise_mergeSort (le := le4) (fun a b c h1 h2 => by
    rw [le4_iff] at *
    intro h
    rcases ltL_tri a b with h3 | rfl | h3
    · exact h2 (ltL_trans h h3)
    · exact h2 h
    · exact h1 h3) (fun a b => by
    rcases ltL_tri a b with h3 | rfl | h3
    · rw [(le4_iff a b).2 (fun h => ltL_irrefl a (ltL_trans h3 h))]; rfl
    · rw [(le4_iff a a).2 (ltL_irrefl a)]; rfl
    · rw [(le4_iff b a).2 (fun h => ltL_irrefl b (ltL_trans h3 h))]; simp) l
  exact h.imp (fun h => (le4_iff _ _).1 h)
/-- The program's links, sorted and each once, are the document's. -/
theorem prog_eq_doc (ls : List S91) : cmpct (ls.mergeSort le4) = insAll ls := links_eq (List.mergeSort_perm ls le4) (le4_sorted ls)
end Go.Proofs.Ytngmkjgklonfmaa.Lk

/- slices.Compact at links. -/
namespace Go.Proofs.Ytngmkjgklonfmaa.Lk
open Go.RowKit Go.Lib Go.Proofs.ZFr Go.Proofs.Ytngmkjgklonfmaa.PNearLinks Go.Proofs.YtngmkjgklonfmaaW.PrintWords
attribute [local go_sem high] eqA91
theorem cmpct_snoc : ∀ (l : List S91) (a : S91), l ≠ [] → cmpct (l ++ [a]) = if l.getLast? = some a then cmpct l else cmpct l ++ [a]
  | [], _, h => absurd rfl h
  | [b], a, _ => by
    by_cases h : b = a
    · subst h; simp [cmpct]
    · simp [cmpct, h]
  | b :: c :: r, a, _ => by
    have ih := cmpct_snoc (c :: r) a (by simp)
    rw [List.cons_append] at ih
    rw [List.cons_append, List.cons_append, cmpct, cmpct, List.getLast?_cons_cons, ih]
    by_cases h1 : b = c
    · rw [if_pos h1, if_pos h1]
    · rw [if_neg h1, if_neg h1]
      split
      · rfl
      · rfl
def cp (L : List S91) (m : Nat) : List S91 := cmpct (L.take m)
theorem cp_succ (L : List S91) (m : Nat) (h : m + 1 < L.length) : cp L (m + 2) = if L.getD m z91 = L.getD (m + 1) z91 then cp L (m + 1) else cp L (m + 1) ++ [L.getD (m + 1) z91] := by
  unfold cp
  rw [List.take_succ_eq_append_getElem h, cmpct_snoc _ _ (by intro e; have h9 := congrArg List.length e; rw [List.length_take, List.length_nil] at h9; omega)]
  have e1 : L.getD (m + 1) z91 = L[m + 1] := by simp [List.getD, h]
  have h' : m < L.length := by omega
  have e0 : L.getD m z91 = L[m] := by simp [List.getD, h']
  have e2 : (L.take (m + 1)).getLast? = some L[m] := by rw [List.getLast?_eq_getElem?]; simp [show min (m + 1) L.length - 1 = m by omega, h']
  rw [e1, e0, e2]
  by_cases he : L[m] = L[m + 1]
  · rw [if_pos he, if_pos (by rw [he])]
  · rw [if_neg he, if_neg (by simpa using he)]
theorem cp_one (L : List S91) (h : 0 < L.length) : cp L 1 = [L.getD 0 z91] := by
  unfold cp
  obtain _ | ⟨a, r⟩ := L
  · simp at h
  · simp [cmpct]
theorem cmpct_len : ∀ (l : List S91), (cmpct l).length ≤ l.length
  | [] => by simp [cmpct]
  | [a] => by simp [cmpct]
  | a :: b :: r => by
    have ih := cmpct_len (b :: r)
    rw [cmpct]; split
    · simp only [List.length_cons] at *; omega
    · simp only [List.length_cons] at *; omega
/-- Links that lie in memory. -/
def C4 (w : World) (g i : Nat) (x : S91) : Prop := w.cell? ⟨g, i * 4, none⟩ = some (.int .i64 x.f0) ∧ w.cell? ⟨g, i * 4 + 1, none⟩ = some (.int .i64 x.f1) ∧ w.cell? ⟨g, i * 4 + 2, none⟩ = some (.int .i64 x.f2.f0) ∧ w.cell? ⟨g, i * 4 + 3, none⟩ = some (.int .i64 x.f2.f1)
def In4 (w : World) (g n : Nat) (f : Nat → S91) : Prop := (∀ i, i < n → C4 w g i (f i)) ∧ ∀ j, j < n * 4 → w.frozen? ⟨g, j, none⟩ = false
theorem C4.fr {w w' : World} {g i : Nat} {x : S91} {S : Nat → Prop} (h : C4 w g i x) (hf : Fr S w w') (hs : ¬ S g) : C4 w' g i x := by
  obtain ⟨h0, h1, h2, h3⟩ := h
  have hb := World.block_lt_of_cell? w _ h0
  have := hf.block g hb hs
  unfold C4 World.cell? at *
  rw [this]
  exact ⟨h0, h1, h2, h3⟩
theorem In4.fr {w w' : World} {g n : Nat} {f : Nat → S91} {S : Nat → Prop} (h : In4 w g n f) (hn : 0 < n) (hf : Fr S w w') (hs : ¬ S g) : In4 w' g n f := by
  refine ⟨fun i hi => (h.1 i hi).fr hf hs, fun j hj => ?_⟩
  have hb := World.block_lt_of_cell? w _ (h.1 0 hn).1
  have e := hf.block g hb hs
  have := h.2 j hj
  unfold World.frozen? at *
  rw [e]; exact this
theorem wrapm {k : Nat} (h1 : 1 ≤ k) (h2 : k ≤ 1000) : IntKind.i64.wrap ((k : Int) - 1) = ((k - 1 : Nat) : Int) := by simp [IntKind.wrap, IntKind.bits, IntKind.signed]; omega
theorem eqb (x y : S91) : (y.f0 == x.f0 && (y.f1 == x.f1 && (y.f2.f0 == x.f2.f0 && y.f2.f1 == x.f2.f1))) = decide (x = y) := by
  by_cases h : x = y
  · subst h; simp
  · rw [decide_eq_false h]
    by_cases h0 : y.f0 = x.f0
    · by_cases h1 : y.f1 = x.f1
      · by_cases h2 : y.f2.f0 = x.f2.f0
        · by_cases h3 : y.f2.f1 = x.f2.f1
          · exact absurd (ext h0.symm h1.symm h2.symm h3.symm) h
          · simp [h3]
        · simp [h2]
      · simp [h1]
    · simp [h0]
theorem clear4 (w : World) (ty : TypeId) (b o n c : Nat) (hn : 0 < n) (hc : ∀ j, j < n * 4 → (w.cell? ⟨b, o + j, none⟩).isSome = true) (hf : ∀ j, j < n * 4 → w.frozen? ⟨b, o + j, none⟩ = false) :
    (Builtin.clear_ #[65] ty #[.slice (some ⟨b, o, none⟩) n c]).run Try.prog w = .ok (.tuple #[]) (w.setCells b o (List.replicate (n * 4) (.int .i64 0))) := by
  have hz : ∀ w, (zeroValue 91).run Try.prog w = .ok (.agg #[.int .i64 0, .int .i64 0, .int .i64 0, .int .i64 0]) w := fun w => by kernel_rfl
  have hzc : (Builtin.zeroCells (Value.agg #[.int .i64 0, .int .i64 0, .int .i64 0, .int .i64 0]).cells n).toList = List.replicate (n * 4) (.int .i64 0) := by
    apply List.ext_getElem
    · simp [Builtin.zeroCells, Value.cells]
    · intro i h1 h2
      simp only [Builtin.zeroCells, Value.cells, Array.getElem_toList, Array.getElem_map, List.getElem_replicate, Array.getElem_range]
      have : i % 4 = 0 ∨ i % 4 = 1 ∨ i % 4 = 2 ∨ i % 4 = 3 := by omega
      rcases this with h | h | h | h <;> (rw [show (#[Value.int IntKind.i64 0, Value.int IntKind.i64 0, Value.int IntKind.i64 0, Value.int IntKind.i64 0] : Array Value).size = 4 from rfl, h]; rfl)
  have hst := run_storeCells_cells (P := Try.prog) b o (List.replicate (n * 4) (.int .i64 0)) 0 w (by simpa using hc) (by simpa using hf) (by intro v hv'; rw [List.eq_of_mem_replicate hv']; rfl)
  simp only [Nat.add_zero] at hst
  obtain ⟨m, rfl⟩ : ∃ m, n = m + 1 := ⟨n - 1, by omega⟩
  simp [Builtin.clear_, run_underlying Try.underlying65, hz, hzc, hst]
theorem setc_far (w : World) (g p q : Nat) (u : Value) (h : p ≠ q) : (w.setCell ⟨g, p, none⟩ u).cell? ⟨g, q, none⟩ = w.cell? ⟨g, q, none⟩ := World.cell?_setCell_other _ _ _ _ (fun e => h (congrArg Addr.off e))
theorem setc_same (w : World) (g p : Nat) (u : Value) {v : Value} (h : w.cell? ⟨g, p, none⟩ = some v) : (w.setCell ⟨g, p, none⟩ u).cell? ⟨g, p, none⟩ = some u := World.cell?_setCell_same _ _ _ h
def put4 (w : World) (g i : Nat) (x : S91) : World := (((w.setCell ⟨g, i * 4, none⟩ (.int .i64 x.f0)).setCell ⟨g, i * 4 + 1, none⟩ (.int .i64 x.f1)).setCell ⟨g, i * 4 + 2, none⟩ (.int .i64 x.f2.f0)).setCell ⟨g, i * 4 + 3, none⟩ (.int .i64 x.f2.f1)
theorem put4_far (w : World) (g i q : Nat) (x : S91) (h : q < i * 4 ∨ i * 4 + 4 ≤ q) : (put4 w g i x).cell? ⟨g, q, none⟩ = w.cell? ⟨g, q, none⟩ := by
  unfold put4
  rw [setc_far _ _ _ _ _ (by omega), setc_far _ _ _ _ _ (by omega), setc_far _ _ _ _ _ (by omega), setc_far _ _ _ _ _ (by omega)]
theorem put4_same {w : World} {g i : Nat} {y : S91} (x : S91) (h : C4 w g i y) : C4 (put4 w g i x) g i x := by
  obtain ⟨h0, h1, h2, h3⟩ := h
  unfold put4
  refine ⟨?_, ?_, ?_, ?_⟩
  · rw [setc_far _ _ _ _ _ (by omega), setc_far _ _ _ _ _ (by omega), setc_far _ _ _ _ _ (by omega), setc_same _ _ _ _ h0]
  · rw [setc_far _ _ _ _ _ (by omega), setc_far _ _ _ _ _ (by omega), setc_same (v := .int .i64 y.f1)]; rw [setc_far _ _ _ _ _ (by omega)]; exact h1
  · rw [setc_far _ _ _ _ _ (by omega), setc_same (v := .int .i64 y.f2.f0)]; rw [setc_far _ _ _ _ _ (by omega), setc_far _ _ _ _ _ (by omega)]; exact h2
  · rw [setc_same (v := .int .i64 y.f2.f1)]; rw [setc_far _ _ _ _ _ (by omega), setc_far _ _ _ _ _ (by omega), setc_far _ _ _ _ _ (by omega)]; exact h3
theorem In4.put {w : World} {g n i : Nat} {f : Nat → S91} (x : S91) (h : In4 w g n f) (hi : i < n) : In4 (put4 w g i x) g n (fun j => if j = i then x else f j) := by
  refine ⟨fun j hj => ?_, fun j hj => ?_⟩
  · by_cases e : j = i
    · subst e; simp only [if_pos]; exact put4_same x (h.1 j hj)
    · simp only [if_neg e]
      obtain ⟨h0, h1, h2, h3⟩ := h.1 j hj
      refine ⟨?_, ?_, ?_, ?_⟩ <;> rw [put4_far _ _ _ _ _ (by omega)] <;> assumption
  · have := h.2 j hj
    unfold put4
    simpa using this
theorem In4.clear {w : World} {g n k : Nat} {f : Nat → S91} (vs : List Value) (h : In4 w g n f) (hk : k ≤ n) : In4 (w.setCells g (k * 4) vs) g k f := by
  refine ⟨fun j hj => ?_, fun j hj => ?_⟩
  · obtain ⟨h0, h1, h2, h3⟩ := h.1 j (by omega)
    refine ⟨?_, ?_, ?_, ?_⟩ <;> (rw [World.cell?_setCells_out _ _ _ _ _ (fun _ _ => .inl (by dsimp only; omega))]; assumption)
  · rw [World.frozen?_setCells]; exact h.2 j (by omega)
theorem In4.congr {w : World} {g n : Nat} {f f' : Nat → S91} (h : In4 w g n f) (e : ∀ i, i < n → f i = f' i) : In4 w g n f' := ⟨fun i hi => e i hi ▸ h.1 i hi, h.2⟩
theorem setCells_fr (b : Nat) : ∀ (vs : List Value) (o : Nat) (w : World), Fr (fun k => k = b) w (w.setCells b o vs)
  | [], _, w => Fr.refl _ w
  | v :: r, o, w => ((Fr.refl (fun k => k = b) w).set ⟨b, o, none⟩ v (.inl rfl)).trans (setCells_fr b r (o + 1) _) (fun _ h _ => h)
theorem put4_fr (w : World) (g i : Nat) (x : S91) : Fr (fun k => k = g) w (put4 w g i x) :=
  ((((Fr.refl (fun k => k = g) w).set _ _ (.inl rfl)).set _ _ (.inl rfl)).set _ _ (.inl rfl)).set _ _ (.inl rfl)
/-- What lies there behind m of the links. -/
def mid (L : List S91) (m i : Nat) : S91 := if i < (cp L m).length then (cp L m).getD i z91 else L.getD i z91
set_option maxRecDepth 100000 in
set_option maxHeartbeats 4000000 in
theorem compact_walk (g c : Nat) (L : List S91) (w : World) (h : In4 w g L.length (fun i => L.getD i z91)) (hl : L.length ≤ 1000) (hc : L.length ≤ c) : Calls Try.prog 49 #[.slice (some ⟨g, 0, none⟩) L.length c] w fun e w' => e = .returned (.slice (some ⟨g, 0, none⟩) (cmpct L).length c) ∧ Fr (fun k => k = g) w w' ∧ In4 w' g (cmpct L).length (fun i => (cmpct L).getD i z91) := by
  have HI := Lib.hid h
  have HL := Lib.hid hl
  have HC := Lib.hid hc
  clear h hl hc
  by_cases h2 : L.length < 2
  · go_enter Try.func49, Try.ntmps49
    go_wp2
    go_ret
    have e : cmpct L = L := by
      match L, h2 with
      | [], _ => rfl
      | [a], _ => rfl
    rw [e]
    exact ⟨rfl, Fr.refl _ _, HI.out⟩
  · have h2' : ¬ (L.length : Int) < 2 := by omega
    go_enter Try.func49, Try.ntmps49
    go_wp2
    go_loopw [3] (fun s3 wr => ∃ k : Nat, 1 ≤ k ∧ k ≤ L.length ∧ s3 = .int .i64 (k : Int) ∧ cp L k = L.take k ∧ Fr (fun _ => False) w wr) (fun s3 _ => (L.length - intOf s3).toNat)
    case atStart => exact ⟨1, by omega, by omega, rfl, by rw [cp_one L (by omega)]; obtain _ | ⟨a, r⟩ := L; (simp at h2); simp, Fr.refl _ _⟩
    case round =>
      obtain ⟨k, hk1, hk2, rfl, hcp, hf⟩ := hrel
      have HCP := Lib.hid hcp
      have HF := Lib.hid hf
      clear hcp hf
      by_cases hk : k < L.length
      · obtain ⟨a0, a1, a2, a3⟩ := (HI.out.1 (k - 1) (by omega)).fr HF.out (fun h => h)
        obtain ⟨b0, b1, b2, b3⟩ := (HI.out.1 k hk).fr HF.out (fun h => h)
        obtain ⟨x, hx⟩ : ∃ x, L.getD (k - 1) z91 = x := ⟨_, rfl⟩
        obtain ⟨y, hy⟩ : ∃ y, L.getD k z91 = y := ⟨_, rfl⟩
        simp only [hx] at a0 a1 a2 a3
        simp only [hy] at b0 b1 b2 b3
        have hL1000 := HL.out
        have hck : ¬ c = k := by have := HC.out; omega
        have hw := wrapm hk1 (by omega)
        have hkm : ((k - 1 : Nat) : Int) < L.length := by omega
        have HX := Lib.hid hx
        have HY := Lib.hid hy
        have hb := eqb x y
        clear hx hy
        by_cases hxy : x = y
        · rw [decide_eq_true hxy] at hb
          go_wp2_with fail
          go_quiet (fail)
          clear hw hkm a0 a1 a2 a3 b0 b1 b2 b3
          have HXY := Lib.hid hxy
          clear hxy hb
          go_wp2_with fail
          have HNQ := Lib.hid (HF.out.drewN nq)
          generalize wr.drewN nq = w1 at HNQ ⊢
          clear HF
          go_loopw [3, 5] (fun s3 s5 wr => ∃ m kk : Nat, k < m ∧ m ≤ L.length ∧ (cp L m).length = kk ∧ kk < m ∧ s3 = .int .i64 (kk : Int) ∧ s5 = .int .i64 ((m - k : Nat) : Int) ∧ In4 wr g L.length (mid L m) ∧ Fr (fun i => i = g) w wr) (fun _ s5 _ => (L.length - k - intOf s5).toNat)
          case atStart =>
            have h9 := cp_succ L (k - 1) (by omega)
            rw [show k - 1 + 2 = k + 1 from by omega, show k - 1 + 1 = k from by omega, HX.out, HY.out, if_pos HXY.out, HCP.out] at h9
            have h8 : (cp L (k + 1)).length = k := by rw [h9, List.length_take]; omega
            refine ⟨k + 1, k, by omega, by omega, h8, by omega, rfl, by rw [show k + 1 - k = 1 from by omega]; rfl, ?_, HNQ.out.mono (fun _ h => h.elim)⟩
            refine (HI.out.fr (by omega) HNQ.out (fun h => h)).congr (fun i hi => ?_)
            unfold mid
            rw [h8, h9]
            split
            · rename_i hik; simp [List.getD, hik]
            · rfl
          case round =>
            obtain ⟨m, kk, hkm, hmL, hkk, hkm2, rfl, rfl, hin, hf⟩ := hrel
            have HIN := Lib.hid hin
            have HF := Lib.hid hf
            have HKK := Lib.hid hkk
            clear hin hf hkk
            by_cases hm : m < L.length
            · have hm1 : ((m - k : Nat) : Int) < ((L.length - k : Nat) : Int) := by omega
              have hm2 : ((m - k - 1 : Nat) : Int) < ((L.length - k : Nat) : Int) := by omega
              have hw := wrapm (k := m - k) (by omega) (by omega)
              obtain ⟨a0, a1, a2, a3⟩ := HIN.out.1 (m - 1) (by omega)
              obtain ⟨b0, b1, b2, b3⟩ := HIN.out.1 m hm
              obtain ⟨c0, c1, c2, c3⟩ := HIN.out.1 kk (by omega)
              have f0 := HIN.out.2 (kk * 4) (by omega)
              have f1 := HIN.out.2 (kk * 4 + 1) (by omega)
              have f2 := HIN.out.2 (kk * 4 + 2) (by omega)
              have f3 := HIN.out.2 (kk * 4 + 3) (by omega)
              have ex : mid L m (m - 1) = L.getD (m - 1) z91 := by unfold mid; rw [HKK.out, if_neg (by omega)]
              have ey : mid L m m = L.getD m z91 := by unfold mid; rw [HKK.out, if_neg (by omega)]
              obtain ⟨u, hu⟩ : ∃ u, L.getD (m - 1) z91 = u := ⟨_, rfl⟩
              obtain ⟨v, hv⟩ : ∃ v, L.getD m z91 = v := ⟨_, rfl⟩
              rw [ex, hu, show (m - 1) * 4 = k * 4 + (m - k - 1) * 4 from by omega] at a0 a1 a2 a3
              rw [ey, hv, show m * 4 = k * 4 + (m - k) * 4 from by omega] at b0 b1 b2 b3
              have HU := Lib.hid hu
              have HV := Lib.hid hv
              have hb := eqb u v
              have hcs := cp_succ L (m - 1) (by omega)
              rw [show m - 1 + 2 = m + 1 from by omega, show m - 1 + 1 = m from by omega, hu, hv] at hcs
              have HCS := Lib.hid hcs
              clear hu hv ex ey hcs
              generalize mid L m kk = old at c0 c1 c2 c3
              by_cases huv : u = v
              · rw [decide_eq_true huv] at hb
                go_wp2_with fail
                go_quiet (fail)
                clear hw hm1 hm2 a0 a1 a2 a3 b0 b1 b2 b3
                go_wp2_with fail
                go_roundw
                case rel =>
                  have hcs := HCS.out
                  rw [if_pos huv] at hcs
                  refine ⟨m + 1, kk, by omega, by omega, by rw [hcs]; exact HKK.out, by omega, rfl, by go_num, ?_, HF.out.drewN _⟩
                  refine (HIN.out.fr (by omega) ((Fr.refl (fun _ => False) wr).drewN nq) (fun h => h)).congr (fun i hi => ?_)
                  unfold mid; rw [hcs]
                case measure => simp [intOf]; omega
              · rw [decide_eq_false huv] at hb
                go_wp2_with fail
                go_quiet (fail)
                go_wp2_with fail
                clear hw hm1 hm2 a0 a1 a2 a3 b0 b1 b2 b3 c0 c1 c2 c3 f0 f1 f2 f3 hb
                go_roundw
                case rel =>
                  have hcs := HCS.out
                  rw [if_neg huv] at hcs
                  refine ⟨m + 1, kk + 1, by omega, by omega, by rw [hcs, List.length_append, HKK.out]; rfl, by omega, by go_num, by go_num, ?_, (HF.out.drewN nq).trans (put4_fr _ g kk v) (fun _ h _ => h)⟩
                  refine ((HIN.out.fr (by omega) ((Fr.refl (fun _ => False) wr).drewN nq) (fun h => h)).put v (i := kk) (by omega)).congr (fun i hi => ?_)
                  unfold mid
                  rw [hcs, List.length_append, HKK.out, show [v].length = 1 from rfl]
                  by_cases e1 : i < kk
                  · rw [if_neg (by omega), if_pos e1, if_pos (by omega), List.getD_eq_getElem?_getD, List.getD_eq_getElem?_getD, List.getElem?_append_left (by rw [HKK.out]; exact e1)]
                  · by_cases e2 : i = kk
                    · rw [if_pos e2, if_pos (by omega), e2, List.getD_eq_getElem?_getD, List.getElem?_append_right (by rw [HKK.out]; exact Nat.le_refl _), HKK.out]
                      simp
                    · rw [if_neg e2, if_neg e1, if_neg (by omega)]
                case measure => simp [intOf]; omega
            · have hmL' : m = L.length := by omega
              have hmk : ¬ ((m - k : Nat) : Int) < ((L.length - k : Nat) : Int) := by omega
              have hckk : ¬ c = kk := by have := HC.out; omega
              have hkc : (kk : Int) ≤ c := by have := HC.out; omega
              have hkl : (kk : Int) ≤ L.length := by omega
              have CL := Lib.hid (fun ty => clear4 wr ty g (kk * 4) (L.length - kk) (c - kk) (by omega)
                (fun j hj => by
                  obtain ⟨q0, q1, q2, q3⟩ := HIN.out.1 (kk + j / 4) (by omega)
                  have hj4 : j % 4 = 0 ∨ j % 4 = 1 ∨ j % 4 = 2 ∨ j % 4 = 3 := by omega
                  rcases hj4 with e | e | e | e
                  · rw [show kk * 4 + j = (kk + j / 4) * 4 from by omega, q0]; rfl
                  · rw [show kk * 4 + j = (kk + j / 4) * 4 + 1 from by omega, q1]; rfl
                  · rw [show kk * 4 + j = (kk + j / 4) * 4 + 2 from by omega, q2]; rfl
                  · rw [show kk * 4 + j = (kk + j / 4) * 4 + 3 from by omega, q3]; rfl)
                (fun j hj => HIN.out.2 _ (by omega)))
              have hcl := CL.out
              go_wp2
              go_ret
              have e : cp L m = cmpct L := by unfold cp; rw [List.take_of_length_le (by omega)]
              have hkk := HKK.out
              rw [e] at hkk
              refine ⟨by rw [hkk]; rfl, HF.out.trans (setCells_fr g _ _ wr) (fun _ h _ => h), ?_⟩
              rw [hkk]
              refine (HIN.out.clear _ (by omega)).congr (fun i hi => ?_)
              unfold mid
              rw [e, if_pos (by omega)]
              exact List.getD_eq_getElem?_getD ..
        · rw [decide_eq_false hxy] at hb
          go_wp2_with fail
          go_quiet (fail)
          clear hw hkm a0 a1 a2 a3 b0 b1 b2 b3
          go_wp2_with fail
          go_roundw
          case rel => 
            refine ⟨k + 1, by omega, by omega, by go_num, ?_, HF.out.drewN _⟩
            have h9 := cp_succ L (k - 1) (by omega)
            rw [show k - 1 + 2 = k + 1 from by omega, show k - 1 + 1 = k from by omega, HX.out, HY.out, if_neg hxy, HCP.out] at h9
            rw [h9, List.take_succ_eq_append_getElem hk, ← HY.out]
            simp [List.getD, hk]
          case measure => simp [intOf]; omega
      · have hkL : k = L.length := by omega
        subst hkL
        have e : cmpct L = L := by have := HCP.out; unfold cp at this; rwa [List.take_of_length_le (Nat.le_refl _)] at this
        have HF := HF.out
        go_wp2_with fail
        go_ret
        rw [e]
        exact ⟨rfl, HF.mono (fun _ h => h.elim), HI.out.fr (by omega) HF (fun h => h)⟩
end Go.Proofs.Ytngmkjgklonfmaa.Lk

/- The comparator of links and slices.SortFunc at links. -/
namespace Go.Proofs.Ytngmkjgklonfmaa.Lk
open Go.Shelf Go.RowKit Go.Lib Go.Sort Go.Proofs.ZFr Go.Proofs.Ytngmkjgklonfmaa.PNearLinks Go.Proofs.YtngmkjgklonfmaaW.PrintWords
instance : Inhabited S91 := ⟨z91⟩
def enc4 (x : S91) : List Value := [.int .i64 x.f0, .int .i64 x.f1, .int .i64 x.f2.f0, .int .i64 x.f2.f1]
theorem nan_i (x : Int) (W : World) : Calls Try.prog 118 #[.int .i64 x] W fun e w' => e = .returned (.bool false) ∧ w' = W := by
  go_enter Try.func118, Try.ntmps118
  go_wp2_with fail
  all_goals go_ret
  all_goals simp
theorem cmp_i (x y : Int) (W : World) : Calls Try.prog 78 #[.int .i64 x, .int .i64 y] W fun e w' => e = .returned (.int .i64 (cmp3 x y)) ∧ w' = W := by
  go_enter Try.func78, Try.ntmps78
  go_wp2_with (go_at_call 118; refine (nan_i _ _).mono ?_; rintro e w' ⟨rfl, rfl⟩)
  all_goals go_ret
  all_goals simp_all [cmp3]
  all_goals omega
theorem or_walk (c0 c1 c2 c3 : Int) (b : Nat) (W : World) (h0 : W.cell? ⟨b, 0, none⟩ = some (.int .i64 c0)) (h1 : W.cell? ⟨b, 1, none⟩ = some (.int .i64 c1)) (h2 : W.cell? ⟨b, 2, none⟩ = some (.int .i64 c2)) (h3 : W.cell? ⟨b, 3, none⟩ = some (.int .i64 c3)) :
    Calls Try.prog 77 #[.slice (some ⟨b, 0, none⟩) 4 4] W fun e w' => e = .returned (.int .i64 (or2 c0 (or2 c1 (or2 c2 c3)))) ∧ ∃ q, w' = W.drewN q := by
  go_enter Try.func77, Try.ntmps77
  go_wp2
  go_loopw [8] (fun v8 w' => ∃ k : Nat, k ≤ 4 ∧ v8 = .int .i64 k ∧ w' = W ∧ (1 ≤ k → c0 = 0) ∧ (2 ≤ k → c1 = 0) ∧ (3 ≤ k → c2 = 0) ∧ (4 ≤ k → c3 = 0)) (fun v8 _ => (5 - intOf v8).toNat)
  case atStart => exact ⟨0, by omega, rfl, rfl, by omega, by omega, by omega, by omega⟩
  case round =>
    obtain ⟨k, hk, rfl, rfl, e0, e1, e2, e3⟩ := hrel
    obtain rfl | rfl | rfl | rfl | rfl : k = 0 ∨ k = 1 ∨ k = 2 ∨ k = 3 ∨ k = 4 := by omega
    · by_cases hz : c0 = 0
      · subst hz
        go_wp2_with fail
        go_roundw
        case rel => exact ⟨1, by simp⟩
        case measure => simp [intOf]
      · have hzb : (c0 == 0) = false := by simpa using hz
        go_wp2_with fail
        go_ret
        exact ⟨by simp [or2, hz], 0, rfl⟩
    · obtain rfl := e0 (by omega)
      by_cases hz : c1 = 0
      · subst hz
        go_wp2_with fail
        go_roundw
        case rel => exact ⟨2, by simp⟩
        case measure => simp [intOf]
      · have hzb : (c1 == 0) = false := by simpa using hz
        go_wp2_with fail
        go_ret
        exact ⟨by simp [or2, hz], 0, rfl⟩
    · obtain rfl := e0 (by omega)
      obtain rfl := e1 (by omega)
      by_cases hz : c2 = 0
      · subst hz
        go_wp2_with fail
        go_roundw
        case rel => exact ⟨3, by simp⟩
        case measure => simp [intOf]
      · have hzb : (c2 == 0) = false := by simpa using hz
        go_wp2_with fail
        go_ret
        exact ⟨by simp [or2, hz], 0, rfl⟩
    · obtain rfl := e0 (by omega)
      obtain rfl := e1 (by omega)
      obtain rfl := e2 (by omega)
      by_cases hz : c3 = 0
      · subst hz
        go_wp2_with fail
        go_roundw
        case rel => exact ⟨4, by simp⟩
        case measure => simp [intOf]
      · have hzb : (c3 == 0) = false := by simpa using hz
        go_wp2_with fail
        go_ret
        exact ⟨by simp [or2], 0, rfl⟩
    · obtain rfl := e0 (by omega)
      obtain rfl := e1 (by omega)
      obtain rfl := e2 (by omega)
      obtain rfl := e3 (by omega)
      go_wp2_with fail
      go_ret
      exact ⟨by simp [or2], 0, rfl⟩
theorem fin_world (W W2 : World) (os2 : Array Obj) (h : W2 = grow W os2) (o : Obj) (q : Nat) : ∃ q' os', (W2.alloc o).drewN q = grow (W.drewN q') os' := by
  subst h
  refine ⟨q, os2 ++ #[o], ?_⟩
  rw [alloc_eq_grow, grow_grow]
  rfl
theorem l0 (W : World) (xs ys : Array Value) (j : Nat) : ((W.alloc (.cells xs 91)).alloc (.cells ys 91)).cell? ⟨W.heap.size, j, none⟩ = xs[j]? :=
  ZFr.blk_cell (ZFr.blk_alloc (heap_alloc_new W _) _) j
theorem l1 (W : World) (xs ys : Array Value) (j : Nat) : ((W.alloc (.cells xs 91)).alloc (.cells ys 91)).cell? ⟨W.heap.size + 1, j, none⟩ = ys[j]? := by
  have h := ZFr.blk_cell (heap_alloc_new (W.alloc (.cells xs 91)) (.cells ys 91)) j
  rw [show (W.alloc (.cells xs 91)).heap.size = W.heap.size + 1 from Array.size_push ..] at h
  exact h
theorem two_grow (W : World) (o o' : Obj) : ∃ os, (W.alloc o).alloc o' = grow W os := ⟨_, by rw [alloc_eq_grow, alloc_eq_grow, grow_grow]⟩
theorem two_facts (a0 a1 a2 a3 b0 b1 b2 b3 : Int) (W : World) : ∃ W2, (W.alloc (.cells #[.int .i64 a0, .int .i64 a1, .int .i64 a2, .int .i64 a3] 91)).alloc (.cells #[.int .i64 b0, .int .i64 b1, .int .i64 b2, .int .i64 b3] 91) = W2
    ∧ W2.cell? ⟨W.heap.size, 0, none⟩ = some (.int .i64 a0) ∧ W2.cell? ⟨W.heap.size, 1, none⟩ = some (.int .i64 a1) ∧ W2.cell? ⟨W.heap.size, 2, none⟩ = some (.int .i64 a2) ∧ W2.cell? ⟨W.heap.size, 3, none⟩ = some (.int .i64 a3)
    ∧ W2.cell? ⟨W.heap.size + 1, 0, none⟩ = some (.int .i64 b0) ∧ W2.cell? ⟨W.heap.size + 1, 1, none⟩ = some (.int .i64 b1) ∧ W2.cell? ⟨W.heap.size + 1, 2, none⟩ = some (.int .i64 b2) ∧ W2.cell? ⟨W.heap.size + 1, 3, none⟩ = some (.int .i64 b3) ∧ ∃ os, W2 = grow W os :=
  ⟨_, rfl, by rw [l0]; rfl, by rw [l0]; rfl, by rw [l0]; rfl, by rw [l0]; rfl, by rw [l1]; rfl, by rw [l1]; rfl, by rw [l1]; rfl, by rw [l1]; rfl, two_grow _ _ _⟩
set_option maxRecDepth 100000 in
set_option maxHeartbeats 4000000 in
theorem cf_walk (a0 a1 a2 a3 b0 b1 b2 b3 : Int) (W : World) : Calls Try.prog 48 #[.agg #[.int .i64 a0, .int .i64 a1, .int .i64 a2, .int .i64 a3], .agg #[.int .i64 b0, .int .i64 b1, .int .i64 b2, .int .i64 b3]] W fun e w' => e = .returned (.int .i64 (cf ⟨a0, a1, ⟨a2, a3⟩⟩ ⟨b0, b1, ⟨b2, b3⟩⟩)) ∧ ∃ q os', w' = grow (W.drewN q) os' := by
  have h0 := fun W' => cmp_i a0 b0 W'
  have h1 := fun W' => cmp_i a1 b1 W'
  have h2 := fun W' => cmp_i a2 b2 W'
  have h3 := fun W' => cmp_i a3 b3 W'
  have hcf : cf ⟨a0, a1, ⟨a2, a3⟩⟩ ⟨b0, b1, ⟨b2, b3⟩⟩ = or2 (cmp3 a0 b0) (or2 (cmp3 a1 b1) (or2 (cmp3 a2 b2) (cmp3 a3 b3))) := rfl
  rw [hcf]
  clear hcf
  generalize cmp3 a0 b0 = c0 at h0 ⊢
  generalize cmp3 a1 b1 = c1 at h1 ⊢
  generalize cmp3 a2 b2 = c2 at h2 ⊢
  generalize cmp3 a3 b3 = c3 at h3 ⊢
  have HH := Lib.hid (two_facts a0 a1 a2 a3 b0 b1 b2 b3 W)
  go_enter Try.func48, Try.ntmps48
  go_wp2_with fail
  obtain ⟨W2, hW2, t00, t01, t02, t03, t10, t11, t12, t13, os2, hg2⟩ := HH.out
  rw [hW2]
  have HG := Lib.hid hg2
  clear hW2 HH hg2
  go_still_tail 24, (by kernel_rfl)
  refine wpStill_step (fun K hK => ?_)
  go_simp
  refine ⟨_, h0 _, hK _ ?_⟩
  clear hK K
  repeat still_step
  refine wpStill_step (fun K hK => ?_)
  go_simp
  refine ⟨_, h1 _, hK _ ?_⟩
  clear hK K
  repeat still_step
  refine wpStill_step (fun K hK => ?_)
  go_simp
  refine ⟨_, h2 _, hK _ ?_⟩
  clear hK K
  repeat still_step
  refine wpStill_step (fun K hK => ?_)
  go_simp
  refine ⟨_, h3 _, hK _ ?_⟩
  clear hK K
  repeat still_step
  try refine wpStill_nil ?_
  change wpList _ _ _ _ _ (World.drew _)
  go_wp2_with (go_at_call 77; refine (or_walk c0 c1 c2 c3 W2.heap.size _ ?_ ?_ ?_ ?_).mono ?_; rotate_right; rintro e w' ⟨rfl, q, rfl⟩)
  rotate_left
  · exact ZFr.blk_cell (heap_alloc_new W2 _) 0
  · exact ZFr.blk_cell (heap_alloc_new W2 _) 1
  · exact ZFr.blk_cell (heap_alloc_new W2 _) 2
  · exact ZFr.blk_cell (heap_alloc_new W2 _) 3
  go_wp2_with fail
  go_ret
  exact ⟨rfl, fin_world _ _ _ HG.out _ _⟩
def flat4 (l : List S91) : List Value := l.flatMap enc4
theorem flat4_append (l m : List S91) : flat4 (l ++ m) = flat4 l ++ flat4 m := by simp [flat4]
theorem flat4_length (l : List S91) : (flat4 l).length = l.length * 4 := by
  induction l with
  | nil => rfl
  | cons p l ih => simp only [flat4, List.flatMap_cons, List.length_append, List.length_cons] at *; rw [ih]; simp [enc4]; omega
theorem flat4_at : ∀ (l : List S91) (t : Nat), t < l.length * 4 → (flat4 l)[t]? = some ((enc4 l.toArray[t / 4]!)[t % 4]!)
  | [], t, h => absurd h (by simp)
  | p :: l, t, h => by
    have e : flat4 (p :: l) = enc4 p ++ flat4 l := rfl
    rw [e]
    by_cases ht : t < 4
    · rw [List.getElem?_append_left (by simpa [enc4] using ht)]
      obtain rfl | rfl | rfl | rfl : t = 0 ∨ t = 1 ∨ t = 2 ∨ t = 3 := by omega
      all_goals simp [enc4]
    · rw [List.getElem?_append_right (by simp [enc4]; omega), show (enc4 p).length = 4 from rfl, flat4_at l (t - 4) (by simp at h; omega)]
      rw [show t / 4 = (t - 4) / 4 + 1 from by omega, show t % 4 = (t - 4) % 4 from by omega]
      simp
theorem row_holds {w : World} {B g c : Nat} {L : List S91} (h : w.ownsRow B 91 4 (.slice (some ⟨g, 0, none⟩) L.length c) L.length (flat4 L)) : HoldsK enc4 4 w g 0 L.toArray := by
  obtain ⟨h0, h | ⟨g', cap, cur, he, hb, hg, hn, hc, hs, ht⟩⟩ := h
  · simp at h
  · simp only [Value.slice.injEq, Option.some.injEq, Addr.mk.injEq, and_true, true_and] at he
    obtain ⟨rfl, rfl⟩ := he
    intro t hlt
    rw [size_flatK] at hlt
    have hlt' : t < L.length * 4 := by simpa using hlt
    refine ⟨?_, ?_⟩
    · rw [get_flatK _ _ _ _ hlt, Nat.zero_add, ZFr.blk_cell hg t]
      have := flat4_at L t hlt'
      rw [← ht, List.getElem?_take] at this
      rw [if_pos hlt'] at this
      rw [Array.getElem?_toList] at this
      exact this
    · exact ZFr.blk_free hg _
theorem sort_walk (B g c : Nat) (L : List S91) (w : World) (h : w.ownsRow B 91 4 (.slice (some ⟨g, 0, none⟩) L.length c) L.length (flat4 L)) (hl : L.length < 4611686018427387904) :
    Calls Try.prog 47 #[.slice (some ⟨g, 0, none⟩) L.length c, .func (.func 48) #[] #[]] w fun e w' => e = .returned (.tuple #[]) ∧ Fr (fun k => k = g) w w' ∧ HoldsK enc4 4 w' g 0 (L.mergeSort le4).toArray := by
  have hH := row_holds h
  have hb : g < w.heap.size := by
    obtain ⟨_, h | ⟨g', cap, cur, he, _, hg, _⟩⟩ := h
    · simp at h
    · simp only [Value.slice.injEq, Option.some.injEq, Addr.mk.injEq, and_true, true_and] at he
      obtain ⟨rfl, rfl⟩ := he
      exact ZFr.blk_lt hg
  have eg : ∀ args w, (callFunc 48 args).run Try.prog w = .ok (.enter 48 args) w := enters_of Try.func48 (by kernel_rfl) rfl
  have hcon := AnyQ.slices_SortFunc_total Try.sortLinks 4 (fun _ => by kernel_rfl) (fun _ => by kernel_rfl) enc4 (fun _ => rfl) (fun x v hv => by simp [enc4] at hv; rcases hv with rfl | rfl | rfl | rfl <;> rfl) cf swo 48 #[] g 0 c L.toArray w eg
    (fun _ _ _ _ x y => cf_walk x.f0 x.f1 x.f2.f0 x.f2.f1 y.f0 y.f1 y.f2.f0 y.f2.f1 _) hH hb (by simpa using hl) tot
  change Calls Try.prog 47 _ _ _ at hcon
  refine hcon.mono ?_
  rintro e w' ⟨rfl, n, os, rfl⟩
  refine ⟨rfl, ?_, ?_⟩
  · refine ⟨rfl, rfl, rfl, by simp [sortWorldK, grow, putRowK, Sort.ahead], fun k hk hne => ?_⟩
    have hk' : k < (putRowK enc4 4 (Sort.ahead w n) g 0 (L.mergeSort le4).toArray).heap.size := by simpa [putRowK, Sort.ahead] using hk
    show ((putRowK enc4 4 (Sort.ahead w n) g 0 (L.mergeSort le4).toArray).heap ++ os)[k]? = _
    rw [Array.getElem?_append_left hk']
    show (w.heap.modify g _)[k]? = _
    rw [Array.getElem?_modify, if_neg (fun h => hne h.symm)]
  · exact holdsK_grow _ _ _ _ _ _ _ (by simpa [putRowK, Sort.ahead] using hb) (holdsK_putRowK _ _ _ _ _ _ _ (holdsK_ahead _ _ _ _ _ _ _ hH) (by simp))
end Go.Proofs.Ytngmkjgklonfmaa.Lk

/- near.Links walked. -/
namespace Go.Proofs.Ytngmkjgklonfmaa.Lk
open Go.Shelf Go.RowKit Go.Lib Go.Sort Go.Proofs.ZFr Go.Proofs.Ytngmkjgklonfmaa.PNearLinks Go.Proofs.YtngmkjgklonfmaaW.PrintWords
/-- Faces that lie in memory. -/
def fc (w : World) (e : Addr) (f : Fa) : Prop := w.cell? e = some (.int .i64 (f 0)) ∧ ∀ j, 0 < j → j < 9 → w.cell? ⟨e.block, e.off + j, none⟩ = some (.int .i64 (f j))
def Fas (w : World) (A : Option Addr) (l : List Fa) : Prop := ∀ i (h : i < l.length), ∃ ad, A = some ad ∧ fc w (ad.add (i * 9)) l[i]
theorem fcell_fr {w w' : World} {a : Addr} {v : Value} (h : w.cell? a = some v) (hf : Fr (fun _ => False) w w') : w'.cell? a = some v := by
  have hb := World.block_lt_of_cell? w a h
  have := hf.block a.block hb (fun h => h)
  unfold World.cell? at *
  rw [this]; exact h
theorem fc.fr {w w' : World} {e : Addr} {f : Fa} (h : fc w e f) (hf : Fr (fun _ => False) w w') : fc w' e f := ⟨fcell_fr h.1 hf, fun j h0 h9 => fcell_fr (h.2 j h0 h9) hf⟩
theorem Fas.fr {w w' : World} {A : Option Addr} {l : List Fa} (h : Fas w A l) (hf : Fr (fun _ => False) w w') : Fas w' A l := fun i hi => by
  obtain ⟨ad, e, h1⟩ := h i hi
  exact ⟨ad, e, h1.fr hf⟩
/-- The offs are not so great that they turn about. -/
def smF (f : Fa) : Prop := ∀ j, 3 ≤ j → j < 9 → -1125899906842624 ≤ f j ∧ f j ≤ 1125899906842624
/-- The m-th link. -/
def lkAt (l : List Fa) (m : Nat) : S91 := frst (lnk (l.getD (m / 3) (fun _ => 0)) (m % 3))
def lkl (l : List Fa) (m : Nat) : List S91 := (List.range m).map (lkAt l)
theorem lkl_snoc (l : List Fa) (m : Nat) : lkl l (m + 1) = lkl l m ++ [lkAt l m] := by unfold lkl; rw [List.range_succ, List.map_append]; rfl
theorem lkl_len (l : List Fa) (m : Nat) : (lkl l m).length = m := by simp [lkl]
theorem lks_snoc (l : List Fa) (f : Fa) : lks (l ++ [f]) = lks l ++ [frst (lnk f 0), frst (lnk f 1), frst (lnk f 2)] := by simp [lks]
theorem lkl_take (l : List Fa) : ∀ i, i ≤ l.length → lkl l (3 * i) = lks (l.take i)
  | 0, _ => rfl
  | i + 1, h => by
    have hi : i < l.length := h
    have e : ∀ k, k < 3 → lkAt l (3 * i + k) = frst (lnk l[i] k) := fun k hk => by
      unfold lkAt
      rw [show (3 * i + k) / 3 = i from by omega, show (3 * i + k) % 3 = k from by omega]
      simp [List.getD, hi]
    have e0 : lkAt l (3 * i) = frst (lnk l[i] 0) := e 0 (by decide)
    rw [show 3 * (i + 1) = 3 * i + 1 + 1 + 1 from by omega, lkl_snoc, lkl_snoc, lkl_snoc, show 3 * i + 1 + 1 = 3 * i + 2 from rfl, e0, e 1 (by decide), e 2 (by decide), lkl_take l i (by omega), List.take_succ_eq_append_getElem hi, lks_snoc]
    simp
theorem lkl_all (l : List Fa) : lkl l (3 * l.length) = lks l := by rw [lkl_take l _ (Nat.le_refl _), List.take_of_length_le (Nat.le_refl _)]
theorem lks_len (l : List Fa) : (lks l).length = 3 * l.length := by rw [← lkl_all, lkl_len]
theorem small_lnk {f : Fa} (h : smF f) (k : Nat) (hk : k < 3) : smallL (lnk f k) := by
  have h1 := h (3 + 2 * k) (by omega) (by omega)
  have h2 := h (4 + 2 * k) (by omega) (by omega)
  have hj : (k + 1) % 3 < 3 := Nat.mod_lt _ (by decide)
  have h3 := h (3 + 2 * ((k + 1) % 3)) (by omega) (by omega)
  have h4 := h (4 + 2 * ((k + 1) % 3)) (by omega) (by omega)
  unfold smallL lnk
  simp only
  omega
theorem less_c {f : Fa} (h : smF f) (k : Nat) (hk : k < 3) (w : World) : Calls Try.prog 46 #[.agg #[.int .i64 (f (3 + 2 * ((k + 1) % 3))), .int .i64 (f (4 + 2 * ((k + 1) % 3)))], .agg #[.int .i64 (f (3 + 2 * k)), .int .i64 (f (4 + 2 * k))]] w fun e w' => e = .returned (.agg #[.int .i64 (lnk f k).f2.f0, .int .i64 (lnk f k).f2.f1]) ∧ Fr (fun _ => False) w w' := by
  have h1 := h (3 + 2 * k) (by omega) (by omega)
  have h2 := h (4 + 2 * k) (by omega) (by omega)
  have hj : (k + 1) % 3 < 3 := Nat.mod_lt _ (by decide)
  have h3 := h (3 + 2 * ((k + 1) % 3)) (by omega) (by omega)
  have h4 := h (4 + 2 * ((k + 1) % 3)) (by omega) (by omega)
  have e1 : wrap64 (f (3 + 2 * ((k + 1) % 3)) - f (3 + 2 * k)) = (lnk f k).f2.f0 := by unfold lnk wrap64; simp only; omega
  have e2 : wrap64 (f (4 + 2 * ((k + 1) % 3)) - f (4 + 2 * k)) = (lnk f k).f2.f1 := by unfold lnk wrap64; simp only; omega
  refine (lift_Less.calls _ _ _ _ (lnk f k).f2.f0 (lnk f k).f2.f1 w (by unfold lift_Less.f; rw [e1, e2])).mono ?_
  rintro e w' ⟨rfl, hb⟩
  exact ⟨rfl, Fr.of_below hb⟩
theorem first_c (a : S91) (h : smallL a) (w : World) : Calls Try.prog 45 #[.agg #[.int .i64 a.f0, .int .i64 a.f1, .int .i64 a.f2.f0, .int .i64 a.f2.f1]] w fun e w' => e = .returned (.agg #[.int .i64 (frst a).f0, .int .i64 (frst a).f1, .int .i64 (frst a).f2.f0, .int .i64 (frst a).f2.f1]) ∧ Fr (fun _ => False) w w' := by
  refine (near_first.calls 9 _ _ _ _ _ _ _ _ w (first_f a h)).mono ?_
  rintro e w' ⟨rfl, hb⟩
  exact ⟨rfl, Fr.of_below hb⟩
theorem info91 : (Try.prog.info? 91).map (fun i => (i.zero, i.size, i.bytes)) = some (some (.agg #[.int .i64 0, .int .i64 0, .int .i64 0, .int .i64 0]), 4, 32) := by kernel_rfl
theorem row_base {w : World} {base : Nat} {e : TypeId} {size : Nat} {v : Value} {n : Nat} {xs : List Value} (h : w.ownsRow base e size v n xs) : ∀ k, v.ownBlock = some k → base ≤ k ∧ k < w.heap.size := by
  intro k hk
  rcases h.2 with ⟨rfl, rfl⟩ | ⟨g, cap, cur, rfl, hb, hg, _⟩
  · simp [Value.ownBlock] at hk
  · simp only [Value.ownBlock, Option.some.injEq] at hk
    subst hk
    exact ⟨hb, ZFr.blk_lt hg⟩
/-- Sorted, and each once. -/
theorem tail_c (B c : Nat) (p : Option Addr) (L : List S91) (w : World) (h : w.ownsRow B 91 4 (.slice p L.length c) L.length (flat4 L)) (hl : L.length ≤ 1000) :
    Calls Try.prog 47 #[.slice p L.length c, .func (.func 48) #[] #[]] w fun e w' => e = .returned (.tuple #[]) ∧ Fr (fun k => B ≤ k ∧ k < w.heap.size) w w' ∧ Calls Try.prog 49 #[.slice p L.length c] w' fun e2 w2 => e2 = .returned (.slice p (insAll L).length c) ∧ Fr (fun k => B ≤ k ∧ k < w.heap.size) w' w2 ∧ (insAll L).length ≤ c ∧ Kd.C k91 w2 p (insAll L).length (insAll L) := by
  cases L with
  | nil =>
    refine (AnyF.slices_SortFunc_none Try.sortLinks p c _ w).mono ?_
    rintro e w' ⟨rfl, rfl⟩
    refine ⟨rfl, Fr.refl _ _, ?_⟩
    simp only [List.length_nil]
    go_enter Try.func49, Try.ntmps49
    go_wp2
    go_ret
    exact ⟨rfl, Fr.refl _ _, Nat.zero_le _, ⟨rfl, by decide, fun h => absurd h (by decide)⟩⟩
  | cons s L =>
    obtain ⟨g, c', hv⟩ := row_some h (by simp)
    simp only [Value.slice.injEq] at hv
    obtain ⟨rfl, _, rfl⟩ := hv
    have hb := row_base h g rfl
    have hcap : (s :: L).length ≤ c := by
      obtain ⟨_, h | ⟨g', cap, cur, he, _, _, hn, _⟩⟩ := h
      · simp at h
      · simp only [Value.slice.injEq] at he
        omega
    refine (sort_walk B g c (s :: L) w h (by omega)).mono ?_
    rintro e w' ⟨rfl, hf, hh⟩
    refine ⟨rfl, hf.mono (fun k hk => by subst hk; exact hb), ?_⟩
    have hlen : ((s :: L).mergeSort le4).length = (s :: L).length := List.length_mergeSort ..
    have hin : In4 w' g ((s :: L).mergeSort le4).length (fun i => ((s :: L).mergeSort le4).getD i z91) := by
      refine ⟨fun i hi => ?_, fun j hj => ?_⟩
      · have hi' : i < ((s :: L).mergeSort le4).toArray.size := by simpa using hi
        have c0 := (hh.cell hi' (show 0 < 4 by omega)).1
        have c1 := (hh.cell hi' (show 1 < 4 by omega)).1
        have c2 := (hh.cell hi' (show 2 < 4 by omega)).1
        have c3 := (hh.cell hi' (show 3 < 4 by omega)).1
        simp only [Nat.zero_add, Nat.add_zero] at c0 c1 c2 c3
        rw [getElem!_pos _ i hi'] at c0 c1 c2 c3
        have e : ((s :: L).mergeSort le4).getD i z91 = ((s :: L).mergeSort le4)[i] := by rw [List.getD_eq_getElem?_getD, List.getElem?_eq_getElem hi]; rfl
        show C4 w' g i (((s :: L).mergeSort le4).getD i z91)
        rw [e]
        exact ⟨c0, c1, c2, c3⟩
      · have hj' : j / 4 < ((s :: L).mergeSort le4).toArray.size := by simp only [List.size_toArray]; omega
        have c0 := (hh.cell hj' (show j % 4 < 4 by omega)).2
        rw [Nat.zero_add, show j / 4 * 4 + j % 4 = j from by omega] at c0
        exact c0
    have hcp := compact_walk g c ((s :: L).mergeSort le4) w' hin (by rw [hlen]; omega) (by rw [hlen]; exact hcap)
    rw [hlen, prog_eq_doc] at hcp
    refine hcp.mono ?_
    rintro e2 w2 ⟨rfl, hf2, hi2⟩
    have hil := insAll_len (s :: L)
    refine ⟨rfl, hf2.mono (fun k hk => by subst hk; exact hb), by omega, ⟨rfl, by omega, fun _ => ⟨_, rfl, fun j x hj => ?_⟩⟩⟩
    obtain ⟨hjl, hx⟩ := List.getElem?_eq_some_iff.1 hj
    obtain ⟨q0, q1, q2, q3⟩ := hi2.1 j hjl
    have e : (insAll (s :: L)).getD j z91 = x := by simp [List.getD, hj]
    simp only [e] at q0 q1 q2 q3
    refine ⟨_, rfl, k91_mk w2 x, fun i u hu => ?_⟩
    have ea : ∀ i, (⟨g, 0, none⟩ : Addr).add (j * k91.sz + i) = ⟨g, j * 4 + i, none⟩ := fun i => by
      rw [show k91.sz = 4 from rfl]; unfold Addr.add; split <;> simp_all
    rw [ea]
    match i, hu with
    | 0, hu => simp at hu; subst hu; exact q0
    | 1, hu => simp at hu; subst hu; exact q1
    | 2, hu => simp at hu; subst hu; exact q2
    | 3, hu => simp at hu; subst hu; exact q3
end Go.Proofs.Ytngmkjgklonfmaa.Lk

/- near.Links walked. -/
namespace Go.Proofs.Ytngmkjgklonfmaa.Lk
open Go.Shelf Go.RowKit Go.Lib Go.Sort Go.Proofs.ZFr Go.Proofs.Ytngmkjgklonfmaa.PNearLinks Go.Proofs.YtngmkjgklonfmaaW.PrintWords
attribute [local go_sem ↓] Go.wp_at_zero Go.wp_at_succ
def nin (f : Fa) : Obj := .cells #[.int .i64 (f 0), .int .i64 (f 1), .int .i64 (f 2), .int .i64 (f 3), .int .i64 (f 4), .int .i64 (f 5), .int .i64 (f 6), .int .i64 (f 7), .int .i64 (f 8)] 63
theorem row_al {w : World} {base : Nat} {e : TypeId} {size : Nat} {v : Value} {n : Nat} {xs : List Value} (h : w.ownsRow base e size v n xs) (o : Obj) : (w.alloc o).ownsRow base e size v n xs := h.alloc o
theorem ZFr.blk_drew {w : World} {b : Nat} {o : Obj} (h : w.heap[b]? = some o) : w.drew.heap[b]? = some o := h
theorem gcell {w w' : World} {a : Addr} {v : Value} {row : Option Nat} (h : w.cell? a = some v) (hg : w.grownBy w' row) (hr : row ≠ some a.block) : w'.cell? a = some v := by
  have hb := World.block_lt_of_cell? w a h
  have := hg.block a.block hb (fun e => hr e.symm)
  unfold World.cell? at *
  rw [this]; exact h
theorem nin_cell {w : World} {b : Nat} {f : Fa} (h : w.heap[b]? = some (nin f)) (j : Nat) (hj : j < 9) : w.cell? ⟨b, j, none⟩ = some (.int .i64 (f j)) := by
  rw [ZFr.blk_cell h j]
  match j, hj with
  | 0, _ => rfl
  | 1, _ => rfl
  | 2, _ => rfl
  | 3, _ => rfl
  | 4, _ => rfl
  | 5, _ => rfl
  | 6, _ => rfl
  | 7, _ => rfl
  | 8, _ => rfl
set_option maxRecDepth 100000 in
set_option maxHeartbeats 4000000 in
theorem links_walk (A : Option Addr) (c : Nat) (l : List Fa) (w : World) (hl : l.length ≤ 100) (hp : Fas w A l) (hs : ∀ f ∈ l, smF f) : Calls Try.prog 25 #[.slice A l.length c] w fun e w' => ∃ p d, e = .returned (.slice p (insAll (lks l)).length d) ∧ (insAll (lks l)).length ≤ d ∧ Kd.C k91 w' p (insAll (lks l)).length (insAll (lks l)) ∧ Fr (fun _ => False) w w' := by
  have HP := Lib.hid hp
  have HS := Lib.hid hs
  have H100 := Lib.hid hl
  clear hp hs hl
  go_enter Try.func25, Try.ntmps25
  go_wp2_with fail
  go_loopw [3, 10] (fun v i wr => ∃ k : Nat, k ≤ l.length ∧ i = .int .i64 (k : Int) ∧ wr.ownsRow w.heap.size 91 4 v (3 * k) (flat4 (lkl l (3 * k))) ∧ Fr (fun _ => False) w wr) (fun _ i _ => (l.length - intOf i).toNat)
  case atStart => exact ⟨0, by omega, rfl, ⟨rfl, .inl ⟨rfl, rfl⟩⟩, Fr.refl _ _⟩
  case round =>
    obtain ⟨k, hk, rfl, ho, hf⟩ := hrel
    have HO := Lib.hid ho
    have HF := Lib.hid hf
    clear ho hf
    by_cases hkl : k < l.length
    · have hk100 : (k : Int) < 100 := by have := H100.out; omega
      obtain ⟨ad, rfl, c0, cj⟩ := (HP.out.fr HF.out) k hkl
      have c1 := cj 1 (by decide) (by decide)
      have c2 := cj 2 (by decide) (by decide)
      have c3 := cj 3 (by decide) (by decide)
      have c4 := cj 4 (by decide) (by decide)
      have c5 := cj 5 (by decide) (by decide)
      have c6 := cj 6 (by decide) (by decide)
      have c7 := cj 7 (by decide) (by decide)
      have c8 := cj 8 (by decide) (by decide)
      have hsf := HS.out _ (List.getElem_mem hkl)
      have hgd : ∀ j, j < 3 → lkAt l (3 * k + j) = frst (lnk l[k] j) := fun j hj => by
        unfold lkAt
        rw [show (3 * k + j) / 3 = k from by omega, show (3 * k + j) % 3 = j from by omega]
        simp [List.getD, hkl]
      generalize l[k] = f at c0 c1 c2 c3 c4 c5 c6 c7 c8 hsf hgd
      have HGD := Lib.hid hgd
      have HSF := Lib.hid hsf
      clear hgd hsf cj
      obtain ⟨wo, rfl⟩ : ∃ wo : World, wo = wr := ⟨_, rfl⟩
      go_wp2_with fail
      have T1 := Lib.hid (heap_alloc_new wo (nin f))
      have F1 := Lib.hid (HF.out.alloc (nin f))
      have O1 := Lib.hid (row_al HO.out (nin f))
      unfold nin at T1 F1 O1
      clear HO HF
      generalize wo.alloc (Obj.cells #[Value.int IntKind.i64 (f 0), Value.int IntKind.i64 (f 1), Value.int IntKind.i64 (f 2), Value.int IntKind.i64 (f 3), Value.int IntKind.i64 (f 4), Value.int IntKind.i64 (f 5), Value.int IntKind.i64 (f 6), Value.int IntKind.i64 (f 7), Value.int IntKind.i64 (f 8)] 63) = w1 at T1 F1 O1 ⊢
      generalize wo.heap.size = b at T1 ⊢
      go_loopw [3, 14] (fun v i wr => ∃ j : Nat, j ≤ 3 ∧ i = .int .i64 (j : Int) ∧ wr.ownsRow w.heap.size 91 4 v (3 * k + j) (flat4 (lkl l (3 * k + j))) ∧ wr.heap[b]? = some (nin f) ∧ Fr (fun _ => False) w wr) (fun _ i _ => (3 - intOf i).toNat)
      case atStart => exact ⟨0, by omega, rfl, O1.out, T1.out, F1.out⟩
      case round =>
        obtain ⟨j, hj, rfl, ho, ht, hf⟩ := hrel
        obtain ⟨p, c, rfl⟩ := row_slice ho
        have HO := Lib.hid ho
        have HT := Lib.hid ht
        have HF := Lib.hid hf
        clear ho ht hf
        by_cases hj3 : j < 3
        · have hjd : (j : Int) < 3 := by omega
          obtain ⟨jj, hjj, hjj3⟩ : ∃ q, (j + 1) % 3 = q ∧ q < 3 := ⟨_, rfl, Nat.mod_lt _ (by decide)⟩
          have hm300 : 3 * k + j < 300 := by omega
          have LS0 := fun w => less_c HSF.out j hj3 w
          rw [hjj, show 3 + 2 * jj = 3 + jj * 2 from by omega, show 4 + 2 * jj = 3 + jj * 2 + 1 from by omega, show 3 + 2 * j = 3 + j * 2 from by omega, show 4 + 2 * j = 3 + j * 2 + 1 from by omega] at LS0
          have FI0 := fun w => first_c (lnk f j) (small_lnk HSF.out j hj3) w
          have hsn := lkl_snoc l (3 * k + j)
          rw [HGD.out j hj3] at hsn
          have a0 : (lnk f j).f0 = f j := rfl
          have a1 : (lnk f j).f1 = f jj := by unfold lnk; simp only [hjj]
          generalize lnk f j = a at LS0 FI0 hsn a0 a1
          rw [a0, a1] at FI0
          have q0 := nin_cell (ZFr.blk_drew HT.out) j (by omega)
          have q1 := nin_cell (ZFr.blk_drew HT.out) jj (by omega)
          have q2 := nin_cell (ZFr.blk_drew HT.out) (3 + jj * 2) (by omega)
          have q3 := nin_cell (ZFr.blk_drew HT.out) (3 + jj * 2 + 1) (by omega)
          have q4 := nin_cell (ZFr.blk_drew HT.out) (3 + j * 2) (by omega)
          have q5 := nin_cell (ZFr.blk_drew HT.out) (3 + j * 2 + 1) (by omega)
          clear a0 a1
          generalize f j = x0 at LS0 FI0 q0
          generalize f jj = x1 at LS0 FI0 q1
          generalize f (3 + jj * 2) = x2 at LS0 FI0 q2
          generalize f (3 + jj * 2 + 1) = x3 at LS0 FI0 q3
          generalize f (3 + j * 2) = x4 at LS0 FI0 q4
          generalize f (3 + j * 2 + 1) = x5 at LS0 FI0 q5
          obtain ⟨m, hm⟩ : ∃ m, 3 * k + j = m := ⟨_, rfl⟩
          rw [hm] at hsn HO hm300 ⊢
          have LS := Lib.hid LS0
          have FI := Lib.hid FI0
          have HSN := Lib.hid hsn
          have HM := Lib.hid hm
          have HM3 := Lib.hid hm300
          clear LS0 FI0 hsn hm hm300 hk hj
          obtain ⟨i0, hi0, hz0, hz1, hz2⟩ := info_parts info91
          go_upto_region 9 with fail
          rw [show ((j : Int) + 1) % 3 = (jj : Int) from by omega]
          have hjjd : (jj : Int) < 3 := by omega
          have hj0 : (0 : Int) ≤ (j : Int) := by omega
          have hjj0 : (0 : Int) ≤ (jj : Int) := by omega
          have BW := Lib.hid HF.out.size
          have NE := Lib.hid (ZFr.row_ne HO.out HT.out (by decide))
          go_region_held3 (fun w' => w'.cell? ⟨b, j, none⟩ = some (.int .i64 x0) ∧ w'.cell? ⟨b, jj, none⟩ = some (.int .i64 x1) ∧ w'.cell? ⟨b, 3 + jj * 2, none⟩ = some (.int .i64 x2) ∧ w'.cell? ⟨b, 3 + jj * 2 + 1, none⟩ = some (.int .i64 x3) ∧ w'.cell? ⟨b, 3 + j * 2, none⟩ = some (.int .i64 x4) ∧ w'.cell? ⟨b, 3 + j * 2 + 1, none⟩ = some (.int .i64 x5))
            (refine ⟨?_, ?_, ?_, ?_, ?_, ?_⟩ <;> (repeat (first | with_reducible assumption | (with_reducible refine gcell ?_ hgrow NE.out) | (with_reducible refine fcell_fr ?_ ((Fr.refl (fun _ => False) _).alloc _)) | (with_reducible refine fcell_fr ?_ F6.out) | (with_reducible refine fcell_fr ?_ F5.out) | go_keep)))
            (first
              | ((refine step_append_lies _ (by rfl) _ _ _ (by rfl) w.heap.size 91 i0 _ 4 32 Try.underlying65 hi0 hz0 hz1 hz2 rfl (by decide) (.slice p m c) m (flat4 (lkl l m)) (by rfl) (row_al (row_fr (row_fr HO.out.drew F5.out (fun _ _ h => h)) F6.out (fun _ _ h => h)) _) ⟨w6.heap.size, 0, none⟩ 1 1 (enc4 (frst a)) (by rfl) (by rfl) (World.news_of_block (cs := #[.int .i64 (frst a).f0, .int .i64 (frst a).f1, .int .i64 (frst a).f2.f0, .int .i64 (frst a).f2.f1]) (t := 91) (fr := (0, 0)) (heap_alloc_new w6 _)) (by simp [enc4, Value.oneCell']) (by decide) (by unfold maxLen; exact Nat.le_trans (Nat.add_le_add_right (Nat.le_of_lt HM3.out) 1) (by decide)) (by exact Nat.le_trans (Nat.mul_le_mul_right 32 (Nat.add_le_add_right (Nat.le_of_lt HM3.out) 1)) (by decide)) (by simp; exact Nat.le_succ_of_le (Nat.le_trans BW.out (Nat.le_trans F5.out.size F6.out.size))) (w6.heap.size + 1) (by simp) ?_; intro gg cap w7 hown7 hgrow hat hlt7))
              | ((go_at_call 45; have hc_ := FI.out w5; (with_reducible refine hc_.mono ?_); clear hc_; rintro e w6 ⟨rfl, f6⟩; have F6 := Lib.hid f6; clear f6))
              | ((go_at_call 46; have hc_ := LS.out wr.drew; (with_reducible refine hc_.mono ?_); clear hc_; rintro e w5 ⟨rfl, f5⟩; have F5 := Lib.hid f5; clear f5)))
          have HO8 := Lib.hid hown7
          have HG := Lib.hid hgrow
          clear hown7 hgrow hat hlt7
          go_wp2_with fail
          go_roundw
          case rel =>
            refine ⟨j + 1, by omega, by go_num, ?_, ?_, ?_⟩
            · rw [show 3 * k + (j + 1) = m + 1 from by have := HM.out; omega, HSN.out, flat4_append]
              exact HO8.out
            · exact ZFr.blk_grown (ZFr.blk_alloc (ZFr.blk_fr (ZFr.blk_fr (ZFr.blk_drew HT.out) F5.out (fun h => h)) F6.out (fun h => h)) _) HG.out NE.out
            · exact ((((HF.out.drew.trans F5.out (fun _ h _ => h)).trans F6.out (fun _ h _ => h)).alloc _).grown HG.out (fun q hq => .inr (row_base HO.out q hq).1))
          case measure => simp [intOf]; omega
        · have hje : j = 3 := by omega
          subst hje
          go_wp2_with fail
          go_roundw
          case rel => exact ⟨k + 1, by omega, by go_num, HO.out, HF.out⟩
          case measure => simp [intOf]; omega
    · have hke : k = l.length := by omega
      subst hke
      obtain ⟨p, c, rfl⟩ := row_slice HO.out
      have ho := HO.out
      rw [lkl_all] at ho
      have hlen := lks_len l
      rw [← hlen] at ho
      have TC := Lib.hid (tail_c w.heap.size c p (lks l) wr ho (by have := H100.out; omega))
      rw [hlen] at TC
      clear ho
      go_wp2_with (first
        | (go_at_call 49; have hc_ := H2.out; (with_reducible refine hc_.mono ?_); clear hc_; rintro e w2 ⟨rfl, f2, hd, hC⟩; have F2 := Lib.hid f2; have HD := Lib.hid hd; have HC := Lib.hid hC; clear f2 hd hC)
        | (go_at_call 47; have hc_ := TC.out; (with_reducible refine hc_.mono ?_); clear hc_; rintro e w1 ⟨rfl, f1, h2⟩; have F1 := Lib.hid f1; have H2 := Lib.hid h2; clear f1 h2))
      go_ret
      refine ⟨_, _, rfl, HD.out, HC.out, ?_⟩
      exact (HF.out.trans F1.out (fun i h hlt => absurd h.1 (by omega))).trans F2.out (fun i h hlt => absurd h.1 (by omega))
end Go.Proofs.Ytngmkjgklonfmaa.Lk
