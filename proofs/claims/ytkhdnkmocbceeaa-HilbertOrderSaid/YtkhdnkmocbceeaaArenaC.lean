/- The methods of package arena by what they do to a list of places and a list of numbers that came back. -/
import Derived.Test.YtkhdnkmocbceeaaArenaW
namespace Go.Proofs.Ytkhdnkmocbceeaa.Arena
open Go.RowKit Go.Proofs.ZFr

/-- The first number that came back, or that there is none. -/
def fr : List Nat → Int
  | [] => -1
  | c :: _ => c
/-- The numbers that came back are chained by their places. -/
def chain (L : List Int) : List Nat → Prop
  | [] => True
  | c :: cs => L[c]? = some (fr cs) ∧ c ∉ cs ∧ chain L cs
theorem fr_ne (C : List Nat) : fr C ≠ -2 := by
  cases C with
  | nil => decide
  | cons c cs => simp only [fr]; omega
theorem chain_lt {L : List Int} : ∀ {C : List Nat}, chain L C → ∀ c ∈ C, c < L.length ∧ L[c]? ≠ some (-2) := by
  intro C
  induction C with
  | nil => intro _ c hc; cases hc
  | cons d ds ih =>
    intro h c hc
    rcases List.mem_cons.1 hc with rfl | hc
    · obtain ⟨hl, _⟩ := List.getElem?_eq_some_iff.1 h.1
      exact ⟨hl, by rw [h.1]; simp [fr_ne]⟩
    · exact ih h.2.2 c hc
theorem chain_same {L M : List Int} : ∀ {C : List Nat}, chain L C → (∀ c ∈ C, M[c]? = L[c]?) → chain M C := by
  intro C
  induction C with
  | nil => intro _ _; trivial
  | cons d ds ih =>
    intro h hs
    exact ⟨(hs d (by simp)).trans h.1, h.2.1, ih h.2.2 (fun c hc => hs c (by simp [hc]))⟩

/-- What is taken next, and the places behind. -/
def taken (L : List Int) : List Nat → Nat
  | [] => L.length
  | c :: _ => c
def takeL (L : List Int) : List Nat → List Int
  | [] => L ++ [-2]
  | c :: _ => L.set c (-2)
/-- The places, and what came back, behind a giving back. -/
def freeL (L : List Int) (C : List Nat) (n : Int) : List Int := if live L n = true then L.set n.toNat (fr C) else L
def freeC (L : List Int) (C : List Nat) (n : Int) : List Nat := if live L n = true then n.toNat :: C else C

/-- Places and what came back fit. -/
def Fits (L : List Int) (C : List Nat) : Prop := chain L C ∧ L.length = L.count (-2) + C.length

theorem fits_nil : Fits [] [] := ⟨trivial, rfl⟩
theorem count_set_lent {L : List Int} {c : Nat} (h : c < L.length) (hn : L[c]? ≠ some (-2)) : (L.set c (-2)).count (-2) = L.count (-2) + 1 := by
  rw [List.count_set h]
  have : ¬ (L[c] == -2) = true := by
    rw [beq_iff_eq]; intro e; exact hn (by rw [List.getElem?_eq_getElem h, e])
  simp [this]
theorem count_set_back {L : List Int} {c : Nat} {m : Int} (hn : L[c]? = some (-2)) (hm : m ≠ -2) : (L.set c m).count (-2) + 1 = L.count (-2) := by
  obtain ⟨h, e⟩ := List.getElem?_eq_some_iff.1 hn
  rw [List.count_set h]
  have hp : 0 < L.count (-2) := List.count_pos_iff.2 (List.mem_iff_getElem.2 ⟨c, h, e⟩)
  simp [e, hm]; omega
theorem fits_take {L : List Int} {C : List Nat} (h : Fits L C) : Fits (takeL L C) C.tail ∧ (takeL L C).count (-2) = L.count (-2) + 1 := by
  cases C with
  | nil =>
    have hl := h.2
    refine ⟨⟨trivial, ?_⟩, ?_⟩
    · simp [takeL] at hl ⊢; omega
    · simp [takeL]
  | cons c cs =>
    obtain ⟨⟨h1, h2, h3⟩, h4⟩ := h
    obtain ⟨hl, e⟩ := List.getElem?_eq_some_iff.1 h1
    have hc := count_set_lent hl (by rw [h1]; simp [fr_ne])
    refine ⟨⟨chain_same h3 ?_, ?_⟩, hc⟩
    · intro d hd
      show (L.set c (-2))[d]? = _
      rw [List.getElem?_set, if_neg (fun (e : c = d) => h2 (e ▸ hd))]
    · simp only [List.length_cons] at h4
      simp [takeL, hc]; omega
theorem live_iff {L : List Int} {n : Int} : live L n = true ↔ 0 ≤ n ∧ L[n.toNat]? = some (-2) := by simp [live]
theorem fits_free {L : List Int} {C : List Nat} (h : Fits L C) (n : Int) : Fits (freeL L C n) (freeC L C n) := by
  by_cases hl : live L n = true
  · simp only [freeL, freeC, if_pos hl]
    obtain ⟨h0, h1⟩ := live_iff.1 hl
    obtain ⟨hlt, e⟩ := List.getElem?_eq_some_iff.1 h1
    have hn : n.toNat ∉ C := fun hm => (chain_lt h.1 _ hm).2 h1
    have hc := count_set_back h1 (fr_ne C)
    refine ⟨⟨by rw [List.getElem?_set]; simp [hlt], hn, chain_same h.1 ?_⟩, ?_⟩
    · intro d hd
      rw [List.getElem?_set, if_neg (fun (e : n.toNat = d) => hn (e ▸ hd))]
    · have := h.2
      simp; omega
  · simp only [freeL, freeC, if_neg hl]; exact h

/-- An arena in memory, its places and what came back. -/
structure AC (w : World) (B ab : Nat) (v : Value) (L : List Int) (C : List Nat) : Prop where
  ar : Ar w B ab v L (fr C) (L.count (-2) : Nat)
  fits : Fits L C

theorem AC.fr {S : Nat → Prop} {w w' : World} {B ab : Nat} {v : Value} {L : List Int} {C : List Nat} (h : AC w B ab v L C) (hg : Fr S w w') (hS : ∀ k, Own ab v k → ¬ S k) : AC w' B ab v L C :=
  ⟨h.ar.fr hg hS, h.fits⟩
theorem AC.own_lt {w : World} {B ab : Nat} {v : Value} {L : List Int} {C : List Nat} (h : AC w B ab v L C) : ∀ k, Own ab v k → B ≤ k ∧ k < w.heap.size := by
  intro k hk
  rcases hk with rfl | hk
  · exact ⟨h.ar.low, blk_lt h.ar.blk⟩
  · exact h.ar.row.lt k hk
/-- A block of other elements is none of the arena's. -/
theorem AC.not_own {w : World} {B ab : Nat} {v : Value} {L : List Int} {C : List Nat} (h : AC w B ab v L C) {k : Nat} {cs : Array Value} {t : TypeId} (hb : w.heap[k]? = some (.cells cs t (0, 0))) (h69 : t ≠ 69) (h20 : t ≠ 20) : ¬ Own ab v k := by
  rintro (rfl | hk)
  · rw [h.ar.blk] at hb
    simp only [Option.some.injEq, Obj.cells.injEq] at hb
    exact h69 hb.2.1.symm
  · exact row_ne h.ar.row hb h20 hk

theorem count_le (L : List Int) : L.count (-2) ≤ L.length := List.count_le_length

theorem new_AC (w : World) (B : Nat) (hB : B ≤ w.heap.size) :
    Calls Try.prog 24 #[] w fun e w' => e = .returned (.pointer (some ⟨w.heap.size, 0, none⟩)) ∧ AC w' B w.heap.size (.slice none 0 0) [] [] ∧ Fr (fun _ => False) w w' := by
  refine (new_any w).mono ?_
  rintro e w' ⟨rfl, rfl⟩
  exact ⟨rfl, ⟨⟨heap_alloc_new w _, World.ownsRow_nil _ _ _ _, hB⟩, fits_nil⟩, (Fr.refl _ _).alloc _⟩

theorem take_AC (w : World) (B ab : Nat) (v : Value) (L : List Int) (C : List Nat) (h : AC w B ab v L C) (hL : L.length ≤ 100000) :
    Calls Try.prog 27 #[.pointer (some ⟨ab, 0, none⟩)] w fun e w' => e = .returned (.int .i64 (taken L C)) ∧ ∃ v', AC w' B ab v' (takeL L C) C.tail ∧ Fr (Own ab v) w w' := by
  obtain ⟨ha, hf⟩ := h
  have hcl := count_le L
  obtain ⟨hf', hcn⟩ := fits_take hf
  cases C with
  | nil =>
    obtain ⟨p, c, rfl⟩ := row_slice ha.row
    refine (take_more w B ab p L.length c L _ ha rfl hL (by omega) (by omega)).mono ?_
    rintro e w' ⟨rfl, v', ha', hfr⟩
    refine ⟨rfl, v', ⟨?_, hf'⟩, hfr⟩
    rw [hcn]; exact ha'
  | cons d ds =>
    obtain ⟨⟨h1, h2, h3⟩, h4⟩ := hf
    obtain ⟨hl, e⟩ := List.getElem?_eq_some_iff.1 h1
    obtain ⟨g, c, rfl⟩ := row_some ha.row (by omega)
    have hne : ab ≠ g := fun e => ha.ne (by simp [Value.ownBlock, e])
    have hc := ha.row.cellAt d (by omega)
    have k1 := blk_cell ha.blk 1
    have k2 := blk_cell ha.blk 2
    simp at k1 k2
    refine (take_back w ab g L.length c d (fr ds) _ hl hne (blk_cell ha.blk 0) k1 k2 (blk_free ha.blk 1) (blk_free ha.blk 2) (by rw [hc, List.getElem?_map, h1]; rfl) (ha.row.frozenAt d) (by omega) (by omega)).mono ?_
    rintro e w' ⟨rfl, rfl⟩
    have hb1 := blk_set (blk_set ha.blk 2 (.int .i64 (((L.count (-2) : Nat) : Int) + 1))) 1 (.int .i64 (fr ds))
    have hr1 := ownsRow_setCell_other (ownsRow_setCell_other ha.row (a := ⟨ab, 2, none⟩) ha.ne (.int .i64 (((L.count (-2) : Nat) : Int) + 1))) (a := ⟨ab, 1, none⟩) ha.ne (.int .i64 (fr ds))
    refine ⟨rfl, .slice (some ⟨g, 0, none⟩) L.length c, ⟨⟨?_, ?_, ha.low⟩, hf'⟩, ?_⟩
    · rw [hcn]
      have := blk_set_other hb1 ⟨g, d, none⟩ (.iface 3 (.int .i64 (-2))) hne
      simpa using this
    · have := (hr1.stored d (.iface 3 (.int .i64 (-2)))).1
      simpa [takeL, List.map_set, cellV] using this
    · exact (((Fr.refl _ w).set _ _ (.inl (.inl rfl))).set _ _ (.inl (.inl rfl))).set _ _ (.inl (.inr rfl))

theorem free_AC (w : World) (B ab : Nat) (v : Value) (L : List Int) (C : List Nat) (n : Int) (h : AC w B ab v L C) (hL : L.length ≤ 100000) :
    Calls Try.prog 25 #[.pointer (some ⟨ab, 0, none⟩), .int .i64 n] w fun e w' => e = .returned (.bool (live L n)) ∧ AC w' B ab v (freeL L C n) (freeC L C n) ∧ Fr (Own ab v) w w' := by
  have hf' := fits_free h.fits n
  by_cases hl : live L n = true
  · obtain ⟨h0, h1⟩ := live_iff.1 hl
    obtain ⟨hlt, e⟩ := List.getElem?_eq_some_iff.1 h1
    obtain ⟨n, rfl⟩ : ∃ k : Nat, n = k := ⟨n.toNat, by omega⟩
    simp only [Int.toNat_natCast] at h1 hlt e
    have hcl := count_le L
    have hcb := count_set_back h1 (fr_ne C)
    have hp : 0 < L.count (-2) := by omega
    simp only [freeL, freeC, if_pos hl, Int.toNat_natCast] at hf' ⊢
    obtain ⟨ha, hf⟩ := h
    obtain ⟨g, c, rfl⟩ := row_some ha.row (by omega)
    have hne : ab ≠ g := fun e => ha.ne (by simp [Value.ownBlock, e])
    have hc := ha.row.cellAt n (by omega)
    have k1 := blk_cell ha.blk 1
    have k2 := blk_cell ha.blk 2
    simp at k1 k2
    refine (free_yes w ab g L.length c n (fr C) _ hlt hne (blk_cell ha.blk 0) k1 k2 (blk_free ha.blk 1) (blk_free ha.blk 2) (by rw [hc, List.getElem?_map, h1]; rfl) (ha.row.frozenAt n) (by omega) (by omega)).mono ?_
    rintro e w' ⟨rfl, k, rfl⟩
    have hb1 := blk_set ha.blk 2 (.int .i64 (((L.count (-2) : Nat) : Int) - 1))
    have hb2 := blk_set (blk_set_other hb1 ⟨g, n, none⟩ (.iface 3 (.int .i64 (fr C))) hne) 1 (.int .i64 (n : Int))
    have hr1 := (ownsRow_setCell_other ha.row (a := ⟨ab, 2, none⟩) ha.ne (.int .i64 (((L.count (-2) : Nat) : Int) - 1))).stored n (.iface 3 (.int .i64 (fr C)))
    have hr2 := ownsRow_setCell_other hr1.1 (a := ⟨ab, 1, none⟩) ha.ne (.int .i64 (n : Int))
    refine ⟨by rw [hl], ⟨⟨?_, ?_, ha.low⟩, hf'⟩, ?_⟩
    · have e1 : (((L.set n (fr C)).count (-2) : Nat) : Int) = ((L.count (-2) : Nat) : Int) - 1 := by omega
      rw [e1]
      simpa [Go.Proofs.Ytkhdnkmocbceeaa.Arena.fr] using hb2
    · have := row_fr hr2 ((Fr.refl (fun _ => False) _).drewN k) (fun _ _ h => h)
      simpa [List.map_set, cellV] using this
    · exact ((((Fr.refl _ w).set _ _ (.inl (.inl rfl))).set _ _ (.inl (.inr rfl))).set _ _ (.inl (.inl rfl))).drewN k
  · have hl' : live L n = false := by simpa using hl
    have hc := live_any w B ab v L _ _ n h.ar
    rw [hl'] at hc
    refine (free_no w (some ⟨ab, 0, none⟩) n hc).mono ?_
    rintro e w' ⟨rfl, rfl⟩
    simp only [freeL, freeC, if_neg hl] at hf' ⊢
    exact ⟨by rw [hl'], h, Fr.refl _ _⟩

theorem len_AC (w : World) (B ab : Nat) (v : Value) (L : List Int) (C : List Nat) (h : AC w B ab v L C) :
    Calls Try.prog 28 #[.pointer (some ⟨ab, 0, none⟩)] w fun e w' => e = .returned (.int .i64 (L.count (-2) : Nat)) ∧ w = w' := by
  have k2 := blk_cell h.ar.blk 2
  simp at k2
  exact len_some w ab _ k2
theorem top_AC (w : World) (B ab : Nat) (v : Value) (L : List Int) (C : List Nat) (h : AC w B ab v L C) :
    Calls Try.prog 29 #[.pointer (some ⟨ab, 0, none⟩)] w fun e w' => e = .returned (.int .i64 L.length) ∧ w = w' := by
  obtain ⟨p, c, rfl⟩ := row_slice h.ar.row
  exact top_some w ab p L.length c (blk_cell h.ar.blk 0)
theorem clear_AC (w : World) (B ab : Nat) (v : Value) (L : List Int) (C : List Nat) (h : AC w B ab v L C) :
    Calls Try.prog 31 #[.pointer (some ⟨ab, 0, none⟩)] w fun e w' => e = .returned (.tuple #[]) ∧ AC w' B ab (.slice none 0 0) [] [] ∧ Fr (Own ab v) w w' := by
  have k0 := blk_cell h.ar.blk 0
  have k1 := blk_cell h.ar.blk 1
  have k2 := blk_cell h.ar.blk 2
  simp at k0 k1 k2
  refine (clear_some w ab _ _ _ k0 k1 k2 (blk_free h.ar.blk 0) (blk_free h.ar.blk 1) (blk_free h.ar.blk 2)).mono ?_
  rintro e w' ⟨rfl, rfl⟩
  refine ⟨rfl, ⟨⟨?_, World.ownsRow_nil _ _ _ _, h.ar.low⟩, fits_nil⟩, ?_⟩
  · have := blk_set (blk_set (blk_set h.ar.blk 0 (.slice none 0 0)) 1 (.int .i64 (-1))) 2 (.int .i64 0)
    simpa [Go.Proofs.Ytkhdnkmocbceeaa.Arena.fr] using this
  · exact (((Fr.refl _ w).set _ _ (.inl (.inl rfl))).set _ _ (.inl (.inl rfl))).set _ _ (.inl (.inl rfl))

set_option maxHeartbeats 400000 in
theorem live_pub (w : World) (p : Option Addr) (n : Int) (b : Bool) (hl : Calls Try.prog 51 #[.pointer p, .int .i64 n] w fun e w' => e = .returned (.bool b) ∧ w = w') :
    Calls Try.prog 33 #[.pointer p, .int .i64 n] w fun e w' => e = .returned (.bool b) ∧ w = w' := by
  have HL := Lib.hid hl
  clear hl
  go_enter Try.func33, Try.ntmps33
  go_wp2_with (go_at_call 51; refine HL.out.mono ?_; rintro e w' ⟨rfl, rfl⟩)
  go_ret
  exact ⟨rfl, rfl⟩

set_option maxRecDepth 100000 in
set_option maxHeartbeats 800000 in
theorem lives (w : World) : Calls Try.prog 30 #[] w fun e w' => e = .returned (.bool true) ∧ Below w.heap.size w w' := by
  go_enter Try.func30, Try.ntmps30
  go_wp2_with fail
  refine (new_AC w w.heap.size (Nat.le_refl _)).mono ?_
  rintro e w1 ⟨rfl, h1, f1⟩
  have H1 := Lib.hid h1
  have F1 := Lib.hid f1
  clear h1 f1
  go_wp2_with fail
  refine (take_AC w1 _ _ _ _ _ H1.out (by simp)).mono ?_
  rintro e w2 ⟨he, v2, h2, f2⟩
  obtain rfl : e = .returned (.int .i64 0) := he
  have H2 := Lib.hid h2
  have F2 := Lib.hid f2
  clear h2 f2
  go_wp2_with fail
  refine (take_AC w2 _ _ _ _ _ H2.out (by simp [takeL])).mono ?_
  rintro e w3 ⟨he, v3, h3, f3⟩
  obtain rfl : e = .returned (.int .i64 1) := he
  have H3 := Lib.hid h3
  have F3 := Lib.hid f3
  clear h3 f3
  go_wp2_with fail
  refine (free_AC w3 _ _ _ _ _ 0 H3.out (by simp [takeL])).mono ?_
  rintro e w4 ⟨he, h4, f4⟩
  obtain rfl : e = .returned (.bool true) := he
  have H4 := Lib.hid h4
  have F4 := Lib.hid f4
  clear h4 f4
  go_wp2_with fail
  refine (take_AC w4 _ _ _ _ _ H4.out (by decide)).mono ?_
  rintro e w5 ⟨he, v5, h5, f5⟩
  obtain rfl : e = .returned (.int .i64 0) := he
  have H5 := Lib.hid h5
  have F5 := Lib.hid f5
  clear h5 f5
  go_wp2_with fail
  refine (len_AC w5 _ _ _ _ _ H5.out).mono ?_
  rintro e w6 ⟨he, rfl⟩
  obtain rfl : e = .returned (.int .i64 2) := he
  go_wp2_with fail
  go_ret
  refine ⟨rfl, ?_⟩
  have own1 : ∀ k, Own w.heap.size (Value.slice none 0 0) k → w.heap.size ≤ k := fun k hk => (H1.out.own_lt k hk).1
  have g2 : Fr (fun k => w.heap.size ≤ k) w w2 := (F1.out.mono (fun _ h => h.elim)).trans F2.out (fun k hk _ => (H1.out.own_lt k hk).1)
  have g3 := g2.trans F3.out (fun k hk _ => (H2.out.own_lt k hk).1)
  have g4 := g3.trans F4.out (fun k hk _ => (H3.out.own_lt k hk).1)
  have g5 := g4.trans F5.out (fun k hk _ => (H4.out.own_lt k hk).1)
  exact g5.below _ (Nat.le_refl _) (fun k h => h)

end Go.Proofs.Ytkhdnkmocbceeaa.Arena
