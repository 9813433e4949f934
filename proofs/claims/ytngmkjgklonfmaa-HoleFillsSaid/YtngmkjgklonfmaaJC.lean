/- Joined texts. -/
import Derived.WalkKit
import Derived.Below
import Derived.OwnWalk
import Derived.Laws.OwnMore
import Derived.OneCell
import Derived.Deep.Quiet
import Derived.Deep.RegionHeld3
/- What is used of ZFr. -/
namespace Go.Proofs.ZFr
open Go.RowKit

/-- Of what was there, only the blocks of S may have turned. -/
structure Fr (S : Nat → Prop) (w w' : World) : Prop where
  os : w'.os = w.os
  tape : w'.tape = w.tape
  output : w'.output = w.output
  size : w.heap.size ≤ w'.heap.size
  block : ∀ k, k < w.heap.size → ¬ S k → w'.heap[k]? = w.heap[k]?

theorem Fr.refl (S : Nat → Prop) (w : World) : Fr S w w := ⟨rfl, rfl, rfl, Nat.le_refl _, fun _ _ _ => rfl⟩
theorem Fr.trans {S T : Nat → Prop} {a b c : World} (h : Fr S a b) (k : Fr T b c) (hT : ∀ i, T i → i < a.heap.size → S i) : Fr S a c :=
  ⟨k.os.trans h.os, k.tape.trans h.tape, k.output.trans h.output, Nat.le_trans h.size k.size,
    fun i hi hs => (k.block i (Nat.lt_of_lt_of_le hi h.size) (fun ht => hs (hT i ht hi))).trans (h.block i hi hs)⟩
theorem Fr.mono {S T : Nat → Prop} {a b : World} (h : Fr S a b) (hT : ∀ i, S i → T i) : Fr T a b :=
  ⟨h.os, h.tape, h.output, h.size, fun i hi hs => h.block i hi (fun x => hs (hT i x))⟩
theorem Fr.drew {S : Nat → Prop} {a b : World} (h : Fr S a b) : Fr S a b.drew := ⟨h.os, h.tape, h.output, h.size, h.block⟩
theorem Fr.drewN {S : Nat → Prop} {a b : World} (h : Fr S a b) (n : Nat) : Fr S a (b.drewN n) := ⟨h.os, h.tape, h.output, h.size, h.block⟩
theorem Fr.alloc {S : Nat → Prop} {a b : World} (h : Fr S a b) (o : Obj) : Fr S a (b.alloc o) :=
  h.trans (T := fun _ => False) ⟨rfl, rfl, rfl, by simp, fun k hk _ => Below.heap_alloc _ _ _ hk⟩ (fun _ h => h.elim)
theorem Fr.set {S : Nat → Prop} {a b : World} (h : Fr S a b) (p : Addr) (u : Value) (hp : S p.block ∨ a.heap.size ≤ p.block) : Fr S a (b.setCell p u) :=
  h.trans (T := fun i => i = p.block) ⟨rfl, rfl, rfl, by simp [World.setCell], fun k _ hk => Below.heap_setCell _ _ _ _ hk⟩
    (fun i hi hlt => by rcases hp with hp | hp; exact hi ▸ hp; omega)
theorem Fr.grown {S : Nat → Prop} {a b c : World} {row : Option Nat} (h : Fr S a b) (hg : b.grownBy c row) (hr : ∀ k, row = some k → S k ∨ a.heap.size ≤ k) : Fr S a c :=
  h.trans (T := fun i => row = some i) ⟨hg.os, hg.tape, hg.output, hg.size, fun k hk hs => hg.block k hk (fun e => hs e.symm)⟩
    (fun i hi hlt => by rcases hr i hi with hp | hp; exact hp; omega)
theorem Fr.below {S : Nat → Prop} {a b : World} (h : Fr S a b) (B : Nat) (hB : B ≤ a.heap.size) (hS : ∀ k, S k → B ≤ k) : Below B a b :=
  ⟨h.os, h.tape, h.output, h.size, fun k hk => h.block k (by omega) (fun s => by have := hS k s; omega)⟩
theorem Fr.of_below {a b : World} (h : Below a.heap.size a b) : Fr (fun _ => False) a b :=
  ⟨h.os, h.tape, h.output, h.size, fun k hk _ => h.block k hk⟩

theorem blk_lt {w : World} {b : Nat} {o : Obj} (h : w.heap[b]? = some o) : b < w.heap.size := (Array.getElem?_eq_some_iff.1 h).1
theorem blk_cell {w : World} {b : Nat} {cs : Array Value} {t : TypeId} (h : w.heap[b]? = some (.cells cs t (0, 0))) (j : Nat) : w.cell? ⟨b, j, none⟩ = cs[j]? := cell_of_row w b j cs t (0, 0) h
theorem blk_free {w : World} {b : Nat} {cs : Array Value} {t : TypeId} (h : w.heap[b]? = some (.cells cs t (0, 0))) (j : Nat) : w.frozen? ⟨b, j, none⟩ = false := frozen_of_row w b j cs t h
theorem blk_set {w : World} {b : Nat} {cs : Array Value} {t : TypeId} (h : w.heap[b]? = some (.cells cs t (0, 0))) (j : Nat) (u : Value) :
    (w.setCell ⟨b, j, none⟩ u).heap[b]? = some (.cells (cs.setIfInBounds j u) t (0, 0)) := heap_setCell_same w b j cs t u h
theorem blk_set_other {w : World} {b : Nat} {o : Obj} (h : w.heap[b]? = some o) (a : Addr) (u : Value) (ha : b ≠ a.block) : (w.setCell a u).heap[b]? = some o :=
  (Below.heap_setCell w a u b ha).trans h
theorem blk_alloc {w : World} {b : Nat} {o : Obj} (h : w.heap[b]? = some o) (o' : Obj) : (w.alloc o').heap[b]? = some o :=
  (Below.heap_alloc w o' b (blk_lt h)).trans h
theorem blk_grown {w w' : World} {b : Nat} {o : Obj} {row : Option Nat} (h : w.heap[b]? = some o) (hg : w.grownBy w' row) (hr : row ≠ some b) : w'.heap[b]? = some o :=
  (hg.block b (blk_lt h) (fun e => hr e.symm)).trans h
theorem blk_fr {S : Nat → Prop} {w w' : World} {b : Nat} {o : Obj} (h : w.heap[b]? = some o) (hg : Fr S w w') (hr : ¬ S b) : w'.heap[b]? = some o :=
  (hg.block b (blk_lt h) hr).trans h

theorem size_set (w : World) (a : Addr) (u : Value) : (w.setCell a u).heap.size = w.heap.size := by simp [World.setCell]
/-- A row of the call's own, behind what turned other blocks. -/
theorem row_fr {S : Nat → Prop} {w w' : World} {base : Nat} {e : TypeId} {size : Nat} {v : Value} {n : Nat} {xs : List Value} (h : w.ownsRow base e size v n xs) (hg : Fr S w w') (hr : ∀ k, v.ownBlock = some k → ¬ S k) : w'.ownsRow base e size v n xs := by
  refine ⟨h.1, ?_⟩
  rcases h.2 with hn | ⟨g, cap, cur, rfl, hb, hgg, rest⟩
  · exact .inl hn
  · exact .inr ⟨g, cap, cur, rfl, hb, blk_fr hgg hg (hr g rfl), rest⟩
theorem row_slice {w : World} {base : Nat} {e : TypeId} {size : Nat} {v : Value} {n : Nat} {xs : List Value} (h : w.ownsRow base e size v n xs) : ∃ p c, v = .slice p n c := by
  rcases h.2 with ⟨rfl, rfl⟩ | ⟨g, cap, cur, rfl, _⟩
  · exact ⟨none, 0, rfl⟩
  · exact ⟨_, _, rfl⟩
theorem row_some {w : World} {base : Nat} {e : TypeId} {size : Nat} {v : Value} {n : Nat} {xs : List Value} (h : w.ownsRow base e size v n xs) (hn : 0 < n) : ∃ g c, v = .slice (some ⟨g, 0, none⟩) n c := by
  rcases h.2 with ⟨rfl, rfl⟩ | ⟨g, cap, cur, rfl, _⟩
  · omega
  · exact ⟨_, _, rfl⟩
/-- A row's block is none of another type. -/
theorem row_ne {w : World} {base : Nat} {e t : TypeId} {size : Nat} {v : Value} {n : Nat} {xs : List Value} {b : Nat} {cs : Array Value} (h : w.ownsRow base e size v n xs) (hb : w.heap[b]? = some (.cells cs t (0, 0))) (ht : t ≠ e) : v.ownBlock ≠ some b := by
  rcases h.2 with ⟨rfl, rfl⟩ | ⟨g, cap, cur, rfl, _, hg, _⟩
  · simp [Value.ownBlock]
  · simp only [Value.ownBlock, ne_eq, Option.some.injEq]
    rintro rfl
    rw [hb] at hg
    simp only [Option.some.injEq, Obj.cells.injEq] at hg
    exact ht hg.2.1

theorem row_low {w : World} {b b' : Nat} {e : TypeId} {size : Nat} {v : Value} {n : Nat} {xs : List Value} (h : w.ownsRow b e size v n xs) (hb : b' ≤ b) : w.ownsRow b' e size v n xs := by
  refine ⟨h.1, ?_⟩
  rcases h.2 with hn | ⟨g, cap, cur, rfl, hbg, rest⟩
  · exact .inl hn
  · exact .inr ⟨g, cap, cur, rfl, by omega, rest⟩

end Go.Proofs.ZFr


/- What is used of HoJ. -/
namespace Go.Proofs.Ytngmkjgklonfmaa.Inv
section
variable {P : Program} {ops : Array Oper} {Q : Exit → Act → World → Prop} {md : Region.Mode}
def On (L : Array Bool) (j : Nat) : Prop := L.getD j false = true
theorem on_set {L : Array Bool} {i j : Nat} (hi : i < L.size) : On (L.setIfInBounds i true) j ↔ j = i ∨ On L j := by
  unfold On
  by_cases h : j = i
  · subst h; simp [Array.getD_eq_getD_getElem?, hi]
  · have h' : ¬ i = j := fun e => h e.symm
    simp only [Array.getD_eq_getD_getElem?, Array.getElem?_setIfInBounds, if_neg h', h, false_or]
def need (md : Region.Mode) (o : Oper) : List Nat := (o.after.toList.filter (fun e => Region.binds md e)).map (fun e => e.on)
def low (md : Region.Mode) (ops : Array Oper) : Bool := (List.range ops.size).all fun i => match ops[i]? with
  | some o => (need md o).all (fun j => Nat.blt j i)
  | none => true
/-- F of each operation of the list, with its number. -/
def Each (F : Nat → Oper → Prop) : Nat → List Oper → Prop
  | _, [] => True
  | k, o :: r => F k o ∧ Each F (k + 1) r
theorem Each.cons {F : Nat → Oper → Prop} {k : Nat} {o : Oper} {r : List Oper} (h : F k o) (hr : Each F (k + 1) r) : Each F k (o :: r) := ⟨h, hr⟩
theorem Each.at {F : Nat → Oper → Prop} : ∀ {l : List Oper} {k : Nat}, Each F k l → ∀ {i : Nat} {o : Oper}, l[i]? = some o → F (k + i) o
  | [], _, _, i, _, h => by simp at h
  | o :: r, k, h, 0, o', e => by simp at e; subst e; exact h.1
  | o :: r, k, h, i + 1, o', e => by
    have := Each.at h.2 (i := i) (o := o') (by simpa using e)
    rw [show k + (i + 1) = k + 1 + i from by omega]; exact this
/-- One step: the operation has come up, all that it needs has; behind it the invariant stands with it listed. -/
def Step (P : Program) (md : Region.Mode) (ops : Array Oper) (Q : Exit → Act → World → Prop) (I : Array Bool → Act → World → Prop) (i : Nat) (o : Oper) : Prop :=
  ∀ L a w, I L a w → i < L.size → ¬ On L i → (∀ j ∈ need md o, On L j) → ∀ K : Act → World → Prop, Shut (∀ a' w', I (L.setIfInBounds i true) a' w' → K a' w') →
    if Region.wanted o (yielded ops a.tmps) = true then Oper.wp P o a w K Q else K (a.put o.dst undef) w
theorem ready_spec {L : Array Bool} {i : Nat} (h : i ∈ Region.ready md ops L) : i < ops.size ∧ L.getD i true = false ∧ ∃ o, ops[i]? = some o ∧ ∀ j ∈ need md o, On L j := by
  unfold Region.ready at h
  rw [List.mem_filter, List.mem_range] at h
  obtain ⟨h1, h2⟩ := h
  have ho : ops[i]? = some ops[i] := Array.getElem?_eq_getElem h1
  rw [ho, Option.map_some, Option.getD_some, Bool.and_eq_true] at h2
  refine ⟨h1, by simpa using h2.1, _, ho, fun j hj => ?_⟩
  unfold need at hj
  obtain ⟨e, he, rfl⟩ := List.mem_map.1 hj
  obtain ⟨he1, he2⟩ := List.mem_filter.1 he
  have := (Array.all_eq_true'.1 h2.2) e (by simpa using he1)
  simpa [he2, On] using this
theorem all_on {L : Array Bool} (hl : low md ops = true) (hs : L.size = ops.size) (h : Region.ready md ops L = []) : ∀ n i, i < n → i < ops.size → On L i
  | 0, i, hi, _ => by omega
  | n + 1, i, hi, hz => by
    refine Classical.byContradiction fun hno => ?_
    have ho : ops[i]? = some ops[i] := Array.getElem?_eq_getElem hz
    have hlow := List.all_eq_true.1 hl i (List.mem_range.2 hz)
    rw [ho] at hlow
    have hlow := List.all_eq_true.1 hlow
    have : i ∈ Region.ready md ops L := by
      unfold Region.ready
      rw [List.mem_filter, List.mem_range]
      refine ⟨hz, ?_⟩
      rw [ho, Option.map_some, Option.getD_some, Bool.and_eq_true]
      constructor
      · unfold On at hno
        have hL : i < L.size := by omega
        simp [Array.getD_eq_getD_getElem?, hL] at hno ⊢
        exact hno
      · rw [Array.all_eq_true']
        intro e he
        cases hb : Region.binds md e with
        | false => rfl
        | true =>
          have hj : e.on ∈ need md ops[i] := List.mem_map.2 ⟨e, List.mem_filter.2 ⟨by simpa using he, hb⟩, rfl⟩
          have hlt : e.on < i := by simpa using hlow _ hj
          have := all_on hl hs h n e.on (by omega) (by omega)
          simpa [On] using this
    rw [h] at this
    cases this
theorem cnt_set : ∀ (l : List Bool) (i : Nat), l[i]? = some false → (l.set i true).count false + 1 = l.count false
  | [], i, h => by simp at h
  | b :: r, 0, h => by simp at h; subst h; simp
  | b :: r, i + 1, h => by
    have := cnt_set r i (by simpa using h)
    simp only [List.set_cons_succ, List.count_cons]
    omega
theorem wpAny_inv (I : Array Bool → Act → World → Prop) (hl : low md ops = true) (step : Each (Step P md ops Q I) 0 ops.toList)
    (fin : ∀ L a w, I L a w → (∀ i, i < ops.size → On L i) → Q .normal a w) :
    ∀ fuel L a w, L.size = ops.size → L.toList.count false ≤ fuel → I L a w → wpAny P md ops Q fuel L a w := by
  have hf : ∀ L a w, L.size = ops.size → I L a w → Region.ready md ops L = [] → Q .normal a w := fun L a w hs h hr => fin L a w h (fun i hi => all_on hl hs hr (i + 1) i (by omega) hi)
  intro fuel
  induction fuel with
  | zero =>
    intro L a w hs hc h
    have hr : Region.ready md ops L = [] := by
      refine List.eq_nil_iff_forall_not_mem.2 fun i hi => ?_
      obtain ⟨h1, h2, _⟩ := ready_spec hi
      have hL : i < L.size := by omega
      have : L[i] = false := by simpa [Array.getD_eq_getD_getElem?, hL] using h2
      have hm : false ∈ L.toList := by rw [← this]; simp
      have := List.count_pos_iff.2 hm
      omega
    exact ⟨hr, hf L a w hs h hr⟩
  | succ fuel ih =>
    intro L a w hs hc h
    refine ⟨hf L a w hs h, fun i hi => ?_⟩
    obtain ⟨h1, h2, o, ho, hn⟩ := ready_spec hi
    have hL : i < L.size := by omega
    have hlf : L[i]? = some false := by
      have : L[i] = false := by simpa [Array.getD_eq_getD_getElem?, hL] using h2
      rw [Array.getElem?_eq_getElem hL, this]
    have hcnt := cnt_set L.toList i (by simpa using hlf)
    have hst := step.at (i := i) (o := o) (by simpa using ho)
    rw [Nat.zero_add] at hst
    refine wpOp_step ho (fun K hK => hst L a w h hL (fun hon => ?_) hn K (fun a' w' hI => hK a' w' (ih _ a' w' (by simpa using hs) (by simp; omega) hI)))
    unfold On at hon
    rw [Array.getD_eq_getD_getElem?, hlf] at hon
    cases hon
theorem wp_region_inv {id : Nat} {a : Act} {w : World} (I : Array Bool → Act → World → Prop) (hm : P.follows .mixedOrders = true) (hl : low .any ops = true)
    (step : Each (Step P .any ops Q I) 0 ops.toList) (fin : ∀ L a w, I L a w → (∀ i, i < ops.size → On L i) → Q .normal a w)
    (start : I (Array.replicate ops.size false) a w.drew) : (Code.region id ops true).wp P Q a w :=
  wp_region_any hm (wpAny_inv I hl step fin _ _ _ _ (by simp) (by simp) start)
theorem not_on (n j : Nat) : ¬ On (Array.replicate n false) j := by
  unfold On
  rw [Array.getD_eq_getD_getElem?, Array.getElem?_replicate]
  split <;> simp
end
end Go.Proofs.Ytngmkjgklonfmaa.Inv

