/- What is used of HfU. -/
import Derived.Test.YtngmkjgklonfmaaSkHfT
import Derived.Test.YtngmkjgklonfmaaSkHfJ
namespace Go.Proofs.Ytngmkjgklonfmaa.Wd
open Go.RowKit Go.Proofs.ZFr Go.Proofs.Ytngmkjgklonfmaa.PNearNearest Go.Proofs.Ytngmkjgklonfmaa.Big Go.Proofs.YtngmkjgklonfmaaW.PrintWords
attribute [local go_sem ↓] Go.wp_at_zero Go.wp_at_succ
set_option linter.unusedVariables false
set_option linter.unusedSimpArgs false
def slen : Value → Nat
  | .slice _ n _ => n
  | _ => 0
/-- A list of corners in memory. -/
def Lst (B : Nat) (w : World) (h : Value) (q : List Nat) : Prop := ∃ g c, h = .slice (some ⟨g, 0, none⟩) q.length c ∧ w.ownsRow B 3 1 h q.length (flatI q)
/-- The lists that wait, the last one on top. -/
def Stk (B : Nat) (w : World) (v : Value) (st : List (List Nat)) : Prop := ∃ hd : List Value, w.ownsRow B 37 1 v st.length hd ∧ ∀ i (h : i < st.length), ∃ u, hd[i]? = some u ∧ Lst B w u st[i]
theorem Lst.fr {B : Nat} {w w' : World} {h : Value} {q : List Nat} (hl : Lst B w h q) (hf : Fr (fun _ => False) w w') : Lst B w' h q := by
  obtain ⟨g, c, e, hr⟩ := hl
  exact ⟨g, c, e, row_fr hr hf (fun _ _ h => h)⟩
theorem Stk.fr {B : Nat} {w w' : World} {v : Value} {st : List (List Nat)} (hs : Stk B w v st) (hf : Fr (fun _ => False) w w') : Stk B w' v st := by
  obtain ⟨hd, hr, h⟩ := hs
  exact ⟨hd, row_fr hr hf (fun _ _ h => h), fun i hi => by obtain ⟨u, e, hl⟩ := h i hi; exact ⟨u, e, hl.fr hf⟩⟩
/-- Behind an append to a row of another kind. -/
theorem row_gr {B B' n n' size size' : Nat} {w w' : World} {e e' : TypeId} {v v' : Value} {xs xs' : List Value} (h : w.ownsRow B e size v n xs) (hg : w.grownBy w' v'.ownBlock) (h2 : w.ownsRow B' e' size' v' n' xs') (he : e ≠ e') : w'.ownsRow B e size v n xs := by
  refine ⟨h.1, ?_⟩
  rcases h.2 with h3 | ⟨g, cap, cur, rfl, h4, h5, h6⟩
  · exact .inl h3
  · exact .inr ⟨g, cap, cur, rfl, h4, ZFr.blk_grown h5 hg (ZFr.row_ne h2 h5 he), h6⟩
theorem Lst.gr {B B' n' size' : Nat} {w w' : World} {e' : TypeId} {u v' : Value} {q : List Nat} {xs' : List Value} (h : Lst B w u q) (hg : w.grownBy w' v'.ownBlock) (h2 : w.ownsRow B' e' size' v' n' xs') (he : 3 ≠ e') : Lst B w' u q := by
  obtain ⟨g, c, e, hr⟩ := h
  exact ⟨g, c, e, row_gr hr hg h2 he⟩
theorem Stk.gr {B B' n' size' : Nat} {w w' : World} {e' : TypeId} {v v' : Value} {st : List (List Nat)} {xs' : List Value} (h : Stk B w v st) (hg : w.grownBy w' v'.ownBlock) (h2 : w.ownsRow B' e' size' v' n' xs') (he : 3 ≠ e') (he2 : 37 ≠ e') : Stk B w' v st := by
  obtain ⟨hd, hr, h⟩ := h
  exact ⟨hd, row_gr hr hg h2 he2, fun i hi => by obtain ⟨u, e, hl⟩ := h i hi; exact ⟨u, e, hl.gr hg h2 he⟩⟩
/-- A row's first part. -/
theorem row_take {B n size m g cap : Nat} {w : World} {e : TypeId} {xs : List Value} (h : w.ownsRow B e size (.slice (some ⟨g, 0, none⟩) n cap) n xs) (hm : m ≤ n) : w.ownsRow B e size (.slice (some ⟨g, 0, none⟩) m cap) m (xs.take (m * size)) := by
  have hms : m * size ≤ n * size := Nat.mul_le_mul_right _ hm
  refine ⟨by rw [List.length_take, h.1]; omega, ?_⟩
  rcases h.2 with ⟨h2, _⟩ | ⟨g', cap', cur, h2, h3, h4, h5, h6, h7, h8⟩
  · cases h2
  · cases h2
    refine .inr ⟨_, _, cur, rfl, h3, h4, by omega, h6, h7, ?_⟩
    rw [← h8, List.take_take, Nat.min_eq_left hms]
/-- The top is taken. -/
theorem Stk.pop {B : Nat} {w : World} {g c k : Nat} {st : List (List Nat)} (h : Stk B w (.slice (some ⟨g, 0, none⟩) (k + 1) c) st) (hk : st.length = k + 1) : ∃ st' q u, st = st' ++ [q] ∧ w.cell? ⟨g, k, none⟩ = some u ∧ Lst B w u q ∧ Stk B w (.slice (some ⟨g, 0, none⟩) k c) st' := by
  obtain ⟨hd, hr, h⟩ := h
  rw [hk] at hr
  obtain ⟨u, hu, hl⟩ := h k (by omega)
  refine ⟨st.take k, st[k]'(by omega), u, ?_, row_cell hr k u hu, hl, hd.take (k * 1), ?_, fun i hi => ?_⟩
  · rw [List.take_append_getElem, List.take_of_length_le (by omega)]
  · rw [show (st.take k).length = k from by simp; omega]
    exact row_take hr (Nat.le_succ k)
  · have hik : i < k := by simp at hi; omega
    obtain ⟨u', hu', hl'⟩ := h i (by omega)
    refine ⟨u', ?_, ?_⟩
    · rw [List.getElem?_take, if_pos (by omega)]; exact hu'
    · rw [List.getElem_take]; exact hl'
/-- What is to be filled, of lists that wait, the last one first. -/
noncomputable def runsR (l : List Hf.P) (st : List (List Nat)) : Option (List Hf.Tr) := Hf.runs l st.reverse
theorem runsR_snoc (l : List Hf.P) (st : List (List Nat)) (q : List Nat) : runsR l (st ++ [q]) = Hf.runs l (q :: st.reverse) := by unfold runsR; rw [List.reverse_append]; rfl
/-- How many triangles are still to come. -/
def due (st : List (List Nat)) : Nat := (st.map fun q => q.length - 2).sum
theorem due_snoc (st : List (List Nat)) (q : List Nat) : due (st ++ [q]) = due st + (q.length - 2) := by unfold due; simp
/-- How far the document's Fill has come. -/
def FSt (l : List Hf.P) (W wr : World) (v4 v7 : Value) : Prop := ∃ (st : List (List Nat)) (o : List Hf.Tr), wr.ownsRow W.heap.size 60 3 v4 o.length (flatT o) ∧ Stk W.heap.size wr v7 st ∧ (∀ q ∈ st, 2 ≤ q.length ∧ ∀ i ∈ q, i < l.length) ∧ o.length + due st = l.length - 2 ∧ st.length ≤ o.length + 1 ∧ Hf.fl l (List.range l.length) = (runsR l st).map (o ++ ·) ∧ Fr (fun _ => False) W wr
end Go.Proofs.Ytngmkjgklonfmaa.Wd

