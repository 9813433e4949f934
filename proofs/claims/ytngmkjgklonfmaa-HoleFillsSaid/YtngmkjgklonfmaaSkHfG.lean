/- What is used of HfG. -/
import Derived.Test.YtngmkjgklonfmaaJK
import Derived.Test.YtngmkjgklonfmaaSkHoE
namespace Go.Proofs.Ytngmkjgklonfmaa.Wd
open Go.RowKit Go.Proofs.ZFr Go.Proofs.Ytngmkjgklonfmaa.PNearNearest Go.Proofs.Ytngmkjgklonfmaa.Big Go.Proofs.YtngmkjgklonfmaaW.PrintWords
theorem add0 (g k : Nat) : (⟨g, 0, none⟩ : Addr).add k = ⟨g, k, none⟩ := by unfold Addr.add; split <;> simp_all
theorem addo (g o k : Nat) : (⟨g, o, none⟩ : Addr).add k = ⟨g, o + k, none⟩ := by unfold Addr.add; split <;> simp_all
def flat (L : List Hf.P) : List Value := L.flatMap fun q => [.int .i64 q.1, .int .i64 q.2]
theorem flat_app (L : List Hf.P) (q : Hf.P) : flat (L ++ [q]) = flat L ++ [.int .i64 q.1, .int .i64 q.2] := by unfold flat; simp
theorem flat_at : ∀ (L : List Hf.P) (i : Nat) (h : i < L.length), (flat L)[i * 2]? = some (.int .i64 L[i].1) ∧ (flat L)[i * 2 + 1]? = some (.int .i64 L[i].2)
  | [], _, h => absurd h (Nat.not_lt_zero _)
  | q :: L, 0, _ => ⟨rfl, rfl⟩
  | q :: L, i + 1, h => by
    have h2 := flat_at L i (by simpa using h)
    have e : flat (q :: L) = [.int .i64 q.1, .int .i64 q.2] ++ flat L := rfl
    rw [e, show (i + 1) * 2 = i * 2 + 2 from by omega, List.getElem?_append_right (by simp), List.getElem?_append_right (by simp)]
    simpa using h2
theorem pts_row {w : World} {B g n c : Nat} {L : List Hf.P} (h : w.ownsRow B 24 2 (.slice (some ⟨g, 0, none⟩) n c) n (flat L)) : Pts w (some ⟨g, 0, none⟩) L := fun i hi =>
  ⟨_, rfl, by rw [add0]; exact row_cell h (i * 2) _ (flat_at L i hi).1, by rw [add0]; exact row_cell h (i * 2 + 1) _ (flat_at L i hi).2⟩
/-- Whole numbers in memory. -/
def Its (w : World) (ga oa : Nat) (p : List Nat) : Prop := ∀ j (h : j < p.length), w.cell? ⟨ga, oa + j, none⟩ = some (.int .i64 (p[j] : Int))
theorem Its.frS {w w' : World} {ga oa : Nat} {p : List Nat} {S : Nat → Prop} (h : Its w ga oa p) (hf : Fr S w w') (hs : ¬ S ga) : Its w' ga oa p := fun j hj => cell_frS (h j hj) hf hs
theorem Pts.frS {w w' : World} {A : Option Addr} {l : List Hf.P} {S : Nat → Prop} (h : Pts w A l) (hf : Fr S w w') (hs : ∀ a, A = some a → ¬ S a.block) : Pts w' A l := fun i hi => by
  obtain ⟨ad, e, h1, h2⟩ := h i hi
  have hb : (ad.add (i * 2)).block = ad.block := by unfold Addr.add; split <;> rfl
  exact ⟨ad, e, cell_frS h1 hf (by rw [hb]; exact hs ad e), cell_frS h2 hf (by show ¬ S (ad.add (i * 2)).block; rw [hb]; exact hs ad e)⟩
def flatI (p : List Nat) : List Value := p.map fun i : Nat => Value.int .i64 (i : Int)
theorem its_row {w : World} {B g n c : Nat} {p : List Nat} (h : w.ownsRow B 3 1 (.slice (some ⟨g, 0, none⟩) n c) n (flatI p)) : Its w g 0 p := fun j hj => by
  rw [Nat.zero_add]
  exact row_cell h j _ (by unfold flatI; rw [List.getElem?_map, List.getElem?_eq_getElem hj]; rfl)
def flatT (o : List Hf.Tr) : List Value := o.flatMap fun t => [.int .i64 (t.1 : Int), .int .i64 (t.2.1 : Int), .int .i64 (t.2.2 : Int)]
theorem flatT_app (a b : List Hf.Tr) : flatT (a ++ b) = flatT a ++ flatT b := by unfold flatT; simp
theorem row_cap {w : World} {B g c n size : Nat} {e : TypeId} {xs : List Value} (h : w.ownsRow B e size (.slice (some ⟨g, 0, none⟩) n c) n xs) : n ≤ c := by
  obtain ⟨_, h | ⟨g', cap, cur, he, _, _, hn, _⟩⟩ := h
  · simp at h
  · simp only [Value.slice.injEq] at he; omega
/-- What part leaves behind: o is what it has found. -/
def PartQ (bf n B : Nat) (pv v : Value) (xs : List Value) (W : World) (o : Option (List Hf.Tr)) (w' : World) : Prop :=
  Fr (fun k => k = bf ∨ v.ownBlock = some k) W w' ∧ ∀ x, o = some x → ∃ v', w'.heap[bf]? = some (.cells #[pv, v'] 117 (0, 0)) ∧ w'.ownsRow B 60 3 v' (n + x.length) (xs ++ flatT x) ∧ ∀ k, v'.ownBlock = some k → v.ownBlock = some k ∨ W.heap.size ≤ k
def PartC (l : List Hf.P) (f : Nat) : Prop := ∀ (p : List Nat) (bf ga oa c cp n B : Nat) (A : Option Addr) (v : Value) (xs : List Value) (W : World), p.length < f → (∀ i ∈ p, i < l.length) →
  W.heap[bf]? = some (.cells #[.slice A l.length cp, v] 117 (0, 0)) → Pts W A l → Its W ga oa p → W.ownsRow B 60 3 v n xs → B ≤ W.heap.size → n + p.length ≤ 1000 → p.length ≤ c →
  ga ≠ bf → v.ownBlock ≠ some ga → v.ownBlock ≠ some bf → (∀ a, A = some a → a.block ≠ bf ∧ v.ownBlock ≠ some a.block) →
  Calls Try.prog 70 #[.pointer (some ⟨bf, 0, none⟩), .slice (some ⟨ga, oa, none⟩) p.length c] W fun e w' => e = .returned (.bool (Hf.fl l p).isSome) ∧ PartQ bf n B (.slice A l.length cp) v xs W (Hf.fl l p) w'
/-- The corners behind the first two. -/
def restL (l : List Hf.P) (p : List Nat) (k : Nat) : List Hf.P := (List.range k).map fun j => Hf.pt l (p.getD (j + 2) 0)
theorem restL_succ (l : List Hf.P) (p : List Nat) (k : Nat) : restL l p (k + 1) = restL l p k ++ [Hf.pt l (p.getD (k + 2) 0)] := by
  unfold restL; rw [List.range_succ, List.map_append]; rfl
theorem restL_len (l : List Hf.P) (p : List Nat) (k : Nat) : (restL l p k).length = k := by unfold restL; simp
theorem restL_all (l : List Hf.P) (p : List Nat) : restL l p (p.length - 2) = (p.drop 2).map (Hf.pt l) := by
  apply List.ext_getElem
  · simp [restL]
  · intro i h1 h2
    have hi : i + 2 < p.length := by simp [restL] at h1; omega
    simp [restL, List.getD, hi, Nat.add_comm 2 i]
end Go.Proofs.Ytngmkjgklonfmaa.Wd

