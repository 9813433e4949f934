/- What is used of HfT. -/
import Derived.Test.YtngmkjgklonfmaaSkHfS
import Derived.Test.YtngmkjgklonfmaaSkHfI
namespace Go.Proofs.Ytngmkjgklonfmaa.Inv
open Go.RowKit Go.Proofs.ZFr
inductive Rk where
  | any | val (v : Value) | row (n : Nat) (xs : List Value) (c : Nat)
structure Rag (kd : Nat → Rk) (e : TypeId) (size : Nat) (w0 : World) (L : Array Bool) (w : World) (vs : Nat → Value) : Prop where
  sz : L.size ≤ 200
  fr : Fr (fun _ => False) w0 w
  val : ∀ j v, kd j = .val v → On L j → vs j = v
  row : ∀ j n xs c, kd j = .row n xs c → On L j → ¬ On L c → w.ownsRow w0.heap.size e size (vs j) n xs ∧ ∃ g cap, vs j = .slice (some ⟨g, 0, none⟩) n cap
  dis : ∀ i j n xs c n' xs' c', kd i = .row n xs c → kd j = .row n' xs' c' → On L i → ¬ On L c → On L j → ¬ On L c' → i ≠ j → (vs i).ownBlock ≠ (vs j).ownBlock
variable {kd : Nat → Rk} {e : TypeId} {size : Nat} {w0 w w' : World} {L : Array Bool} {vs : Nat → Value} {i : Nat} {v : Value}
theorem upd_at : upd vs i v i = v := if_pos rfl
theorem upd_ne (hno : ¬ On L i) {j : Nat} (h : On L j) : upd vs i v j = vs j := if_neg (by rintro rfl; exact hno h)
theorem off_set (hi : i < L.size) {c : Nat} (h : ¬ On (L.setIfInBounds i true) c) : ¬ On L c := fun h2 => h ((on_set hi).2 (.inr h2))
theorem row_lt {B : Nat} {n : Nat} {xs : List Value} (h : w.ownsRow B e size v n xs) : ∀ k, v.ownBlock = some k → B ≤ k ∧ k < w.heap.size := by
  intro k hk
  rcases h.2 with ⟨rfl, rfl⟩ | ⟨g, cap, cur, rfl, hb, hg, _⟩
  · simp [Value.ownBlock] at hk
  · simp only [Value.ownBlock, Option.some.injEq] at hk
    subst hk
    exact ⟨hb, ZFr.blk_lt hg⟩
theorem Rag.same (b : Rag kd e size w0 L w vs) {j : Nat} {x : Value} (h : vs j = x) : Rag kd e size w0 L w (upd vs j x) := by
  have h2 : upd vs j x = vs := funext fun k => by
    unfold upd
    split
    · rename_i h3; rw [h3, h]
    · rfl
  rw [h2]; exact b
theorem Rag.quiet (b : Rag kd e size w0 L w vs) (hi : i < L.size) (hno : ¬ On L i) (f : Fr (fun _ => False) w w') (hk : match kd i with | .any => True | .val u => v = u | _ => False) : Rag kd e size w0 (L.setIfInBounds i true) w' (upd vs i v) := by
  have nr : ∀ {n xs c}, kd i = .row n xs c → False := fun h => by rw [h] at hk; exact hk
  refine { sz := by simpa using b.sz, fr := b.fr.trans f (fun _ h _ => h.elim), val := ?_, row := ?_, dis := ?_ }
  · intro j u hj hon
    rcases (on_set hi).1 hon with rfl | hon
    · rw [upd_at]; rw [hj] at hk; exact hk
    · rw [upd_ne hno hon]; exact b.val j u hj hon
  · intro j n xs c hj hon hc
    rcases (on_set hi).1 hon with rfl | hon
    · exact (nr hj).elim
    · rw [upd_ne hno hon]
      obtain ⟨h1, h2⟩ := b.row j n xs c hj hon (off_set hi hc)
      exact ⟨row_fr h1 f (fun _ _ h => h), h2⟩
  · intro p q n xs c n' xs' c' hp hq h1 h2 h3 h4 hne
    rcases (on_set hi).1 h1 with rfl | h1
    · exact (nr hp).elim
    rcases (on_set hi).1 h3 with rfl | h3
    · exact (nr hq).elim
    rw [upd_ne hno h1, upd_ne hno h3]
    exact b.dis p q n xs c n' xs' c' hp hq h1 (off_set hi h2) h3 (off_set hi h4) hne
/-- A row is laid, or one is appended to (its operation is the one that uses it up). -/
theorem Rag.put (b : Rag kd e size w0 L w vs) (hi : i < L.size) (hno : ¬ On L i) {n : Nat} {xs : List Value} {c : Nat} (hk : kd i = .row n xs c) {g cap : Nat} {own : Option Nat} (hrow : w'.ownsRow w0.heap.size e size (.slice (some ⟨g, 0, none⟩) n cap) n xs) (hg : w.grownBy w' own) (hgn : own = some g ∨ g = w.heap.size)
    (hown : own = none ∨ ∃ j m ys, kd j = .row m ys i ∧ On L j ∧ (vs j).ownBlock = own) : Rag kd e size w0 (L.setIfInBounds i true) w' (upd vs i (.slice (some ⟨g, 0, none⟩) n cap)) := by
  -- another row that lives on: its block is another one
  have oth : ∀ {j m ys d}, kd j = .row m ys d → On L j → ¬ On (L.setIfInBounds i true) d → own ≠ (vs j).ownBlock := by
    intro j m ys d hj hon hd he
    rcases hown with h | ⟨j', m', ys', hj', hon', h⟩
    · subst h
      obtain ⟨_, g', cap', h⟩ := b.row j m ys d hj hon (off_set hi hd)
      rw [h] at he; simp [Value.ownBlock] at he
    · by_cases hjj : j' = j
      · subst hjj
        rw [hj'] at hj
        cases hj
        exact hd ((on_set hi).2 (.inl rfl))
      · exact b.dis j' j _ _ _ _ _ _ hj' hj hon' hno hon (off_set hi hd) hjj (h.trans he)
  have own0 : ∀ k, own = some k → w0.heap.size ≤ k := by
    intro k hk2
    rcases hown with h | ⟨j', m', ys', hj', hon', h⟩
    · rw [h] at hk2; cases hk2
    · exact (row_lt (b.row j' m' ys' i hj' hon' hno).1 k (h.trans hk2)).1
  have keep : ∀ {j m ys d}, kd j = .row m ys d → On L j → ¬ On (L.setIfInBounds i true) d → w'.ownsRow w0.heap.size e size (vs j) m ys := by
    intro j m ys d hj hon hd
    have h1 := (b.row j m ys d hj hon (off_set hi hd)).1
    have h2 := oth hj hon hd
    refine ⟨h1.1, ?_⟩
    rcases h1.2 with h | ⟨g', cap', cur, h3, h4, h5, h6⟩
    · exact .inl h
    · refine .inr ⟨g', cap', cur, h3, h4, ZFr.blk_grown h5 hg (fun h => h2 ?_), h6⟩
      rw [h, h3]; rfl
  have gne : ∀ {j m ys d}, kd j = .row m ys d → On L j → ¬ On (L.setIfInBounds i true) d → some g ≠ (vs j).ownBlock := by
    intro j m ys d hj hon hd he
    rcases hgn with h | h
    · exact oth hj hon hd (h.trans he)
    · have := (row_lt (b.row j m ys d hj hon (off_set hi hd)).1 g he.symm).2
      omega
  refine { sz := by simpa using b.sz, fr := b.fr.grown hg (fun k h => .inr (own0 k h)), val := ?_, row := ?_, dis := ?_ }
  · intro j u hj hon
    rcases (on_set hi).1 hon with rfl | hon
    · rw [hk] at hj; cases hj
    · rw [upd_ne hno hon]; exact b.val j u hj hon
  · intro j m ys d hj hon hd
    rcases (on_set hi).1 hon with rfl | hon
    · rw [hk] at hj
      cases hj
      rw [upd_at]
      exact ⟨hrow, g, cap, rfl⟩
    · rw [upd_ne hno hon]
      exact ⟨keep hj hon hd, (b.row j m ys d hj hon (off_set hi hd)).2⟩
  · intro p q m ys d m' ys' d' hp hq h1 h2 h3 h4 hne
    rcases (on_set hi).1 h1 with h1' | h1'
    · rcases (on_set hi).1 h3 with h3' | h3'
      · exact absurd (h1'.trans h3'.symm) hne
      · subst h1'
        rw [upd_at, upd_ne hno h3']
        exact gne hq h3' h4
    · rcases (on_set hi).1 h3 with h3' | h3'
      · subst h3'
        rw [upd_at, upd_ne hno h1']
        exact fun h => gne hp h1' h2 h.symm
      · rw [upd_ne hno h1', upd_ne hno h3']
        exact b.dis p q _ _ _ _ _ _ hp hq h1' (off_set hi h2) h3' (off_set hi h4) hne
theorem Rag.start {n : Nat} (hn : n ≤ 200) : Rag kd e size w0 (Array.replicate n false) w0 vs := by
  have no := not_on n
  exact { sz := by simpa using hn, fr := Fr.refl _ _, val := fun j v _ h => absurd h (no j), row := fun j _ _ _ _ h => absurd h (no j), dis := fun i j _ _ _ _ _ _ _ _ h => absurd h (no i) }
theorem own_nil {g B : Nat} (h : w.heap[g]? = some (.cells #[] e (0, 0))) (hb : B ≤ g) : w.ownsRow B e size (.slice (some ⟨g, 0, none⟩) 0 0) 0 [] := ⟨by simp, .inr ⟨g, 0, #[], rfl, hb, h, Nat.le_refl _, Nat.zero_le _, by simp, by simp⟩⟩
theorem own_one {g B : Nat} {u : Value} (h : w.heap[g]? = some (.cells #[u] e (0, 0))) (hb : B ≤ g) : w.ownsRow B e 1 (.slice (some ⟨g, 0, none⟩) 1 1) 1 [u] := ⟨by simp, .inr ⟨g, 1, #[u], rfl, hb, h, Nat.le_refl _, by decide, by simp, by simp⟩⟩
theorem grown_alloc (o : Obj) : w.grownBy (w.alloc o) none := ⟨rfl, rfl, rfl, by simp, fun k hk _ => Below.heap_alloc _ _ _ hk⟩
theorem Rag.far (b : Rag kd e size w0 L w vs) {c : Nat} (h : 200 ≤ c) : ¬ On L c := by
  unfold On
  have := b.sz
  rw [Array.getD_eq_getD_getElem?, Array.getElem?_eq_none (by omega)]
  simp
theorem grown_refl (own : Option Nat) : w.grownBy w own := ⟨rfl, rfl, rfl, Nat.le_refl _, fun _ _ _ => rfl⟩
/-- A row goes over to another operation. -/
theorem Rag.pass (b : Rag kd e size w0 L w vs) (hi : i < L.size) (hno : ¬ On L i) {n : Nat} {xs : List Value} {c j g cap : Nat} (hk : kd i = .row n xs c) (hj : kd j = .row n xs i) (hon : On L j) (h : vs j = .slice (some ⟨g, 0, none⟩) n cap) : Rag kd e size w0 (L.setIfInBounds i true) w (upd vs i (vs j)) := by
  rw [h]
  refine b.put hi hno hk ?_ (grown_refl (vs j).ownBlock) (.inl (by rw [h]; rfl)) (.inr ⟨j, n, xs, hj, hon, rfl⟩)
  rw [← h]
  exact (b.row j n xs i hj hon hno).1
def kr (k : List Rk) (j : Nat) : Rk := k.getD j .any
end Go.Proofs.Ytngmkjgklonfmaa.Inv

