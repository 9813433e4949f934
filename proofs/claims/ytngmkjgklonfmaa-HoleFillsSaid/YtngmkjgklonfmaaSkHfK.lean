/- What is used of HfK. -/
import Derived.Test.YtngmkjgklonfmaaJC
import Derived.Test.YtngmkjgklonfmaaJE
namespace Go.Proofs.Ytngmkjgklonfmaa.Inv
open Go.RowKit Go.Proofs.ZFr Go.Proofs.Ytngmkjgklonfmaa.Big
inductive Kd where
  | any | val (v : Value) | who (n : Int) | cel | put (j c : Nat) | puto (g c : Nat)
def ptr (g : Nat) : Value := .pointer (some ⟨g, 0, none⟩)
/-- One operation more has given its value. -/
def upd (vs : Nat → Value) (i : Nat) (v : Value) (j : Nat) : Value := if j = i then v else vs j
/-- The blocks that the region may still store into. -/
def wset (kd : Nat → Kd) (So : Nat → Prop) (L : Array Bool) (l : Nat → Value) (k : Nat) : Prop := So k ∨ ∃ j, kd j = .cel ∧ On L j ∧ l j = ptr k
structure Bag (kd : Nat → Kd) (deps : Nat → List Nat) (So : Nat → Prop) (w0 : World) (L : Array Bool) (w : World) (l : Nat → Value) : Prop where
  fr : Fr (fun k => ∃ i c, kd i = .puto k c) w0 w
  slt : ∀ k, wset kd So L l k → k < w.heap.size
  clo : ∀ i j, On L i → j ∈ deps i → On L j
  val : ∀ j v, kd j = .val v → On L j → l j = v
  who : ∀ j n, kd j = .who n → On L j → Whole w (wset kd So L l) (l j) n
  cel : ∀ j, kd j = .cel → On L j → ∃ g s x, l j = ptr g ∧ w0.heap.size ≤ g ∧ w.heap[g]? = some (.cells #[.int .i64 s, x] 40 (0, 0))
  dis : ∀ i j g, kd i = .cel → kd j = .cel → On L i → On L j → l i = ptr g → l j = ptr g → i = j
  put : ∀ i j c, kd i = .put j c → On L i → On L j ∧ On L c ∧ ∃ g s x, l j = ptr g ∧ l c = .agg #[.int .i64 s, x] ∧ w.heap[g]? = some (.cells #[.int .i64 s, x] 40 (0, 0))
  puto : ∀ i g c, kd i = .puto g c → On L i → On L c ∧ ∃ s x, l c = .agg #[.int .i64 s, x] ∧ w.heap[g]? = some (.cells #[.int .i64 s, x] 40 (0, 0))
  pre : ∀ i g c, kd i = .puto g c → ¬ On L i → w.heap[g]? = w0.heap[g]?
  so : ∀ i g c, kd i = .puto g c → So g ∧ g < w0.heap.size
  pc : ∀ i j c, kd i = .put j c → kd j = .cel
  one : ∀ i i' j c c', kd i = .put j c → kd i' = .put j c' → i = i'
variable {kd : Nat → Kd} {deps : Nat → List Nat} {So : Nat → Prop} {w0 w w' : World} {L : Array Bool} {l : Nat → Value} {i : Nat} {v : Value}
theorem Whole.fr {S T : Nat → Prop} {n : Int} (h : Whole w S v n) (hf : Fr T w w') (hT : ∀ k, T k → S k) : Whole w' S v n := by
  obtain ⟨s, e, h⟩ := h
  exact ⟨s, e, h.fr hf hT⟩
theorem Whole.mono {S T : Nat → Prop} {n : Int} (h : Whole w S v n) (hT : ∀ k, T k → S k) : Whole w T v n := by
  obtain ⟨s, e, h⟩ := h
  exact ⟨s, e, h.mono hT⟩
theorem Whole.new {W : World} {S : Nat → Prop} {n : Int} (h : Whole w S v n) (hf : Fr (fun _ => False) w W) : Whole W (fun k => S k ∨ k = w.heap.size) v n := by
  obtain ⟨s, e, h⟩ := h
  exact ⟨s, e, h.new hf⟩
theorem gv_ne (_ : Bag kd deps So w0 L w l) (_ : i < L.size) (hno : ¬ On L i) {j : Nat} (h : On L j) : upd l i v j = l j := if_neg (by rintro rfl; exact hno h)
theorem gv_at (_ : Bag kd deps So w0 L w l) (_ : i < L.size) : upd l i v i = v := if_pos rfl
theorem Bag.same (b : Bag kd deps So w0 L w l) {j : Nat} {x : Value} (e : l j = x) : Bag kd deps So w0 L w (upd l j x) := by
  have h : upd l j x = l := funext fun k => by
    unfold upd
    split
    · rename_i h; rw [h, e]
    · rfl
  rw [h]; exact b
theorem wset_set (b : Bag kd deps So w0 L w l) (hi : i < L.size) (hno : ¬ On L i) (hc : kd i ≠ .cel) (k : Nat) : wset kd So (L.setIfInBounds i true) (upd l i v) k ↔ wset kd So L l k := by
  unfold wset
  constructor
  · rintro (h | ⟨j, h1, h2, h3⟩)
    · exact .inl h
    · rcases (on_set hi).1 h2 with rfl | h2
      · exact absurd h1 hc
      · exact .inr ⟨j, h1, h2, by rw [← gv_ne b hi hno h2]; exact h3⟩
  · rintro (h | ⟨j, h1, h2, h3⟩)
    · exact .inl h
    · exact .inr ⟨j, h1, (on_set hi).2 (.inr h2), by rw [gv_ne b hi hno h2]; exact h3⟩
theorem clo_set (b : Bag kd deps So w0 L w l) (hi : i < L.size) (hd : ∀ j ∈ deps i, On L j) : ∀ i' j, On (L.setIfInBounds i true) i' → j ∈ deps i' → On (L.setIfInBounds i true) j := fun i' j h hj => by
  rcases (on_set hi).1 h with rfl | h
  · exact (on_set hi).2 (.inr (hd j hj))
  · exact (on_set hi).2 (.inr (b.clo i' j h hj))
/-- An operation that turns nothing of what was there. -/
theorem Bag.quiet (b : Bag kd deps So w0 L w l) (hi : i < L.size) (hno : ¬ On L i) (hd : ∀ j ∈ deps i, On L j) (f : Fr (fun _ => False) w w')
    (hk : match kd i with | .any => True | .val u => v = u | .who n => Whole w' (wset kd So L l) v n | _ => False) : Bag kd deps So w0 (L.setIfInBounds i true) w' (upd l i v) := by
  have hc : kd i ≠ .cel := fun e => by rw [e] at hk; exact hk
  have hw := fun k => wset_set (v := v) b hi hno hc k
  have hblk : ∀ {g : Nat} {o : Obj}, w.heap[g]? = some o → w'.heap[g]? = some o := fun h => ZFr.blk_fr h f (fun h => h)
  refine { fr := b.fr.trans f (fun _ h _ => h.elim), slt := fun k h => Nat.lt_of_lt_of_le (b.slt k ((hw k).1 h)) f.size, clo := clo_set b hi hd, val := ?_, who := ?_, cel := ?_, dis := ?_, put := ?_, puto := ?_, pre := ?_, so := b.so, pc := b.pc, one := b.one }
  · intro j u hj hon
    rcases (on_set hi).1 hon with rfl | hon
    · rw [gv_at b hi]; rw [hj] at hk; exact hk
    · rw [gv_ne b hi hno hon]; exact b.val j u hj hon
  · intro j n hj hon
    rcases (on_set hi).1 hon with rfl | hon
    · rw [gv_at b hi]; rw [hj] at hk; exact hk.mono (fun k h => (hw k).1 h)
    · rw [gv_ne b hi hno hon]; exact ((b.who j n hj hon).fr f (fun k h => h.elim)).mono (fun k h => (hw k).1 h)
  · intro j hj hon
    rcases (on_set hi).1 hon with rfl | hon
    · exact absurd hj hc
    · obtain ⟨g, s, x, h1, h2, h3⟩ := b.cel j hj hon
      exact ⟨g, s, x, by rw [gv_ne b hi hno hon]; exact h1, h2, hblk h3⟩
  · intro i' j g hi' hj h1 h2 h3 h4
    rcases (on_set hi).1 h1 with rfl | h1
    · exact absurd hi' hc
    rcases (on_set hi).1 h2 with rfl | h2
    · exact absurd hj hc
    rw [gv_ne b hi hno h1] at h3
    rw [gv_ne b hi hno h2] at h4
    exact b.dis i' j g hi' hj h1 h2 h3 h4
  · intro i' j c hp hon
    rcases (on_set hi).1 hon with rfl | hon
    · rw [hp] at hk; exact hk.elim
    · obtain ⟨h1, h2, g, s, x, h3, h4, h5⟩ := b.put i' j c hp hon
      exact ⟨(on_set hi).2 (.inr h1), (on_set hi).2 (.inr h2), g, s, x, by rw [gv_ne b hi hno h1]; exact h3, by rw [gv_ne b hi hno h2]; exact h4, hblk h5⟩
  · intro i' g c hp hon
    rcases (on_set hi).1 hon with rfl | hon
    · rw [hp] at hk; exact hk.elim
    · obtain ⟨h2, s, x, h4, h5⟩ := b.puto i' g c hp hon
      exact ⟨(on_set hi).2 (.inr h2), s, x, by rw [gv_ne b hi hno h2]; exact h4, hblk h5⟩
  · intro i' g c hp hon
    have h := b.pre i' g c hp (fun h => hon ((on_set hi).2 (.inr h)))
    rw [← h]
    exact f.block g (b.slt g (.inl (b.so i' g c hp).1)) (fun h => h)
/-- A cell is laid. -/
theorem Bag.lay (b : Bag kd deps So w0 L w l) (hi : i < L.size) (hno : ¬ On L i) (hd : ∀ j ∈ deps i, On L j) (hk : kd i = .cel) : Bag kd deps So w0 (L.setIfInBounds i true) (w.alloc (.cells #[.int .i64 0, .slice none 0 0] 40)) (upd l i (ptr w.heap.size)) := by
  have hF : Fr (fun _ => False) w (w.alloc (.cells #[.int .i64 0, .slice none 0 0] 40)) := (Fr.refl _ w).alloc _
  have hblk : ∀ {g : Nat} {o : Obj}, w.heap[g]? = some o → (w.alloc (.cells #[.int .i64 0, .slice none 0 0] 40)).heap[g]? = some o := fun h => ZFr.blk_alloc h _
  have hnew := heap_alloc_new w (.cells #[.int .i64 0, .slice none 0 0] 40)
  have pinj : ∀ {g g' : Nat}, ptr g = ptr g' → g = g' := fun h => by simpa [ptr] using h
  have hsz : (w.alloc (.cells #[.int .i64 0, .slice none 0 0] 40)).heap.size = w.heap.size + 1 := by simp
  have hw : ∀ k, wset kd So (L.setIfInBounds i true) (upd l i (ptr w.heap.size)) k → wset kd So L l k ∨ k = w.heap.size := by
    rintro k (h | ⟨j, h1, h2, h3⟩)
    · exact .inl (.inl h)
    · rcases (on_set hi).1 h2 with rfl | h2
      · rw [gv_at b hi] at h3; exact .inr (pinj h3).symm
      · rw [gv_ne b hi hno h2] at h3; exact .inl (.inr ⟨j, h1, h2, h3⟩)
  refine { fr := b.fr.trans hF (fun _ h _ => h.elim), slt := fun k h => ?_, clo := clo_set b hi hd, val := ?_, who := ?_, cel := ?_, dis := ?_, put := ?_, puto := ?_, pre := ?_, so := b.so, pc := b.pc, one := b.one }
  · rw [hsz]
    rcases hw k h with h | h
    · exact Nat.lt_succ_of_lt (b.slt k h)
    · omega
  · intro j u hj hon
    rcases (on_set hi).1 hon with rfl | hon
    · rw [hj] at hk; cases hk
    · rw [gv_ne b hi hno hon]; exact b.val j u hj hon
  · intro j n hj hon
    rcases (on_set hi).1 hon with rfl | hon
    · rw [hj] at hk; cases hk
    · rw [gv_ne b hi hno hon]; exact (Whole.new (b.who j n hj hon) hF).mono hw
  · intro j hj hon
    rcases (on_set hi).1 hon with rfl | hon
    · exact ⟨_, _, _, gv_at b hi, b.fr.size, hnew⟩
    · obtain ⟨g, s, x, h1, h2, h3⟩ := b.cel j hj hon
      exact ⟨g, s, x, by rw [gv_ne b hi hno hon]; exact h1, h2, hblk h3⟩
  · intro i' j g hi' hj h1 h2 h3 h4
    have lt : ∀ {j g}, kd j = .cel → On L j → l j = ptr g → g < w.heap.size := fun hj hon h => by
      obtain ⟨g', s, x, e, _, h3⟩ := b.cel _ hj hon
      rw [h] at e
      rw [pinj e]; exact ZFr.blk_lt h3
    have k1 := (on_set hi).1 h1
    have k2 := (on_set hi).1 h2
    clear h1 h2
    rcases k1 with k1 | k1
    · rcases k2 with k2 | k2
      · rw [k1, k2]
      · rw [k1, gv_at b hi] at h3; rw [gv_ne b hi hno k2] at h4
        have := lt hj k2 h4; have := pinj h3; omega
    · rcases k2 with k2 | k2
      · rw [k2, gv_at b hi] at h4; rw [gv_ne b hi hno k1] at h3
        have := lt hi' k1 h3; have := pinj h4; omega
      · rw [gv_ne b hi hno k1] at h3
        rw [gv_ne b hi hno k2] at h4
        exact b.dis i' j g hi' hj k1 k2 h3 h4
  · intro i' j c hp hon
    rcases (on_set hi).1 hon with rfl | hon
    · rw [hp] at hk; cases hk
    · obtain ⟨h1, h2, g, s, x, h3, h4, h5⟩ := b.put i' j c hp hon
      exact ⟨(on_set hi).2 (.inr h1), (on_set hi).2 (.inr h2), g, s, x, by rw [gv_ne b hi hno h1]; exact h3, by rw [gv_ne b hi hno h2]; exact h4, hblk h5⟩
  · intro i' g c hp hon
    rcases (on_set hi).1 hon with rfl | hon
    · rw [hp] at hk; cases hk
    · obtain ⟨h2, s, x, h4, h5⟩ := b.puto i' g c hp hon
      exact ⟨(on_set hi).2 (.inr h2), s, x, by rw [gv_ne b hi hno h2]; exact h4, hblk h5⟩
  · intro i' g c hp hon
    rw [← b.pre i' g c hp (fun h => hon ((on_set hi).2 (.inr h)))]
    exact hF.block g (b.slt g (.inl (b.so i' g c hp).1)) (fun h => h)
/-- A whole number is stored into a cell that is laid, or lay there. -/
theorem Bag.store (b : Bag kd deps So w0 L w l) (hi : i < L.size) (hno : ¬ On L i) (hd : ∀ j ∈ deps i, On L j) {g c : Nat} {s : Int} {x : Value}
    (hk : (∃ j, kd i = .put j c ∧ On L j ∧ kd j = .cel ∧ l j = ptr g) ∨ (kd i = .puto g c ∧ (∀ i' c', kd i' = .puto g c' → i' = i) ∧ ∃ s0 x0, w0.heap[g]? = some (.cells #[.int .i64 s0, x0] 40 (0, 0)))) (hon : On L c) (hv : l c = .agg #[.int .i64 s, x]) :
    Bag kd deps So w0 (L.setIfInBounds i true) ((w.setCell ⟨g, 0, none⟩ (.int .i64 s)).setCell ⟨g, 1, none⟩ x) (upd l i v) := by
  have hc : kd i ≠ .cel := fun e => by rcases hk with ⟨j, h, _⟩ | ⟨h, _⟩ <;> (rw [e] at h; cases h)
  have hw := fun k => wset_set (v := v) b hi hno hc k
  have pinj : ∀ {g g' : Nat}, ptr g = ptr g' → g = g' := fun h => by simpa [ptr] using h
  have hgs : wset kd So L l g := by
    rcases hk with ⟨j, h1, h2, h3, h4⟩ | ⟨h, _⟩
    · exact .inr ⟨j, h3, h2, h4⟩
    · exact .inl (b.so i g c h).1
  have hblk0 : ∃ s0 x0, w.heap[g]? = some (.cells #[.int .i64 s0, x0] 40 (0, 0)) := by
    rcases hk with ⟨j, h1, h2, h3, h4⟩ | ⟨h, _, s0, x0, h0⟩
    · obtain ⟨g', s0, x0, e, _, h5⟩ := b.cel j h3 h2
      rw [h4] at e
      exact ⟨s0, x0, by rw [pinj e]; exact h5⟩
    · exact ⟨s0, x0, by rw [b.pre i g c h hno]; exact h0⟩
  obtain ⟨s0, x0, hb0⟩ := hblk0
  have hF : Fr (fun k => k = g) w ((w.setCell ⟨g, 0, none⟩ (.int .i64 s)).setCell ⟨g, 1, none⟩ x) := ((Fr.refl (fun k => k = g) w).set _ _ (.inl rfl)).set _ _ (.inl rfl)
  have hgb : ((w.setCell ⟨g, 0, none⟩ (.int .i64 s)).setCell ⟨g, 1, none⟩ x).heap[g]? = some (.cells #[.int .i64 s, x] 40 (0, 0)) := put2 hb0
  have hoth : ∀ {k : Nat} {o : Obj}, w.heap[k]? = some o → k ≠ g → ((w.setCell ⟨g, 0, none⟩ (.int .i64 s)).setCell ⟨g, 1, none⟩ x).heap[k]? = some o := fun h hk => put2o h hk
  have hg0 : (∃ i c, kd i = .puto g c) ∨ w0.heap.size ≤ g := by
    rcases hk with ⟨j, h1, h2, h3, h4⟩ | ⟨h, _⟩
    · obtain ⟨g', s1, x1, e, h5, _⟩ := b.cel j h3 h2
      rw [h4] at e
      exact .inr (by rw [pinj e]; exact h5)
    · exact .inl ⟨i, c, h⟩
  refine { fr := b.fr.trans hF (fun k h hlt => by subst h; rcases hg0 with h | h; exact h; omega), slt := fun k h => ?_, clo := clo_set b hi hd, val := ?_, who := ?_, cel := ?_, dis := ?_, put := ?_, puto := ?_, pre := ?_, so := b.so, pc := b.pc, one := b.one }
  · exact Nat.lt_of_lt_of_le (b.slt k ((hw k).1 h)) hF.size
  · intro j u hj hon
    rcases (on_set hi).1 hon with rfl | hon
    · rcases hk with ⟨j', h, _⟩ | ⟨h, _⟩ <;> (rw [hj] at h; cases h)
    · rw [gv_ne b hi hno hon]; exact b.val j u hj hon
  · intro j n hj hon
    rcases (on_set hi).1 hon with rfl | hon
    · rcases hk with ⟨j', h, _⟩ | ⟨h, _⟩ <;> (rw [hj] at h; cases h)
    · rw [gv_ne b hi hno hon]; exact ((b.who j n hj hon).fr hF (fun k h => h ▸ hgs)).mono (fun k h => (hw k).1 h)
  · intro j hj hon
    rcases (on_set hi).1 hon with rfl | hon
    · exact absurd hj hc
    · obtain ⟨g', s', x', h1, h2, h3⟩ := b.cel j hj hon
      by_cases hgg : g' = g
      · exact ⟨g, s, x, by rw [gv_ne b hi hno hon, h1, hgg], hgg ▸ h2, hgb⟩
      · exact ⟨g', s', x', by rw [gv_ne b hi hno hon]; exact h1, h2, hoth h3 hgg⟩
  · intro i' j g' hi' hj h1 h2 h3 h4
    rcases (on_set hi).1 h1 with rfl | h1
    · exact absurd hi' hc
    rcases (on_set hi).1 h2 with rfl | h2
    · exact absurd hj hc
    rw [gv_ne b hi hno h1] at h3
    rw [gv_ne b hi hno h2] at h4
    exact b.dis i' j g' hi' hj h1 h2 h3 h4
  · intro i' j c' hp hon'
    rcases (on_set hi).1 hon' with rfl | hon'
    · rcases hk with ⟨j', h, h2, h3, h4⟩ | ⟨h, _⟩
      · rw [hp] at h
        cases h
        exact ⟨(on_set hi).2 (.inr h2), (on_set hi).2 (.inr hon), g, s, x, by rw [gv_ne b hi hno h2]; exact h4, by rw [gv_ne b hi hno hon]; exact hv, hgb⟩
      · rw [hp] at h; cases h
    · obtain ⟨h1, h2, g', s', x', h3, h4, h5⟩ := b.put i' j c' hp hon'
      refine ⟨(on_set hi).2 (.inr h1), (on_set hi).2 (.inr h2), g', s', x', by rw [gv_ne b hi hno h1]; exact h3, by rw [gv_ne b hi hno h2]; exact h4, hoth h5 ?_⟩
      rintro rfl
      rcases hk with ⟨j', h, h2', h3', h4'⟩ | ⟨h, _⟩
      · have e := b.dis j j' g' (b.pc i' j c' hp) h3' h1 h2' h3 h4'
        subst e
        exact hno (b.one i' i j c' c hp h ▸ hon')
      · have h6 := (b.so i g' c h).2
        obtain ⟨g1, s1, x1, e, h7, _⟩ := b.cel j (b.pc i' j c' hp) h1
        rw [h3] at e
        have := pinj e; omega
  · intro i' g' c' hp hon'
    rcases (on_set hi).1 hon' with rfl | hon'
    · rcases hk with ⟨j', h, _⟩ | ⟨h, _⟩
      · rw [hp] at h; cases h
      · rw [hp] at h
        cases h
        exact ⟨(on_set hi).2 (.inr hon), s, x, by rw [gv_ne b hi hno hon]; exact hv, hgb⟩
    · obtain ⟨h2, s', x', h4, h5⟩ := b.puto i' g' c' hp hon'
      refine ⟨(on_set hi).2 (.inr h2), s', x', by rw [gv_ne b hi hno h2]; exact h4, hoth h5 ?_⟩
      rintro rfl
      rcases hk with ⟨j', h, h2', h3', h4'⟩ | ⟨h, hu, _⟩
      · have h6 := (b.so i' g' c' hp).2
        obtain ⟨g1, s1, x1, e, h7, _⟩ := b.cel j' h3' h2'
        rw [h4'] at e
        have := pinj e; omega
      · exact hno (hu i' c' hp ▸ hon')
  · intro i' g' c' hp hon'
    have h := b.pre i' g' c' hp (fun h => hon' ((on_set hi).2 (.inr h)))
    rw [← h]
    refine hF.block g' (b.slt g' (.inl (b.so i' g' c' hp).1)) (fun hgg => ?_)
    subst hgg
    rcases hk with ⟨j', h, h2', h3', h4'⟩ | ⟨h, hu, _⟩
    · have h6 := (b.so i' g' c' hp).2
      obtain ⟨g1, s1, x1, e, h7, _⟩ := b.cel j' h3' h2'
      rw [h4'] at e
      have := pinj e; omega
    · have e := hu i' c' hp
      subst e
      exact hon' ((on_set hi).2 (.inl rfl))
theorem Bag.start {n : Nat} (hso : ∀ k, So k → k < w0.heap.size) (so : ∀ i g c, kd i = .puto g c → So g) (pc : ∀ i j c, kd i = .put j c → kd j = .cel) (one : ∀ i i' j c c', kd i = .put j c → kd i' = .put j c' → i = i') : Bag kd deps So w0 (Array.replicate n false) w0 l := by
  have no := not_on n
  exact { fr := Fr.refl _ _, slt := fun k h => by
            rcases h with h | ⟨j, _, h, _⟩
            · exact hso k h
            · exact absurd h (no j)
          clo := fun i j h => absurd h (no i), val := fun j v _ h => absurd h (no j), who := fun j n _ h => absurd h (no j), cel := fun j _ h => absurd h (no j), dis := fun i j g _ _ h => absurd h (no i), put := fun i j c _ h => absurd h (no i), puto := fun i g c _ h => absurd h (no i), pre := fun _ _ _ _ _ => rfl, so := fun i g c h => ⟨so i g c h, hso g (so i g c h)⟩, pc := pc, one := one }
/-- The kinds of a region's operations, listed. -/
def kl (k : List Kd) (j : Nat) : Kd := k.getD j .any
def isPuto : Kd → Bool | .puto .. => true | _ => false
def tgt : Kd → Option Nat | .puto g _ => some g | _ => none
theorem kl_mem {k : List Kd} {i : Nat} {x : Kd} (h : kl k i = x) (hx : x ≠ .any) : i < k.length ∧ x ∈ k := by
  unfold kl at h
  by_cases hj : i < k.length
  · rw [show k.getD i .any = k[i] from by simp [List.getD, hj]] at h
    exact ⟨hj, h ▸ List.getElem_mem hj⟩
  · rw [show k.getD i .any = .any from by simp [List.getD, hj]] at h
    exact absurd h.symm hx
theorem kl_puto {k : List Kd} {ts : List Nat} (h : k.filterMap tgt = ts) {g i c : Nat} (e : kl k i = .puto g c) : g ∈ ts := by
  rw [← h]
  exact List.mem_filterMap.2 ⟨_, (kl_mem e (by simp)).2, rfl⟩
theorem kl_one {k : List Kd} {is : List Nat} (h : (List.range k.length).filter (fun i => isPuto (kl k i)) = is) {g i c : Nat} (e : kl k i = .puto g c) : i ∈ is := by
  rw [← h]
  exact List.mem_filter.2 ⟨List.mem_range.2 (kl_mem e (by simp)).1, by rw [e]; rfl⟩
def isCel : Kd → Bool | .cel => true | _ => false
def okPut (k : List Kd) : Bool := (List.range k.length).all fun i => match kl k i with
  | .put j _ => isCel (kl k j) && (List.range k.length).all fun i' => match kl k i' with
    | .put j' _ => !(Nat.beq j j') || Nat.beq i i'
    | _ => true
  | _ => true
theorem put_ok {k : List Kd} (h : okPut k = true) : (∀ i j c, kl k i = .put j c → kl k j = .cel) ∧ ∀ i i' j c c', kl k i = .put j c → kl k i' = .put j c' → i = i' := by
  have h2 := fun i (hi : i < k.length) => List.all_eq_true.1 h i (List.mem_range.2 hi)
  refine ⟨?_, ?_⟩
  · intro i j c e
    have h3 := h2 i (kl_mem e (by simp)).1
    rw [e] at h3
    simp only [Bool.and_eq_true] at h3
    have h4 := h3.1
    revert h4
    cases kl k j <;> simp [isCel]
  · intro i i' j c c' e e'
    have h3 := h2 i (kl_mem e (by simp)).1
    rw [e] at h3
    simp only [Bool.and_eq_true] at h3
    have h4 := List.all_eq_true.1 h3.2 i' (List.mem_range.2 (kl_mem e' (by simp)).1)
    rw [e'] at h4
    simpa using h4
end Go.Proofs.Ytngmkjgklonfmaa.Inv

