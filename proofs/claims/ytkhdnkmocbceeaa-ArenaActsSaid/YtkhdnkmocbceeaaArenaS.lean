/- The program's arena and the reference's do the same. -/
import Derived.Test.YtkhdnkmocbceeaaRefW
namespace Go.Proofs.Ytkhdnkmocbceeaa.Arena
open Go.RowKit Go.Proofs.ZFr
open Go.Joins (below_alloc1 below_draws)

/-- What places and numbers that came back are to the reference's lists. -/
structure Sim (L : List Int) (C : List Nat) (Lent Back : List Int) (top : Nat) : Prop where
  back : Back = (C.map Int.ofNat).reverse
  top : top = L.length
  mem : ∀ x : Int, x ∈ Lent ↔ live L x = true
  nodup : Lent.Nodup
  len : Lent.length = L.count (-2)

theorem sim_nil : Sim [] [] [] [] 0 := ⟨rfl, rfl, fun x => by simp [live], List.nodup_nil, rfl⟩

theorem live_snoc (L : List Int) (x : Int) : live (L ++ [-2]) x = true ↔ live L x = true ∨ x = L.length := by
  rw [live_iff, live_iff]
  constructor
  · rintro ⟨h0, h1⟩
    by_cases h : x.toNat < L.length
    · rw [List.getElem?_append_left h] at h1; exact .inl ⟨h0, h1⟩
    · rw [List.getElem?_append_right (by omega)] at h1
      right
      have := (List.getElem?_eq_some_iff.1 h1).1
      simp at this; omega
  · rintro (⟨h0, h1⟩ | rfl)
    · exact ⟨h0, by rw [List.getElem?_append_left (List.getElem?_eq_some_iff.1 h1).1]; exact h1⟩
    · simp
theorem live_set (L : List Int) (c : Nat) (hc : c < L.length) (x : Int) : live (L.set c (-2)) x = true ↔ live L x = true ∨ x = c := by
  rw [live_iff, live_iff, List.getElem?_set]
  by_cases h : c = x.toNat
  · rw [if_pos h]; simp [hc]; omega
  · rw [if_neg h]; constructor
    · exact fun hh => .inl hh
    · rintro (hh | rfl)
      · exact hh
      · simp at h
theorem live_unset (L : List Int) (n : Nat) (hn : n < L.length) (m : Int) (hm : m ≠ -2) (x : Int) : live (L.set n m) x = true ↔ live L x = true ∧ x ≠ n := by
  rw [live_iff, live_iff, List.getElem?_set]
  by_cases h : n = x.toNat
  · rw [if_pos h]; simp [hn, hm]; omega
  · rw [if_neg h]; constructor
    · exact fun hh => ⟨hh, fun e => h (by rw [e]; simp)⟩
    · exact fun hh => hh.1

theorem sim_more {L : List Int} {Lent Back : List Int} {top : Nat} (h : Sim L [] Lent Back top) : Sim (takeL L []) [] (Lent ++ [(top : Int)]) [] (top + 1) := by
  obtain ⟨h1, h2, h3, h4, h5⟩ := h
  have hn : ((top : Nat) : Int) ∉ Lent := by
    rw [h3, live_iff]; rintro ⟨_, h⟩
    have := (List.getElem?_eq_some_iff.1 h).1
    simp at this; omega
  refine ⟨rfl, by simp [takeL, h2], fun x => ?_, ?_, ?_⟩
  · rw [List.mem_append, h3]; show _ ↔ live (L ++ [-2]) x = true
    rw [live_snoc, List.mem_singleton, h2]
  · rw [List.nodup_append]; exact ⟨h4, by simp, fun a ha b hb => by simp at hb; subst hb; intro e; subst e; exact hn ha⟩
  · simp [takeL, h5]
theorem sim_again {L : List Int} {c : Nat} {cs : List Nat} {Lent Back : List Int} {top : Nat} (hf : Fits L (c :: cs)) (h : Sim L (c :: cs) Lent Back top) :
    Back = (cs.map Int.ofNat).reverse ++ [(c : Int)] ∧ Sim (takeL L (c :: cs)) cs (Lent ++ [(c : Int)]) (cs.map Int.ofNat).reverse top := by
  obtain ⟨h1, h2, h3, h4, h5⟩ := h
  have hl := chain_lt hf.1 c (by simp)
  have hn : ((c : Nat) : Int) ∉ Lent := by
    rw [h3, live_iff]; rintro ⟨_, h⟩; exact hl.2 h
  refine ⟨by simpa using h1, rfl, by simp [takeL, h2], fun x => ?_, ?_, ?_⟩
  · rw [List.mem_append, h3]; show _ ↔ live (L.set c (-2)) x = true
    rw [live_set L c hl.1, List.mem_singleton]
  · rw [List.nodup_append]; exact ⟨h4, by simp, fun a ha b hb => by simp at hb; subst hb; intro e; subst e; exact hn ha⟩
  · show (Lent ++ [(c : Int)]).length = (L.set c (-2)).count (-2)
    rw [count_set_lent hl.1 hl.2]; simp [h5]
theorem sim_free {L : List Int} {C : List Nat} {Lent Back : List Int} {top : Nat} {n : Int} (h : Sim L C Lent Back top) (hn : live L n = true) :
    Sim (freeL L C n) (freeC L C n) (Lent.filter (fun y => decide (y ≠ n))) (Back ++ [n]) top := by
  obtain ⟨h1, h2, h3, h4, h5⟩ := h
  obtain ⟨h0, hl⟩ := live_iff.1 hn
  obtain ⟨hlt, _⟩ := List.getElem?_eq_some_iff.1 hl
  have hc := count_set_back hl (fr_ne C)
  simp only [freeL, freeC, if_pos hn]
  refine ⟨?_, by simp [h2], fun x => ?_, h4.filter _, ?_⟩
  · rw [h1]; simp; omega
  · rw [List.mem_filter, h3, live_unset L _ hlt _ (fr_ne C)]
    simp only [decide_eq_true_eq]
    rw [show ((n.toNat : Nat) : Int) = n from by omega]
  · have hm : n ∈ Lent := (h3 n).2 hn
    have e : Lent.filter (fun y => decide (y ≠ n)) = Lent.erase n := by
      rw [h4.erase_eq_filter]
      apply List.filter_congr
      intro x _
      by_cases hx : x = n <;> simp [hx]
    rw [e, List.length_erase_of_mem hm, h5]; omega
theorem ralls_alls {L Lent : List Int} (h : ∀ x : Int, x ∈ Lent ↔ live L x = true) : ∀ k, ralls Lent k = alls L k := by
  intro k
  induction k with
  | zero => simp [ralls, alls]
  | succ k ih =>
    rw [alls_snoc, ralls, ih]
    congr 1
    by_cases hk : live L (k : Int) = true
    · rw [if_pos hk, if_pos (by rw [decide_eq_true_eq]; exact (h _).2 hk)]
    · rw [if_neg hk, if_neg (by rw [decide_eq_true_eq]; exact fun hh => hk ((h _).1 hh))]

/-- The reference's arena in memory, its lists known by the program's. -/
def RC (w : World) (B rb : Nat) (u1 u2 : Value) (L : List Int) (C : List Nat) : Prop := ∃ Lent Back top, Rf w B rb u1 u2 Lent Back top ∧ Sim L C Lent Back top
theorem RC.fr {S : Nat → Prop} {w w' : World} {B rb : Nat} {u1 u2 : Value} {L : List Int} {C : List Nat} (h : RC w B rb u1 u2 L C) (hg : Fr S w w') (hS : ∀ k, OwnR rb u1 u2 k → ¬ S k) : RC w' B rb u1 u2 L C := by
  obtain ⟨Lent, Back, top, h1, h2⟩ := h
  exact ⟨Lent, Back, top, h1.fr hg hS, h2⟩
theorem RC.own_lt {w : World} {B rb : Nat} {u1 u2 : Value} {L : List Int} {C : List Nat} (h : RC w B rb u1 u2 L C) : ∀ k, OwnR rb u1 u2 k → B ≤ k ∧ k < w.heap.size := by
  obtain ⟨Lent, Back, top, h1, h2⟩ := h
  exact h1.own_lt
/-- The two arenas lie apart: their blocks are of other types. -/
theorem own_typed {w : World} {B ab : Nat} {v : Value} {L : List Int} {C : List Nat} (h : AC w B ab v L C) {k : Nat} (hk : Own ab v k) : ∃ cs t, w.heap[k]? = some (.cells cs t (0, 0)) ∧ (t = 69 ∨ t = 20) := by
  rcases hk with rfl | hk
  · exact ⟨_, _, h.ar.blk, .inl rfl⟩
  · rcases h.ar.row.2 with ⟨rfl, _⟩ | ⟨g, cap, cur, rfl, _, hg, _⟩
    · simp [Value.ownBlock] at hk
    · simp [Value.ownBlock] at hk; subst hk; exact ⟨_, _, hg, .inr rfl⟩
theorem ownR_typed {w : World} {B rb : Nat} {u1 u2 : Value} {L : List Int} {C : List Nat} (h : RC w B rb u1 u2 L C) {k : Nat} (hk : OwnR rb u1 u2 k) : ∃ cs t, w.heap[k]? = some (.cells cs t (0, 0)) ∧ (t = 51 ∨ t = 3) := by
  obtain ⟨Lent, Back, top, h1, h2⟩ := h
  rcases hk with rfl | hk | hk
  · exact ⟨_, _, h1.blk, .inl rfl⟩
  · rcases h1.row1.2 with ⟨rfl, _⟩ | ⟨g, cap, cur, rfl, _, hg, _⟩
    · simp [Value.ownBlock] at hk
    · simp [Value.ownBlock] at hk; subst hk; exact ⟨_, _, hg, .inr rfl⟩
  · rcases h1.row2.2 with ⟨rfl, _⟩ | ⟨g, cap, cur, rfl, _, hg, _⟩
    · simp [Value.ownBlock] at hk
    · simp [Value.ownBlock] at hk; subst hk; exact ⟨_, _, hg, .inr rfl⟩
theorem apart {w : World} {B B' ab rb : Nat} {v u1 u2 : Value} {L L' : List Int} {C C' : List Nat} (ha : AC w B ab v L C) (hr : RC w B' rb u1 u2 L' C') (k : Nat) : Own ab v k → ¬ OwnR rb u1 u2 k := by
  intro h1 h2
  obtain ⟨cs, t, e1, ht⟩ := own_typed ha h1
  obtain ⟨cs', t', e2, ht'⟩ := ownR_typed hr h2
  rw [e1] at e2
  simp only [Option.some.injEq, Obj.cells.injEq] at e2
  obtain ⟨_, e3, _⟩ := e2
  rcases ht with rfl | rfl <;> rcases ht' with rfl | rfl <;> cases e3

/-- Both arenas in memory, and what lay there ahead as it was. -/
def St (W w : World) (ab rb : Nat) (L : List Int) (C : List Nat) (L2 : List Int) (C2 : List Nat) : Prop :=
  ∃ v u1 u2, AC w W.heap.size ab v L C ∧ RC w W.heap.size rb u1 u2 L2 C2 ∧ Below W.heap.size W w

theorem St.cell {W w : World} {ab rb : Nat} {L L2 : List Int} {C C2 : List Nat} (h : St W w ab rb L C L2 C2) {a : Addr} {x : Value} (hc : W.cell? a = some x) : w.cell? a = some x := by
  obtain ⟨v, u1, u2, h1, h2, h3⟩ := h
  exact (h3.cell (World.block_lt_of_cell? W a hc)).trans hc

theorem St.drew {W w : World} {ab rb : Nat} {L L2 : List Int} {C C2 : List Nat} (h : St W w ab rb L C L2 C2) : St W w.drew ab rb L C L2 C2 := by
  obtain ⟨v, u1, u2, h1, h2, h3⟩ := h
  exact ⟨v, u1, u2, h1.fr (Fr.refl (fun _ => False) w).drew (fun _ _ h => h), h2.fr (Fr.refl (fun _ => False) w).drew (fun _ _ h => h), h3.drew⟩

section
variable {W w : World} {ab rb : Nat} {L L2 : List Int} {C C2 : List Nat}

theorem st_live (n : Int) (h : St W w ab rb L C L2 C2) :
    Calls Try.prog 33 #[.pointer (some ⟨ab, 0, none⟩), .int .i64 n] w fun e w' => e = .returned (.bool (live L n)) ∧ St W w' ab rb L C L2 C2 := by
  obtain ⟨v, u1, u2, h1, h2, h3⟩ := h
  refine (live_pub w _ n _ (live_any w _ ab v L _ _ n h1.ar)).mono ?_
  rintro e w' ⟨rfl, rfl⟩
  exact ⟨rfl, v, u1, u2, h1, h2, h3⟩
theorem st_rlive (n : Int) (h : St W w ab rb L C L2 C2) (hl : L2.length ≤ 100000) :
    Calls Try.prog 34 #[.pointer (some ⟨rb, 0, none⟩), .int .i64 n] w fun e w' => e = .returned (.bool (live L2 n)) ∧ St W w' ab rb L C L2 C2 := by
  obtain ⟨v, u1, u2, h1, ⟨Lent, Back, top, hr, hs⟩, h3⟩ := h
  have hcl := count_le L2
  refine (rlive_any w _ rb u1 u2 Lent Back top n hr (by rw [hs.len]; omega)).mono ?_
  rintro e w' ⟨rfl, k, rfl⟩
  have hf : Fr (fun _ => False) w (w.drewN k) := (Fr.refl _ w).drewN k
  refine ⟨?_, v, u1, u2, h1.fr hf (fun _ _ h => h), ⟨Lent, Back, top, hr.fr hf (fun _ _ h => h), hs⟩, h3.trans (below_draws _ w k)⟩
  congr 2
  by_cases hk : live L2 n = true
  · rw [hk, decide_eq_true ((hs.mem n).2 hk)]
  · rw [decide_eq_false (fun hh => hk ((hs.mem n).1 hh))]; simpa using hk
theorem st_free (n : Int) (h : St W w ab rb L C L2 C2) (hl : L.length ≤ 100000) :
    Calls Try.prog 25 #[.pointer (some ⟨ab, 0, none⟩), .int .i64 n] w fun e w' => e = .returned (.bool (live L n)) ∧ St W w' ab rb (freeL L C n) (freeC L C n) L2 C2 := by
  obtain ⟨v, u1, u2, h1, h2, h3⟩ := h
  refine (free_AC w _ ab v L C n h1 hl).mono ?_
  rintro e w' ⟨rfl, ha, hf⟩
  exact ⟨rfl, v, u1, u2, ha, h2.fr hf (fun k hk ho => apart h1 h2 k ho hk), h1.below h3 hf (Nat.le_refl _)⟩
theorem st_rfree (n : Int) (h : St W w ab rb L C L2 C2) (hl : L2.length ≤ 100000) (hf2 : Fits L2 C2) :
    Calls Try.prog 35 #[.pointer (some ⟨rb, 0, none⟩), .int .i64 n] w fun e w' => e = .returned (.bool (live L2 n)) ∧ St W w' ab rb L C (freeL L2 C2 n) (freeC L2 C2 n) := by
  obtain ⟨v, u1, u2, h1, h2, h3⟩ := h
  have h2' := h2
  obtain ⟨Lent, Back, top, hr, hs⟩ := h2
  have hcl := count_le L2
  by_cases hk : live L2 n = true
  · refine (rfree_yes w _ rb u1 u2 Lent Back top n hr (by rw [hs.len]; omega) (by have := hf2.2; rw [hs.back]; simp; omega) ((hs.mem n).2 hk)).mono ?_
    rintro e w' ⟨rfl, u1', u2', hr', hf⟩
    refine ⟨by rw [hk], v, u1', u2', h1.fr hf (fun k hk ho => apart h1 h2' k hk ho), ⟨_, _, _, hr', sim_free hs hk⟩, ?_⟩
    exact h3.trans (hf.below _ (by have := h3.size; omega) (fun k hk => (h2'.own_lt k hk).1))
  · refine (rfree_no w _ rb u1 u2 Lent Back top n hr (by rw [hs.len]; omega) (fun hh => hk ((hs.mem n).1 hh))).mono ?_
    rintro e w' ⟨rfl, k, rfl⟩
    have hf : Fr (fun _ => False) w (w.drewN k) := (Fr.refl _ w).drewN k
    simp only [freeL, freeC, if_neg hk]
    exact ⟨by simp at hk; rw [hk], v, u1, u2, h1.fr hf (fun _ _ h => h), h2'.fr hf (fun _ _ h => h), h3.trans (below_draws _ w k)⟩
theorem st_take (h : St W w ab rb L C L2 C2) (hl : L.length ≤ 100000) :
    Calls Try.prog 27 #[.pointer (some ⟨ab, 0, none⟩)] w fun e w' => e = .returned (.int .i64 (taken L C)) ∧ St W w' ab rb (takeL L C) C.tail L2 C2 := by
  obtain ⟨v, u1, u2, h1, h2, h3⟩ := h
  refine (take_AC w _ ab v L C h1 hl).mono ?_
  rintro e w' ⟨rfl, v', ha, hf⟩
  exact ⟨rfl, v', u1, u2, ha, h2.fr hf (fun k hk ho => apart h1 h2 k ho hk), h1.below h3 hf (Nat.le_refl _)⟩
theorem st_rtake (h : St W w ab rb L C L2 C2) (hl : L2.length ≤ 100000) (hf2 : Fits L2 C2) :
    Calls Try.prog 32 #[.pointer (some ⟨rb, 0, none⟩)] w fun e w' => e = .returned (.int .i64 (taken L2 C2)) ∧ St W w' ab rb L C (takeL L2 C2) C2.tail := by
  obtain ⟨v, u1, u2, h1, h2, h3⟩ := h
  have h2' := h2
  obtain ⟨Lent, Back, top, hr, hs⟩ := h2
  have hcl := count_le L2
  have hlt := hf2.2
  cases C2 with
  | nil =>
    obtain rfl : Back = [] := by rw [hs.back]; rfl
    refine (rtake_more w _ rb u1 u2 Lent top hr (by rw [hs.len]; omega) (by rw [hs.top]; omega)).mono ?_
    rintro e w' ⟨rfl, u1', hr', hf⟩
    refine ⟨by rw [hs.top]; rfl, v, u1', u2, h1.fr hf (fun k hk ho => apart h1 h2' k hk ho), ⟨_, _, _, hr', sim_more hs⟩, ?_⟩
    exact h3.trans (hf.below _ (by have := h3.size; omega) (fun k hk => (h2'.own_lt k hk).1))
  | cons c cs =>
    obtain ⟨hb, hs'⟩ := sim_again hf2 hs
    subst hb
    refine (rtake_back w _ rb u1 u2 Lent _ (c : Int) top hr (by rw [hs.len]; omega) (by simp at hlt ⊢; omega)).mono ?_
    rintro e w' ⟨rfl, u1', u2', hr', hf⟩
    refine ⟨rfl, v, u1', u2', h1.fr hf (fun k hk ho => apart h1 h2' k hk ho), ⟨_, _, _, hr', hs'⟩, ?_⟩
    exact h3.trans (hf.below _ (by have := h3.size; omega) (fun k hk => (h2'.own_lt k hk).1))
theorem st_clear (h : St W w ab rb L C L2 C2) :
    Calls Try.prog 31 #[.pointer (some ⟨ab, 0, none⟩)] w fun e w' => e = .returned (.tuple #[]) ∧ St W w' ab rb [] [] L2 C2 := by
  obtain ⟨v, u1, u2, h1, h2, h3⟩ := h
  refine (clear_AC w _ ab v L C h1).mono ?_
  rintro e w' ⟨rfl, ha, hf⟩
  exact ⟨rfl, _, u1, u2, ha, h2.fr hf (fun k hk ho => apart h1 h2 k ho hk), h1.below h3 hf (Nat.le_refl _)⟩
/-- A new reference's arena. -/
theorem st_anew (h : St W w ab rb L C L2 C2) : St W (w.alloc (.cells #[.slice none 0 0, .slice none 0 0, .int .i64 0] 51)) ab w.heap.size L C [] [] := by
  obtain ⟨v, u1, u2, h1, h2, h3⟩ := h
  have hsz := h3.size
  exact ⟨v, .slice none 0 0, .slice none 0 0, h1.fr ((Fr.refl (fun _ => False) w).alloc _) (fun _ _ h => h),
    ⟨[], [], 0, ⟨heap_alloc_new w _, World.ownsRow_nil _ _ _ _, World.ownsRow_nil _ _ _ _, fun k hk => by simp [Value.ownBlock] at hk, by omega⟩, sim_nil⟩, h3.alloc (by omega) _⟩
end


/-- Both arenas in memory, as one, the reference's fields told. -/
def St2 (W w : World) (ab rb : Nat) (L : List Int) (C : List Nat) (p : Option Addr) (c : Nat) : Prop :=
  ∃ v u2 Lent Back top, AC w W.heap.size ab v L C ∧ Rf w W.heap.size rb (.slice p (L.count (-2)) c) u2 Lent Back top ∧ Sim L C Lent Back top ∧ Below W.heap.size W w
theorem St.two {W w : World} {ab rb : Nat} {L : List Int} {C : List Nat} (h : St W w ab rb L C L C) : ∃ p c, St2 W w ab rb L C p c := by
  obtain ⟨v, u1, u2, h1, ⟨Lent, Back, top, hr, hs⟩, h3⟩ := h
  obtain ⟨p, c, rfl⟩ := row_slice hr.row1
  rw [hs.len] at hr
  exact ⟨p, c, v, u2, Lent, Back, top, h1, hr, hs, h3⟩
section
variable {W w : World} {ab rb : Nat} {L : List Int} {C : List Nat} {p : Option Addr} {c : Nat}
theorem St2.one (h : St2 W w ab rb L C p c) : St W w ab rb L C L C := by
  obtain ⟨v, u2, Lent, Back, top, h1, hr, hs, h3⟩ := h
  exact ⟨v, _, u2, h1, ⟨Lent, Back, top, hr, hs⟩, h3⟩
theorem St2.cells (h : St2 W w ab rb L C p c) : w.cell? ⟨rb, 0, none⟩ = some (.slice p (L.count (-2)) c) ∧ w.cell? ⟨rb, 2, none⟩ = some (.int .i64 L.length) := by
  obtain ⟨v, u2, Lent, Back, top, h1, hr, hs, h3⟩ := h
  have k0 := blk_cell hr.blk 0
  have k2 := blk_cell hr.blk 2
  simp at k0 k2
  rw [hs.top] at k2
  exact ⟨k0, k2⟩
theorem St2.fr (h : St2 W w ab rb L C p c) {w' : World} (hf : Fr (fun _ => False) w w') : St2 W w' ab rb L C p c := by
  obtain ⟨v, u2, Lent, Back, top, h1, hr, hs, h3⟩ := h
  exact ⟨v, u2, Lent, Back, top, h1.fr hf (fun _ _ h => h), hr.fr hf (fun _ _ h => h), hs, h3.trans (hf.below _ h3.size (fun _ h => h.elim))⟩
theorem st2_all (h : St2 W w ab rb L C p c) (hl : L.length ≤ 100000) :
    Calls Try.prog 26 #[.pointer (some ⟨ab, 0, none⟩)] w fun e w' => ∃ q d, e = .returned (.slice q (L.count (-2)) d) ∧ w'.ownsRow w.heap.size 3 1 (.slice q (L.count (-2)) d) (L.count (-2)) ((alls L L.length).map (Value.int .i64)) ∧ St2 W w' ab rb L C p c := by
  have h' := h
  obtain ⟨v, u2, Lent, Back, top, h1, hr, hs, h3⟩ := h
  refine (all_AC w _ ab v L C h1 hl).mono ?_
  rintro e w' ⟨q, d, rfl, ho, ha, hb⟩
  exact ⟨q, d, rfl, ho, h'.fr (Fr.of_below hb)⟩
theorem st2_rall {b n : Nat} {s : Value} {xs : List Value} (h : St2 W w ab rb L C p c) (hl : L.length ≤ 100000) (ho : w.ownsRow b 3 1 s n xs) :
    Calls Try.prog 37 #[.pointer (some ⟨rb, 0, none⟩)] w fun e w' => ∃ q d, e = .returned (.slice q (L.count (-2)) d) ∧ w'.ownsRow w.heap.size 3 1 (.slice q (L.count (-2)) d) (L.count (-2)) ((alls L L.length).map (Value.int .i64)) ∧ w'.ownsRow b 3 1 s n xs ∧ St2 W w' ab rb L C p c := by
  have h' := h
  obtain ⟨v, u2, Lent, Back, top, h1, hr, hs, h3⟩ := h
  have hcl := count_le L
  rw [← hs.len] at hr
  refine (rall_any w _ rb _ u2 Lent Back top hr (by rw [hs.len]; omega) (by rw [hs.top]; exact hl)).mono ?_
  rintro e w' ⟨q, d, rfl, ho', hb⟩
  rw [hs.top, ralls_alls hs.mem, alls_count] at ho'
  exact ⟨q, d, by rw [hs.top, ralls_alls hs.mem, alls_count], ho', row_fr ho (Fr.of_below hb) (fun _ _ h => h), h'.fr (Fr.of_below hb)⟩
theorem st2_ints {b b' : Nat} {q q' : Option Addr} {d d' : Nat} (h : St2 W w ab rb L C p c) (hl : L.length ≤ 100000) (ho : w.ownsRow b 3 1 (.slice q (L.count (-2)) d) (L.count (-2)) ((alls L L.length).map (Value.int .i64)))
    (ho' : w.ownsRow b' 3 1 (.slice q' (L.count (-2)) d') (L.count (-2)) ((alls L L.length).map (Value.int .i64))) :
    Calls Try.prog 36 #[.slice q (L.count (-2)) d, .slice q' (L.count (-2)) d'] w fun e w' => e = .returned (.bool true) ∧ St2 W w' ab rb L C p c := by
  have hcl := count_le L
  have hal := alls_count L
  have hi := ints_any w b b' q q' d d' (alls L L.length) (alls L L.length) (by rw [hal]; exact ho) (by rw [hal]; exact ho') (by rw [hal]; omega)
  rw [hal] at hi
  refine hi.mono ?_
  rintro e w' ⟨rfl, k, rfl⟩
  exact ⟨by simp, h.fr ((Fr.refl _ w).drewN k)⟩
theorem st2_len (h : St2 W w ab rb L C p c) :
    Calls Try.prog 28 #[.pointer (some ⟨ab, 0, none⟩)] w fun e w' => e = .returned (.int .i64 (L.count (-2) : Nat)) ∧ St2 W w' ab rb L C p c := by
  have h' := h
  obtain ⟨v, u2, Lent, Back, top, h1, hr, hs, h3⟩ := h
  refine (len_AC w _ ab v L C h1).mono ?_
  rintro e w' ⟨rfl, rfl⟩
  exact ⟨rfl, h'⟩
theorem st2_top (h : St2 W w ab rb L C p c) :
    Calls Try.prog 29 #[.pointer (some ⟨ab, 0, none⟩)] w fun e w' => e = .returned (.int .i64 L.length) ∧ St2 W w' ab rb L C p c := by
  have h' := h
  obtain ⟨v, u2, Lent, Back, top, h1, hr, hs, h3⟩ := h
  refine (top_AC w _ ab v L C h1).mono ?_
  rintro e w' ⟨rfl, rfl⟩
  exact ⟨rfl, h'⟩
end

end Go.Proofs.Ytkhdnkmocbceeaa.Arena
