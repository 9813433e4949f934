/- hilbert.Order: slices.SortFunc at its seats. -/
import Derived.Test.YtkhdnkmocbceeaaOrdW
namespace Go.Proofs.Ytkhdnkmocbceeaa.Ord
open Go.Shelf Go.RowKit Go.Lib Go.Sort Go.Proofs.ZFr

def le3 (a b : Seat) : Bool := !(ltOf cf) b a
theorem lt_iff (x y : Seat) : ltOf cf x y = true ↔ (x.2.2 = false ∧ y.2.2 = true) ∨ (x.2.2 = y.2.2 ∧ (x.2.1 < y.2.1 ∨ (x.2.1 = y.2.1 ∧ x.1 < y.1))) := by
  obtain ⟨xa, xd, xo⟩ := x
  obtain ⟨ya, yd, yo⟩ := y
  unfold ltOf cf or2 cmp3
  cases xo <;> cases yo <;> simp
  all_goals
    by_cases h1 : xd < yd
    · simp [h1]
    · by_cases h2 : yd < xd
      · simp [h1, h2]; omega
      · by_cases h3 : xa < ya
        · simp [h1, h2, h3]; omega
        · by_cases h4 : ya < xa
          · simp [h1, h2, h3, h4]
          · simp [h1, h2, h3, h4]
theorem lt_false (x y : Seat) : ltOf cf x y = false ↔ ¬ ((x.2.2 = false ∧ y.2.2 = true) ∨ (x.2.2 = y.2.2 ∧ (x.2.1 < y.2.1 ∨ (x.2.1 = y.2.1 ∧ x.1 < y.1)))) := by
  rw [← lt_iff]; simp
theorem swo : SWO (ltOf cf) where
  irrefl x := by rw [lt_false]; simp
  trans x y z h1 h2 := by
    rw [lt_iff] at *
    obtain ⟨xa, xd, xo⟩ := x; obtain ⟨ya, yd, yo⟩ := y; obtain ⟨za, zd, zo⟩ := z
    cases xo <;> cases yo <;> cases zo <;> simp at * <;> omega
  ntrans x y z h1 h2 := by
    rw [lt_false] at *
    obtain ⟨xa, xd, xo⟩ := x; obtain ⟨ya, yd, yo⟩ := y; obtain ⟨za, zd, zo⟩ := z
    cases xo <;> cases yo <;> cases zo <;> simp at * <;> omega
theorem tot (x y : Seat) (h1 : ltOf cf x y = false) (h2 : ltOf cf y x = false) : x = y := by
  rw [lt_false] at *
  obtain ⟨xa, xd, xo⟩ := x; obtain ⟨ya, yd, yo⟩ := y
  cases xo <;> cases yo <;> simp at * <;> omega

def flat (l : List Seat) : List Value := l.flatMap enc
theorem flat_append (l m : List Seat) : flat (l ++ m) = flat l ++ flat m := by simp [flat]
theorem flat_length (l : List Seat) : (flat l).length = l.length * 3 := by
  induction l with
  | nil => rfl
  | cons p l ih => simp only [flat, List.flatMap_cons, List.length_append, List.length_cons] at *; rw [ih]; simp [enc]; omega
theorem flat_at : ∀ (l : List Seat) (t : Nat), t < l.length * 3 → (flat l)[t]? = some ((enc l.toArray[t / 3]!)[t % 3]!)
  | [], t, h => absurd h (by simp)
  | p :: l, t, h => by
    have e : flat (p :: l) = enc p ++ flat l := rfl
    rw [e]
    by_cases ht : t < 3
    · rw [List.getElem?_append_left (by simpa [enc] using ht)]
      obtain rfl | rfl | rfl : t = 0 ∨ t = 1 ∨ t = 2 := by omega
      all_goals simp [enc]
    · rw [List.getElem?_append_right (by simp [enc]; omega), show (enc p).length = 3 from rfl, flat_at l (t - 3) (by simp at h; omega)]
      rw [show t / 3 = (t - 3) / 3 + 1 from by omega, show t % 3 = (t - 3) % 3 from by omega]
      simp

theorem row_holds {w : World} {B g c : Nat} {L : List Seat} (h : w.ownsRow B 83 3 (.slice (some ⟨g, 0, none⟩) L.length c) L.length (flat L)) : HoldsK enc 3 w g 0 L.toArray := by
  obtain ⟨h0, h | ⟨g', cap, cur, he, hb, hg, hn, hc, hs, ht⟩⟩ := h
  · simp at h
  · simp only [Value.slice.injEq, Option.some.injEq, Addr.mk.injEq, and_true, true_and] at he
    obtain ⟨rfl, rfl⟩ := he
    intro t hlt
    rw [size_flatK] at hlt
    have hlt' : t < L.length * 3 := by simpa using hlt
    refine ⟨?_, ?_⟩
    · rw [get_flatK _ _ _ _ hlt, Nat.zero_add, blk_cell hg t]
      have := flat_at L t hlt'
      rw [← ht, List.getElem?_take] at this
      rw [if_pos hlt'] at this
      rw [Array.getElem?_toList] at this
      exact this
    · exact blk_free hg _

theorem sort_walk (B g c : Nat) (L : List Seat) (w : World) (h : w.ownsRow B 83 3 (.slice (some ⟨g, 0, none⟩) L.length c) L.length (flat L)) (hl : L.length < 4611686018427387904) :
    Calls Try.prog 57 #[.slice (some ⟨g, 0, none⟩) L.length c, .func (.func 58) #[] #[]] w fun e w' => e = .returned (.tuple #[]) ∧ Fr (fun k => k = g) w w' ∧ HoldsK enc 3 w' g 0 (L.mergeSort le3).toArray := by
  have hH := row_holds h
  have hb : g < w.heap.size := by
    obtain ⟨_, h | ⟨g', cap, cur, he, _, hg, _⟩⟩ := h
    · simp at h
    · simp only [Value.slice.injEq, Option.some.injEq, Addr.mk.injEq, and_true, true_and] at he
      obtain ⟨rfl, rfl⟩ := he
      exact blk_lt hg
  have eg : ∀ args w, (callFunc 58 args).run Try.prog w = .ok (.enter 58 args) w := enters_of Try.func58 (by kernel_rfl) rfl
  have hcon := AnyQ.slices_SortFunc_total Try.sortSeats 3 (fun _ => by kernel_rfl) (fun _ => by kernel_rfl) enc (fun _ => rfl) (fun x v hv => by simp [enc] at hv; rcases hv with rfl | rfl | rfl <;> rfl) cf swo 58 #[] g 0 c L.toArray w eg
    (fun _ _ _ _ x y => cf_walk x.1 x.2.1 x.2.2 y.1 y.2.1 y.2.2 _) hH hb (by simpa using hl) tot
  change Calls Try.prog 57 _ _ _ at hcon
  refine hcon.mono ?_
  rintro e w' ⟨rfl, n, os, rfl⟩
  refine ⟨rfl, ?_, ?_⟩
  · refine ⟨rfl, rfl, rfl, by simp [sortWorldK, grow, putRowK, Sort.ahead], fun k hk hne => ?_⟩
    have hk' : k < (putRowK enc 3 (Sort.ahead w n) g 0 (L.mergeSort le3).toArray).heap.size := by simpa [putRowK, Sort.ahead] using hk
    show ((putRowK enc 3 (Sort.ahead w n) g 0 (L.mergeSort le3).toArray).heap ++ os)[k]? = _
    rw [Array.getElem?_append_left hk']
    show (w.heap.modify g _)[k]? = _
    rw [Array.getElem?_modify, if_neg (fun h => hne h.symm)]
  · exact holdsK_grow _ _ _ _ _ _ _ (by simpa [putRowK, Sort.ahead] using hb) (holdsK_putRowK _ _ _ _ _ _ _ (holdsK_ahead _ _ _ _ _ _ _ hH) (by simp))
end Go.Proofs.Ytkhdnkmocbceeaa.Ord
