/- What is used of RsH. -/
import Derived.Test.YtgaicbodpneeoaaJH
import Derived.Test.YtgaicbodpneeoaaSkRsG
import Derived.Test.YtgaicbodpneeoaaSkWLk
namespace Go.Proofs.Ytgaicbodpneeoaa.Rs
open Go.Shelf Go.RowKit Go.Lib Go.Sort Go.Proofs.ZFr Go.Proofs.Ytgaicbodpneeoaa.PRasterImages Go.Proofs.Ytgaicbodpneeoaa.Wd Go.Proofs.YtgaicbodpneeoaaW.PrintWords
instance : Inhabited Cone := ⟨⟨0, 0, 0⟩⟩
theorem row_holds {w : World} {B g c : Nat} {L : List Cone} (h : w.ownsRow B 72 4 (.slice (some ⟨g, 0, none⟩) L.length c) L.length (L.flatMap cellsC)) : HoldsK cellsC 4 w g 0 L.toArray := by
  intro t hlt
  rw [size_flatK] at hlt
  have hlt' : t < L.length * 4 := by simpa using hlt
  refine ⟨?_, row_free h _⟩
  have hi : t / 4 < L.length := by omega
  rw [get_flatK _ _ _ _ hlt, Nat.zero_add]
  have hj : t % 4 < 4 := by omega
  refine row_at h ?_
  have := flat_at cellsC_len L (t / 4) (t % 4) hi hj
  rw [show t / 4 * 4 + t % 4 = t from by omega] at this
  rw [this]
  have e : L.toArray[t / 4]! = L[t / 4] := by rw [getElem!_pos _ _ (by simpa using hi)]; simp
  rw [e]
  obtain h | h | h | h : t % 4 = 0 ∨ t % 4 = 1 ∨ t % 4 = 2 ∨ t % 4 = 3 := by omega
  all_goals rw [h]; rfl
theorem sort_walk (B g c : Nat) (L : List Cone) (w : World) (h : w.ownsRow B 72 4 (.slice (some ⟨g, 0, none⟩) L.length c) L.length (L.flatMap cellsC)) (hl : L.length < 4611686018427387904) :
    Calls Try.prog 36 #[.slice (some ⟨g, 0, none⟩) L.length c, .func (.func 37) #[] #[]] w fun e w' => e = .returned (.tuple #[]) ∧ Fr (fun k => k = g) w w' ∧ RowC w' g (L.mergeSort leC) := by
  have hH := row_holds h
  have hb : g < w.heap.size := (row_cap h).2.2
  have eg : ∀ args w, (callFunc 37 args).run Try.prog w = .ok (.enter 37 args) w := enters_of Try.func37 (by kernel_rfl) rfl
  have hcon := AnyQ.slices_SortFunc_total Try.sortLinks 4 (fun _ => by kernel_rfl) (fun _ => by kernel_rfl) cellsC (fun _ => rfl) (fun x v hv => by simp [cellsC] at hv; rcases hv with rfl | rfl | rfl | rfl <;> rfl) cfC swo 37 #[] g 0 c L.toArray w eg
    (fun _ _ _ _ x y => cfC_walk x y _) hH hb (by simpa using hl) tot
  change Calls Try.prog 36 _ _ _ at hcon
  refine hcon.mono ?_
  rintro e w' ⟨rfl, n, os, rfl⟩
  refine ⟨rfl, ?_, ?_⟩
  · refine ⟨rfl, rfl, rfl, by simp [sortWorldK, grow, putRowK, Sort.ahead], fun k hk hne => ?_⟩
    have hk' : k < (putRowK cellsC 4 (Sort.ahead w n) g 0 (L.mergeSort leC).toArray).heap.size := by simpa [putRowK, Sort.ahead] using hk
    show ((putRowK cellsC 4 (Sort.ahead w n) g 0 (L.mergeSort leC).toArray).heap ++ os)[k]? = _
    rw [Array.getElem?_append_left hk']
    show (w.heap.modify g _)[k]? = _
    rw [Array.getElem?_modify, if_neg (fun h => hne h.symm)]
  · have hh : HoldsK cellsC 4 (sortWorldK cellsC 4 w g 0 n (L.mergeSort leC).toArray os) g 0 (L.mergeSort leC).toArray := holdsK_grow _ _ _ _ _ _ _ (by simpa [putRowK, Sort.ahead] using hb) (holdsK_putRowK _ _ _ _ _ _ _ (holdsK_ahead _ _ _ _ _ _ _ hH) (by simp))
    intro i hi j u hu
    have hi' : i < (L.mergeSort leC).toArray.size := by simpa using hi
    have hj : j < 4 := by
      obtain ⟨hj, _⟩ := List.getElem?_eq_some_iff.1 hu
      exact hj
    have c0 := (hh.cell hi' hj).1
    rw [getElem!_pos _ i hi', Nat.zero_add] at c0
    have e : (L.mergeSort leC).toArray[i] = (L.mergeSort leC)[i] := by simp
    rw [e] at c0
    refine c0.trans ?_
    obtain ⟨hj2, hu2⟩ := List.getElem?_eq_some_iff.1 hu
    rw [← hu2]
    exact congrArg some (getElem!_pos _ j hj2)
end Go.Proofs.Ytgaicbodpneeoaa.Rs

