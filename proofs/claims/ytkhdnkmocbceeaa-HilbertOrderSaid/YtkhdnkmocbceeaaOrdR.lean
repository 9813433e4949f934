/- The reference's order is the sorted one. -/
import Derived.Test.YtkhdnkmocbceeaaOrdO
namespace Go.Proofs.Ytkhdnkmocbceeaa.Ord
open Go.Shelf Go.RowKit Go.Lib Go.Sort Go.Proofs.ZFr
open Go.Proofs.Hil Go.Proofs.Ytkhdnkmocbceeaa.FnHilbertIndex Go.Proofs.YtkhdnkmocbceeaaW.PrintWords

def insS (x : Seat) : List Seat → List Seat
  | [] => [x]
  | a :: r => if ltOf cf x a = true then x :: a :: r else a :: insS x r
def refS (b : Int) (ps : List (Int × Int)) (n : Nat) : List Seat := ((seats b ps).take n).foldl (fun o x => insS x o) []
theorem insS_perm (x : Seat) : ∀ l, (insS x l).Perm (x :: l)
  | [] => .refl _
  | a :: r => by
    unfold insS
    split
    · exact .refl _
    · exact ((insS_perm x r).cons a).trans (.swap x a r)
theorem insS_sorted (x : Seat) : ∀ l : List Seat, l.Pairwise (fun a c => ltOf cf c a = false) → (insS x l).Pairwise (fun a c => ltOf cf c a = false)
  | [], _ => by simp [insS]
  | a :: r, h => by
    have h' := List.pairwise_cons.1 h
    unfold insS
    split
    · rename_i hx
      refine List.pairwise_cons.2 ⟨?_, h⟩
      intro c hc
      have hax : ltOf cf a x = false := by
        cases hq : ltOf cf a x with
        | false => rfl
        | true => have := swo.trans _ _ _ hq hx; rw [swo.irrefl] at this; cases this
      rcases List.mem_cons.1 hc with rfl | hc
      · exact hax
      · exact swo.ntrans _ _ _ (h'.1 c hc) hax
    · rename_i hx
      refine List.pairwise_cons.2 ⟨?_, insS_sorted x r h'.2⟩
      intro c hc
      rcases List.mem_cons.1 ((insS_perm x r).mem_iff.1 hc) with rfl | hc
      · simpa using hx
      · exact h'.1 c hc
theorem refS_succ (b : Int) (ps : List (Int × Int)) (n : Nat) (h : n < ps.length) : refS b ps (n + 1) = insS (seatAt b n ps[n]) (refS b ps n) := by
  unfold refS; rw [seats_take b ps n h, List.foldl_append]; rfl
theorem refS_perm (b : Int) (ps : List (Int × Int)) : ∀ n, n ≤ ps.length → (refS b ps n).Perm ((seats b ps).take n)
  | 0, _ => by simp [refS]
  | n + 1, h => by
    rw [refS_succ b ps n (by omega), seats_take b ps n (by omega)]
    exact (insS_perm _ _).trans (((refS_perm b ps n (by omega)).cons _).trans (List.perm_append_comm (l₁ := [seatAt b n ps[n]])))
theorem refS_sorted (b : Int) (ps : List (Int × Int)) : ∀ n, n ≤ ps.length → (refS b ps n).Pairwise (fun a c => ltOf cf c a = false)
  | 0, _ => by simp [refS]
  | n + 1, h => by rw [refS_succ b ps n (by omega)]; exact insS_sorted _ _ (refS_sorted b ps n (by omega))
theorem refS_length (b : Int) (ps : List (Int × Int)) (n : Nat) (h : n ≤ ps.length) : (refS b ps n).length = n := by
  rw [(refS_perm b ps n h).length_eq, List.length_take, seats_length]; omega
theorem refS_mem (b : Int) (ps : List (Int × Int)) (n : Nat) (h : n ≤ ps.length) (a : Seat) (ha : a ∈ refS b ps n) : ∃ j, ∃ hj : j < ps.length, j < n ∧ a = seatAt b j ps[j] := by
  have := (refS_perm b ps n h).mem_iff.1 ha
  obtain ⟨j, hj, rfl⟩ := List.mem_iff_getElem.1 this
  rw [List.length_take, seats_length] at hj
  exact ⟨j, by omega, by omega, by simp [seats]⟩
theorem refS_all (b : Int) (ps : List (Int × Int)) : refS b ps ps.length = (seats b ps).mergeSort le3 := by
  have hp := (refS_perm b ps ps.length (Nat.le_refl _))
  rw [List.take_of_length_le (by rw [seats_length]; omega)] at hp
  have hq : ((seats b ps).mergeSort le3).Pairwise (fun a c => le3 a c = true) := List.pairwise_mergeSort (le := le3)
    (fun x y z h1 h2 => by unfold le3 at *; simp at *; exact swo.ntrans _ _ _ h2 h1)
    (fun x y => by
      unfold le3
      cases h : ltOf cf y x
      · rfl
      · cases h2 : ltOf cf x y
        · rfl
        · have := swo.trans _ _ _ h h2; rw [swo.irrefl] at this; cases this) _
  refine (hp.trans (List.mergeSort_perm _ _).symm).eq_of_pairwise (le := fun a c => le3 a c = true) (fun x y _ _ h1 h2 => ?_) ((refS_sorted b ps ps.length (Nat.le_refl _)).imp (fun h => by unfold le3; rw [h]; rfl)) hq
  unfold le3 at h1 h2
  simp at h1 h2
  exact tot _ _ h2 h1

theorem ahead_f (k : Nat) (hk : 200 ≤ k) (b x0 y0 x1 y1 : Int) (i j : Nat) (hij : j < i) :
    PHilbertOrder.zelligeref32_ahead.f k b x0 y0 x1 y1 = some (ltOf cf (seatAt b i (x0, y0)) (seatAt b j (x1, y1))) := by
  have key : ∀ x y, inside b x y → PHilbertIndex.zelligeref32_Index.f k b x y = some ((idx b.toNat x.toNat y.toNat : Nat) : Int) := by
    intro x y h
    obtain ⟨h0, h1, h2, h3, h4, h5⟩ := h
    have := refIndex b.toNat (by omega) x.toNat y.toNat k (by omega) (by omega) (by omega)
    rwa [show ((b.toNat : Nat) : Int) = b from by omega, show ((x.toNat : Nat) : Int) = x from by omega, show ((y.toNat : Nat) : Int) = y from by omega] at this
  unfold PHilbertOrder.zelligeref32_ahead.f
  rw [In_f k (by omega), In_f k (by omega), Option.bind_some, Option.bind_some]
  symm
  by_cases h0 : inside b x0 y0
  · by_cases h1 : inside b x1 y1
    · rw [decide_eq_true h0, decide_eq_true h1, if_pos rfl, if_pos rfl, key _ _ h0, key _ _ h1, Option.bind_some, Option.bind_some]
      congr 1
      rw [Bool.eq_iff_iff, lt_iff]
      simp [seatAt, h0, h1]
      omega
    · rw [decide_eq_true h0, decide_eq_false h1, if_pos rfl, if_neg (by simp)]
      congr 1
      rw [lt_iff]
      simp [seatAt, h0, h1]
  · rw [decide_eq_false h0, if_neg (by simp)]
    congr 1
    rw [lt_false]
    by_cases h1 : inside b x1 y1
    · simp [seatAt, h0, h1]
    · simp [seatAt, h0, h1]; omega
end Go.Proofs.Ytkhdnkmocbceeaa.Ord
