/- What the printed functions of the reference of arena answer. -/
import Derived.Test.YtkhdnkmocbceeaaPArenaActsx
import Derived.Test.YtkhdnkmocbceeaaArenaFewW
namespace Go.Proofs.Ytkhdnkmocbceeaa.Arena
open Go.RowKit Go.Proofs.ZFr Go.Proofs.Ytkhdnkmocbceeaa.PArenaActs Go.Proofs.YtkhdnkmocbceeaaW.PrintWords Go.Proofs.YtkhdnkmocbceeaaW.PrintLast

theorem rd_drop {l : List Int} {i : Nat} (h : i < l.length) : l.drop i = rd l (i : Int) :: l.drop (i + 1) := by
  rw [List.drop_eq_getElem_cons h]
  simp [rd, h]

theorem in_l0 (l : List Int) (x : Int) (hl : l.length ≤ 1000000) : ∀ (d i k : Nat), i ≤ l.length → l.length - i = d → d < k → zelligeref10_in.l0 k l x (i : Int) = some (decide (x ∈ l.drop i)) := by
  intro d
  induction d with
  | zero =>
    intro i k hi hd hk
    obtain ⟨k, rfl⟩ : ∃ m, k = m + 1 := ⟨k - 1, by omega⟩
    rw [zelligeref10_in.l0, if_neg (by omega), List.drop_eq_nil_of_le (by omega)]
    simp
  | succ d ih =>
    intro i k hi hd hk
    obtain ⟨k, rfl⟩ : ∃ m, k = m + 1 := ⟨k - 1, by omega⟩
    rw [zelligeref10_in.l0, if_pos (by omega), if_pos (by omega), rd_drop (by omega : i < l.length)]
    by_cases h : rd l (i : Int) = x
    · rw [if_pos h]; simp [h]
    · rw [if_neg h, show wrap64 ((i : Int) + 1) = ((i + 1 : Nat) : Int) from by unfold wrap64; omega, ih (i + 1) k (by omega) (by omega) (by omega)]
      congr 1
      rw [decide_eq_decide]
      simp only [List.mem_cons]
      exact ⟨.inr, fun hh => by rcases hh with hh | hh; exact absurd hh.symm h; exact hh⟩
theorem in_f (l : List Int) (x : Int) (hl : l.length ≤ 1000000) : zelligeref10_in.f 1000001 l x = some (decide (x ∈ l)) := by
  have := in_l0 l x hl l.length 0 1000001 (by omega) (by omega) (by omega)
  simpa [zelligeref10_in.f] using this

theorem without_l0 (l : List Int) (x : Int) (hl : l.length ≤ 1000000) : ∀ (d i k : Nat) (acc : List Int), i ≤ l.length → l.length - i = d → d < k → acc.length ≤ i → zelligeref10_Without.l0 k l x acc (i : Int) = some (acc ++ (l.drop i).filter (fun y => decide (y ≠ x))) := by
  intro d
  induction d with
  | zero =>
    intro i k acc hi hd hk ha
    obtain ⟨k, rfl⟩ : ∃ m, k = m + 1 := ⟨k - 1, by omega⟩
    rw [zelligeref10_Without.l0, if_neg (by omega), List.drop_eq_nil_of_le (by omega)]
    simp
  | succ d ih =>
    intro i k acc hi hd hk ha
    obtain ⟨k, rfl⟩ : ∃ m, k = m + 1 := ⟨k - 1, by omega⟩
    have hw : wrap64 ((i : Int) + 1) = ((i + 1 : Nat) : Int) := by unfold wrap64; omega
    rw [zelligeref10_Without.l0, if_pos (by omega), if_pos (by omega), rd_drop (by omega : i < l.length), hw]
    by_cases h : rd l (i : Int) = x
    · rw [if_pos h, ih (i + 1) k acc (by omega) (by omega) (by omega) (by omega)]
      simp [h]
    · rw [if_neg h, if_pos (by omega), ih (i + 1) k _ (by omega) (by omega) (by omega) (by simp; omega)]
      simp [h]
theorem without_f (l : List Int) (x : Int) (hl : l.length ≤ 1000000) : zelligeref10_Without.f 1000001 l x = some (l.filter (fun y => decide (y ≠ x))) := by
  have := without_l0 l x hl l.length 0 1000001 [] (by omega) (by omega) (by omega) (by simp)
  simpa [zelligeref10_Without.f] using this

theorem ints_l0 (l m : List Int) (hl : l.length ≤ 1000000) (hlm : l.length = m.length) : ∀ (d i k : Nat), i ≤ l.length → l.length - i = d → d < k → zelligeref10_Ints.l0 k l m (i : Int) = some (decide (l.drop i = m.drop i)) := by
  intro d
  induction d with
  | zero =>
    intro i k hi hd hk
    obtain ⟨k, rfl⟩ : ∃ m, k = m + 1 := ⟨k - 1, by omega⟩
    rw [zelligeref10_Ints.l0, if_neg (by omega), List.drop_eq_nil_of_le (by omega), List.drop_eq_nil_of_le (by omega)]
    simp
  | succ d ih =>
    intro i k hi hd hk
    obtain ⟨k, rfl⟩ : ∃ m, k = m + 1 := ⟨k - 1, by omega⟩
    rw [zelligeref10_Ints.l0, if_pos (by omega), if_pos (by omega), if_pos (by omega), rd_drop (by omega : i < l.length), rd_drop (by omega : i < m.length)]
    by_cases h : rd l (i : Int) = rd m (i : Int)
    · rw [if_pos h, show wrap64 ((i : Int) + 1) = ((i + 1 : Nat) : Int) from by unfold wrap64; omega, ih (i + 1) k (by omega) (by omega) (by omega)]
      congr 1
      rw [decide_eq_decide, h]
      simp
    · rw [if_neg h]
      congr 1; symm
      rw [decide_eq_false_iff_not]
      intro hh
      exact h (List.cons.inj hh).1
theorem ints_f (l m : List Int) (hl : l.length ≤ 1000000) : zelligeref10_Ints.f 1000001 l m = some (decide (l = m)) := by
  unfold zelligeref10_Ints.f
  by_cases h : l.length = m.length
  · rw [if_pos (by omega)]
    have := ints_l0 l m hl h l.length 0 1000001 (by omega) (by omega) (by omega)
    simpa using this
  · rw [if_neg (by omega)]
    congr 1; symm
    rw [decide_eq_false_iff_not]
    intro e; exact h (by rw [e])

/-- A row of the call's own, read. -/
theorem reads_row {w : World} {B : Nat} {p : Option Addr} {c : Nat} {l : List Int} (h : w.ownsRow B 3 1 (.slice p l.length c) l.length (l.map (Value.int .i64))) : (Kd.int .i64).C w p l.length l ∧ l.length ≤ c := by
  have hR : (Kd.int .i64).R 3 w B (fun _ => True) (.slice p l.length c) l := Kd.R_of_own h (fun _ _ => trivial)
  obtain ⟨A, c', hv, hle, hC⟩ := Kd.R_reads hR
  simp only [Value.slice.injEq, true_and] at hv
  obtain ⟨rfl, rfl⟩ := hv
  exact ⟨hC, hle⟩

theorem in_any (w : World) (B : Nat) (p : Option Addr) (c : Nat) (l : List Int) (x : Int) (h : w.ownsRow B 3 1 (.slice p l.length c) l.length (l.map (Value.int .i64))) (hl : l.length ≤ 1000000) :
    Calls Try.prog 53 #[.slice p l.length c, .int .i64 x] w fun e w' => e = .returned (.bool (decide (x ∈ l))) ∧ ∃ n, w' = w.drewN n := by
  obtain ⟨hC, hc⟩ := reads_row h
  refine (zelligeref10_in.calls 1000001 p c l x _ w hC hc (in_f l x hl)).mono ?_
  rintro e w' ⟨rfl, hd⟩
  exact ⟨rfl, hd.out⟩
theorem without_any (w : World) (B : Nat) (p : Option Addr) (c : Nat) (l : List Int) (x : Int) (h : w.ownsRow B 3 1 (.slice p l.length c) l.length (l.map (Value.int .i64))) (hl : l.length ≤ 1000000) :
    Calls Try.prog 54 #[.slice p l.length c, .int .i64 x] w fun e w' => ∃ p' c', e = .returned (.slice p' (l.filter (fun y => decide (y ≠ x))).length c') ∧ w'.ownsRow w.heap.size 3 1 (.slice p' (l.filter (fun y => decide (y ≠ x))).length c') (l.filter (fun y => decide (y ≠ x))).length ((l.filter (fun y => decide (y ≠ x))).map (Value.int .i64)) ∧ Below w.heap.size w w' := by
  obtain ⟨hC, hc⟩ := reads_row h
  refine (zelligeref10_Without.calls 1000001 p c l x _ w hC hc (without_f l x hl)).mono ?_
  rintro e w' ⟨v, rfl, hR, hb⟩
  have ho := Kd.own_of_R hR
  obtain ⟨p', c', rfl⟩ := row_slice ho
  exact ⟨p', c', rfl, ho, hb⟩
theorem ints_any (w : World) (B B' : Nat) (p q : Option Addr) (c d : Nat) (l m : List Int) (h : w.ownsRow B 3 1 (.slice p l.length c) l.length (l.map (Value.int .i64))) (h' : w.ownsRow B' 3 1 (.slice q m.length d) m.length (m.map (Value.int .i64))) (hl : l.length ≤ 1000000) :
    Calls Try.prog 36 #[.slice p l.length c, .slice q m.length d] w fun e w' => e = .returned (.bool (decide (l = m))) ∧ ∃ n, w' = w.drewN n := by
  obtain ⟨hC, hc⟩ := reads_row h
  obtain ⟨hC', hc'⟩ := reads_row h'
  refine (zelligeref10_Ints.calls 1000001 p c l q d m _ w hC hc hC' hc' (ints_f l m hl)).mono ?_
  rintro e w' ⟨rfl, hd⟩
  exact ⟨rfl, hd.out⟩

end Go.Proofs.Ytkhdnkmocbceeaa.Arena
