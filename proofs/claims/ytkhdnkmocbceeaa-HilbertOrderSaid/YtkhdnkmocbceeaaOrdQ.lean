/- The reference's Order answers the sorted order. -/
import Derived.Test.YtkhdnkmocbceeaaOrdR
namespace Go.Proofs.Ytkhdnkmocbceeaa.Ord
open Go.Shelf Go.RowKit Go.Lib Go.Sort Go.Proofs.ZFr
open Go.Proofs.Hil Go.Proofs.Ytkhdnkmocbceeaa.FnHilbertIndex Go.Proofs.YtkhdnkmocbceeaaW.PrintWords Go.Proofs.Ytkhdnkmocbceeaa.PHilbertOrder

def s29 (ps : List (Int × Int)) : List S29 := ps.map fun p => ⟨p.1, p.2⟩
theorem s29_length (ps : List (Int × Int)) : (s29 ps).length = ps.length := by simp [s29]
theorem rd_s29 (ps : List (Int × Int)) (n : Nat) (h : n < ps.length) : rd_T29 (s29 ps) (n : Int) = ⟨ps[n].1, ps[n].2⟩ := by
  unfold rd_T29
  rw [Int.toNat_natCast, List.getD_eq_getElem?_getD, s29, List.getElem?_map, List.getElem?_eq_getElem h]
  rfl
theorem rd_fst (O : List Seat) (i : Nat) (h : i < O.length) : Go.Proofs.YtkhdnkmocbceeaaW.PrintWords.rd (O.map (·.1)) (i : Int) = O[i].1 := by
  unfold Go.Proofs.YtkhdnkmocbceeaaW.PrintWords.rd
  rw [Int.toNat_natCast, List.getD_eq_getElem?_getD, List.getElem?_map, List.getElem?_eq_getElem h]
  rfl
theorem seat_fst (b : Int) (j : Nat) (p : Int × Int) : (seatAt b j p).1 = j := by unfold seatAt; split <;> rfl

theorem order_l1 (b : Int) (ps : List (Int × Int)) (hps : ps.length ≤ 1000) (n : Nat) (hn : n < ps.length) (O : List Seat) (hO : ∀ a ∈ O, ∃ j, ∃ hj : j < ps.length, j < n ∧ a = seatAt b j ps[j]) (hOl : O.length ≤ 1000) (k' : Nat) (hk : 200 ≤ k') :
    ∀ (e i : Nat) (m : List Int) (inn : Bool), O.length - i = e → i ≤ O.length → m.length ≤ 2 * i + 2 →
      zelligeref32_Order.l1 (k' + e + 1) b (s29 ps) (O.map (·.1)) (n : Int) m inn (i : Int)
        = zelligeref32_Order.l0 k' b (s29 ps) (m ++ (if inn = true then O.drop i else insS (seatAt b n ps[n]) (O.drop i)).map (·.1)) ((n : Int) + 1) := by
  intro e
  induction e with
  | zero =>
    intro i m inn he hi hm
    rw [zelligeref32_Order.l1, if_neg (by rw [List.length_map]; omega), List.drop_eq_nil_of_le (by omega)]
    have hw : wrap64 ((n : Int) + 1) = (n : Int) + 1 := by unfold wrap64; omega
    cases inn
    · rw [if_neg (by simp), if_pos (by omega), hw]
      simp [insS, seat_fst]
    · rw [if_pos rfl, hw]; simp
  | succ e ih =>
    intro i m inn he hi hm
    have hil : i < O.length := by omega
    have hw : wrap64 ((i : Int) + 1) = ((i + 1 : Nat) : Int) := by unfold wrap64; omega
    obtain ⟨j, hj, hjn, hOi⟩ := hO O[i] (List.getElem_mem hil)
    have h1 : O[i].1 = (j : Int) := by rw [hOi, seat_fst]
    have hr : Go.Proofs.YtkhdnkmocbceeaaW.PrintWords.rd (O.map (·.1)) (i : Int) = (j : Int) := by rw [rd_fst O i hil, hOi, seat_fst]
    rw [show k' + (e + 1) + 1 = (k' + e + 1) + 1 from by omega, zelligeref32_Order.l1, if_pos (by rw [List.length_map]; omega), List.drop_eq_getElem_cons hil]
    cases inn
    · rw [if_neg (by simp), if_pos (by omega), if_pos (by rw [s29_length]; omega), if_pos (by omega), hr, if_pos (by omega), if_pos (by rw [s29_length]; omega), rd_s29 ps n hn, rd_s29 ps j hj,
        ahead_f _ (by omega) b _ _ _ _ n j hjn, Option.bind_some, ← hOi]
      by_cases hlt : ltOf cf (seatAt b n ps[n]) O[i] = true
      · rw [if_pos hlt, if_pos (by omega), Option.bind_some, if_pos (by simp; omega), hw, ih (i + 1) _ true (by omega) (by omega) (by simp; omega)]
        rw [if_pos rfl, if_neg (by simp), insS, if_pos hlt]
        simp only [List.map_cons, seat_fst, h1, List.append_assoc, List.cons_append, List.nil_append]
      · rw [if_neg hlt, if_pos (by omega), hw, ih (i + 1) _ false (by omega) (by omega) (by simp; omega)]
        rw [if_neg (by simp), if_neg (by simp), insS, if_neg hlt]
        simp only [List.map_cons, h1, List.append_assoc, List.cons_append, List.nil_append]
    · rw [if_pos rfl, if_pos (by omega), if_pos (by omega), hw, hr, ih (i + 1) _ true (by omega) (by omega) (by simp; omega)]
      rw [if_pos rfl, if_pos rfl]
      simp only [List.map_cons, h1, List.append_assoc, List.cons_append, List.nil_append]
theorem order_l0 (b : Int) (ps : List (Int × Int)) (hps : ps.length ≤ 16) : ∀ (e n k : Nat), ps.length - n = e → n ≤ ps.length → 200 + e * 18 + 1 ≤ k →
    zelligeref32_Order.l0 k b (s29 ps) ((refS b ps n).map (·.1)) (n : Int) = some ((refS b ps ps.length).map (·.1)) := by
  intro e
  induction e with
  | zero =>
    intro n k he hn hk
    have : n = ps.length := by omega
    subst this
    obtain ⟨k, rfl⟩ : ∃ m, k = m + 1 := ⟨k - 1, by omega⟩
    rw [zelligeref32_Order.l0, if_neg (by rw [s29_length]; omega)]
  | succ e ih =>
    intro n k he hn hk
    have hnl : n < ps.length := by omega
    have hl := refS_length b ps n hn
    obtain ⟨k', rfl⟩ : ∃ m, k = (m + n + 1) + 1 := ⟨k - n - 2, by omega⟩
    rw [zelligeref32_Order.l0, if_pos (by rw [s29_length]; omega)]
    have := order_l1 b ps (by omega) n hnl (refS b ps n) (fun a ha => refS_mem b ps n hn a ha) (by omega) k' (by omega) n 0 [] false (by omega) (by omega) (by simp)
    rw [show ((0 : Nat) : Int) = 0 from rfl] at this
    rw [this, if_neg (by simp), List.drop_zero, List.nil_append, ← refS_succ b ps n hnl]
    exact ih (n + 1) k' (by omega) (by omega) (by omega)
theorem order_f (b : Int) (ps : List (Int × Int)) (hps : ps.length ≤ 16) : zelligeref32_Order.f 1000 b (s29 ps) = some (((seats b ps).mergeSort le3).map (·.1)) := by
  have := order_l0 b ps hps ps.length 0 1000 (by omega) (by omega) (by omega)
  rw [refS_all] at this
  exact this
end Go.Proofs.Ytkhdnkmocbceeaa.Ord
