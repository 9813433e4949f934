/- What the reference's grid and the comparison of places answer. -/
import Derived.Test.YtkhdnkmocbceeaaPPatternGridsx
import Derived.Test.YtkhdnkmocbceeaaPatL
namespace Go.Proofs.Ytkhdnkmocbceeaa.Pat
open Go.RowKit Go.Proofs.ZFr Go.Proofs.Ytkhdnkmocbceeaa.PPatternGrids
open Go.Proofs.YtkhdnkmocbceeaaW.PrintWords (Kd LeO at_rounds Drawn0)

def toS (p : Int × Int × Int) : S61 := ⟨p.1, ⟨p.2.1, p.2.2⟩⟩

theorem flat_get : ∀ (l : List (Int × Int × Int)) (j i : Nat) (q : Int × Int × Int), l[j]? = some q → i < 3 → (flat l)[j * 3 + i]? = (cells3 q)[i]? := by
  intro l
  induction l with
  | nil => intro j i q h; simp at h
  | cons p l ih =>
    intro j i q h hi
    have e : flat (p :: l) = cells3 p ++ flat l := by simp [flat]
    have hl : (cells3 p).length = 3 := rfl
    rw [e]
    cases j with
    | zero =>
      simp at h; subst h
      rw [Nat.zero_mul, Nat.zero_add, List.getElem?_append_left (by omega)]
    | succ j =>
      simp at h
      rw [List.getElem?_append_right (by omega), hl, show (j + 1) * 3 + i - 3 = j * 3 + i from by omega]
      exact ih j i q h hi

theorem reads61 {w : World} {B : Nat} {p : Option Addr} {c : Nat} {l : List (Int × Int × Int)} (h : w.ownsRow B 61 3 (.slice p l.length c) l.length (flat l)) : Kd.C k61 w p (l.map toS).length (l.map toS) ∧ l.length ≤ c ∧ l.length ≤ maxLen := by
  have hc : l.length ≤ c ∧ c ≤ maxLen ∨ l.length = 0 ∧ p = none ∧ c = 0 := by
    rcases h.2 with ⟨hv, hn⟩ | ⟨g, cap, cur, hv, _, hg, h1, h2, _⟩
    · right; simp at hv; exact ⟨hn, hv.1, hv.2.2⟩
    · left; simp at hv; obtain ⟨_, rfl⟩ := hv; exact ⟨h1, h2⟩
  have hm : l.length ≤ maxLen := by unfold maxLen at *; omega
  refine ⟨⟨by simp, by unfold maxLen at hm; simp; omega, fun hn => ?_⟩, by omega, hm⟩
  obtain ⟨g, c', hv⟩ := row_some h (by simpa using hn)
  simp only [Value.slice.injEq, true_and] at hv
  obtain ⟨rfl, rfl⟩ := hv
  refine ⟨_, rfl, fun j ps hps => ?_⟩
  rw [List.getElem?_map] at hps
  cases hq : l[j]? with
  | none => rw [hq] at hps; simp at hps
  | some q =>
    rw [hq] at hps; simp at hps; subst hps
    refine ⟨cells3 q, rfl, k61_mk w (toS q), fun i u hu => ?_⟩
    have hi : i < 3 := (List.getElem?_eq_some_iff.1 hu).1
    exact h.cells rfl (j * 3 + i) u (by rw [flat_get l j i q hq hi]; exact hu)

theorem same_l0 (l : List S61) (hl : l.length ≤ 1000000) : ∀ (d i k : Nat), i ≤ l.length → l.length - i = d → d < k → zelligeref17_Same.l0 k l l (i : Int) = some true := by
  intro d
  induction d with
  | zero =>
    intro i k hi hd hk
    obtain ⟨k, rfl⟩ : ∃ m, k = m + 1 := ⟨k - 1, by omega⟩
    rw [zelligeref17_Same.l0, if_neg (by omega)]
  | succ d ih =>
    intro i k hi hd hk
    obtain ⟨k, rfl⟩ : ∃ m, k = m + 1 := ⟨k - 1, by omega⟩
    rw [zelligeref17_Same.l0, if_pos (by omega), if_pos (by omega), if_pos (by omega), if_neg (by simp), show wrap64 ((i : Int) + 1) = ((i + 1 : Nat) : Int) from by unfold wrap64; omega]
    exact ih (i + 1) k (by omega) (by omega) (by omega)
theorem same_f (l : List S61) (hl : l.length ≤ 1000000) : zelligeref17_Same.f 1000001 l l = some true := by
  unfold zelligeref17_Same.f
  rw [if_pos rfl]
  have := same_l0 l hl l.length 0 1000001 (by omega) (by omega) (by omega)
  simpa using this

theorem side_f (n : Int) : zelligeref43_Side.f n = some (decide (1 ≤ n ∧ n ≤ 1073741824)) := by
  unfold zelligeref43_Side.f
  by_cases h : n ≥ 1
  · rw [if_pos h]; congr 1; rw [decide_eq_decide]; exact ⟨fun h' => ⟨h, h'⟩, fun h' => h'.2⟩
  · rw [if_neg h]; congr 1; symm; rw [decide_eq_false_iff_not]; exact fun h' => h h'.1

/-- The list of a grid, each second row skew or not. -/
def gs (b : Bool) (n : Int) (K m : Nat) : List (Int × Int × Int) := if b = true then sk n K m else gr n K m

theorem mapS_snoc (l : List (Int × Int × Int)) (p : Int × Int × Int) : (l ++ [p]).map toS = l.map toS ++ [toS p] := by simp

theorem nums (n : Int) (K I J : Nat) (hn0 : 1 ≤ n) (hn1 : n ≤ 1073741824) (hK0 : 1 ≤ K) (hK1 : K ≤ 64) (hI : I < K) (hJ : J < K) :
    wrap64 (I : Int) = (I : Int) ∧ wrap64 ((I : Int) * n) = (I : Int) * n ∧ wrap64 ((J : Int) * n) = (J : Int) * n ∧
    wrap64 (Int.tdiv ((J : Int) * n) (K : Int)) = (J : Int) * n / (K : Int) ∧ wrap64 (Int.tdiv ((I : Int) * n) (K : Int)) = (I : Int) * n / (K : Int) ∧
    wrap64 (2 * (K : Int)) = 2 * (K : Int) ∧ wrap64 (2 * (I : Int)) = 2 * (I : Int) ∧ wrap64 (2 * (I : Int) * n) = 2 * (I : Int) * n ∧
    wrap64 (2 * (I : Int) * n + n) = 2 * (I : Int) * n + n ∧ wrap64 (Int.tdiv (2 * (I : Int) * n + n) (2 * (K : Int))) = (2 * (I : Int) * n + n) / (2 * (K : Int)) := by
  have hi : (I : Int) ≤ 64 := by omega
  have hj : (J : Int) ≤ 64 := by omega
  obtain ⟨a1, a2⟩ := mul_le (Int.natCast_nonneg I) hi (show 0 ≤ n by omega) hn1
  obtain ⟨b1, b2⟩ := mul_le (Int.natCast_nonneg J) hj (show 0 ≤ n by omega) hn1
  obtain ⟨c1, c2⟩ := mul_le (show 0 ≤ 2 * (I : Int) by omega) (show 2 * (I : Int) ≤ 128 by omega) (show 0 ≤ n by omega) hn1
  refine ⟨by unfold wrap64; omega, by unfold wrap64; omega, by unfold wrap64; omega, quo_fits b1 (by omega) (by omega), quo_fits a1 (by omega) (by omega), by unfold wrap64; omega, by unfold wrap64; omega, by unfold wrap64; omega, by unfold wrap64; omega, quo_fits (by omega) (by omega) (by omega)⟩

theorem grid_l0 (n : Int) (K : Nat) (b : Bool) (hn0 : 1 ≤ n) (hn1 : n ≤ 1073741824) (hK0 : 1 ≤ K) (hK1 : K ≤ 64) : ∀ (d m k : Nat), m ≤ K * K → K * K - m = d → d < k →
    zelligeref43_Grid.l0 k n (K : Int) b ((gs b n K m).map toS) (m : Int) = some ((gs b n K (K * K)).map toS) := by
  have hsq := sq_le K hK1
  have hKK : wrap64 ((K : Int) * (K : Int)) = ((K * K : Nat) : Int) := by rw [← Int.natCast_mul]; unfold wrap64; omega
  intro d
  induction d with
  | zero =>
    intro m k hm hd hk
    obtain ⟨k, rfl⟩ : ∃ j, k = j + 1 := ⟨k - 1, by omega⟩
    rw [zelligeref43_Grid.l0, hKK, if_neg (by omega), show m = K * K from by omega]
  | succ d ih =>
    intro m k hm hd hk
    obtain ⟨k, rfl⟩ : ∃ j, k = j + 1 := ⟨k - 1, by omega⟩
    have hlt : m < K * K := by omega
    have hI : m / K < K := Nat.div_lt_of_lt_mul hlt
    have hJ : m % K < K := Nat.mod_lt _ (by omega)
    have hme : m = m / K * K + m % K := by rw [Nat.mul_comm]; exact (Nat.div_add_mod m K).symm
    have T1 : Hid (Int.tdiv (m : Int) (K : Int) = ((m / K : Nat) : Int)) := Lib.hid rfl
    have T2 : Hid (Int.tmod (m : Int) (K : Int) = ((m % K : Nat) : Int)) := Lib.hid rfl
    have hsg := gr_snoc n K (m / K) (m % K) hJ
    have hss := sk_snoc n K (m / K) (m % K) hJ
    rw [← hme] at hsg hss
    have hlen : ((gs b n K m).map toS).length = m := by cases b <;> simp [gs, gr_len, sk_len]
    have hih := ih (m + 1) k (by omega) (by omega) (by omega)
    have e3 : wrap64 ((m : Int) + 1) = ((m + 1 : Nat) : Int) := by unfold wrap64; omega
    generalize m / K = I at *
    generalize m % K = J at *
    obtain ⟨e1, e4, e5, e6, e7, f2, f3, f4, f5, f6⟩ := nums n K I J hn0 hn1 hK0 hK1 hI hJ
    have T3 := Lib.hid e1
    have T4 := Lib.hid e4
    have T5 := Lib.hid e5
    have T6 := Lib.hid e6
    have T7 := Lib.hid e7
    have F2 := Lib.hid f2
    have F3 := Lib.hid f3
    have F4 := Lib.hid f4
    have F5 := Lib.hid f5
    have F6 := Lib.hid f6
    clear e1 e4 e5 e6 e7 f2 f3 f4 f5 f6
    have c1 : (m : Int) < ((K * K : Nat) : Int) := by omega
    have c2 : ¬ ((K : Int) = 0) := by omega
    have c3 : m < 5864062014805 := by omega
    rw [zelligeref43_Grid.l0, hKK, if_pos c1, if_neg c2, hlen]
    rw [T1.out, T2.out, T3.out, e3, T4.out, T5.out, T6.out, T7.out]
    cases b with
    | false =>
      rw [if_neg (by decide), if_pos c3]
      rw [show gs false n K (m + 1) = gr n K (m + 1) from rfl, hsg, mapS_snoc] at hih
      exact hih
    | true =>
      rw [show gs true n K (m + 1) = sk n K (m + 1) from rfl, hss, mapS_snoc] at hih
      rw [if_pos rfl]
      have f1 : Int.tmod ((J : Nat) : Int) 2 = ((J % 2 : Nat) : Int) := rfl
      rw [f1]
      by_cases hodd : J % 2 = 1
      · have c4 : ((J % 2 : Nat) : Int) = 1 := by omega
        have c5 : ¬ (2 * (K : Int) = 0) := by omega
        rw [if_pos c4, F2.out, if_neg c5, if_pos c3, F3.out, F4.out, F5.out, F6.out]
        have f7 : ((J : Nat) : Int) % 2 = 1 := by omega
        rw [f7, Int.one_mul] at hih
        exact hih
      · have f7 : ((J : Nat) : Int) % 2 = 0 := by omega
        have c4 : ¬ (((J % 2 : Nat) : Int) = 1) := by omega
        rw [if_neg c4, if_pos c3]
        rw [f7, Int.zero_mul, Int.add_zero, show 2 * ((I : Nat) : Int) * n = 2 * (((I : Nat) : Int) * n) from Int.mul_assoc _ _ _, Int.mul_ediv_mul_of_pos _ _ (by decide)] at hih
        exact hih

theorem refGrid_yes (n : Int) (K : Nat) (b : Bool) (hn0 : 1 ≤ n) (hn1 : n ≤ 1073741824) (hK0 : 1 ≤ K) (hK1 : K ≤ 64) (hb : if b = true then 2 * (K : Int) ≤ n else (K : Int) ≤ n) :
    zelligeref43_Grid.f 5000 n (K : Int) b = some ((gs b n K (K * K)).map toS) := by
  have hsq := sq_le K hK1
  have h0 := grid_l0 n K b hn0 hn1 hK0 hK1 (K * K) 0 4999 (by omega) (by omega) (by omega)
  have hg0 : (gs b n K 0).map toS = [] := by cases b <;> rfl
  rw [hg0] at h0
  unfold zelligeref43_Grid.f
  rw [Option.bind_some, side_f, Option.bind_some, if_pos (by simp [hn0, hn1]), if_neg (by omega), if_neg (by omega)]
  cases b with
  | false =>
    rw [if_neg (by decide)] at hb ⊢
    rw [if_neg (by omega), zelligeref43_Grid.j0, if_neg (by decide)]
    exact h0
  | true =>
    rw [if_pos rfl] at hb ⊢
    rw [zelligeref43_Grid.j0, if_neg (by rw [decide_eq_true_eq]; unfold wrap64; omega)]
    exact h0
theorem refGrid_no (n k : Int) (b : Bool) (hk : -9223372036854775808 ≤ k ∧ k ≤ 9223372036854775807) (h : ¬ ((1 ≤ n ∧ n ≤ 1073741824) ∧ 1 ≤ k ∧ k ≤ 64 ∧ if b = true then 2 * k ≤ n else k ≤ n)) :
    zelligeref43_Grid.f 5000 n k b = some [] := by
  unfold zelligeref43_Grid.f
  rw [Option.bind_some, side_f, Option.bind_some]
  by_cases hs : 1 ≤ n ∧ n ≤ 1073741824
  · rw [if_pos (by simp [hs])]
    by_cases h1 : k < 1
    · rw [if_pos h1, zelligeref43_Grid.j0, if_pos rfl]
    rw [if_neg h1]
    by_cases h2 : k > 64
    · rw [if_pos h2, zelligeref43_Grid.j0, if_pos rfl]
    rw [if_neg h2]
    cases b with
    | false =>
      rw [if_neg (by decide)] at h ⊢
      rw [if_pos (by omega), zelligeref43_Grid.j0, if_pos rfl]
    | true =>
      rw [if_pos rfl] at h ⊢
      rw [zelligeref43_Grid.j0, if_pos (by rw [decide_eq_true_eq]; unfold wrap64; omega)]
  · rw [if_neg (by simp; omega), zelligeref43_Grid.j0, if_pos rfl]

end Go.Proofs.Ytkhdnkmocbceeaa.Pat
