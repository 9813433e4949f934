/- The way of fewer bits is the way of more bits, seen from afar. For every input. -/
import Derived.Test.YtkhdnkmocbceeaaPHilbertPartsx4
import Derived.Test.YtkhdnkmocbceeaaFnHilbertParts
namespace Go.Proofs.Ytkhdnkmocbceeaa.Pure
open Go.RowKit Go.Proofs.Ytkhdnkmocbceeaa.PHilbertParts Go.Proofs.YtkhdnkmocbceeaaW.PrintWords Go.Proofs.YtkhdnkmocbceeaaW.PrintLast
open Go.Proofs.Hil Go.Proofs.Ytkhdnkmocbceeaa.FnHilbertParts

theorem one (ln cn xn yn : Nat) (hb : cn + ln ≤ 31) (hx0 : xn < 2 ^ (cn + ln)) (hy0 : yn < 2 ^ (cn + ln)) :
    hilbert_Index.f 199 (wrap64 (((cn + ln : Nat) : Int) - (ln : Int))) (shr .i64 (xn : Int) (ln : Int)) (shr .i64 (yn : Int) (ln : Int)) = some (((idx (cn + ln) xn yn / (2 ^ ln * 2 ^ ln) : Nat) : Int), true) := by
  have hp := parts ln cn xn yn hx0 hy0
  have ht := two_pos ln
  have hps := pow_split cn ln
  have hx : xn / 2 ^ ln < 2 ^ cn := (Nat.div_lt_iff_lt_mul ht).2 (by omega)
  have hy : yn / 2 ^ ln < 2 ^ cn := (Nat.div_lt_iff_lt_mul ht).2 (by omega)
  have e1 : wrap64 (((cn + ln : Nat) : Int) - (ln : Int)) = (cn : Int) := by unfold wrap64; omega
  rw [e1, shr_x (by omega), shr_x (by omega), Index_f 199 (by decide), ← hp]
  generalize xn / 2 ^ ln = u at *
  generalize yn / 2 ^ ln = v at *
  have hin : inside (cn : Int) (u : Int) (v : Int) := by
    unfold inside; simp only [Int.toNat_natCast]
    exact ⟨by omega, by omega, by omega, by omega, by exact_mod_cast hx, by exact_mod_cast hy⟩
  rw [if_pos hin]
  rfl

theorem HilbertParts (b l x y : Int) : ∃ k, zelligelaw32_HilbertParts.f k b l x y = some true := by
  refine ⟨200, ?_⟩
  unfold zelligelaw32_HilbertParts.f
  by_cases c1 : l < 0
  · rw [if_pos c1]; simp only [zelligelaw32_HilbertParts.j0]; rw [lives 199 (by decide)]; rfl
  rw [if_neg c1]
  by_cases c2 : l > b
  · rw [if_pos c2]; simp only [zelligelaw32_HilbertParts.j0]; rw [lives 199 (by decide)]; rfl
  rw [if_neg c2, In_f 200 (by decide)]
  simp only [Option.bind_some]
  by_cases c3 : inside b x y
  · simp only [c3, decide_true, Bool.not_true, zelligelaw32_HilbertParts.j0, Bool.false_eq_true, if_false]
    rw [Index_f 199 (by decide), if_pos c3]
    obtain ⟨b1, b2, x1, y1, x2, y2⟩ := c3
    obtain ⟨bn, rfl⟩ : ∃ n : Nat, b = n := ⟨b.toNat, by omega⟩
    obtain ⟨ln, rfl⟩ : ∃ n : Nat, l = n := ⟨l.toNat, by omega⟩
    obtain ⟨xn, rfl⟩ : ∃ n : Nat, x = n := ⟨x.toNat, by omega⟩
    obtain ⟨yn, rfl⟩ : ∃ n : Nat, y = n := ⟨y.toNat, by omega⟩
    obtain ⟨cn, rfl⟩ : ∃ c : Nat, bn = c + ln := ⟨bn - ln, by omega⟩
    simp only [Int.toNat_natCast] at x2 y2 ⊢
    have hul : IntKind.u64.wrap (ln : Int) = (ln : Int) := IntWalk.u64_in _ (by omega)
    have hu2 : IntKind.u64.wrap (wrap64 (2 * (ln : Int))) = wrap64 (2 * (ln : Int)) := IntWalk.u64_in _ (by unfold wrap64; omega)
    rw [Option.bind_some, hul, hu2, if_pos (by omega), one ln cn xn yn (by omega) (by omega) (by omega), Option.bind_some, if_pos rfl, if_pos rfl]
    rw [if_pos (by unfold wrap64; omega), shr_sq (by omega), if_pos rfl, lives 199 (by decide)]
    rfl
  · simp only [c3, decide_false, Bool.not_false, zelligelaw32_HilbertParts.j0]
    rw [lives 199 (by decide)]; rfl

end Go.Proofs.Ytkhdnkmocbceeaa.Pure
