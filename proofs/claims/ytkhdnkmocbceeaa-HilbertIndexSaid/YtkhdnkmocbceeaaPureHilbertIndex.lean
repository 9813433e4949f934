/- Of every point of a square of up to 31 bits the place on the way is the reference's, and the way is at that point there; of any other point there is none. For every input. -/
import Derived.Test.YtkhdnkmocbceeaaPHilbertIndexx4
import Derived.Test.YtkhdnkmocbceeaaFnHilbertIndex
namespace Go.Proofs.Ytkhdnkmocbceeaa.Pure
open Go.RowKit Go.Proofs.Ytkhdnkmocbceeaa.PHilbertIndex Go.Proofs.YtkhdnkmocbceeaaW.PrintWords Go.Proofs.YtkhdnkmocbceeaaW.PrintLast
open Go.Proofs.Hil Go.Proofs.Ytkhdnkmocbceeaa.FnHilbertIndex

theorem HilbertIndex (b x y : Int) : ∃ k, zelligelaw32_HilbertIndex.f k b x y = some true := by
  refine ⟨200, ?_⟩
  unfold zelligelaw32_HilbertIndex.f
  rw [Index_f 200 (by decide), In_f 200 (by decide)]
  simp only [Option.bind_some]
  by_cases c1 : inside b x y
  · rw [if_pos c1, if_pos (by simp [c1])]
    obtain ⟨b1, b2, x1, y1, x2, y2⟩ := c1
    obtain ⟨bn, rfl⟩ : ∃ n : Nat, b = n := ⟨b.toNat, by omega⟩
    obtain ⟨xn, rfl⟩ : ∃ n : Nat, x = n := ⟨x.toNat, by omega⟩
    obtain ⟨yn, rfl⟩ : ∃ n : Nat, y = n := ⟨y.toNat, by omega⟩
    simp only [Int.toNat_natCast] at x2 y2 ⊢
    have hi := idx_lt bn xn yn (by omega) (by omega)
    have hs := sq_le31 (b := bn) (by omega)
    rw [At_f 200 (by decide) _ _ (by omega) (by omega), if_pos (by unfold onway; simp only [Int.toNat_natCast]; omega), refIndex bn (by omega) xn yn 200 (by omega) (by omega) (by omega), lives 200 (by decide)]
    simp only [Option.bind_some, Int.toNat_natCast]
    rw [pt_idx bn xn yn (by omega) (by omega)]
    simp
  · rw [if_neg c1, if_neg (by simp [c1]), lives 200 (by decide)]; rfl

end Go.Proofs.Ytkhdnkmocbceeaa.Pure
