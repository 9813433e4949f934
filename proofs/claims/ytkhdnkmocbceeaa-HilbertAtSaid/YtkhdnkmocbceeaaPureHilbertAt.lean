/- In every square of up to 31 bits the way's point at a place is the reference's, the way comes back from there to that place, and no other place has a point. For every input. -/
import Derived.Test.YtkhdnkmocbceeaaPHilbertAtx4
import Derived.Test.YtkhdnkmocbceeaaFnHilbertAt
namespace Go.Proofs.Ytkhdnkmocbceeaa.Pure
open Go.RowKit Go.Proofs.Ytkhdnkmocbceeaa.PHilbertAt Go.Proofs.YtkhdnkmocbceeaaW.PrintWords Go.Proofs.YtkhdnkmocbceeaaW.PrintLast
open Go.Proofs.Hil Go.Proofs.Ytkhdnkmocbceeaa.FnHilbertAt

theorem HilbertAt : zelligelaw32_HilbertAt.Pure := by
  intro b d hb hd
  simp [Lit.wf] at hd
  have h0 : 0 ≤ d := by have := hd.1; simp [IntKind.min, IntKind.signed] at this; exact this
  have h1 : d < 18446744073709551616 := by have := hd.2; simp [IntKind.max, IntKind.signed, IntKind.bits] at this; omega
  refine ⟨200, ?_⟩
  unfold zelligelaw32_HilbertAt.f
  rw [At_f 200 (by decide) b d h0 h1]
  simp only [Option.bind_some]
  by_cases c1 : b < 0
  · rw [if_pos c1, if_neg (by unfold onway; omega)]
    simp only [zelligelaw32_HilbertAt.j0]
    rw [lives 199 (by decide)]; rfl
  rw [if_neg c1]
  by_cases c2 : b > 31
  · rw [if_pos c2, if_neg (by unfold onway; omega)]
    simp only [zelligelaw32_HilbertAt.j0]
    rw [lives 199 (by decide)]; rfl
  rw [if_neg c2]
  obtain ⟨bn, rfl⟩ : ∃ n : Nat, b = n := ⟨b.toNat, by omega⟩
  obtain ⟨dn, rfl⟩ : ∃ n : Nat, d = n := ⟨d.toNat, by omega⟩
  have hs := sq_le31 (b := bn) (by omega)
  have hq := sq_pos bn
  by_cases c3 : (dn : Int) ≥ 4611686018427387904
  · rw [if_pos c3, if_neg (by unfold onway; simp only [Int.toNat_natCast]; omega)]
    simp only [zelligelaw32_HilbertAt.j0]
    rw [lives 199 (by decide)]; rfl
  have hw : IntKind.u64.wrap (wrap64 (2 * (bn : Int))) = wrap64 (2 * (bn : Int)) := IntWalk.u64_in _ (by unfold wrap64; omega)
  have hdd : dn / (2 ^ bn * 2 ^ bn) = 0 ↔ dn < 2 ^ bn * 2 ^ bn := Nat.div_eq_zero_iff_lt hq
  rw [if_neg c3, hw, if_pos (by unfold wrap64; omega), shr_sq (by omega)]
  by_cases c4 : dn < 2 ^ bn * 2 ^ bn
  · have hl := pt_lt bn dn
    have e0 : decide (((dn / (2 ^ bn * 2 ^ bn) : Nat) : Int) > 0) = false := by rw [hdd.2 c4]; rfl
    rw [if_pos (by unfold onway; simp only [Int.toNat_natCast]; omega), e0]
    simp only [zelligelaw32_HilbertAt.j0, Int.toNat_natCast, Bool.false_eq_true, if_false]
    rw [refAt bn (by omega) dn 199 c4 (by omega), Index_f 199 (by decide), if_pos (by unfold inside; simp only [Int.toNat_natCast]; omega)]
    simp only [Option.bind_some, Int.toNat_natCast]
    rw [idx_pt bn dn c4, lives 199 (by decide)]
    simp
  · have e0 : decide (((dn / (2 ^ bn * 2 ^ bn) : Nat) : Int) > 0) = true := by
      have h : ¬ dn / (2 ^ bn * 2 ^ bn) = 0 := fun h => c4 (hdd.1 h)
      rw [decide_eq_true_eq]; generalize dn / (2 ^ bn * 2 ^ bn) = z at *; omega
    rw [if_neg (by unfold onway; simp only [Int.toNat_natCast]; omega), e0]
    simp only [zelligelaw32_HilbertAt.j0]
    rw [lives 199 (by decide)]; rfl

end Go.Proofs.Ytkhdnkmocbceeaa.Pure
