/- From each place of Hilbert's way to the next one it is one step. For every input. -/
import Derived.Test.YtkhdnkmocbceeaaPHilbertStepsx3
import Derived.Test.YtkhdnkmocbceeaaFnHilbertSteps
namespace Go.Proofs.Ytkhdnkmocbceeaa.Pure
open Go.RowKit Go.Proofs.Ytkhdnkmocbceeaa.PHilbertSteps Go.Proofs.YtkhdnkmocbceeaaW.PrintWords Go.Proofs.YtkhdnkmocbceeaaW.PrintLast
open Go.Proofs.Hil Go.Proofs.Ytkhdnkmocbceeaa.FnHilbertSteps

theorem one_step {a b c d : Nat} (ha : a < 2147483648) (hb : b < 2147483648) (hc : c < 2147483648) (hd : d < 2147483648) (h : Near (a, b) (c, d)) :
    wrap64 (wrap64 (wrap64 ((a : Int) - c) * wrap64 ((a : Int) - c)) + wrap64 (wrap64 ((b : Int) - d) * wrap64 ((b : Int) - d))) = 1 := by
  rw [show wrap64 ((a : Int) - c) = (a : Int) - c from by unfold wrap64; omega, show wrap64 ((b : Int) - d) = (b : Int) - d from by unfold wrap64; omega]
  unfold Near at h
  dsimp only at h
  rcases h with ⟨h1, h2 | h2⟩ | ⟨h1, h2 | h2⟩
  · rw [show (a : Int) - c = 0 from by omega, show (b : Int) - d = 1 from by omega]; unfold wrap64; decide
  · rw [show (a : Int) - c = 0 from by omega, show (b : Int) - d = -1 from by omega]; unfold wrap64; decide
  · rw [show (b : Int) - d = 0 from by omega, show (a : Int) - c = 1 from by omega]; unfold wrap64; decide
  · rw [show (b : Int) - d = 0 from by omega, show (a : Int) - c = -1 from by omega]; unfold wrap64; decide

theorem HilbertSteps : zelligelaw32_HilbertSteps.Pure := by
  intro b d hb hd
  simp [Lit.wf] at hd
  have h0 : 0 ≤ d := by have := hd.1; simp [IntKind.min, IntKind.signed] at this; exact this
  have h1 : d < 18446744073709551616 := by have := hd.2; simp [IntKind.max, IntKind.signed, IntKind.bits] at this; omega
  refine ⟨200, ?_⟩
  have hw : IntKind.u64.wrap (d + 1) = if d = 18446744073709551615 then 0 else d + 1 := by
    by_cases h : d = 18446744073709551615
    · subst h; rfl
    · rw [if_neg h]; exact IntWalk.u64_in _ (by omega)
  have hw0 : 0 ≤ IntKind.u64.wrap (d + 1) := by rw [hw]; split <;> omega
  have hw1 : IntKind.u64.wrap (d + 1) < 18446744073709551616 := by rw [hw]; split <;> omega
  unfold zelligelaw32_HilbertSteps.f
  rw [At_f 200 (by decide) b d h0 h1, At_f 200 (by decide) b _ hw0 hw1]
  simp only [Option.bind_some]
  by_cases c1 : onway b d
  · rw [if_pos c1]
    by_cases c2 : onway b (IntKind.u64.wrap (d + 1))
    · rw [if_pos c2]
      simp only [if_true]
      by_cases c3 : d = 18446744073709551615
      · rw [if_pos c3] at hw
        rw [hw]
        simp only [zelligelaw32_HilbertSteps.j0]
        rw [lives 199 (by decide)]; rfl
      · rw [if_neg c3] at hw
        rw [hw] at c2 ⊢
        rw [show ((d + 1) == 0) = false from by rw [beq_eq_false_iff_ne]; omega]
        obtain ⟨b1, b2, _, c1⟩ := c1
        obtain ⟨_, _, _, c2⟩ := c2
        obtain ⟨bn, rfl⟩ : ∃ n : Nat, b = n := ⟨b.toNat, by omega⟩
        obtain ⟨dn, rfl⟩ : ∃ n : Nat, d = n := ⟨d.toNat, by omega⟩
        have hp := pow_le31 (b := bn) (by omega)
        have hl1 := pt_lt bn dn
        have hl2 := pt_lt bn (dn + 1)
        simp only [Int.toNat_natCast] at c1 c2 ⊢
        rw [show ((dn : Int) + 1).toNat = dn + 1 from by omega]
        have hn := Go.Proofs.Hil.step bn dn (by omega)
        have he := one_step (a := (pt bn dn).1) (b := (pt bn dn).2) (c := (pt bn (dn + 1)).1) (d := (pt bn (dn + 1)).2) (by omega) (by omega) (by omega) (by omega) hn
        simp only [zelligelaw32_HilbertSteps.j0]
        rw [he, lives 199 (by decide)]; rfl
    · rw [if_neg c2]
      simp only [zelligelaw32_HilbertSteps.j0]
      rw [lives 199 (by decide)]; rfl
  · rw [if_neg c1]
    simp only [zelligelaw32_HilbertSteps.j0]
    rw [lives 199 (by decide)]; rfl

end Go.Proofs.Ytkhdnkmocbceeaa.Pure
