/- What is used of MulW. -/
import Derived.Test.YtgaicbodpneeoaaSkNP4
import Derived.Test.YtgaicbodpneeoaaSkWide
import Derived.Test.YtgaicbodpneeoaaSkWideL
namespace Go.Proofs.Ytgaicbodpneeoaa.Wd
open Go.RowKit Go.Proofs.ZFr Go.Proofs.Ytgaicbodpneeoaa.PRasterImages Go.Proofs.Ytgaicbodpneeoaa.Big

theorem and32 (x : Int) (h0 : 0 ≤ x) (h1 : x < 18446744073709551616) : Go.bits .and .u64 x 4294967295 = x % 4294967296 :=
  bits_mask .u64 64 (by decide) (fun n a b => by show n % 18446744073709551616 = n; exact Int.emod_eq_of_lt a (by simpa using b)) 32 (by decide) x h0 (by simpa using h1)
theorem prod_le {a b : Int} (ha : 0 ≤ a ∧ a ≤ 4294967295) (hb : 0 ≤ b ∧ b ≤ 4294967295) : 0 ≤ a * b ∧ a * b ≤ 18446744065119617025 :=
  ⟨Int.mul_nonneg ha.1 hb.1, Int.le_trans (Int.mul_le_mul ha.2 hb.2 hb.1 (by decide)) (by decide)⟩
theorem mul_parts (x1 x0 y1 y0 : Int) : (x1 * 4294967296 + x0) * (y1 * 4294967296 + y0) = x1 * y1 * 18446744073709551616 + (x1 * y0 + x0 * y1) * 4294967296 + x0 * y0 := by
  rw [Int.add_mul, Int.mul_add, Int.mul_add]
  have e1 : x1 * 4294967296 * (y1 * 4294967296) = x1 * y1 * 18446744073709551616 := by
    rw [Int.mul_assoc, Int.mul_left_comm 4294967296, ← Int.mul_assoc]; rfl
  have e2 : x1 * 4294967296 * y0 = x1 * y0 * 4294967296 := by rw [Int.mul_assoc, Int.mul_comm 4294967296, ← Int.mul_assoc]
  have e3 : x0 * (y1 * 4294967296) = x0 * y1 * 4294967296 := by rw [← Int.mul_assoc]
  rw [e1, e2, e3]
  omega
theorem mul64_f (x y : Int) (hx : 0 ≤ x ∧ x < 18446744073709551616) (hy : 0 ≤ y ∧ y < 18446744073709551616) : bits_Mul64.f x y = some (x * y / 18446744073709551616, x * y % 18446744073709551616) := by
  unfold bits_Mul64.f
  have u : ∀ n : Int, IntKind.u64.wrap n = n % 18446744073709551616 := fun _ => rfl
  have hp := mul_parts (x / 4294967296) (x % 4294967296) (y / 4294967296) (y % 4294967296)
  rw [show x / 4294967296 * 4294967296 + x % 4294967296 = x from by omega, show y / 4294967296 * 4294967296 + y % 4294967296 = y from by omega] at hp
  have b1 := prod_le (a := x / 4294967296) (b := y / 4294967296) (by omega) (by omega)
  have b2 := prod_le (a := x / 4294967296) (b := y % 4294967296) (by omega) (by omega)
  have b3 := prod_le (a := x % 4294967296) (b := y / 4294967296) (by omega) (by omega)
  have b4 := prod_le (a := x % 4294967296) (b := y % 4294967296) (by omega) (by omega)
  have m : ∀ n : Int, 0 ≤ n → n < 18446744073709551616 → n % 18446744073709551616 = n := fun n a b => Int.emod_eq_of_lt a b
  rw [and32 x hx.1 hx.2, and32 y hy.1 hy.2]
  simp only [u]
  generalize x / 4294967296 * (y / 4294967296) = P at *
  generalize x / 4294967296 * (y % 4294967296) = Q at *
  generalize x % 4294967296 * (y / 4294967296) = R at *
  generalize x % 4294967296 * (y % 4294967296) = T at *
  generalize x * y = Z at *
  rw [m P b1.1 (by omega), m Q b2.1 (by omega), m R b3.1 (by omega), m T b4.1 (by omega), m (Q + T / 4294967296) (by omega) (by omega), and32 (Q + T / 4294967296) (by omega) (by omega), m ((Q + T / 4294967296) % 4294967296 + R) (by omega) (by omega)]
  congr 2
  omega
theorem mul_f (a b : Int) (ha : -9223372036854775808 ≤ a ∧ a < 9223372036854775808) (hb : -9223372036854775808 ≤ b ∧ b < 9223372036854775808) : wide_Mul.f a b = some (hiW (a * b), loW (a * b)) := by
  unfold wide_Mul.f
  have u : ∀ n : Int, IntKind.u64.wrap n = n % 18446744073709551616 := fun _ => rfl
  have hbd : -85070591730234615865843651857942052864 ≤ a * b ∧ a * b ≤ 85070591730234615865843651857942052864 := by
    have h := Int.natAbs_mul a b
    have h1 : a.natAbs * b.natAbs ≤ 9223372036854775808 * 9223372036854775808 := Nat.mul_le_mul (by omega) (by omega)
    omega
  simp only [u]
  have nn : ∀ n : Int, 0 ≤ n → n < 9223372036854775808 → n % 18446744073709551616 = n := fun n h1 h2 => Int.emod_eq_of_lt h1 (by omega)
  have ng : ∀ n : Int, n < 0 → -9223372036854775808 ≤ n → n % 18446744073709551616 = n + 18446744073709551616 := fun n h1 h2 => by omega
  have w : ∀ n : Int, wrap64 n = (n + 9223372036854775808) % 18446744073709551616 - 9223372036854775808 := fun _ => by unfold wrap64; rfl
  rw [mul64_f _ _ (by omega) (by omega), Option.bind_some]
  simp only [w]
  unfold hiW loW
  by_cases h1 : a < 0
  · rw [if_pos h1, ng a h1 ha.1]
    by_cases h2 : b < 0
    · rw [if_pos h2, ng b h2 hb.1]
      have e : (a + 18446744073709551616) * (b + 18446744073709551616) = a * b + 18446744073709551616 * (a + b) + 340282366920938463463374607431768211456 := by
        rw [Int.add_mul, Int.mul_add, Int.mul_add, Int.mul_comm a 18446744073709551616]; omega
      rw [e]
      generalize a * b = Z at *
      congr 2 <;> omega
    · rw [if_neg h2, nn b (by omega) hb.2]
      have e : (a + 18446744073709551616) * b = a * b + 18446744073709551616 * b := by rw [Int.add_mul]
      rw [e]
      generalize a * b = Z at *
      congr 2 <;> omega
  · rw [if_neg h1, nn a (by omega) ha.2]
    by_cases h2 : b < 0
    · rw [if_pos h2, ng b h2 hb.1]
      have e : a * (b + 18446744073709551616) = a * b + 18446744073709551616 * a := by rw [Int.mul_add, Int.mul_comm a 18446744073709551616]
      rw [e]
      generalize a * b = Z at *
      congr 2 <;> omega
    · rw [if_neg h2, nn b (by omega) hb.2]
      have h0 : 0 ≤ a * b := Int.mul_nonneg (by omega) (by omega)
      generalize a * b = Z at *
      congr 2
      omega
theorem mul_c (a b : Int) (ha : i64P a) (hb : i64P b) (W : World) : Calls Try.prog 51 #[.int .i64 a, .int .i64 b] W fun e w' => e = .returned (encW (a * b)) ∧ Fr (fun _ => False) W w' := by
  refine (wide_Mul.calls a b _ _ W (mul_f a b ha hb)).mono ?_
  rintro e w' ⟨rfl, hb⟩
  exact ⟨rfl, Fr.of_below hb⟩
end Go.Proofs.Ytgaicbodpneeoaa.Wd

