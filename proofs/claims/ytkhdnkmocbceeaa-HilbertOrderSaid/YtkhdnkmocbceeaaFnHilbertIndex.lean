/- What the printed functions of layer 32 and its reference answer, in plain functions. -/
import Derived.Test.YtkhdnkmocbceeaaPHilbertIndexx
import Derived.Test.YtkhdnkmocbceeaaHil
namespace Go.Proofs.Ytkhdnkmocbceeaa.FnHilbertIndex
open Go.RowKit Go.Proofs.Ytkhdnkmocbceeaa.PHilbertIndex Go.Proofs.YtkhdnkmocbceeaaW.PrintWords Go.Proofs.YtkhdnkmocbceeaaW.PrintLast Go.Proofs.YtkhdnkmocbceeaaW.PrintMore
open Go.Proofs.Hil

theorem pow_le31 {b : Nat} (h : b ≤ 31) : 2 ^ b ≤ 2147483648 := Nat.le_trans (Nat.pow_le_pow_right (by decide) h) (by decide)
theorem sq_le31 {b : Nat} (h : b ≤ 31) : 2 ^ b * 2 ^ b ≤ 4611686018427387904 := by
  have := pow_le31 h
  exact Nat.le_trans (Nat.mul_le_mul this this) (by decide)
theorem cast_pow (b : Nat) : ((2 ^ b : Nat) : Int) = (2 : Int) ^ b := by simp
theorem shl_one {b : Nat} (h : b ≤ 31) : shl .i64 1 (b : Int) = ((2 ^ b : Nat) : Int) := by
  have := pow_le31 h
  have := two_pos b
  unfold shl
  rw [show min ((b : Int).toNat) IntKind.i64.bits = b from by simp [IntKind.bits]; omega, Int.one_mul, ← cast_pow]
  exact IntWalk.i64_in _ (by omega)
theorem shr_sq {b d : Nat} (h : b ≤ 31) : shr .u64 (d : Int) (wrap64 (2 * (b : Int))) = ((d / (2 ^ b * 2 ^ b) : Nat) : Int) := by
  unfold shr
  rw [show wrap64 (2 * (b : Int)) = ((2 * b : Nat) : Int) from by unfold wrap64; omega, show min (((2 * b : Nat) : Int).toNat) IntKind.u64.bits = 2 * b from by simp only [Int.toNat_natCast, IntKind.bits]; omega, ← cast_pow,
    show 2 ^ (2 * b) = 2 ^ b * 2 ^ b from by rw [← Nat.pow_add]; congr 1; omega]
  rfl
theorem shr_x {b x : Nat} (h : b ≤ 31) : shr .i64 (x : Int) (b : Int) = ((x / 2 ^ b : Nat) : Int) := by
  unfold shr
  rw [show min ((b : Int).toNat) IntKind.i64.bits = b from by simp [IntKind.bits]; omega, ← cast_pow]
  rfl
theorem wraps62 (n : Int) (h0 : 0 ≤ n) (h1 : n < 2 ^ 62) : IntKind.i64.wrap n = n := IntWalk.i64_in _ (by omega)
theorem wraps62u (n : Int) (h0 : 0 ≤ n) (h1 : n < 2 ^ 63) : IntKind.u64.wrap n = n := IntWalk.u64_in _ (by omega)
theorem wraps64u (n : Int) (h0 : 0 ≤ n) (h1 : n < 2 ^ 64) : IntKind.u64.wrap n = n := IntWalk.u64_in _ (by omega)
theorem and_mask {b x : Nat} (h : b ≤ 31) (hx : x < 2 ^ 62) : Go.bits .and .i64 (x : Int) (wrap64 (((2 ^ b : Nat) : Int) - 1)) = ((x % 2 ^ b : Nat) : Int) := by
  have h1 := pow_le31 h
  have h2 := two_pos b
  rw [show wrap64 (((2 ^ b : Nat) : Int) - 1) = (2 : Int) ^ b - 1 from by rw [← cast_pow]; unfold wrap64; omega,
    Go.bits_mask .i64 62 (by decide) wraps62 b (by omega) (x : Int) (by omega) (by exact_mod_cast hx), ← cast_pow]
  rfl
theorem and3 {x : Nat} (hx : x < 2 ^ 64) : Go.bits .and .u64 (x : Int) 3 = ((x % 4 : Nat) : Int) := by
  have := Go.bits_mask .u64 64 (by decide) wraps64u 2 (by omega) (x : Int) (by omega) (by exact_mod_cast hx)
  simpa using this
theorem or_q {d q : Nat} (hq : q < 4) (hd : d < 2 ^ 61) : Go.bits .or .u64 (IntKind.u64.wrap ((d : Int) * 4)) (q : Int) = ((4 * d + q : Nat) : Int) := by
  rw [IntWalk.u64_in _ (by omega), Go.bits_join .u64 63 (by decide) wraps62u 2 ((d : Int) * 4) (q : Int) (by omega) (by simp) (by omega) (by omega) (by omega) (by omega)]
  omega

theorem quarter (k : Nat) (a b : Bool) : hilbert_quarter.f (k + 1) a b = some (if a = true then (if b = true then 2 else 3) else (if b = true then 1 else 0)) := by
  cases a <;> cases b <;> rfl
theorem turn (s x y : Nat) (q : Int) (hs : s ≤ 2147483648) (hx : x < s) (hy : y < s) :
    hilbert_turn.f (s : Int) (x : Int) (y : Int) q = some (if q = 0 then ((y : Int), (x : Int)) else if q = 3 then (((s - 1 - y : Nat) : Int), ((s - 1 - x : Nat) : Int)) else ((x : Int), (y : Int))) := by
  unfold hilbert_turn.f
  split
  · rfl
  · split
    · congr 2 <;> (unfold wrap64; omega)
    · rfl

theorem index_l0 : ∀ (b : Nat), b ≤ 31 → ∀ (x y d k : Nat), x < 2 ^ b → y < 2 ^ b → d * (2 ^ b * 2 ^ b) + 2 ^ b * 2 ^ b ≤ 4611686018427387904 → b + 1 < k →
    hilbert_index.l0 k (x : Int) (y : Int) (d : Int) ((b : Int) - 1) = some (((d * (2 ^ b * 2 ^ b) + idx b x y : Nat) : Int), true) := by
  intro b
  induction b with
  | zero =>
    intro _ x y d k _ _ _ hk
    obtain ⟨k, rfl⟩ : ∃ m, k = m + 1 := ⟨k - 1, by omega⟩
    simp only [hilbert_index.l0]
    rw [if_neg (by decide)]
    simp [idx]
  | succ b ih =>
    intro hb x y d k hx hy hd hk
    obtain ⟨k, rfl⟩ : ∃ m, k = m + 1 + 1 := ⟨k - 2, by omega⟩
    have h1 := pow_le31 (b := b) (by omega)
    have h2 := two_pos b
    have hsq := sq_succ b
    have hsp := sq_pos b
    have hmx := Nat.mod_lt x h2
    have hmy := Nat.mod_lt y h2
    have hih := fun (x' y' d' : Nat) => ih (by omega) x' y' d' (k + 1)
    have hx' := hx
    have hy' := hy
    rw [two_succ] at hx' hy'
    rw [hsq] at hd
    have e4 : ∀ q : Nat, (4 * d + q) * (2 ^ b * 2 ^ b) = d * (4 * (2 ^ b * 2 ^ b)) + q * (2 ^ b * 2 ^ b) := fun q => by
      rw [Nat.add_mul, Nat.mul_comm 4 d, Nat.mul_assoc]
    have hd1 : d * 4 + 4 ≤ 4611686018427387904 := by
      have : d * 4 ≤ d * (4 * (2 ^ b * 2 ^ b)) := Nat.mul_le_mul_left d (by omega)
      omega
    rw [hilbert_index.l0]
    rw [show (((b + 1 : Nat) : Int) - 1) = (b : Int) from by omega, if_pos (by omega), if_pos (by omega), shl_one (by omega), quarter, and_mask (by omega) (by omega), and_mask (by omega) (by omega)]
    simp only [Option.bind_some, decide_eq_true_eq]
    rw [turn _ _ _ _ h1 hmx hmy]
    simp only [Option.bind_some]
    rw [show wrap64 ((b : Int) - 1) = (b : Int) - 1 from by unfold wrap64; omega]
    by_cases c1 : x < 2 ^ b
    · rw [if_neg (show ¬ ((x : Int) ≥ ((2 ^ b : Nat) : Int)) from by omega)]
      by_cases c2 : y < 2 ^ b
      · rw [if_neg (show ¬ ((y : Int) ≥ ((2 ^ b : Nat) : Int)) from by omega), if_pos rfl]
        have := or_q (d := d) (q := 0) (by omega) (by omega)
        simp only [Int.natCast_zero] at this
        dsimp only
        rw [this, Nat.mod_eq_of_lt c1, Nat.mod_eq_of_lt c2, hih y x _ c2 c1 (by rw [e4]; omega) (by omega), e4]
        simp only [idx]; rw [if_pos c1, if_pos c2, hsq]; congr 2; omega
      · rw [if_pos (show ((y : Int) ≥ ((2 ^ b : Nat) : Int)) from by omega), if_neg (by decide), if_neg (by decide)]
        have := or_q (d := d) (q := 1) (by omega) (by omega)
        simp only [Int.natCast_one] at this
        have hym : y % 2 ^ b = y - 2 ^ b := rest (2 ^ b) y 1 (y - 2 ^ b) (by omega) (by omega)
        dsimp only
        rw [this, Nat.mod_eq_of_lt c1, hym, hih x (y - 2 ^ b) _ c1 (by omega) (by rw [e4]; omega) (by omega), e4]
        simp only [idx]; rw [if_pos c1, if_neg c2, hsq]; congr 2; omega
    · have hxm : x % 2 ^ b = x - 2 ^ b := rest (2 ^ b) x 1 (x - 2 ^ b) (by omega) (by omega)
      rw [if_pos (show ((x : Int) ≥ ((2 ^ b : Nat) : Int)) from by omega)]
      by_cases c2 : 2 ^ b ≤ y
      · rw [if_pos (show ((y : Int) ≥ ((2 ^ b : Nat) : Int)) from by omega), if_neg (by decide), if_neg (by decide)]
        have := or_q (d := d) (q := 2) (by omega) (by omega)
        have hym : y % 2 ^ b = y - 2 ^ b := rest (2 ^ b) y 1 (y - 2 ^ b) (by omega) (by omega)
        rw [show ((2 : Nat) : Int) = 2 from rfl] at this
        dsimp only
        rw [this, hxm, hym, hih (x - 2 ^ b) (y - 2 ^ b) _ (by omega) (by omega) (by rw [e4]; omega) (by omega), e4]
        simp only [idx]; rw [if_neg c1, if_pos c2, hsq]; congr 2; omega
      · rw [if_neg (show ¬ ((y : Int) ≥ ((2 ^ b : Nat) : Int)) from by omega), if_neg (by decide), if_pos rfl]
        have := or_q (d := d) (q := 3) (by omega) (by omega)
        rw [show ((3 : Nat) : Int) = 3 from rfl] at this
        dsimp only
        rw [this, hxm, Nat.mod_eq_of_lt (show y < 2 ^ b by omega), hih (2 ^ b - 1 - y) (2 ^ b - 1 - (x - 2 ^ b)) _ (by omega) (by omega) (by rw [e4]; omega) (by omega), e4]
        simp only [idx]; rw [if_neg c1, if_neg c2, hsq]; congr 2; omega

/-- A point of the square of so many bits. -/
def inside (b x y : Int) : Prop := 0 ≤ b ∧ b ≤ 31 ∧ 0 ≤ x ∧ 0 ≤ y ∧ x < ((2 ^ b.toNat : Nat) : Int) ∧ y < ((2 ^ b.toNat : Nat) : Int)
instance (b x y : Int) : Decidable (inside b x y) := by unfold inside; exact inferInstance

theorem index_f (k : Nat) (hk : 40 ≤ k) (b x y : Int) :
    hilbert_index.f k b x y = some (if inside b x y then (((idx b.toNat x.toNat y.toNat : Nat) : Int), true) else (0, false)) := by
  obtain ⟨k, rfl⟩ : ∃ m, k = m + 1 := ⟨k - 1, by omega⟩
  unfold hilbert_index.f
  by_cases c1 : b < 0
  · rw [if_pos c1, if_neg (by unfold inside; omega)]; simp only [hilbert_index.j0, if_true]
  rw [if_neg c1]
  by_cases c2 : b > 31
  · rw [if_pos c2, if_neg (by unfold inside; omega)]; simp only [hilbert_index.j0, if_true]
  rw [if_neg c2]
  by_cases c3 : x < 0
  · rw [if_pos c3, if_neg (by unfold inside; omega)]; simp only [hilbert_index.j0, if_true]
  rw [if_neg c3, if_pos (by omega)]
  obtain ⟨bn, rfl⟩ : ∃ n : Nat, b = n := ⟨b.toNat, by omega⟩
  obtain ⟨xn, rfl⟩ : ∃ n : Nat, x = n := ⟨x.toNat, by omega⟩
  have h2 := two_pos bn
  have hxd : xn / 2 ^ bn = 0 ↔ xn < 2 ^ bn := Nat.div_eq_zero_iff_lt h2
  rw [shr_x (by omega)]
  by_cases c4 : xn < 2 ^ bn
  · rw [if_pos (by have := hxd.2 c4; omega)]
    by_cases c5 : y < 0
    · rw [if_pos c5, if_neg (by unfold inside; omega)]; simp only [hilbert_index.j0, if_true]
    rw [if_neg c5]
    obtain ⟨yn, rfl⟩ : ∃ n : Nat, y = n := ⟨y.toNat, by omega⟩
    have hyd : yn / 2 ^ bn = 0 ↔ yn < 2 ^ bn := Nat.div_eq_zero_iff_lt h2
    rw [shr_x (by omega)]
    simp only [hilbert_index.j0]
    by_cases c6 : yn < 2 ^ bn
    · rw [if_neg (by have := hyd.2 c6; simp [this]), if_pos (by unfold inside; simp only [Int.toNat_natCast]; omega), show wrap64 ((bn : Int) - 1) = (bn : Int) - 1 from by unfold wrap64; omega]
      have := index_l0 bn (by omega) xn yn 0 k c4 c6 (by have := sq_le31 (b := bn) (by omega); omega) (by omega)
      simp only [Int.natCast_zero, Nat.zero_mul, Nat.zero_add] at this
      simp only [Int.toNat_natCast]
      exact this
    · rw [if_pos (by have h : ¬ yn / 2 ^ bn = 0 := fun h => c6 (hyd.1 h); rw [bne_iff_ne]; omega), if_neg (by unfold inside; simp only [Int.toNat_natCast]; omega)]
  · rw [if_neg (by have h : ¬ xn / 2 ^ bn = 0 := fun h => c4 (hxd.1 h); omega), if_neg (by unfold inside; simp only [Int.toNat_natCast]; omega)]; simp only [hilbert_index.j0, if_true]

theorem Index_f (k : Nat) (hk : 40 ≤ k) (b x y : Int) :
    hilbert_Index.f k b x y = some (if inside b x y then (((idx b.toNat x.toNat y.toNat : Nat) : Int), true) else (0, false)) := by
  unfold hilbert_Index.f; rw [index_f k hk]; rfl

/-- The next part of a way's point, out of the lower ones. -/
theorem pt_next (j d : Nat) : pt (j + 1) (d % (2 ^ (j + 1) * 2 ^ (j + 1))) =
    (if d / (2 ^ j * 2 ^ j) % 4 = 0 then ((pt j (d % (2 ^ j * 2 ^ j))).2, (pt j (d % (2 ^ j * 2 ^ j))).1)
     else if d / (2 ^ j * 2 ^ j) % 4 = 1 then ((pt j (d % (2 ^ j * 2 ^ j))).1, (pt j (d % (2 ^ j * 2 ^ j))).2 + 2 ^ j)
     else if d / (2 ^ j * 2 ^ j) % 4 = 2 then ((pt j (d % (2 ^ j * 2 ^ j))).1 + 2 ^ j, (pt j (d % (2 ^ j * 2 ^ j))).2 + 2 ^ j)
     else (2 ^ j - 1 - (pt j (d % (2 ^ j * 2 ^ j))).2 + 2 ^ j, 2 ^ j - 1 - (pt j (d % (2 ^ j * 2 ^ j))).1)) := by
  have hq := sq_pos j
  rw [sq_succ]
  have e1 : d % (4 * (2 ^ j * 2 ^ j)) % (2 ^ j * 2 ^ j) = d % (2 ^ j * 2 ^ j) := Nat.mod_mul_left_mod d 4 _
  have e2 : d % (4 * (2 ^ j * 2 ^ j)) = (2 ^ j * 2 ^ j) * (d / (2 ^ j * 2 ^ j) % 4) + d % (2 ^ j * 2 ^ j) := by
    rw [Nat.mul_comm 4, Nat.mod_mul]; omega
  have hm := Nat.mod_lt d hq
  have h4 : d / (2 ^ j * 2 ^ j) % 4 < 4 := Nat.mod_lt _ (by decide)
  simp only [pt]
  rw [e1]
  generalize hr : d % (2 ^ j * 2 ^ j) = r at *
  generalize hqq : d / (2 ^ j * 2 ^ j) % 4 = q at *
  generalize 2 ^ j * 2 ^ j = n at *
  rw [e2]
  have hq' : q = 0 ∨ q = 1 ∨ q = 2 ∨ q = 3 := by omega
  rcases hq' with rfl | rfl | rfl | rfl
  · rw [if_pos (by omega), if_pos rfl]
  · rw [if_neg (by omega), if_pos (by omega), if_neg (by decide), if_pos rfl]
  · rw [if_neg (by omega), if_neg (by omega), if_pos (by omega), if_neg (by decide), if_neg (by decide), if_pos rfl]
  · rw [if_neg (by omega), if_neg (by omega), if_neg (by omega), if_neg (by decide), if_neg (by decide), if_neg (by decide)]

theorem At_l0 (b d : Nat) (hb : b ≤ 31) (hd : d < 2 ^ 64) : ∀ (n j k : Nat), j + n = b → 2 * n < k →
    hilbert_At.l0 k (d : Int) (((pt j (d % (2 ^ j * 2 ^ j))).1 : Nat) : Int) (((pt j (d % (2 ^ j * 2 ^ j))).2 : Nat) : Int) (b : Int) (j : Int) =
      some ((((pt b (d % (2 ^ b * 2 ^ b))).1 : Nat) : Int), (((pt b (d % (2 ^ b * 2 ^ b))).2 : Nat) : Int), true) := by
  intro n
  induction n with
  | zero =>
    intro j k hj hk
    obtain rfl : j = b := by omega
    obtain ⟨k, rfl⟩ : ∃ m, k = m + 1 := ⟨k - 1, by omega⟩
    simp only [hilbert_At.l0]
    rw [if_neg (by omega)]
  | succ n ih =>
    intro j k hj hk
    obtain ⟨k, rfl⟩ : ∃ m, k = m + 1 + 1 := ⟨k - 2, by omega⟩
    have hih := ih (j + 1) k (by omega) (by omega)
    have hp := pow_le31 (b := j) (by omega)
    have hl := pt_lt j (d % (2 ^ j * 2 ^ j))
    have hq4 : d / (2 ^ j * 2 ^ j) % 4 < 4 := Nat.mod_lt _ (by decide)
    have hdd : d / (2 ^ j * 2 ^ j) < 2 ^ 64 := Nat.lt_of_le_of_lt (Nat.div_le_self _ _) hd
    rw [pt_next j d] at hih
    simp only [hilbert_At.l0]
    rw [if_pos (by omega), if_pos (by omega), if_pos (by unfold wrap64; omega), shr_sq (by omega), and3 hdd, shl_one (by omega), turn _ _ _ _ hp hl.1 hl.2]
    simp only [Option.bind_some, hilbert_At.j2]
    rw [show wrap64 ((j : Int) + 1) = ((j + 1 : Nat) : Int) from by unfold wrap64; omega]
    generalize d / (2 ^ j * 2 ^ j) % 4 = q at *
    generalize pt j (d % (2 ^ j * 2 ^ j)) = p at *
    obtain ⟨p1, p2⟩ := p
    dsimp only at hih hl ⊢
    have hq' : q = 0 ∨ q = 1 ∨ q = 2 ∨ q = 3 := by omega
    have i10 : ¬ ((1 : Int) = 0) := by decide
    have i12 : ¬ ((1 : Int) = 2) := by decide
    have i13 : ¬ ((1 : Int) = 3) := by decide
    have i02 : ¬ ((0 : Int) = 2) := by decide
    have i01 : ¬ ((0 : Int) = 1) := by decide
    have i20 : ¬ ((2 : Int) = 0) := by decide
    have i21 : ¬ ((2 : Int) = 1) := by decide
    have i23 : ¬ ((2 : Int) = 3) := by decide
    have i30 : ¬ ((3 : Int) = 0) := by decide
    have i31 : ¬ ((3 : Int) = 1) := by decide
    have i32 : ¬ ((3 : Int) = 2) := by decide
    have b03 : ((0 : Int) == 3) = false := rfl
    have b13 : ((1 : Int) == 3) = false := rfl
    have b33 : ((3 : Int) == 3) = true := rfl
    have n10 : ¬ ((1 : Nat) = 0) := by decide
    have n20 : ¬ ((2 : Nat) = 0) := by decide
    have n21 : ¬ ((2 : Nat) = 1) := by decide
    have n30 : ¬ ((3 : Nat) = 0) := by decide
    have n31 : ¬ ((3 : Nat) = 1) := by decide
    have n32 : ¬ ((3 : Nat) = 2) := by decide
    rcases hq' with rfl | rfl | rfl | rfl
    · simp only [Int.natCast_zero, i01, i02, b03, Bool.false_eq_true, if_true, if_false] at hih ⊢
      exact hih
    · simp only [Int.natCast_one, i10, i12, i13, b13, n10, Bool.false_eq_true, if_true, if_false] at hih ⊢
      rw [show wrap64 ((p2 : Int) + ((2 ^ j : Nat) : Int)) = ((p2 + 2 ^ j : Nat) : Int) from by unfold wrap64; omega]
      exact hih
    · rw [show ((2 : Nat) : Int) = 2 from rfl]
      simp only [i20, i21, i23, n20, n21, if_true, if_false] at hih ⊢
      rw [show wrap64 ((p2 : Int) + ((2 ^ j : Nat) : Int)) = ((p2 + 2 ^ j : Nat) : Int) from by unfold wrap64; omega,
        show wrap64 ((p1 : Int) + ((2 ^ j : Nat) : Int)) = ((p1 + 2 ^ j : Nat) : Int) from by unfold wrap64; omega]
      exact hih
    · rw [show ((3 : Nat) : Int) = 3 from rfl]
      simp only [i30, i31, i32, b33, n30, n31, n32, if_true, if_false] at hih ⊢
      rw [show wrap64 (((2 ^ j - 1 - p2 : Nat) : Int) + ((2 ^ j : Nat) : Int)) = ((2 ^ j - 1 - p2 + 2 ^ j : Nat) : Int) from by unfold wrap64; omega]
      exact hih

/-- A place on the way of so many bits. -/
def onway (b d : Int) : Prop := 0 ≤ b ∧ b ≤ 31 ∧ 0 ≤ d ∧ d < ((2 ^ b.toNat * 2 ^ b.toNat : Nat) : Int)
instance (b d : Int) : Decidable (onway b d) := by unfold onway; exact inferInstance

theorem At_f (k : Nat) (hk : 80 ≤ k) (b d : Int) (h0 : 0 ≤ d) (h1 : d < 18446744073709551616) :
    hilbert_At.f k b d = some (if onway b d then ((((pt b.toNat d.toNat).1 : Nat) : Int), (((pt b.toNat d.toNat).2 : Nat) : Int), true) else (0, 0, false)) := by
  obtain ⟨k, rfl⟩ : ∃ m, k = m + 1 := ⟨k - 1, by omega⟩
  unfold hilbert_At.f
  by_cases c1 : b < 0
  · rw [if_pos c1, if_neg (by unfold onway; omega)]; simp only [hilbert_At.j0, if_true]
  rw [if_neg c1]
  by_cases c2 : b > 31
  · rw [if_pos c2, if_neg (by unfold onway; omega)]; simp only [hilbert_At.j0, if_true]
  rw [if_neg c2, if_pos (by unfold wrap64; omega)]
  obtain ⟨bn, rfl⟩ : ∃ n : Nat, b = n := ⟨b.toNat, by omega⟩
  obtain ⟨dn, rfl⟩ : ∃ n : Nat, d = n := ⟨d.toNat, by omega⟩
  have hq := sq_pos bn
  have hdd : dn / (2 ^ bn * 2 ^ bn) = 0 ↔ dn < 2 ^ bn * 2 ^ bn := Nat.div_eq_zero_iff_lt hq
  rw [shr_sq (by omega)]
  simp only [hilbert_At.j0]
  by_cases c6 : dn < 2 ^ bn * 2 ^ bn
  · rw [if_neg (by have := hdd.2 c6; simp [this]), if_pos (by unfold onway; simp only [Int.toNat_natCast]; omega)]
    have := At_l0 bn dn (by omega) (by omega) bn 0 k (by omega) (by omega)
    rw [Nat.mod_eq_of_lt c6] at this
    simp only [Int.toNat_natCast]
    simpa [pt] using this
  · rw [if_pos (by have h : ¬ dn / (2 ^ bn * 2 ^ bn) = 0 := fun h => c6 (hdd.1 h); rw [bne_iff_ne]; omega), if_neg (by unfold onway; simp only [Int.toNat_natCast]; omega)]

theorem lives (k : Nat) (hk : 80 ≤ k) : zelligelaw32_lives.f k = some true := by
  unfold zelligelaw32_lives.f
  rw [Index_f k (by omega), At_f k hk 1 3 (by decide) (by decide), if_pos (by decide), if_pos (by decide)]
  rfl
theorem power_l0 (b : Nat) (hb : b ≤ 31) : ∀ (n j k : Nat), j + n = b → n < k → zelligeref32_power.l0 k (b : Int) ((2 ^ j : Nat) : Int) (j : Int) = some ((2 ^ b : Nat) : Int) := by
  intro n
  induction n with
  | zero =>
    intro j k hj hk
    obtain rfl : j = b := by omega
    obtain ⟨k, rfl⟩ : ∃ m, k = m + 1 := ⟨k - 1, by omega⟩
    simp only [zelligeref32_power.l0]
    rw [if_neg (by omega)]
  | succ n ih =>
    intro j k hj hk
    obtain ⟨k, rfl⟩ : ∃ m, k = m + 1 := ⟨k - 1, by omega⟩
    have hp := pow_le31 (b := j) (by omega)
    have hih := ih (j + 1) k (by omega) (by omega)
    rw [two_succ] at hih
    simp only [zelligeref32_power.l0]
    rw [if_pos (by omega), show wrap64 (2 * ((2 ^ j : Nat) : Int)) = ((2 * 2 ^ j : Nat) : Int) from by unfold wrap64; omega, show wrap64 ((j : Int) + 1) = ((j + 1 : Nat) : Int) from by unfold wrap64; omega]
    exact hih
theorem power_f (k b : Nat) (hb : b ≤ 31) (hk : b < k) : zelligeref32_power.f k (b : Int) = some ((2 ^ b : Nat) : Int) := by
  have := power_l0 b hb b 0 k (by omega) hk
  simpa [zelligeref32_power.f] using this
theorem In_f (k : Nat) (hk : 40 ≤ k) (b x y : Int) : zelligeref32_In.f k b x y = some (decide (inside b x y)) := by
  unfold zelligeref32_In.f
  by_cases c1 : b ≥ 0
  · rw [if_pos c1]
    by_cases c2 : b ≤ 31
    · rw [if_pos c2]
      by_cases c3 : x ≥ 0
      · rw [if_pos c3]
        by_cases c4 : y ≥ 0
        · rw [if_pos c4]
          obtain ⟨bn, rfl⟩ : ∃ n : Nat, b = n := ⟨b.toNat, by omega⟩
          rw [power_f k bn (by omega) (by omega)]
          simp only [Option.bind_some]
          by_cases c5 : x < ((2 ^ bn : Nat) : Int)
          · rw [if_pos c5]
            congr 1
            rw [decide_eq_decide]
            unfold inside; simp only [Int.toNat_natCast]
            exact ⟨fun h => ⟨c1, c2, c3, c4, c5, h⟩, fun h => h.2.2.2.2.2⟩
          · rw [if_neg c5]
            congr 1; symm
            rw [decide_eq_false_iff_not]; unfold inside; simp only [Int.toNat_natCast]; omega
        · rw [if_neg c4]; congr 1; symm; rw [decide_eq_false_iff_not]; unfold inside; omega
      · rw [if_neg c3]; congr 1; symm; rw [decide_eq_false_iff_not]; unfold inside; omega
    · rw [if_neg c2]; congr 1; symm; rw [decide_eq_false_iff_not]; unfold inside; omega
  · rw [if_neg c1]; congr 1; symm; rw [decide_eq_false_iff_not]; unfold inside; omega
theorem refIndex : ∀ (b : Nat), b ≤ 31 → ∀ (x y k : Nat), x < 2 ^ b → y < 2 ^ b → 2 * b + 40 ≤ k → zelligeref32_Index.f k (b : Int) (x : Int) (y : Int) = some ((idx b x y : Nat) : Int) := by
  intro b
  induction b with
  | zero =>
    intro _ x y k _ _ hk
    obtain ⟨k, rfl⟩ : ∃ m, k = m + 1 := ⟨k - 1, by omega⟩
    simp only [zelligeref32_Index.f]
    rw [if_pos (by decide)]; rfl
  | succ b ih =>
    intro hb x y k hx hy hk
    obtain ⟨k, rfl⟩ : ∃ m, k = m + 1 + 1 := ⟨k - 2, by omega⟩
    have h1 := pow_le31 (b := b) (by omega)
    have h2 := two_pos b
    have h3 := sq_le31 (b := b) (by omega)
    have hih := fun (x' y' : Nat) => ih (by omega) x' y' k
    have hil := idx_lt b
    rw [two_succ] at hx hy
    simp only [zelligeref32_Index.f]
    rw [if_neg (by omega), show wrap64 (((b + 1 : Nat) : Int) - 1) = (b : Int) from by unfold wrap64; omega, power_f (k + 1) b (by omega) (by omega)]
    simp only [Option.bind_some]
    have hsq : IntKind.u64.wrap (IntKind.u64.wrap ((2 ^ b : Nat) : Int) * IntKind.u64.wrap ((2 ^ b : Nat) : Int)) = ((2 ^ b * 2 ^ b : Nat) : Int) := by
      rw [IntWalk.u64_in ((2 ^ b : Nat) : Int) (by omega), ← Int.natCast_mul]; exact IntWalk.u64_in _ (by omega)
    rw [hsq]
    have hw : wrap64 (((b + 1 : Nat) : Int) - 1) = (b : Int) := by unfold wrap64; omega
    generalize hN : 2 ^ b * 2 ^ b = N at *
    by_cases c1 : x < 2 ^ b
    · rw [if_pos (show ((x : Int) < ((2 ^ b : Nat) : Int)) from by omega)]
      simp only [zelligeref32_Index.j0, hw, decide_eq_true_eq]
      by_cases c2 : y < 2 ^ b
      · rw [if_pos (show ((y : Int) < ((2 ^ b : Nat) : Int)) from by omega), hih y x c2 c1 (by omega)]
        simp only [idx, Option.bind_some]; rw [if_pos c1, if_pos c2]
      · rw [if_neg (show ¬ ((y : Int) < ((2 ^ b : Nat) : Int)) from by omega), if_pos (show ((x : Int) < ((2 ^ b : Nat) : Int)) from by omega),
          show wrap64 ((y : Int) - ((2 ^ b : Nat) : Int)) = ((y - 2 ^ b : Nat) : Int) from by unfold wrap64; omega, hih x (y - 2 ^ b) c1 (by omega) (by omega)]
        have := hil x (y - 2 ^ b) c1 (by omega)
        simp only [idx, Option.bind_some]; rw [if_pos c1, if_neg c2, hN, IntWalk.u64_in _ (by omega)]; congr 1
    · rw [if_neg (show ¬ ((x : Int) < ((2 ^ b : Nat) : Int)) from by omega)]
      simp only [zelligeref32_Index.j0, hw]
      rw [if_neg (by decide), if_neg (show ¬ ((x : Int) < ((2 ^ b : Nat) : Int)) from by omega), show wrap64 ((x : Int) - ((2 ^ b : Nat) : Int)) = ((x - 2 ^ b : Nat) : Int) from by unfold wrap64; omega]
      by_cases c2 : 2 ^ b ≤ y
      · have := hil (x - 2 ^ b) (y - 2 ^ b) (by omega) (by omega)
        rw [if_pos (show ((y : Int) ≥ ((2 ^ b : Nat) : Int)) from by omega), show wrap64 ((y : Int) - ((2 ^ b : Nat) : Int)) = ((y - 2 ^ b : Nat) : Int) from by unfold wrap64; omega, hih (x - 2 ^ b) (y - 2 ^ b) (by omega) (by omega) (by omega)]
        simp only [idx, Option.bind_some]; rw [if_neg c1, if_pos c2, hN, IntWalk.u64_in (2 * (N : Int)) (by omega), IntWalk.u64_in _ (by omega)]; congr 1
      · have := hil (2 ^ b - 1 - y) (2 ^ b - 1 - (x - 2 ^ b)) (by omega) (by omega)
        rw [if_neg (show ¬ ((y : Int) ≥ ((2 ^ b : Nat) : Int)) from by omega), show wrap64 (((2 ^ b : Nat) : Int) - 1) = ((2 ^ b - 1 : Nat) : Int) from by unfold wrap64; omega,
          show wrap64 (((2 ^ b - 1 : Nat) : Int) - (y : Int)) = ((2 ^ b - 1 - y : Nat) : Int) from by unfold wrap64; omega,
          show wrap64 (((2 ^ b - 1 : Nat) : Int) - ((x - 2 ^ b : Nat) : Int)) = ((2 ^ b - 1 - (x - 2 ^ b) : Nat) : Int) from by unfold wrap64; omega, hih (2 ^ b - 1 - y) (2 ^ b - 1 - (x - 2 ^ b)) (by omega) (by omega) (by omega)]
        simp only [idx, Option.bind_some]; rw [if_neg c1, if_neg c2, hN, IntWalk.u64_in (3 * (N : Int)) (by omega), IntWalk.u64_in _ (by omega)]; congr 1

end Go.Proofs.Ytkhdnkmocbceeaa.FnHilbertIndex
