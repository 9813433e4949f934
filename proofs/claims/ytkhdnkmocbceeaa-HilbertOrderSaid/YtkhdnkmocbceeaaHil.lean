/- Hilbert's way over a square of 2^b points a side, as plain functions on whole numbers, and its laws. -/
namespace Go.Proofs.Hil

/-- A point's place on the way. -/
def idx : Nat → Nat → Nat → Nat
  | 0, _, _ => 0
  | b + 1, x, y =>
    if x < 2 ^ b then (if y < 2 ^ b then idx b y x else 2 ^ b * 2 ^ b + idx b x (y - 2 ^ b))
    else if 2 ^ b ≤ y then 2 * (2 ^ b * 2 ^ b) + idx b (x - 2 ^ b) (y - 2 ^ b)
    else 3 * (2 ^ b * 2 ^ b) + idx b (2 ^ b - 1 - y) (2 ^ b - 1 - (x - 2 ^ b))

/-- The point at a place. -/
def pt : Nat → Nat → Nat × Nat
  | 0, _ => (0, 0)
  | b + 1, d =>
    if d < 2 ^ b * 2 ^ b then ((pt b (d % (2 ^ b * 2 ^ b))).2, (pt b (d % (2 ^ b * 2 ^ b))).1)
    else if d < 2 * (2 ^ b * 2 ^ b) then ((pt b (d % (2 ^ b * 2 ^ b))).1, (pt b (d % (2 ^ b * 2 ^ b))).2 + 2 ^ b)
    else if d < 3 * (2 ^ b * 2 ^ b) then ((pt b (d % (2 ^ b * 2 ^ b))).1 + 2 ^ b, (pt b (d % (2 ^ b * 2 ^ b))).2 + 2 ^ b)
    else (2 ^ b - 1 - (pt b (d % (2 ^ b * 2 ^ b))).2 + 2 ^ b, 2 ^ b - 1 - (pt b (d % (2 ^ b * 2 ^ b))).1)

theorem two_succ (b : Nat) : 2 ^ (b + 1) = 2 * 2 ^ b := by rw [Nat.pow_succ]; omega
theorem two_pos (b : Nat) : 0 < 2 ^ b := Nat.pow_pos (by decide)
theorem sq_succ (b : Nat) : 2 ^ (b + 1) * 2 ^ (b + 1) = 4 * (2 ^ b * 2 ^ b) := by
  rw [two_succ, Nat.mul_mul_mul_comm]
theorem sq_pos (b : Nat) : 0 < 2 ^ b * 2 ^ b := Nat.mul_pos (two_pos b) (two_pos b)

theorem idx_lt : ∀ (b x y : Nat), x < 2 ^ b → y < 2 ^ b → idx b x y < 2 ^ b * 2 ^ b := by
  intro b
  induction b with
  | zero => intro x y _ _; simp [idx]
  | succ b ih =>
    intro x y hx hy
    rw [sq_succ]
    rw [two_succ] at hx hy
    have hp := two_pos b
    simp only [idx]
    split
    · split
      · have := ih y x (by omega) (by omega); omega
      · have := ih x (y - 2 ^ b) (by omega) (by omega); omega
    · split
      · have := ih (x - 2 ^ b) (y - 2 ^ b) (by omega) (by omega); omega
      · have := ih (2 ^ b - 1 - y) (2 ^ b - 1 - (x - 2 ^ b)) (by omega) (by omega); omega

theorem pt_lt : ∀ (b d : Nat), (pt b d).1 < 2 ^ b ∧ (pt b d).2 < 2 ^ b := by
  intro b
  induction b with
  | zero => intro d; simp [pt]
  | succ b ih =>
    intro d
    have h := ih (d % (2 ^ b * 2 ^ b))
    rw [two_succ]
    simp only [pt]
    split
    · exact ⟨by omega, by omega⟩
    · split
      · exact ⟨by omega, by omega⟩
      · split
        · exact ⟨by omega, by omega⟩
        · exact ⟨by simp only; omega, by simp only; omega⟩

/-- How a place's rest by a quarter is found. -/
theorem rest (n d q r : Nat) (hr : r < n) (h : d = q * n + r) : d % n = r := by
  subst h; rw [Nat.mul_comm, Nat.mul_add_mod, Nat.mod_eq_of_lt hr]

theorem pt_idx : ∀ (b x y : Nat), x < 2 ^ b → y < 2 ^ b → pt b (idx b x y) = (x, y) := by
  intro b
  induction b with
  | zero => intro x y hx hy; simp [pt] at *; omega
  | succ b ih =>
    intro x y hx hy
    rw [two_succ] at hx hy
    have hp := two_pos b
    by_cases h1 : x < 2 ^ b
    · by_cases h2 : y < 2 ^ b
      · have hi := idx_lt b y x h2 h1
        have e : idx (b + 1) x y = idx b y x := by simp only [idx]; rw [if_pos h1, if_pos h2]
        rw [e]; simp only [pt]
        rw [if_pos hi, Nat.mod_eq_of_lt hi, ih y x h2 h1]
      · have hi := idx_lt b x (y - 2 ^ b) h1 (by omega)
        have e : idx (b + 1) x y = 2 ^ b * 2 ^ b + idx b x (y - 2 ^ b) := by simp only [idx]; rw [if_pos h1, if_neg h2]
        rw [e]; simp only [pt]
        rw [if_neg (by omega), if_pos (by omega), rest (2 ^ b * 2 ^ b) (2 ^ b * 2 ^ b + idx b x (y - 2 ^ b)) 1 (idx b x (y - 2 ^ b)) hi (by omega), ih x (y - 2 ^ b) h1 (by omega)]
        refine Prod.ext ?_ ?_ <;> simp only <;> omega
    · by_cases h2 : 2 ^ b ≤ y
      · have hi := idx_lt b (x - 2 ^ b) (y - 2 ^ b) (by omega) (by omega)
        have e : idx (b + 1) x y = 2 * (2 ^ b * 2 ^ b) + idx b (x - 2 ^ b) (y - 2 ^ b) := by simp only [idx]; rw [if_neg h1, if_pos h2]
        rw [e]; simp only [pt]
        rw [if_neg (by omega), if_neg (by omega), if_pos (by omega), rest (2 ^ b * 2 ^ b) _ 2 _ hi (by omega), ih _ _ (by omega) (by omega)]
        refine Prod.ext ?_ ?_ <;> simp only <;> omega
      · have hi := idx_lt b (2 ^ b - 1 - y) (2 ^ b - 1 - (x - 2 ^ b)) (by omega) (by omega)
        have e : idx (b + 1) x y = 3 * (2 ^ b * 2 ^ b) + idx b (2 ^ b - 1 - y) (2 ^ b - 1 - (x - 2 ^ b)) := by simp only [idx]; rw [if_neg h1, if_neg h2]
        rw [e]; simp only [pt]
        rw [if_neg (by omega), if_neg (by omega), if_neg (by omega), rest (2 ^ b * 2 ^ b) _ 3 _ hi (by omega), ih _ _ (by omega) (by omega)]
        refine Prod.ext ?_ ?_ <;> simp only <;> omega

theorem idx_pt : ∀ (b d : Nat), d < 2 ^ b * 2 ^ b → idx b (pt b d).1 (pt b d).2 = d := by
  intro b
  induction b with
  | zero => intro d hd; simp [idx] at *; omega
  | succ b ih =>
    intro d hd
    rw [sq_succ] at hd
    have hp := two_pos b
    have hq := sq_pos b
    have hm : d % (2 ^ b * 2 ^ b) < 2 ^ b * 2 ^ b := Nat.mod_lt _ hq
    have hl := pt_lt b (d % (2 ^ b * 2 ^ b))
    have hi := ih _ hm
    by_cases h1 : d < 2 ^ b * 2 ^ b
    · have e : pt (b + 1) d = ((pt b (d % (2 ^ b * 2 ^ b))).2, (pt b (d % (2 ^ b * 2 ^ b))).1) := by simp only [pt]; rw [if_pos h1]
      rw [e]; simp only [idx]; rw [if_pos hl.2, if_pos hl.1, hi, Nat.mod_eq_of_lt h1]
    · by_cases h2 : d < 2 * (2 ^ b * 2 ^ b)
      · have e : pt (b + 1) d = ((pt b (d % (2 ^ b * 2 ^ b))).1, (pt b (d % (2 ^ b * 2 ^ b))).2 + 2 ^ b) := by simp only [pt]; rw [if_neg h1, if_pos h2]
        rw [e]; simp only [idx]; rw [if_pos hl.1, if_neg (by omega), Nat.add_sub_cancel, hi, rest (2 ^ b * 2 ^ b) d 1 (d - 2 ^ b * 2 ^ b) (by omega) (by omega)]; omega
      · by_cases h3 : d < 3 * (2 ^ b * 2 ^ b)
        · have e : pt (b + 1) d = ((pt b (d % (2 ^ b * 2 ^ b))).1 + 2 ^ b, (pt b (d % (2 ^ b * 2 ^ b))).2 + 2 ^ b) := by simp only [pt]; rw [if_neg h1, if_neg h2, if_pos h3]
          rw [e]; simp only [idx]; rw [if_neg (by omega), if_pos (by omega), Nat.add_sub_cancel, Nat.add_sub_cancel, hi, rest (2 ^ b * 2 ^ b) d 2 (d - 2 * (2 ^ b * 2 ^ b)) (by omega) (by omega)]; omega
        · have e : pt (b + 1) d = (2 ^ b - 1 - (pt b (d % (2 ^ b * 2 ^ b))).2 + 2 ^ b, 2 ^ b - 1 - (pt b (d % (2 ^ b * 2 ^ b))).1) := by simp only [pt]; rw [if_neg h1, if_neg h2, if_neg h3]
          rw [e]; simp only [idx]
          rw [if_neg (by omega), if_neg (by omega), Nat.add_sub_cancel, show 2 ^ b - 1 - (2 ^ b - 1 - (pt b (d % (2 ^ b * 2 ^ b))).1) = (pt b (d % (2 ^ b * 2 ^ b))).1 from by omega,
            show 2 ^ b - 1 - (2 ^ b - 1 - (pt b (d % (2 ^ b * 2 ^ b))).2) = (pt b (d % (2 ^ b * 2 ^ b))).2 from by omega, hi, rest (2 ^ b * 2 ^ b) d 3 (d - 3 * (2 ^ b * 2 ^ b)) (by omega) (by omega)]
          omega

theorem pt_first : ∀ b, pt b 0 = (0, 0) := by
  intro b
  induction b with
  | zero => rfl
  | succ b ih => simp only [pt]; rw [if_pos (sq_pos b), Nat.zero_mod, ih]

theorem pt_last : ∀ b, pt b (2 ^ b * 2 ^ b - 1) = (2 ^ b - 1, 0) := by
  intro b
  induction b with
  | zero => rfl
  | succ b ih =>
    have hp := two_pos b
    have hq := sq_pos b
    rw [sq_succ, two_succ]; simp only [pt]
    rw [if_neg (by omega), if_neg (by omega), if_neg (by omega), rest (2 ^ b * 2 ^ b) _ 3 (2 ^ b * 2 ^ b - 1) (by omega) (by omega), ih]
    refine Prod.ext ?_ ?_ <;> simp only <;> omega

/-- Two points are one step from each other. -/
def Near (p q : Nat × Nat) : Prop := (p.1 = q.1 ∧ (p.2 = q.2 + 1 ∨ q.2 = p.2 + 1)) ∨ (p.2 = q.2 ∧ (p.1 = q.1 + 1 ∨ q.1 = p.1 + 1))

theorem step : ∀ (b d : Nat), d + 1 < 2 ^ b * 2 ^ b → Near (pt b d) (pt b (d + 1)) := by
  intro b
  induction b with
  | zero => intro d hd; simp at hd
  | succ b ih =>
    intro d hd
    rw [sq_succ] at hd
    have hp := two_pos b
    have hq := sq_pos b
    have hf := pt_first b
    have hl := pt_last b
    generalize hn : 2 ^ b * 2 ^ b = n at *
    obtain ⟨q, r, hr, hqr, hq4⟩ : ∃ q r, r < n ∧ d = q * n + r ∧ q < 4 :=
      ⟨d / n, d % n, Nat.mod_lt _ hq, by rw [Nat.mul_comm]; exact (Nat.div_add_mod d n).symm, Nat.div_lt_of_lt_mul (by omega)⟩
    have hq' : q = 0 ∨ q = 1 ∨ q = 2 ∨ q = 3 := by omega
    have hm : d % n = r := rest n d q r hr hqr
    have hb1 := pt_lt b r
    by_cases he : r + 1 < n
    · have hm' : (d + 1) % n = r + 1 := rest n (d + 1) q (r + 1) he (by omega)
      have hb2 := pt_lt b (r + 1)
      have hs := ih r he
      simp only [pt, hn, hm, hm']
      unfold Near at hs ⊢
      rcases hq' with rfl | rfl | rfl | rfl
      · rw [if_pos (by omega), if_pos (by omega)]; dsimp only; omega
      · rw [if_neg (by omega), if_pos (by omega), if_neg (by omega), if_pos (by omega)]; dsimp only; omega
      · rw [if_neg (by omega), if_neg (by omega), if_pos (by omega), if_neg (by omega), if_neg (by omega), if_pos (by omega)]; dsimp only; omega
      · rw [if_neg (by omega), if_neg (by omega), if_neg (by omega), if_neg (by omega), if_neg (by omega), if_neg (by omega)]; dsimp only; omega
    · have hrn : r = n - 1 := by omega
      have hm' : (d + 1) % n = 0 := by
        rcases hq' with rfl | rfl | rfl | rfl
        · exact rest n (d + 1) 1 0 hq (by omega)
        · exact rest n (d + 1) 2 0 hq (by omega)
        · exact rest n (d + 1) 3 0 hq (by omega)
        · omega
      simp only [pt, hn, hm, hm']
      rw [hrn, hf, hl]
      clear hb1 ih hf hl
      unfold Near
      generalize 2 ^ b = s at *
      rcases hq' with rfl | rfl | rfl | rfl
      · rw [if_pos (by omega), if_neg (by omega), if_pos (by omega)]; dsimp only; omega
      · rw [if_neg (by omega), if_pos (by omega), if_neg (by omega), if_neg (by omega), if_pos (by omega)]; dsimp only; omega
      · rw [if_neg (by omega), if_neg (by omega), if_pos (by omega), if_neg (by omega), if_neg (by omega), if_neg (by omega)]; dsimp only; omega
      · omega

theorem pow_split (b l : Nat) : 2 ^ (b + l) = 2 ^ b * 2 ^ l := Nat.pow_add 2 b l

/-- A number's rest up to a great power, seen by a less one. -/
theorem far_flip (s t y : Nat) (ht : 0 < t) (hy : y < s * t) : (s * t - 1 - y) / t = s - 1 - y / t := by
  have h := Nat.div_add_mod y t
  have hm := Nat.mod_lt y ht
  have hd : y / t < s := Nat.div_lt_of_lt_mul (by rw [Nat.mul_comm]; exact hy)
  generalize y / t = q at *
  generalize y % t = r at *
  obtain ⟨c, rfl⟩ : ∃ c, s = q + 1 + c := ⟨s - q - 1, by omega⟩
  have e : (q + 1 + c) * t - 1 - y = t * c + (t - 1 - r) := by
    have : (q + 1 + c) * t = t * q + t + t * c := by rw [Nat.add_mul, Nat.add_mul, Nat.mul_comm q, Nat.mul_comm c]; omega
    omega
  rw [e, Nat.mul_add_div ht, Nat.div_eq_of_lt (by omega)]; omega

theorem far_less (s t x : Nat) : (x - s * t) / t = x / t - s := by
  rw [Nat.mul_comm]; exact Nat.sub_mul_div x t s

theorem parts (l : Nat) : ∀ (b x y : Nat), x < 2 ^ (b + l) → y < 2 ^ (b + l) → idx b (x / 2 ^ l) (y / 2 ^ l) = idx (b + l) x y / (2 ^ l * 2 ^ l) := by
  intro b
  induction b with
  | zero =>
    intro x y hx hy
    rw [Nat.zero_add] at hx hy ⊢
    rw [Nat.div_eq_of_lt (idx_lt l x y hx hy)]; rfl
  | succ b ih =>
    intro x y hx hy
    have ht := two_pos l
    have hs := two_pos b
    have hq := sq_pos l
    have e1 : b + 1 + l = (b + l) + 1 := by omega
    rw [e1, two_succ, pow_split] at hx hy
    rw [e1]
    have hxl : x / 2 ^ l < 2 ^ b ↔ x < 2 ^ b * 2 ^ l := Nat.div_lt_iff_lt_mul ht
    have hyl : y / 2 ^ l < 2 ^ b ↔ y < 2 ^ b * 2 ^ l := Nat.div_lt_iff_lt_mul ht
    have esq : 2 ^ (b + l) * 2 ^ (b + l) = (2 ^ l * 2 ^ l) * (2 ^ b * 2 ^ b) := by
      rw [pow_split, Nat.mul_mul_mul_comm, Nat.mul_comm]
    have hpl := pow_split b l
    simp only [idx]
    rw [esq]
    by_cases h1 : x < 2 ^ b * 2 ^ l
    · rw [if_pos (hxl.2 h1), if_pos (show x < 2 ^ (b + l) by omega)]
      by_cases h2 : y < 2 ^ b * 2 ^ l
      · rw [if_pos (hyl.2 h2), if_pos (show y < 2 ^ (b + l) by omega)]
        exact ih y x (by omega) (by omega)
      · rw [if_neg (fun h => h2 (hyl.1 h)), if_neg (show ¬ y < 2 ^ (b + l) by omega), Nat.mul_add_div hq, ← ih x (y - 2 ^ (b + l)) (by omega) (by omega), hpl, far_less _ _ _]
    · rw [if_neg (fun h => h1 (hxl.1 h)), if_neg (show ¬ x < 2 ^ (b + l) by omega)]
      by_cases h2 : y < 2 ^ b * 2 ^ l
      · have hn : ¬ 2 ^ b ≤ y / 2 ^ l := by have := hyl.2 h2; omega
        rw [if_neg hn, if_neg (show ¬ 2 ^ (b + l) ≤ y by omega), show 3 * (2 ^ l * 2 ^ l * (2 ^ b * 2 ^ b)) = (2 ^ l * 2 ^ l) * (3 * (2 ^ b * 2 ^ b)) from Nat.mul_left_comm _ _ _, Nat.mul_add_div hq,
          ← ih (2 ^ (b + l) - 1 - y) (2 ^ (b + l) - 1 - (x - 2 ^ (b + l))) (by omega) (by omega), hpl, far_flip _ _ _ ht h2, far_flip _ _ _ ht (by omega), far_less _ _ _]
      · have hn : 2 ^ b ≤ y / 2 ^ l := by
          have : ¬ y / 2 ^ l < 2 ^ b := fun h => h2 (hyl.1 h)
          omega
        rw [if_pos hn, if_pos (show 2 ^ (b + l) ≤ y by omega), show 2 * (2 ^ l * 2 ^ l * (2 ^ b * 2 ^ b)) = (2 ^ l * 2 ^ l) * (2 * (2 ^ b * 2 ^ b)) from Nat.mul_left_comm _ _ _, Nat.mul_add_div hq,
          ← ih (x - 2 ^ (b + l)) (y - 2 ^ (b + l)) (by omega) (by omega), hpl, far_less _ _ _, far_less _ _ _]

end Go.Proofs.Hil
