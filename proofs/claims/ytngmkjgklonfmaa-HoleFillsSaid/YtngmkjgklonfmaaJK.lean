/- Joined texts. -/
import Derived.Test.YtngmkjgklonfmaaJI
import Derived.Test.YtngmkjgklonfmaaJJ
import Derived.Deep.DeepCutAuto
/- What is used of HfP. -/
namespace Go.Proofs.Ytngmkjgklonfmaa.Hf
/-! the order of corners beside an edge -/
abbrev P := Int × Int
def ac (ux uy vx vy : Int) : Int := ux * vy - uy * vx
def sq2 (x y : Int) : Int := x * x + y * y
def icv (ux uy vx vy wx wy : Int) : Int := sq2 ux uy * ac vx vy wx wy + sq2 vx vy * ac wx wy ux uy + sq2 wx wy * ac ux uy vx vy
def ar (a b c : P) : Int := ac (b.1 - a.1) (b.2 - a.2) (c.1 - a.1) (c.2 - a.2)
def inc (a b c d : P) : Int := icv (a.1 - d.1) (a.2 - d.2) (b.1 - d.1) (b.2 - d.2) (c.1 - d.1) (c.2 - d.2)
def dt (a b c : P) : Int := (a.1 - c.1) * (b.1 - c.1) + (a.2 - c.2) * (b.2 - c.2)
theorem inc_eq (a b c d : P) : inc a b c d = dt a b c * ar a b d - dt a b d * ar a b c := by
  unfold inc icv sq2 ac dt ar ac; grind
theorem plu (a b x y z : P) : inc a b x z * ar a b y = inc a b x y * ar a b z + inc a b y z * ar a b x := by
  rw [inc_eq, inc_eq, inc_eq]; grind
theorem inc_anti (a b x y : P) : inc a b y x = - inc a b x y := by
  rw [inc_eq, inc_eq]; grind
theorem ang1 (a b x y z : P) : ar a z x * ar a b y = ar a z y * ar a b x + ar a y x * ar a b z := by
  unfold ar ac; grind
theorem ang2 (a b x y z : P) : ar z b x * ar a b y = ar z b y * ar a b x + ar y b x * ar a b z := by
  unfold ar ac; grind
theorem ar_anti1 (a x y : P) : ar a x y = - ar a y x := by unfold ar ac; grind
theorem ar_anti2 (b x y : P) : ar x b y = - ar y b x := by unfold ar ac; grind
theorem sq_nn (a : Int) : 0 ≤ a * a := by
  have := Int.natAbs_mul_self (a := a)
  omega
theorem pos_l {x y : Int} (h : 0 < x * y) (hy : 0 < y) : 0 < x := by
  rcases Int.lt_trichotomy x 0 with hx | hx | hx
  · have := Int.mul_neg_of_neg_of_pos hx hy; omega
  · subst hx; simp at h
  · exact hx
theorem same_core (w1 w2 u1 u2 v1 v2 : Int) (hp : 0 < w1 * u2 - w2 * u1) (hq : 0 < w1 * v2 - w2 * v1) (hi : (u1 * (u1 - w1) + u2 * (u2 - w2)) * (w1 * v2 - w2 * v1) = (v1 * (v1 - w1) + v2 * (v2 - w2)) * (w1 * u2 - w2 * u1)) (h : u1 * v2 - u2 * v1 = 0) : u1 = v1 ∧ u2 = v2 := by
  have e1 : (w1 * u2 - w2 * u1) * v1 = (w1 * v2 - w2 * v1) * u1 := by grind
  have e2 : (w1 * u2 - w2 * u1) * v2 = (w1 * v2 - w2 * v1) * u2 := by grind
  have hu : u1 ≠ 0 ∨ u2 ≠ 0 := by
    by_cases h1 : u1 = 0
    · right; intro h2; subst h1; subst h2; simp at hp
    · exact .inl h1
  generalize hP : w1 * u2 - w2 * u1 = p at *
  generalize hQ : w1 * v2 - w2 * v1 = q at *
  have e3 : (u1 * u1 + u2 * u2) * q = (v1 * v1 + v2 * v2) * p := by grind
  have e4 : q * (u1 * u1 + u2 * u2) * (p - q) = 0 := by grind
  have hn : u1 * u1 + u2 * u2 ≠ 0 := by
    have a1 : 0 ≤ u1 * u1 := sq_nn u1
    have a2 : 0 ≤ u2 * u2 := sq_nn u2
    intro hz
    have b1 : u1 * u1 = 0 := by omega
    have b2 : u2 * u2 = 0 := by omega
    rcases hu with h | h
    · exact h (by rcases Int.mul_eq_zero.1 b1 with h | h <;> exact h)
    · exact h (by rcases Int.mul_eq_zero.1 b2 with h | h <;> exact h)
  have e5 : p = q := by
    rcases Int.mul_eq_zero.1 e4 with h | h
    · rcases Int.mul_eq_zero.1 h with h | h
      · omega
      · exact absurd h hn
    · omega
  subst e5
  have hp0 : p ≠ 0 := by omega
  exact ⟨(Int.eq_of_mul_eq_mul_left hp0 e1).symm, (Int.eq_of_mul_eq_mul_left hp0 e2).symm⟩
theorem same_a {a b x y : P} (hx : 0 < ar a b x) (hy : 0 < ar a b y) (hi : inc a b x y = 0) (h : ar a x y = 0) : x = y := by
  rw [inc_eq] at hi
  obtain ⟨a1, a2⟩ := a; obtain ⟨b1, b2⟩ := b; obtain ⟨x1, x2⟩ := x; obtain ⟨y1, y2⟩ := y
  unfold ar ac dt at *
  simp only at *
  have := same_core (b1 - a1) (b2 - a2) (x1 - a1) (x2 - a2) (y1 - a1) (y2 - a2) hx hy (by grind) h
  simp only [Prod.mk.injEq]; omega
theorem same_b {a b x y : P} (hx : 0 < ar a b x) (hy : 0 < ar a b y) (hi : inc a b x y = 0) (h : ar x b y = 0) : x = y := by
  rw [inc_eq] at hi
  obtain ⟨a1, a2⟩ := a; obtain ⟨b1, b2⟩ := b; obtain ⟨x1, x2⟩ := x; obtain ⟨y1, y2⟩ := y
  unfold ar ac dt at *
  simp only at *
  have e1 : (a2 - b2) * (x1 - b1) - (a1 - b1) * (x2 - b2) = (b1 - a1) * (x2 - a2) - (b2 - a2) * (x1 - a1) := by grind
  have e2 : (a2 - b2) * (y1 - b1) - (a1 - b1) * (y2 - b2) = (b1 - a1) * (y2 - a2) - (b2 - a2) * (y1 - a1) := by grind
  have := same_core (a2 - b2) (a1 - b1) (x2 - b2) (x1 - b1) (y2 - b2) (y1 - b1) (e1 ▸ hx) (e2 ▸ hy) (by grind) (by grind)
  simp only [Prod.mk.injEq]; omega
/-! points by their places -/
def lt (p q : P) : Prop := p.1 < q.1 ∨ p.1 = q.1 ∧ p.2 < q.2
instance (p q : P) : Decidable (lt p q) := inferInstanceAs (Decidable (_ ∨ _))
theorem lt_irr (p : P) : ¬ lt p p := by unfold lt; omega
theorem lt_tr {p q r : P} (h : lt p q) (h2 : lt q r) : lt p r := by unfold lt at *; omega
theorem lt_tot {p q : P} (h : p ≠ q) : lt p q ∨ lt q p := by
  unfold lt
  by_cases h1 : p.1 = q.1
  · have : p.2 ≠ q.2 := fun h2 => h (Prod.ext h1 h2)
    omega
  · omega
theorem lt_as {p q : P} (h : lt p q) : ¬ lt q p := fun h2 => lt_irr _ (lt_tr h h2)
/-- p stands behind three others -/
def gt3 (p a b c : P) : Prop := lt a p ∧ lt b p ∧ lt c p
instance (p a b c : P) : Decidable (gt3 p a b c) := inferInstanceAs (Decidable (_ ∧ _ ∧ _))
def tieC (a b c d : P) : Prop := ¬ gt3 d a b c ∧ (if gt3 c a b d then 0 < ar a b d else if gt3 b a c d then 0 < ar a d c else 0 < ar d b c)
instance (a b c d : P) : Decidable (tieC a b c d) := inferInstanceAs (Decidable (_ ∧ _))
/-- d does away with a, b, c -/
def Cf (a b c d : P) : Prop := 0 < ar a b c ∧ d ≠ a ∧ d ≠ b ∧ d ≠ c ∧ (0 < inc a b c d ∨ inc a b c d = 0 ∧ tieC a b c d)
instance (a b c d : P) : Decidable (Cf a b c d) := inferInstanceAs (Decidable (_ ∧ _))
/-- the edge's end that stands behind the other one -/
def mx (a b : P) : P := if lt a b then b else a
def ang (a b x y : P) : Prop := if lt a b then 0 < ar a y x else 0 < ar y b x
/-- of two left places, as near: y is taken -/
def T (a b x y : P) : Prop := (lt (mx a b) x ∧ lt y x) ∨ (¬ lt (mx a b) x ∧ ¬ lt (mx a b) y ∧ ang a b x y)
theorem ar_ab (a b : P) : ar a b a = 0 := by unfold ar ac; grind
theorem ar_bb (a b : P) : ar a b b = 0 := by unfold ar ac; grind
theorem ar_aa (a b : P) : ar a a b = 0 := by unfold ar ac; grind
theorem left_ne {a b x : P} (h : 0 < ar a b x) : a ≠ b ∧ x ≠ a ∧ x ≠ b := by
  refine ⟨?_, ?_, ?_⟩
  · rintro rfl; rw [ar_aa] at h; omega
  · rintro rfl; rw [ar_ab] at h; omega
  · rintro rfl; rw [ar_bb] at h; omega
theorem tieC_T {a b x y : P} (hx : 0 < ar a b x) (hy : 0 < ar a b y) (hxy : x ≠ y) : tieC a b x y ↔ T a b x y := by
  obtain ⟨nab, nxa, nxb⟩ := left_ne hx
  obtain ⟨_, nya, nyb⟩ := left_ne hy
  unfold tieC T gt3 mx ang
  rcases lt_tot nab with hab | hab
  · have hn := lt_as hab
    simp only [hab, if_true]
    by_cases h1 : lt x y
    · have h1n := lt_as h1
      by_cases h2 : lt b y
      · have := lt_tr hab h2
        simp_all
      · have h2' := (lt_tot nyb.symm).resolve_left h2
        have : lt x b := lt_tr h1 h2'
        have := lt_as this
        simp_all
    · have h1' := (lt_tot hxy).resolve_left h1
      by_cases h2 : lt b x
      · have := lt_tr hab h2
        have := lt_as h2
        simp_all
      · have h2' := (lt_tot nxb.symm).resolve_left h2
        have h3 : lt y b := lt_tr h1' h2'
        have := lt_as h3
        simp_all
  · have hn := lt_as hab
    simp only [hn, if_false]
    by_cases h1 : lt x y
    · have h1n := lt_as h1
      by_cases h2 : lt a y
      · have := lt_tr hab h2
        simp_all
      · have h2' := (lt_tot nya.symm).resolve_left h2
        have h3 : lt x a := lt_tr h1 h2'
        have := lt_as h3
        have h4 : ¬ lt b x ∨ lt b x := (Classical.em _).symm
        simp_all
    · have h1' := (lt_tot hxy).resolve_left h1
      by_cases h2 : lt a x
      · have := lt_tr hab h2
        have := lt_as h2
        simp_all
      · have h2' := (lt_tot nxa.symm).resolve_left h2
        have h3 : lt y a := lt_tr h1' h2'
        have := lt_as h3
        simp_all
/-- beaten: of two left places -/
def B (a b x y : P) : Prop := x ≠ y ∧ (0 < inc a b x y ∨ inc a b x y = 0 ∧ T a b x y)
theorem Cf_B {a b x y : P} (hx : 0 < ar a b x) (hy : 0 < ar a b y) : Cf a b x y ↔ B a b x y := by
  obtain ⟨_, nya, nyb⟩ := left_ne hy
  unfold Cf B
  constructor
  · rintro ⟨_, _, _, h, h2⟩
    exact ⟨fun e => h e.symm, h2.imp_right fun h3 => ⟨h3.1, (tieC_T hx hy (fun e => h e.symm)).1 h3.2⟩⟩
  · rintro ⟨h, h2⟩
    exact ⟨hx, nya, nyb, fun e => h e.symm, h2.imp_right fun h3 => ⟨h3.1, (tieC_T hx hy h).2 h3.2⟩⟩
theorem T_tr {a b x y z : P} (hx : 0 < ar a b x) (hy : 0 < ar a b y) (hz : 0 < ar a b z) (h1 : T a b x y) (h2 : T a b y z) : T a b x z := by
  have A1 : 0 < ar a y x → 0 < ar a z y → 0 < ar a z x := by
    intro h3 h4
    have e := ang1 a b x y z
    have := Int.mul_pos h4 hx
    have := Int.mul_pos h3 hz
    have : 0 < ar a z x * ar a b y := by omega
    exact pos_l this hy
  have A2 : 0 < ar y b x → 0 < ar z b y → 0 < ar z b x := by
    intro h3 h4
    have e := ang2 a b x y z
    have := Int.mul_pos h4 hx
    have := Int.mul_pos h3 hz
    have : 0 < ar z b x * ar a b y := by omega
    exact pos_l this hy
  have A : ang a b x y → ang a b y z → ang a b x z := by
    unfold ang
    split
    · exact A1
    · exact A2
  have nz : z ≠ mx a b := by
    obtain ⟨_, n1, n2⟩ := left_ne hz
    unfold mx; split <;> assumption
  unfold T at *
  rcases h1 with ⟨h1, h3⟩ | ⟨h1, h3, h4⟩
  · rcases h2 with ⟨h5, h6⟩ | ⟨h5, h6, h7⟩
    · exact .inl ⟨h1, lt_tr h6 h3⟩
    · exact .inl ⟨h1, lt_tr ((lt_tot nz).resolve_right h6) h1⟩
  · rcases h2 with ⟨h5, h6⟩ | ⟨h5, h6, h7⟩
    · exact absurd h5 h3
    · exact .inr ⟨h1, h6, A h4 h7⟩
theorem T_as {a b x y : P} (h : T a b x y) : ¬ T a b y x := by
  intro h2
  unfold T ang at *
  rcases h with ⟨h1, h3⟩ | ⟨h1, h3, h4⟩
  · rcases h2 with ⟨h5, h6⟩ | ⟨h5, h6, h7⟩
    · exact lt_as h3 h6
    · exact h6 h1
  · rcases h2 with ⟨h5, h6⟩ | ⟨h5, h6, h7⟩
    · exact h3 h5
    · split at h4
      · rename_i h8; rw [if_pos h8, ar_anti1] at h7; omega
      · rename_i h8; rw [if_neg h8, ar_anti2] at h7; omega
theorem T_tot {a b x y : P} (hx : 0 < ar a b x) (hy : 0 < ar a b y) (hi : inc a b x y = 0) (h : x ≠ y) : T a b x y ∨ T a b y x := by
  obtain ⟨nab, nxa, nxb⟩ := left_ne hx
  obtain ⟨_, nya, nyb⟩ := left_ne hy
  have nx : x ≠ mx a b := by unfold mx; split <;> assumption
  have ny : y ≠ mx a b := by unfold mx; split <;> assumption
  by_cases h1 : lt (mx a b) x
  · by_cases h2 : lt y x
    · exact .inl (.inl ⟨h1, h2⟩)
    · have h3 := (lt_tot h).resolve_right h2
      exact .inr (.inl ⟨lt_tr h1 h3, h3⟩)
  · by_cases h2 : lt (mx a b) y
    · have h3 := (lt_tot nx).resolve_right h1
      exact .inr (.inl ⟨h2, lt_tr h3 h2⟩)
    · have A : ang a b x y ∨ ang a b y x := by
        unfold ang
        split
        · have h4 : ar a x y ≠ 0 := fun e => h (same_a hx hy hi e)
          have h5 := ar_anti1 a x y
          omega
        · have h4 : ar x b y ≠ 0 := fun e => h (same_b hx hy hi e)
          have h5 := ar_anti2 b x y
          omega
      exact A.imp (fun h => .inr ⟨h1, h2, h⟩) (fun h => .inr ⟨h2, h1, h⟩)
theorem B_as {a b x y : P} (h : B a b x y) : ¬ B a b y x := by
  rintro ⟨_, h2⟩
  obtain ⟨_, h1⟩ := h
  have e := inc_anti a b x y
  rcases h1 with h1 | ⟨h1, h3⟩
  · rcases h2 with h2 | ⟨h2, h4⟩ <;> omega
  · rcases h2 with h2 | ⟨h2, h4⟩
    · omega
    · exact T_as h3 h4
theorem B_tot {a b x y : P} (hx : 0 < ar a b x) (hy : 0 < ar a b y) (h : x ≠ y) : B a b x y ∨ B a b y x := by
  have e := inc_anti a b x y
  by_cases h0 : inc a b x y = 0
  · rcases T_tot hx hy h0 h with h1 | h1
    · exact .inl ⟨h, .inr ⟨h0, h1⟩⟩
    · exact .inr ⟨h.symm, .inr ⟨by omega, h1⟩⟩
  · by_cases h1 : 0 < inc a b x y
    · exact .inl ⟨h, .inl h1⟩
    · exact .inr ⟨h.symm, .inl (by omega)⟩
theorem B_tr {a b x y z : P} (hx : 0 < ar a b x) (hy : 0 < ar a b y) (hz : 0 < ar a b z) (h1 : B a b x y) (h2 : B a b y z) : B a b x z := by
  have hxz : x ≠ z := by rintro rfl; exact B_as h1 h2
  refine ⟨hxz, ?_⟩
  obtain ⟨_, h1⟩ := h1
  obtain ⟨_, h2⟩ := h2
  have e := plu a b x y z
  have p1 : 0 < inc a b x y → 0 < inc a b x y * ar a b z := fun h => Int.mul_pos h hz
  have p2 : 0 < inc a b y z → 0 < inc a b y z * ar a b x := fun h => Int.mul_pos h hx
  have z1 : inc a b x y = 0 → inc a b x y * ar a b z = 0 := fun h => by rw [h, Int.zero_mul]
  have z2 : inc a b y z = 0 → inc a b y z * ar a b x = 0 := fun h => by rw [h, Int.zero_mul]
  have q : 0 < inc a b x z * ar a b y → 0 < inc a b x z := fun h => pos_l h hy
  rcases h1 with h1 | ⟨h1, h3⟩
  · rcases h2 with h2 | ⟨h2, h4⟩
    · have := p1 h1; have := p2 h2; exact .inl (q (by omega))
    · have := p1 h1; have := z2 h2; exact .inl (q (by omega))
  · rcases h2 with h2 | ⟨h2, h4⟩
    · have := z1 h1; have := p2 h2; exact .inl (q (by omega))
    · have := z1 h1; have := z2 h2
      refine .inr ⟨?_, T_tr hx hy hz h3 h4⟩
      have h5 : inc a b x z * ar a b y = 0 := by omega
      rcases Int.mul_eq_zero.1 h5 with h6 | h6
      · exact h6
      · omega
/-! the best one -/
def inP (a : Int) : Prop := -1099511627776 ≤ a ∧ a ≤ 1099511627776
instance (a : Int) : Decidable (inP a) := inferInstanceAs (Decidable (_ ∧ _))
def can (p : P) : Prop := inP p.1 ∧ inP p.2
instance (p : P) : Decidable (can p) := inferInstanceAs (Decidable (_ ∧ _))
/-- c can be, and lies to the left of the way from a to b -/
def Lf (a b c : P) : Prop := (can a ∧ can b ∧ can c) ∧ 0 < ar a b c
instance (a b c : P) : Decidable (Lf a b c) := inferInstanceAs (Decidable (_ ∧ _))
/-- so far (of n places) r is the best one's place -/
def IsB (a b : P) (l : List P) (n : Nat) (r : Int) : Prop :=
  (r = -1 ∧ ∀ k (hk : k < l.length), k < n → ¬ Lf a b l[k]) ∨
  (∃ i, ∃ hi : i < l.length, i < n ∧ r = (i : Int) ∧ Lf a b l[i] ∧ (∀ k (hk : k < l.length), k < n → Lf a b l[k] → ¬ Cf a b l[i] l[k]) ∧ ∀ k (hk : k < l.length), k < i → Lf a b l[k] → ∃ j, ∃ hj : j < l.length, j < n ∧ Lf a b l[j] ∧ Cf a b l[k] l[j])
theorem isB_zero (a b : P) (l : List P) : IsB a b l 0 (-1) := .inl ⟨rfl, fun k _ h => absurd h (Nat.not_lt_zero k)⟩
theorem cf_irr {a b x : P} : ¬ Cf a b x x := fun h => h.2.2.2.1 rfl
theorem isB_skip {a b : P} {l : List P} {n : Nat} {r : Int} (h : IsB a b l n r) (hn : n < l.length) (hl : ¬ Lf a b l[n]) : IsB a b l (n + 1) r := by
  have key : ∀ k (hk : k < l.length), k < n + 1 → Lf a b l[k] → k < n := by
    intro k hk h1 h2
    rcases Nat.lt_or_ge k n with h3 | h3
    · exact h3
    · have : k = n := by omega
      subst this; exact absurd h2 hl
  rcases h with ⟨rfl, h⟩ | ⟨i, hi, h1, rfl, h2, h3, h4⟩
  · exact .inl ⟨rfl, fun k hk h1 h2 => h k hk (key k hk h1 h2) h2⟩
  · exact .inr ⟨i, hi, by omega, rfl, h2, fun k hk h5 h6 => h3 k hk (key k hk h5 h6) h6, fun k hk h5 h6 => by
      obtain ⟨j, hj, h7, h8⟩ := h4 k hk h5 h6
      exact ⟨j, hj, by omega, h8⟩⟩
theorem isB_first {a b : P} {l : List P} {n : Nat} (h : IsB a b l n (-1)) (hn : n < l.length) (hl : Lf a b l[n]) : IsB a b l (n + 1) n := by
  rcases h with ⟨_, h⟩ | ⟨i, hi, h1, h2, _⟩
  · refine .inr ⟨n, hn, by omega, rfl, hl, fun k hk h1 h2 => ?_, fun k hk h1 h2 => absurd h2 (h k hk h1)⟩
    rcases Nat.lt_or_ge k n with h3 | h3
    · exact absurd h2 (h k hk h3)
    · have : k = n := by omega
      subst this; exact cf_irr
  · omega
theorem isB_take {a b : P} {l : List P} {n i : Nat} (h : IsB a b l n i) (hi : i < l.length) (hn : n < l.length) (hl : Lf a b l[n]) (hc : Cf a b l[i] l[n]) : IsB a b l (n + 1) n := by
  rcases h with ⟨h, _⟩ | ⟨i', hi', h1, h2, h3, h4, h5⟩
  · omega
  · obtain rfl : i = i' := by omega
    have hb := (Cf_B h3.2 hl.2).1 hc
    refine .inr ⟨n, hn, by omega, rfl, hl, fun k hk h6 h7 h8 => ?_, fun k hk h6 h7 => ?_⟩
    · rcases Nat.lt_or_ge k n with h9 | h9
      · exact h4 k hk h9 h7 ((Cf_B h3.2 h7.2).2 (B_tr h3.2 hl.2 h7.2 hb ((Cf_B hl.2 h7.2).1 h8)))
      · have : k = n := by omega
        subst this; exact cf_irr h8
    · refine ⟨n, hn, by omega, hl, ?_⟩
      by_cases he : l[k] = l[i]
      · rw [he]; exact hc
      · have h9 := h4 k hk h6 h7
        rcases B_tot h3.2 h7.2 (fun e => he e.symm) with h10 | h10
        · exact absurd ((Cf_B h3.2 h7.2).2 h10) h9
        · exact (Cf_B h7.2 hl.2).2 (B_tr h7.2 h3.2 hl.2 h10 hb)
theorem isB_keep {a b : P} {l : List P} {n i : Nat} (h : IsB a b l n i) (hi : i < l.length) (hn : n < l.length) (hc : ¬ Cf a b l[i] l[n]) : IsB a b l (n + 1) i := by
  rcases h with ⟨h, _⟩ | ⟨i', hi', h1, h2, h3, h4, h5⟩
  · omega
  · obtain rfl : i = i' := by omega
    refine .inr ⟨i, hi, by omega, rfl, h3, fun k hk h6 h7 => ?_, fun k hk h6 h7 => ?_⟩
    · rcases Nat.lt_or_ge k n with h9 | h9
      · exact h4 k hk h9 h7
      · have : k = n := by omega
        subst this; exact hc
    · obtain ⟨j, hj, h8, h9⟩ := h5 k hk h6 h7
      exact ⟨j, hj, by omega, h9⟩
/-- There is a best one, or none. -/
theorem isB_ex (a b : P) (l : List P) : ∀ n, n ≤ l.length → ∃ r, IsB a b l n r
  | 0, _ => ⟨_, isB_zero a b l⟩
  | n + 1, hn => by
    obtain ⟨r, h⟩ := isB_ex a b l n (by omega)
    by_cases hl : Lf a b l[n]
    · rcases h with ⟨rfl, h⟩ | ⟨i, hi, h1, rfl, h2⟩
      · exact ⟨_, isB_first (.inl ⟨rfl, h⟩) (by omega) hl⟩
      · have h3 : IsB a b l n i := .inr ⟨i, hi, h1, rfl, h2⟩
        by_cases hc : Cf a b l[i] l[n]
        · exact ⟨_, isB_take h3 hi (by omega) hl hc⟩
        · exact ⟨_, isB_keep h3 hi (by omega) hc⟩
    · exact ⟨_, isB_skip h (by omega) hl⟩
theorem isB_un {a b : P} {l : List P} {r s : Int} (h : IsB a b l l.length r) (h2 : IsB a b l l.length s) : r = s := by
  rcases h with ⟨rfl, h⟩ | ⟨i, hi, h1, rfl, h3, h4, h5⟩
  · rcases h2 with ⟨rfl, h2⟩ | ⟨k, hk, k1, rfl, k3, k4, k5⟩
    · rfl
    · exact absurd k3 (h k hk k1)
  · rcases h2 with ⟨rfl, h2⟩ | ⟨k, hk, k1, rfl, k3, k4, k5⟩
    · exact absurd h3 (h2 i hi h1)
    · rcases Nat.lt_trichotomy i k with h6 | h6 | h6
      · obtain ⟨j, hj, h7, h8, h9⟩ := k5 i hi h6 h3
        exact absurd h9 (h4 j hj h7 h8)
      · rw [h6]
      · obtain ⟨j, hj, h7, h8, h9⟩ := h5 k hk h6 k3
        exact absurd h9 (k4 j hj h7 h8)
/-- The place of the best one; below nought: there is none. -/
noncomputable def best (a b : P) (l : List P) : Int := (isB_ex a b l l.length (Nat.le_refl _)).choose
theorem best_is (a b : P) (l : List P) : IsB a b l l.length (best a b l) := (isB_ex a b l l.length (Nat.le_refl _)).choose_spec
theorem best_un {a b : P} {l : List P} {r : Int} (h : IsB a b l l.length r) : best a b l = r := isB_un (best_is a b l) h
/-- The document's: each place ahead is done away with, this one is not. -/
theorem best_of {a b : P} {l : List P} {i : Nat} (hi : i < l.length) (h1 : Lf a b l[i]) (h2 : ∀ k (hk : k < l.length), Lf a b l[k] → ¬ Cf a b l[i] l[k]) (h3 : ∀ k (hk : k < l.length), k < i → Lf a b l[k] → ∃ j, ∃ hj : j < l.length, Lf a b l[j] ∧ Cf a b l[k] l[j]) : best a b l = i :=
  best_un (.inr ⟨i, hi, hi, rfl, h1, fun k hk _ => h2 k hk, fun k hk h4 h5 => by obtain ⟨j, hj, h6⟩ := h3 k hk h4 h5; exact ⟨j, hj, hj, h6⟩⟩)
theorem best_none {a b : P} {l : List P} (h : ∀ k (hk : k < l.length), Lf a b l[k] → ∃ j, ∃ hj : j < l.length, Lf a b l[j] ∧ Cf a b l[k] l[j]) : best a b l = -1 := by
  rcases best_is a b l with ⟨h1, _⟩ | ⟨i, hi, h1, h2, h3, h4, _⟩
  · exact h1
  · obtain ⟨j, hj, h5, h6⟩ := h i hi h3
    exact absurd h6 (h4 j hj hj h5)
theorem best_lt (a b : P) (l : List P) : best a b l = -1 ∨ ∃ i, i < l.length ∧ best a b l = (i : Int) := by
  rcases best_is a b l with ⟨h1, _⟩ | ⟨i, hi, h1, h2, _⟩
  · exact .inl h1
  · exact .inr ⟨i, hi, h2⟩
/-! how a hole is filled -/
abbrev Tr := Nat × Nat × Nat
def pt (l : List P) (i : Nat) : P := l.getD i (0, 0)
/-- The best of the corners behind the first two. -/
noncomputable def pick (l : List P) (p : List Nat) : Int := best (pt l (p.getD 0 0)) (pt l (p.getD 1 0)) ((p.drop 2).map (pt l))
noncomputable def fills (l : List P) : Nat → List Nat → Option (List Tr)
  | 0, _ => none
  | f + 1, p =>
    if p.length < 3 then some [] else
    let c := pick l p
    if c < 0 then none else
    match fills l f ((p.drop 1).take (c.toNat + 2)) with
    | none => none
    | some x => match fills l f (p.drop (c.toNat + 2) ++ [p.getD 0 0]) with
      | none => none
      | some y => some ((p.getD 0 0, p.getD 1 0, p.getD (c.toNat + 2) 0) :: (x ++ y))
theorem pick_lt (l : List P) (p : List Nat) : pick l p = -1 ∨ ∃ i, i + 2 < p.length ∧ pick l p = (i : Int) := by
  rcases best_lt (pt l (p.getD 0 0)) (pt l (p.getD 1 0)) ((p.drop 2).map (pt l)) with h | ⟨i, hi, h⟩
  · exact .inl h
  · refine .inr ⟨i, ?_, h⟩
    rw [List.length_map, List.length_drop] at hi; omega
theorem fills_more (l : List P) : ∀ (f : Nat) (p : List Nat), p.length < f → fills l (f + 1) p = fills l f p
  | 0, _, h => absurd h (Nat.not_lt_zero _)
  | f + 1, p, h => by
    rw [fills, fills]
    split
    · rfl
    · rcases pick_lt l p with h1 | ⟨i, hi, h1⟩
      · simp [h1]
      · simp only [h1, Int.toNat_natCast]
        rw [fills_more l f ((p.drop 1).take (i + 2)) (by simp; omega), fills_more l f (p.drop (i + 2) ++ [p.getD 0 0]) (by simp; omega)]
noncomputable def fl (l : List P) (p : List Nat) : Option (List Tr) := fills l (p.length + 1) p
theorem fills_fl (l : List P) (p : List Nat) : ∀ d, fills l (p.length + 1 + d) p = fl l p
  | 0 => rfl
  | d + 1 => by rw [← Nat.add_assoc, fills_more l _ p (by omega), fills_fl l p d]
theorem fl_small {l : List P} {p : List Nat} (h : p.length < 3) : fl l p = some [] := by
  unfold fl; rw [fills, if_pos h]
theorem fl_none {l : List P} {p : List Nat} (h : ¬ p.length < 3) (h1 : pick l p = -1) : fl l p = none := by
  unfold fl; rw [fills, if_neg h]; simp [h1]
theorem fl_some {l : List P} {p : List Nat} {i : Nat} (h : ¬ p.length < 3) (h1 : pick l p = (i : Int)) : fl l p = match fl l ((p.drop 1).take (i + 2)) with
    | none => none
    | some x => match fl l (p.drop (i + 2) ++ [p.getD 0 0]) with
      | none => none
      | some y => some ((p.getD 0 0, p.getD 1 0, p.getD (i + 2) 0) :: (x ++ y)) := by
  have hi : i + 2 < p.length := by
    rcases pick_lt l p with h2 | ⟨j, hj, h2⟩ <;> omega
  have e1 := fills_fl l ((p.drop 1).take (i + 2)) (p.length - (i + 3))
  have e2 := fills_fl l (p.drop (i + 2) ++ [p.getD 0 0]) i
  rw [show ((p.drop 1).take (i + 2)).length + 1 + (p.length - (i + 3)) = p.length from by simp; omega] at e1
  rw [show (p.drop (i + 2) ++ [p.getD 0 0]).length + 1 + i = p.length from by simp; omega] at e2
  rw [← e1, ← e2]
  unfold fl
  rw [fills, if_neg h]
  simp only [h1, Int.toNat_natCast]
  rw [if_neg (by omega)]
/-- Lists that wait, the one that is taken first ahead. -/
noncomputable def runs (l : List P) : List (List Nat) → Option (List Tr)
  | [] => some []
  | p :: ps => match fl l p with
    | none => none
    | some x => match runs l ps with
      | none => none
      | some y => some (x ++ y)
theorem runs_small {l : List P} {p : List Nat} {ps : List (List Nat)} (h : p.length < 3) : runs l (p :: ps) = runs l ps := by
  rw [runs, fl_small h]; simp only [List.nil_append]; split <;> simp_all
theorem runs_none {l : List P} {p : List Nat} {ps : List (List Nat)} (h : ¬ p.length < 3) (h1 : pick l p = -1) : runs l (p :: ps) = none := by
  rw [runs, fl_none h h1]
theorem runs_some {l : List P} {p : List Nat} {ps : List (List Nat)} {i : Nat} (h : ¬ p.length < 3) (h1 : pick l p = (i : Int)) : runs l (p :: ps) = (runs l ((p.drop 1).take (i + 2) :: (p.drop (i + 2) ++ [p.getD 0 0]) :: ps)).map ((p.getD 0 0, p.getD 1 0, p.getD (i + 2) 0) :: ·) := by
  rw [runs, fl_some h h1, runs, runs]
  cases fl l ((p.drop 1).take (i + 2)) with
  | none => rfl
  | some x => cases fl l (p.drop (i + 2) ++ [p.getD 0 0]) with
    | none => rfl
    | some y => cases runs l ps with
      | none => rfl
      | some z => simp
theorem fills_len (l : List P) : ∀ (f : Nat) (p : List Nat) (o : List Tr), 2 ≤ p.length → fills l f p = some o → o.length = p.length - 2
  | 0, _, _, _, h => by simp [fills] at h
  | f + 1, p, o, hp, h => by
    rw [fills] at h
    split at h
    · simp at h; subst h; simp; omega
    · rcases pick_lt l p with h1 | ⟨i, hi, h1⟩
      · simp [h1] at h
      · simp only [h1] at h
        rw [if_neg (by omega)] at h
        split at h
        · cases h
        · rename_i x hx
          split at h
          · cases h
          · rename_i y hy
            simp only [Option.some.injEq] at h
            subst h
            rw [Int.toNat_natCast] at hx hy
            have h2 := fills_len l f _ x (by simp; omega) hx
            have h3 := fills_len l f _ y (by simp; omega) hy
            simp at h2 h3 ⊢
            omega
end Go.Proofs.Ytngmkjgklonfmaa.Hf


/- What is used of HfC. -/
set_option linter.unusedSimpArgs false
namespace Go.Proofs.Ytngmkjgklonfmaa.Wd
open Go.RowKit Go.Proofs.ZFr Go.Proofs.Ytngmkjgklonfmaa.PNearNearest Go.Proofs.Ytngmkjgklonfmaa.Big Go.Proofs.YtngmkjgklonfmaaW.PrintWords
def beq2 (x0 x1 y0 y1 : Int) : Bool := x0 == y0 && (x1 == y1)
theorem eqB24 (d : Nat) (w : World) (x0 y0 x1 y1 : Int) :
    (Op.equalIn (d + 2) 24 (.agg #[.int .i64 x0, .int .i64 x1]) (.agg #[.int .i64 y0, .int .i64 y1])).run Try.prog w = .ok (beq2 x0 x1 y0 y1) w := eqA24 d w x0 y0 x1 y1
attribute [local go_sem high] eqB24
def cmpI (a1 a2 b1 b2 : Int) : Int := if a1 < b1 then -1 else if a1 > b1 then 1 else if a2 < b2 then -1 else if a2 > b2 then 1 else 0
theorem comp_f (a b : Int) : PHoleLong.cmp_Compare_int64.f a b = some (if a < b then -1 else if a > b then 1 else 0) := by
  unfold PHoleLong.cmp_Compare_int64.f PHoleLong.cmp_isNaN_int64.f
  simp only [Option.bind_some, bne_self_eq_false, Bool.false_eq_true, if_false]
  split
  · rfl
  · split <;> rfl
theorem or_f (k : Nat) (a b : Int) : PHoleLong.cmp_Or_int.f (k + 3) [a, b] = some (if a = 0 then b else a) := by
  unfold PHoleLong.cmp_Or_int.f
  have w1 : wrap64 (0 + 1) = 1 := w64 (n := 1) (by decide) (by decide)
  have w2 : wrap64 (1 + 1) = 2 := w64 (n := 2) (by decide) (by decide)
  rw [PHoleLong.cmp_Or_int.l0, if_pos (by simp), if_pos (by decide), if_pos (by simp), show rd [a, b] 0 = a from rfl]
  by_cases ha : a = 0
  · rw [if_pos ha, w1, PHoleLong.cmp_Or_int.l0, if_pos (by simp), if_pos (by decide), if_pos (by simp), show rd [a, b] 1 = b from rfl, if_pos ha]
    by_cases hb : b = 0
    · rw [if_pos hb, w2, PHoleLong.cmp_Or_int.l0, if_neg (by simp), hb]
    · rw [if_neg hb]
  · rw [if_neg ha, if_neg ha]
theorem lcmp_f (k : Nat) (a1 a2 b1 b2 : Int) : PHoleLong.lift_Cmp.f (k + 3) a1 a2 b1 b2 = some (cmpI a1 a2 b1 b2) := by
  unfold PHoleLong.lift_Cmp.f
  rw [comp_f, comp_f, Option.bind_some, Option.bind_some, or_f, Option.bind_some]
  unfold cmpI
  split
  · simp
  · split
    · simp
    · simp only [if_true]
/-- The place of the last of four. -/
def lastI (a b c d : Hf.P) : Int :=
  let x := if Hf.lt a b then 1 else 0
  let y := if Hf.lt (if Hf.lt a b then b else a) c then 2 else x
  if Hf.lt (if Hf.lt (if Hf.lt a b then b else a) c then c else (if Hf.lt a b then b else a)) d then 3 else y
theorem cmp_pos (a b : Hf.P) : cmpI a.1 a.2 b.1 b.2 > 0 ↔ Hf.lt b a := by
  unfold cmpI Hf.lt; split <;> (try split) <;> (try split) <;> (try split) <;> omega
theorem last_step (L : List PHoleLong.S24) (k : Nat) (x7 x3 n : Int) (p q : Hf.P) (h0 : 0 ≤ x7) (h7 : x7 < n) (h3 : 0 ≤ x3) (h30 : x3 < n) (hn : n = L.length) (hs : n < 10) (hp : PHoleLong.rd_T24 L x7 = ⟨p.1, p.2⟩) (hq : PHoleLong.rd_T24 L x3 = ⟨q.1, q.2⟩) : PHoleLong.tie_last.l0 (k + 4) L x3 n x7 = if Hf.lt q p then PHoleLong.tie_last.l0 (k + 3) L x7 n (x7 + 1) else PHoleLong.tie_last.l0 (k + 3) L x3 n (x7 + 1) := by
  have hw : wrap64 (x7 + 1) = x7 + 1 := by unfold wrap64; omega
  rw [PHoleLong.tie_last.l0, if_pos h7, if_pos h0, if_pos (by omega), if_pos h3, if_pos (by omega), hp, hq, hw]
  rw [show k + 3 = k + 0 + 3 from rfl, lcmp_f, Option.bind_some]
  by_cases h : Hf.lt q p
  · rw [if_pos ((cmp_pos p q).2 h), if_pos h]
  · rw [if_neg (fun h2 => h ((cmp_pos p q).1 h2)), if_neg h]
theorem last4_f (a b c d : Hf.P) : PHoleLong.tie_last.f 40 [⟨a.1, a.2⟩, ⟨b.1, b.2⟩, ⟨c.1, c.2⟩, ⟨d.1, d.2⟩] = some (lastI a b c d) := by
  unfold PHoleLong.tie_last.f
  have e := @last_step [⟨a.1, a.2⟩, ⟨b.1, b.2⟩, ⟨c.1, c.2⟩, ⟨d.1, d.2⟩]
  have r0 : PHoleLong.rd_T24 [⟨a.1, a.2⟩, ⟨b.1, b.2⟩, ⟨c.1, c.2⟩, ⟨d.1, d.2⟩] 0 = ⟨a.1, a.2⟩ := rfl
  have r1 : PHoleLong.rd_T24 [⟨a.1, a.2⟩, ⟨b.1, b.2⟩, ⟨c.1, c.2⟩, ⟨d.1, d.2⟩] 1 = ⟨b.1, b.2⟩ := rfl
  have r2 : PHoleLong.rd_T24 [⟨a.1, a.2⟩, ⟨b.1, b.2⟩, ⟨c.1, c.2⟩, ⟨d.1, d.2⟩] 2 = ⟨c.1, c.2⟩ := rfl
  have r3 : PHoleLong.rd_T24 [⟨a.1, a.2⟩, ⟨b.1, b.2⟩, ⟨c.1, c.2⟩, ⟨d.1, d.2⟩] 3 = ⟨d.1, d.2⟩ := rfl
  have irr : ¬ Hf.lt a a := Hf.lt_irr a
  have fin : ∀ (k : Nat) (x : Int), PHoleLong.tie_last.l0 (k + 1) [⟨a.1, a.2⟩, ⟨b.1, b.2⟩, ⟨c.1, c.2⟩, ⟨d.1, d.2⟩] x 4 (3 + 1) = some x := fun k x => by
    rw [PHoleLong.tie_last.l0, if_neg (by omega)]
  show PHoleLong.tie_last.l0 40 _ 0 4 0 = _
  rw [e 36 0 0 4 a a (by omega) (by omega) (by omega) (by omega) rfl (by omega) r0 r0, if_neg irr]
  rw [show (0 : Int) + 1 = 1 from rfl, e 35 1 0 4 b a (by omega) (by omega) (by omega) (by omega) rfl (by omega) r1 r0]
  rw [show (1 : Int) + 1 = 2 from rfl, e 34 2 1 4 c b (by omega) (by omega) (by omega) (by omega) rfl (by omega) r2 r1, e 34 2 0 4 c a (by omega) (by omega) (by omega) (by omega) rfl (by omega) r2 r0]
  rw [show (2 : Int) + 1 = 3 from rfl, e 33 3 0 4 d a (by omega) (by omega) (by omega) (by omega) rfl (by omega) r3 r0, e 33 3 1 4 d b (by omega) (by omega) (by omega) (by omega) rfl (by omega) r3 r1, e 33 3 2 4 d c (by omega) (by omega) (by omega) (by omega) rfl (by omega) r3 r2]
  simp only [fin]
  unfold lastI
  split <;> (try split) <;> (try split) <;> simp_all
/-- What the program's conflict tells, of what its calls tell. -/
def cfI (R : Int) (e1 e2 e3 : Bool) (K L R0 R1 R2 : Int) : Bool :=
  if R = 1 then if e1 then false else if e2 then false else if e3 then false else if K = 1 then true else if K = -1 then false else
    if L = 0 then decide (R0 = 1) else if L = 1 then decide (R1 = 1) else if L = 2 then decide (R2 = 1) else false
  else false
theorem sgn_one (n : Int) : sgn n = 1 ↔ 0 < n := by unfold sgn; split <;> (try split) <;> omega
theorem sgn_neg (n : Int) : sgn n = -1 ↔ n < 0 := by unfold sgn; split <;> (try split) <;> omega
theorem cfI_eq (a b c d : Hf.P) : cfI (ori a.1 a.2 b.1 b.2 c.1 c.2) (beq2 d.1 d.2 a.1 a.2) (beq2 d.1 d.2 b.1 b.2) (beq2 d.1 d.2 c.1 c.2) (sgn (icv (a.1 - d.1) (a.2 - d.2) (b.1 - d.1) (b.2 - d.2) (c.1 - d.1) (c.2 - d.2))) (lastI a b c d) (ori d.1 d.2 b.1 b.2 c.1 c.2) (ori a.1 a.2 d.1 d.2 c.1 c.2) (ori a.1 a.2 b.1 b.2 d.1 d.2) = decide (Hf.Cf a b c d) := by
  have hb : ∀ p q : Hf.P, beq2 p.1 p.2 q.1 q.2 = true ↔ p = q := fun p q => by
    unfold beq2; simp only [Bool.and_eq_true, beq_iff_eq, Prod.ext_iff]
  have hi : icv (a.1 - d.1) (a.2 - d.2) (b.1 - d.1) (b.2 - d.2) (c.1 - d.1) (c.2 - d.2) = Hf.inc a b c d := rfl
  have ho : ∀ p q r : Hf.P, ori p.1 p.2 q.1 q.2 r.1 r.2 = sgn (Hf.ar p q r) := fun p q r => rfl
  rw [hi, ho, ho, ho, ho]
  unfold cfI
  rw [Bool.eq_iff_iff]
  simp only [sgn_one, sgn_neg, hb, decide_eq_true_iff]
  unfold Hf.Cf
  by_cases h1 : 0 < Hf.ar a b c
  · obtain ⟨nab, nca, ncb⟩ := Hf.left_ne h1
    by_cases e1 : d = a
    · simp [h1, e1]
    · by_cases e2 : d = b
      · simp [h1, e1, e2]
      · by_cases e3 : d = c
        · simp [h1, e1, e2, e3]
        · rw [if_pos h1, if_neg e1, if_neg e2, if_neg e3]
          by_cases k1 : 0 < Hf.inc a b c d
          · simp [k1, h1, e1, e2, e3]
          · by_cases k2 : Hf.inc a b c d < 0
            · rw [if_neg k1, if_pos k2]
              have : ¬ Hf.inc a b c d = 0 := by omega
              simp [this, k1]
            · have k0 : Hf.inc a b c d = 0 := by omega
              rw [if_neg k1, if_neg k2]
              simp only [h1, true_and, k0, e1, e2, e3, ne_eq, not_false_eq_true, Int.lt_irrefl, false_or]
              unfold Hf.tieC Hf.gt3 lastI
              have t1 := Hf.lt_tot nab
              have t2 := Hf.lt_tot nca
              have t3 := Hf.lt_tot ncb
              have t4 := Hf.lt_tot e1
              have t5 := Hf.lt_tot e2
              have t6 := Hf.lt_tot e3
              have tr : ∀ p q r : Hf.P, Hf.lt p q → Hf.lt q r → Hf.lt p r := fun p q r h1 h2 => Hf.lt_tr h1 h2
              have asy : ∀ p q : Hf.P, Hf.lt p q → ¬ Hf.lt q p := fun p q h => Hf.lt_as h
              by_cases c1 : Hf.lt a b
              · have c1n   := asy _ _ c1
                simp only [c1, if_true]
                by_cases c2 : Hf.lt b c
                · have c2n   := asy _ _ c2
                  have c3 := tr _ _ _ c1 c2
                  have c3n   := asy _ _ c3
                  simp only [c2, if_true]
                  by_cases c4 : Hf.lt c d
                  · have := tr _ _ _ c2 c4
                    have := tr _ _ _ c3 c4
                    simp [*]
                  · have c5 := t6.resolve_right c4
                    simp [*]
                · have c2' := t3.resolve_right c2
                  simp only [c2, if_false]
                  by_cases c4 : Hf.lt b d
                  · have := tr _ _ _ c1 c4
                    have := tr _ _ _ c2' c4
                    simp [*]
                  · have c5 := t5.resolve_right c4
                    have   := asy _ _ c5
                    simp [*]
              · have c1' := t1.resolve_left c1
                simp only [c1, if_false]
                by_cases c2 : Hf.lt a c
                · have c3 := tr _ _ _ c1' c2
                  have c2n   := asy _ _ c2
                  simp only [c2, if_true]
                  by_cases c4 : Hf.lt c d
                  · have := tr _ _ _ c2 c4
                    have := tr _ _ _ c3 c4
                    simp [*]
                  · have c5 := t6.resolve_right c4
                    simp [*]
                · have c2' := t2.resolve_right c2
                  simp only [c2, if_false]
                  by_cases c4 : Hf.lt a d
                  · have := tr _ _ _ c1' c4
                    have := tr _ _ _ c2' c4
                    simp [*]
                  · have c5 := t4.resolve_right c4
                    have   := asy _ _ c5
                    have : ¬ Hf.lt b d ∨ Hf.lt b d := (Classical.em _).symm
                    simp [*]
  · simp [h1]
end Go.Proofs.Ytngmkjgklonfmaa.Wd


/- What is used of HfD. -/
namespace Go.Proofs.Ytngmkjgklonfmaa.Wd
open Go.RowKit Go.Proofs.ZFr Go.Proofs.Ytngmkjgklonfmaa.PNearNearest Go.Proofs.Ytngmkjgklonfmaa.Big Go.Proofs.YtngmkjgklonfmaaW.PrintWords
attribute [local go_sem high] eqB24
theorem last_c (a1 a2 b1 b2 c1 c2 d1 d2 L : Int) (x : Addr) (w2 : World) (h : Kd.C PHoleLong.k24 w2 (some x) 4 [⟨a1, a2⟩, ⟨b1, b2⟩, ⟨c1, c2⟩, ⟨d1, d2⟩]) (hL : PHoleLong.tie_last.f 40 [⟨a1, a2⟩, ⟨b1, b2⟩, ⟨c1, c2⟩, ⟨d1, d2⟩] = some L) : Calls Try.prog 143 #[.slice (some x) 4 4] w2 (fun e w' => e = .returned (.int .i64 L) ∧ Below w2.heap.size w2 w') := by
  have h1 := PHoleLong.tie_last.calls 40 (some x) 4 [⟨a1, a2⟩, ⟨b1, b2⟩, ⟨c1, c2⟩, ⟨d1, d2⟩] L w2
  generalize PHoleLong.tie_last.f 40 [⟨a1, a2⟩, ⟨b1, b2⟩, ⟨c1, c2⟩, ⟨d1, d2⟩] = q at h1 hL
  exact h1 h (Nat.le_refl 4) hL
set_option maxRecDepth 100000 in
set_option maxHeartbeats 8000000 in
theorem cf_walk (a1 a2 b1 b2 c1 c2 d1 d2 R K L R0 R1 R2 : Int) (e1 e2 e3 : Bool) (W : World)
    (hO : ∀ w, Calls Try.prog 124 #[pt a1 a2, pt b1 b2, pt c1 c2] w fun e w' => e = .returned (.int .i64 R) ∧ Fr (fun _ => False) w w')
    (hO0 : ∀ w, Calls Try.prog 124 #[pt d1 d2, pt b1 b2, pt c1 c2] w fun e w' => e = .returned (.int .i64 R0) ∧ Fr (fun _ => False) w w')
    (hO1 : ∀ w, Calls Try.prog 124 #[pt a1 a2, pt d1 d2, pt c1 c2] w fun e w' => e = .returned (.int .i64 R1) ∧ Fr (fun _ => False) w w')
    (hO2 : ∀ w, Calls Try.prog 124 #[pt a1 a2, pt b1 b2, pt d1 d2] w fun e w' => e = .returned (.int .i64 R2) ∧ Fr (fun _ => False) w w')
    (hI : ∀ w, Calls Try.prog 142 #[pt a1 a2, pt b1 b2, pt c1 c2, pt d1 d2] w fun e w' => e = .returned (.int .i64 K) ∧ Fr (fun _ => False) w w')
    (hL : PHoleLong.tie_last.f 40 [⟨a1, a2⟩, ⟨b1, b2⟩, ⟨c1, c2⟩, ⟨d1, d2⟩] = some L)
    (h1 : beq2 d1 d2 a1 a2 = e1) (h2 : beq2 d1 d2 b1 b2 = e2) (h3 : beq2 d1 d2 c1 c2 = e3) :
    Calls Try.prog 125 #[pt a1 a2, pt b1 b2, pt c1 c2, pt d1 d2] W fun e w' => e = .returned (.bool (cfI R e1 e2 e3 K L R0 R1 R2)) ∧ Fr (fun _ => False) W w' := by
  have LC := Lib.hid (fun w : World => last_c a1 a2 b1 b2 c1 c2 d1 d2 L ⟨w.heap.size, 0, none⟩ (w.alloc (Obj.cells #[.int .i64 a1, .int .i64 a2, .int .i64 b1, .int .i64 b2, .int .i64 c1, .int .i64 c2, .int .i64 d1, .int .i64 d2] 24)) (eight (heap_alloc_new w _)) hL)
  have O := Lib.hid hO
  have OA := Lib.hid hO0
  have OB := Lib.hid hO1
  have OC := Lib.hid hO2
  have IC := Lib.hid hI
  clear hO hO0 hO1 hO2 hI hL
  unfold pt at O OA OB OC IC ⊢
  have HQ := Lib.hid (quad4 W (pb a1 a2) (pb b1 b2) (pb c1 c2) (pb d1 d2))
  unfold pb at HQ
  have cases : (¬ R = 1 ∧ cfI R e1 e2 e3 K L R0 R1 R2 = false) ∨ (R = 1 ∧ e1 = true ∧ cfI R e1 e2 e3 K L R0 R1 R2 = false) ∨ (R = 1 ∧ e1 = false ∧ e2 = true ∧ cfI R e1 e2 e3 K L R0 R1 R2 = false) ∨ (R = 1 ∧ e1 = false ∧ e2 = false ∧ e3 = true ∧ cfI R e1 e2 e3 K L R0 R1 R2 = false) ∨ (R = 1 ∧ e1 = false ∧ e2 = false ∧ e3 = false ∧ K = 1 ∧ cfI R e1 e2 e3 K L R0 R1 R2 = true) ∨ (R = 1 ∧ e1 = false ∧ e2 = false ∧ e3 = false ∧ ¬ K = 1 ∧ K = -1 ∧ cfI R e1 e2 e3 K L R0 R1 R2 = false) ∨ (R = 1 ∧ e1 = false ∧ e2 = false ∧ e3 = false ∧ ¬ K = 1 ∧ ¬ K = -1 ∧ L = 0 ∧ cfI R e1 e2 e3 K L R0 R1 R2 = (R0 == 1)) ∨ (R = 1 ∧ e1 = false ∧ e2 = false ∧ e3 = false ∧ ¬ K = 1 ∧ ¬ K = -1 ∧ L = 1 ∧ cfI R e1 e2 e3 K L R0 R1 R2 = (R1 == 1)) ∨ (R = 1 ∧ e1 = false ∧ e2 = false ∧ e3 = false ∧ ¬ K = 1 ∧ ¬ K = -1 ∧ L = 2 ∧ cfI R e1 e2 e3 K L R0 R1 R2 = (R2 == 1)) ∨ (R = 1 ∧ e1 = false ∧ e2 = false ∧ e3 = false ∧ ¬ K = 1 ∧ ¬ K = -1 ∧ ¬ L = 0 ∧ ¬ L = 1 ∧ ¬ L = 2 ∧ cfI R e1 e2 e3 K L R0 R1 R2 = false) := by
    unfold cfI
    clear O OA OB OC IC LC HQ h1 h2 h3
    by_cases k0 : R = 1
    · cases e1
      · cases e2
        · cases e3
          · by_cases k1 : K = 1
            · simp [k0, k1]
            · by_cases k2 : K = -1
              · simp [k0, k2]
              · by_cases l0 : L = 0
                · simp [k0, k1, k2, l0]; rfl
                · by_cases l1 : L = 1
                  · simp [k0, k1, k2, l1]; rfl
                  · by_cases l2 : L = 2
                    · simp [k0, k1, k2, l2]; rfl
                    · simp [k0, k1, k2, l0, l1, l2]
          · simp [k0]
        · simp [k0]
      · simp [k0]
    · simp [k0]
  generalize cfI R e1 e2 e3 K L R0 R1 R2 = V at cases ⊢
  rcases cases with ⟨k0, rfl⟩ | ⟨rfl, rfl, rfl⟩ | ⟨rfl, rfl, rfl, rfl⟩ | ⟨rfl, rfl, rfl, rfl, rfl⟩ | ⟨rfl, rfl, rfl, rfl, rfl, rfl⟩ | ⟨rfl, rfl, rfl, rfl, k1, rfl, rfl⟩ | ⟨rfl, rfl, rfl, rfl, k1, k2, rfl, rfl⟩ | ⟨rfl, rfl, rfl, rfl, k1, k2, rfl, rfl⟩ | ⟨rfl, rfl, rfl, rfl, k1, k2, rfl, rfl⟩ | ⟨rfl, rfl, rfl, rfl, k1, k2, l0, l1, l2, rfl⟩
  all_goals
    go_enter Try.func125, Try.ntmps125
    go_wp2_with fail
    obtain ⟨w4, hw4, t1, t2, t3, t4, f4⟩ := HQ.out
    rw [hw4]
    have T1 := Lib.hid t1
    have T2 := Lib.hid t2
    have T3 := Lib.hid t3
    have T4 := Lib.hid t4
    have F4 := Lib.hid f4
    clear hw4 t1 t2 t3 t4 f4 HQ
    have PC := Lib.hid (fun w (h : Fr (fun _ => False) w4 w) => And.intro (point_cells (ZFr.blk_fr T1.out h (fun h => h))) (And.intro (point_cells (ZFr.blk_fr T2.out h (fun h => h))) (And.intro (point_cells (ZFr.blk_fr T3.out h (fun h => h))) (point_cells (ZFr.blk_fr T4.out h (fun h => h))))))
    obtain ⟨⟨p1, p2⟩, ⟨p3, p4⟩, ⟨p5, p6⟩, p7, p8⟩ := PC.out w4 (Fr.refl _ w4)
    go_wp2_with (first
      | (go_at_call 124; have hc_ := OC.out w7; (with_reducible refine hc_.mono ?_); clear hc_; rintro e w8 ⟨rfl, f8⟩; have EE := Lib.hid (E7.out.trans f8 (fun _ h _ => h)); clear f8)
      | (go_at_call 124; have hc_ := OB.out w7; (with_reducible refine hc_.mono ?_); clear hc_; rintro e w8 ⟨rfl, f8⟩; have EE := Lib.hid (E7.out.trans f8 (fun _ h _ => h)); clear f8)
      | (go_at_call 124; have hc_ := OA.out w7; (with_reducible refine hc_.mono ?_); clear hc_; rintro e w8 ⟨rfl, f8⟩; have EE := Lib.hid (E7.out.trans f8 (fun _ h _ => h)); clear f8)
      | (go_at_call 143; have hc_ := LC.out w6; (with_reducible refine hc_.mono ?_); clear hc_; rintro e w7 ⟨rfl, b7⟩; have E7 := Lib.hid ((E6.out.alloc (Obj.cells #[.int .i64 a1, .int .i64 a2, .int .i64 b1, .int .i64 b2, .int .i64 c1, .int .i64 c2, .int .i64 d1, .int .i64 d2] 24)).trans (Fr.of_below b7) (fun _ h _ => h)); obtain ⟨⟨p1, p2⟩, ⟨p3, p4⟩, ⟨p5, p6⟩, p7, p8⟩ := PC.out w7 E7.out; clear b7)
      | (go_at_call 142; have hc_ := IC.out w5; (with_reducible refine hc_.mono ?_); clear hc_; rintro e w6 ⟨rfl, f6⟩; have E6 := Lib.hid (E5.out.trans f6 (fun _ h _ => h)); obtain ⟨⟨p1, p2⟩, ⟨p3, p4⟩, ⟨p5, p6⟩, p7, p8⟩ := PC.out w6 E6.out; clear f6)
      | (go_at_call 124; have hc_ := O.out w4; (with_reducible refine hc_.mono ?_); clear hc_; rintro e w5 ⟨rfl, f5⟩; have E5 := Lib.hid f5; obtain ⟨⟨p1, p2⟩, ⟨p3, p4⟩, ⟨p5, p6⟩, p7, p8⟩ := PC.out w5 E5.out; clear f5))
    go_ret
    first
      | exact ⟨rfl, F4.out.trans EE.out (fun _ h _ => h)⟩
      | exact ⟨rfl, F4.out.trans E7.out (fun _ h _ => h)⟩
      | exact ⟨rfl, F4.out.trans E6.out (fun _ h _ => h)⟩
      | exact ⟨rfl, F4.out.trans E5.out (fun _ h _ => h)⟩
theorem conflict_c (a b c d : Hf.P) (ha : Hf.can a) (hb : Hf.can b) (hc : Hf.can c) (hd : Hf.can d) (W : World) : Calls Try.prog 125 #[pt a.1 a.2, pt b.1 b.2, pt c.1 c.2, pt d.1 d.2] W fun e w' => e = .returned (.bool (decide (Hf.Cf a b c d))) ∧ Fr (fun _ => False) W w' := by
  rw [← cfI_eq]
  exact cf_walk _ _ _ _ _ _ _ _ _ _ _ _ _ _ _ _ _ W
    (fun w => Orient_walk _ _ _ _ _ _ w ha.1 ha.2 hb.1 hb.2 hc.1 hc.2)
    (fun w => Orient_walk _ _ _ _ _ _ w hd.1 hd.2 hb.1 hb.2 hc.1 hc.2)
    (fun w => Orient_walk _ _ _ _ _ _ w ha.1 ha.2 hd.1 hd.2 hc.1 hc.2)
    (fun w => Orient_walk _ _ _ _ _ _ w ha.1 ha.2 hb.1 hb.2 hd.1 hd.2)
    (fun w => incircle_walk _ _ _ _ _ _ _ _ w ha.1 ha.2 hb.1 hb.2 hc.1 hc.2 hd.1 hd.2)
    (last4_f a b c d) rfl rfl rfl
end Go.Proofs.Ytngmkjgklonfmaa.Wd


/- What is used of HfE. -/
namespace Go.Proofs.Ytngmkjgklonfmaa.Wd
open Go.RowKit Go.Proofs.ZFr Go.Proofs.Ytngmkjgklonfmaa.PNearNearest Go.Proofs.Ytngmkjgklonfmaa.Big Go.Proofs.YtngmkjgklonfmaaW.PrintWords
attribute [local go_sem ↓] Go.wp_at_zero Go.wp_at_succ
theorem within_f (x : Int) : lift_within.f x = some (decide (inP x)) := by
  unfold lift_within.f
  by_cases h : inP x
  · rw [if_pos h.1, decide_eq_true h.2, decide_eq_true h]
  · rw [decide_eq_false h]
    split
    · rename_i h1; rw [decide_eq_false (fun h2 => h ⟨h1, h2⟩)]
    · rfl
theorem lcan_g (x y : Int) : lift_Can.f x y = some (decide (inP x ∧ inP y)) := by
  unfold lift_Can.f lift_can.f
  rw [within_f, Option.bind_some]
  by_cases h : inP x
  · rw [decide_eq_true h, if_pos rfl, within_f]; simp [h]
  · rw [decide_eq_false h, if_neg (by decide)]; simp [h]
theorem can_go_any (L : List S24) (hl : L.length ≤ 100) : ∀ (e i k : Nat), i + e = L.length → e < k → pred_can.l0 k L (L.length : Int) (i : Int) = some (decide (∀ p ∈ L.drop i, inP p.f0 ∧ inP p.f1))
  | 0, i, k, hi, hk => by
    obtain ⟨k, rfl⟩ : ∃ m, k = m + 1 := ⟨k - 1, by omega⟩
    rw [pred_can.l0, if_neg (by omega), List.drop_eq_nil_of_le (by omega)]; simp
  | e + 1, i, k, hi, hk => by
    obtain ⟨k, rfl⟩ : ∃ m, k = m + 1 := ⟨k - 1, by omega⟩
    have hil : i < L.length := by omega
    have hw : wrap64 ((i : Int) + 1) = ((i + 1 : Nat) : Int) := by unfold wrap64; omega
    have hr : rd_T24 L (i : Int) = L[i] := by unfold rd_T24; rw [Int.toNat_natCast, List.getD_eq_getElem?_getD, List.getElem?_eq_getElem hil]; rfl
    rw [pred_can.l0, if_pos (by omega), if_pos (by omega), if_pos (by omega), hr, lcan_g, Option.bind_some, hw, List.drop_eq_getElem_cons hil]
    by_cases h : inP L[i].f0 ∧ inP L[i].f1
    · rw [decide_eq_true h, if_pos rfl, can_go_any L hl e (i + 1) k (by omega) (by omega), Option.some_inj, decide_eq_decide, List.forall_mem_cons]
      exact ⟨fun h2 => ⟨h, h2⟩, fun h2 => h2.2⟩
    · rw [decide_eq_false h, if_neg (by decide), eq_comm, Option.some_inj]
      exact decide_eq_false (fun h2 => h (h2 L[i] (List.mem_cons_self ..)))
/-- Orient of any points: nought where one can't be. -/
def orA (a b c : Hf.P) : Int := if Hf.can a ∧ Hf.can b ∧ Hf.can c then sgn (Hf.ar a b c) else 0
theorem orA_one (a b c : Hf.P) : orA a b c = 1 ↔ Hf.Lf a b c := by
  unfold orA Hf.Lf
  split
  · rename_i h
    rw [sgn_one]; exact ⟨fun h2 => ⟨h, h2⟩, fun h2 => h2.2⟩
  · rename_i h
    exact ⟨fun h2 => by omega, fun h2 => absurd h2.1 h⟩
set_option maxRecDepth 100000 in
set_option maxHeartbeats 4000000 in
theorem orient_any (a b c : Hf.P) (W : World) : Calls Try.prog 124 #[pt a.1 a.2, pt b.1 b.2, pt c.1 c.2] W fun e w' => e = .returned (.int .i64 (orA a b c)) ∧ Fr (fun _ => False) W w' := by
  obtain ⟨ax, ay⟩ := a; obtain ⟨bx, bY⟩ := b; obtain ⟨cx, cy⟩ := c
  by_cases h : Hf.can (ax, ay) ∧ Hf.can (bx, bY) ∧ Hf.can (cx, cy)
  · unfold orA; rw [if_pos h]
    exact Orient_walk ax ay bx bY cx cy W h.1.1 h.1.2 h.2.1.1 h.2.1.2 h.2.2.1 h.2.2.2
  · unfold orA; rw [if_neg h]
    have PN := Lib.hid (show pred_can.f 200 [⟨ax, ay⟩, ⟨bx, bY⟩, ⟨cx, cy⟩] = some false from by
      unfold pred_can.f
      rw [show (0 : Int) = ((0 : Nat) : Int) from rfl, can_go_any _ (by simp) 3 0 200 rfl (by omega), decide_eq_false]
      intro h2
      simp at h2
      exact h ⟨⟨h2.1.1, h2.1.2⟩, ⟨h2.2.1.1, h2.2.1.2⟩, h2.2.2.1, h2.2.2.2⟩)
    clear h
    unfold pt
    have HQ := Lib.hid (quad4 W (Obj.cells #[Value.int IntKind.i64 ax, Value.int IntKind.i64 ay] 24) (Obj.cells #[Value.int IntKind.i64 bx, Value.int IntKind.i64 bY] 24) (Obj.cells #[Value.int IntKind.i64 cx, Value.int IntKind.i64 cy] 24) (Obj.cells #[Value.int IntKind.i64 ax, Value.int IntKind.i64 ay, Value.int IntKind.i64 bx, Value.int IntKind.i64 bY, Value.int IntKind.i64 cx, Value.int IntKind.i64 cy] 24))
    go_enter Try.func124, Try.ntmps124
    go_wp2_with fail
    obtain ⟨w4, hw4, t1, t2, t3, t4, f4⟩ := HQ.out
    rw [hw4]
    have T4 := Lib.hid t4
    have F4 := Lib.hid f4
    clear hw4 t1 t2 t3 t4 f4 HQ
    go_wp2_with (first
      | (go_at_call 84; have hc_ := (show Calls Try.prog 84 #[.slice (some ⟨W.heap.size + 1 + 1 + 1, 0, none⟩) 3 3] w4 (fun e w' => e = .returned (.bool false) ∧ Below w4.heap.size w4 w') from pred_can.calls 200 (some ⟨W.heap.size + 1 + 1 + 1, 0, none⟩) 3 [⟨ax, ay⟩, ⟨bx, bY⟩, ⟨cx, cy⟩] false w4 (six T4.out) (Nat.le_refl 3) PN.out); (with_reducible refine hc_.mono ?_); clear hc_; rintro e w5 ⟨rfl, b5⟩; have E5 := Lib.hid (Fr.of_below b5); clear b5))
    go_ret
    exact ⟨rfl, F4.out.trans E5.out (fun _ h _ => h)⟩
/-- Points in memory. -/
def Pts (w : World) (A : Option Addr) (l : List Hf.P) : Prop :=
  ∀ i (h : i < l.length), ∃ ad, A = some ad ∧ w.cell? (ad.add (i * 2)) = some (.int .i64 l[i].1) ∧ w.cell? ⟨(ad.add (i * 2)).block, (ad.add (i * 2)).off + 1, none⟩ = some (.int .i64 l[i].2)
theorem Pts.fr {w w' : World} {A : Option Addr} {l : List Hf.P} (h : Pts w A l) (hf : Fr (fun _ => False) w w') : Pts w' A l := fun i hi => by
  obtain ⟨ad, e, h1, h2⟩ := h i hi
  exact ⟨ad, e, fr_cell h1 hf, fr_cell h2 hf⟩
set_option maxRecDepth 100000 in
set_option maxHeartbeats 8000000 in
theorem best_walk (a1 a2 b1 b2 : Int) (A : Option Addr) (n c : Nat) (X Y O : Nat → Int) (C : Nat → Nat → Bool) (I : Nat → Int → Prop) (W : World) (hn : n ≤ 1000)
    (hp : ∀ i, i < n → ∃ ad, A = some ad ∧ W.cell? (ad.add (i * 2)) = some (.int .i64 (X i)) ∧ W.cell? ⟨(ad.add (i * 2)).block, (ad.add (i * 2)).off + 1, none⟩ = some (.int .i64 (Y i)))
    (hO : ∀ i, i < n → ∀ w, Calls Try.prog 124 #[pt a1 a2, pt b1 b2, pt (X i) (Y i)] w fun e w' => e = .returned (.int .i64 (O i)) ∧ Fr (fun _ => False) w w')
    (hC : ∀ i j, i < n → j < n → O i = 1 → O j = 1 → ∀ w, Calls Try.prog 125 #[pt a1 a2, pt b1 b2, pt (X i) (Y i), pt (X j) (Y j)] w fun e w' => e = .returned (.bool (C i j)) ∧ Fr (fun _ => False) w w')
    (i0 : I 0 (-1)) (i1 : ∀ k r, k < n → I k r → ¬ O k = 1 → I (k + 1) r) (i2 : ∀ k, k < n → I k (-1) → O k = 1 → I (k + 1) k) (i3 : ∀ k (i : Nat), k < n → i < n → I k i → O k = 1 → C i k = true → I (k + 1) k) (i4 : ∀ k (i : Nat), k < n → i < n → I k i → O k = 1 → C i k = false → I (k + 1) i)
    (i5 : ∀ k r, I k r → r = -1 ∨ ∃ i : Nat, i < n ∧ r = (i : Int) ∧ O i = 1) :
    Calls Try.prog 93 #[pt a1 a2, pt b1 b2, .slice A n c] W fun e w' => (∃ r, e = .returned (.int .i64 r) ∧ I n r) ∧ Fr (fun _ => False) W w' := by
  have HO := Lib.hid hO
  have HC := Lib.hid hC
  have I1 := Lib.hid i1
  have I2 := Lib.hid i2
  have I3 := Lib.hid i3
  have I4 := Lib.hid i4
  have I5 := Lib.hid i5
  have HN := Lib.hid hn
  have I0 := Lib.hid i0
  have HG := Lib.hid (fun i (hi : i < n) w (hf : Fr (fun _ => False) W w) => (show ∃ ad, A = some ad ∧ w.cell? (ad.add (i * 2)) = some (.int .i64 (X i)) ∧ w.cell? ⟨(ad.add (i * 2)).block, (ad.add (i * 2)).off + 1, none⟩ = some (.int .i64 (Y i)) from by
    obtain ⟨ad, e, h1, h2⟩ := hp i hi
    exact ⟨ad, e, fr_cell h1 hf, fr_cell h2 hf⟩))
  clear hO hC i0 i1 i2 i3 i4 i5 hn hp
  unfold pt at HO HC ⊢
  have t1 := ZFr.blk_alloc (heap_alloc_new W (pb a1 a2)) (pb b1 b2)
  have t2 := second W (pb a1 a2) (pb b1 b2)
  have f2 := ((Fr.refl (fun _ => False) W).alloc (pb a1 a2)).alloc (pb b1 b2)
  unfold pb at t1 t2 f2
  go_enter Try.func93, Try.ntmps93
  go_wp2_with fail
  generalize (W.alloc (Obj.cells #[.int .i64 a1, .int .i64 a2] 24)).alloc (Obj.cells #[.int .i64 b1, .int .i64 b2] 24) = w2 at t1 t2 f2 ⊢
  have T1 := Lib.hid t1
  have T2 := Lib.hid t2
  have F2 := Lib.hid f2
  clear t1 t2 f2
  have PC := Lib.hid (fun w (hf : Fr (fun _ => False) w2 w) => And.intro (point_cells (ZFr.blk_fr T1.out hf (fun h => h))) (point_cells (ZFr.blk_fr T2.out hf (fun h => h))))
  have PG := Lib.hid (fun i (hi : i < n) w (hf : Fr (fun _ => False) w2 w) => HG.out i hi w (F2.out.trans hf (fun _ h _ => h)))
  clear HG
  generalize W.heap.size = g1 at T1 T2 PC ⊢
  go_loopw [7, 12] (fun b i wr => ∃ (k : Nat) (r : Int), k ≤ n ∧ i = .int .i64 (k : Int) ∧ b = .int .i64 r ∧ I k r ∧ Fr (fun _ => False) w2 wr) (fun _ i _ => (n - intOf i).toNat)
  case atStart => exact ⟨0, -1, Nat.zero_le _, rfl, rfl, I0.out, Fr.refl _ _⟩
  case round =>
    obtain ⟨k, r, hk, rfl, rfl, hI, hf⟩ := hrel
    have HF := Lib.hid hf
    have HI := Lib.hid hI
    clear hf hI
    by_cases hk1 : k < n
    · have hkd : (k : Int) < (n : Int) := by omega
      have hk100 : (k : Int) < 1000 := by have := HN.out; omega
      obtain ⟨ad, rfl, k0, k1⟩ := PG.out k hk1 wr HF.out
      have HK1 := Lib.hid hk1
      have PGk := Lib.hid (fun i (hi : i < n) w (hf : Fr (fun _ => False) w2 w) => (show w.cell? (ad.add (i * 2)) = some (.int .i64 (X i)) ∧ w.cell? ⟨(ad.add (i * 2)).block, (ad.add (i * 2)).off + 1, none⟩ = some (.int .i64 (Y i)) from by
        obtain ⟨ad', e, h⟩ := PG.out i hi w hf
        cases e
        exact h))
      have ORk := Lib.hid (HO.out k hk1)
      have TB := Lib.hid (heap_alloc_new wr (Obj.cells #[.int .i64 (X k), .int .i64 (Y k)] 24))
      have FB := Lib.hid (HF.out.alloc (Obj.cells #[.int .i64 (X k), .int .i64 (Y k)] 24))
      clear hk hk1
      generalize hq : O k = q at ORk
      go_upto_region 5 with fail
      clear k0 k1
      generalize wr.alloc (Obj.cells #[.int .i64 (X k), .int .i64 (Y k)] 24) = w4 at TB FB ⊢
      generalize wr.heap.size = b9 at TB ⊢
      obtain ⟨⟨p1, p2⟩, p3, p4⟩ := PC.out w4 FB.out
      obtain ⟨r1, r2⟩ := point_cells TB.out
      by_cases hq1 : q = 1
      · go_upto_region 6 with (go_at_call 124; have hc_ := ORk.out w4; (with_reducible refine hc_.mono ?_); clear hc_; rintro e w5 ⟨rfl, f5⟩; have TB5 := Lib.hid (ZFr.blk_fr TB.out f5 (fun h => h)); have F5 := Lib.hid (FB.out.trans f5 (fun _ h _ => h)); clear f5)
        clear p1 p2 p3 p4 r1 r2
        have hO1 : O k = 1 := hq.trans hq1
        rcases I5.out k r HI.out with hr | ⟨i, hi, hr, hOi⟩
        · subst hr
          have NXT := Lib.hid (I2.out k HK1.out HI.out hO1)
          clear hq hq1 hO1
          go_quiet (fail)
          go_wp2_with fail
          go_roundw
          case rel => exact ⟨k + 1, k, HK1.out, by go_num, rfl, NXT.out, F5.out.drewN _⟩
          case measure => simp [intOf]; omega
        · subst hr
          have hi100 : (i : Int) < 1000 := by have := HN.out; omega
          have hin : (i : Int) < (n : Int) := by omega
          have hi0 : ¬ (i : Int) < 0 := by omega
          have CFk := Lib.hid (HC.out i k hi HK1.out hOi hO1)
          have N3 := Lib.hid (I3.out k i HK1.out hi HI.out hO1)
          have N4 := Lib.hid (I4.out k i HK1.out hi HI.out hO1)
          have PD := Lib.hid (fun w (hf : Fr (fun _ => False) w5 w) => And.intro (PC.out w (F5.out.trans hf (fun _ h _ => h))) (And.intro (PGk.out i hi w (F5.out.trans hf (fun _ h _ => h))) (point_cells (ZFr.blk_fr TB5.out hf (fun h => h)))))
          clear hq hq1 hO1 hOi hi
          generalize C i k = bb at CFk N3 N4
          obtain ⟨⟨⟨p1, p2⟩, p3, p4⟩, ⟨q1, q2⟩, r1, r2⟩ := PD.out w5.drew (Fr.refl _ w5).drew
          go_region_held3 (fun w' => w'.cell? ⟨g1, 0, none⟩ = some (.int .i64 a1) ∧ w'.cell? ⟨g1, 1, none⟩ = some (.int .i64 a2) ∧ w'.cell? ⟨g1 + 1, 0, none⟩ = some (.int .i64 b1) ∧ w'.cell? ⟨g1 + 1, 1, none⟩ = some (.int .i64 b2) ∧ w'.cell? (ad.add (i * 2)) = some (.int .i64 (X i)) ∧ w'.cell? ⟨(ad.add (i * 2)).block, (ad.add (i * 2)).off + 1, none⟩ = some (.int .i64 (Y i)) ∧ w'.cell? ⟨b9, 0, none⟩ = some (.int .i64 (X k)) ∧ w'.cell? ⟨b9, 1, none⟩ = some (.int .i64 (Y k)))
            (refine ⟨?_, ?_, ?_, ?_, ?_, ?_, ?_, ?_⟩ <;> with_reducible assumption)
            ((go_at_call 125; have hc_ := CFk.out w5.drew; (with_reducible refine hc_.mono ?_); clear hc_; rintro e w6 ⟨rfl, f6⟩; have E6 := Lib.hid ((Fr.refl (fun _ => False) w5).drew.trans f6 (fun _ h _ => h)); obtain ⟨⟨⟨z1, z2⟩, z3, z4⟩, ⟨y1, y2⟩, x1, x2⟩ := PD.out w6 E6.out; clear f6))
          all_goals
            cases bb
            · go_wp2_with fail
              go_roundw
              case rel => exact ⟨k + 1, i, HK1.out, by go_num, rfl, N4.out rfl, F5.out.trans E6.out (fun _ h _ => h)⟩
              case measure => simp [intOf]; omega
            · go_wp2_with fail
              go_roundw
              case rel => exact ⟨k + 1, k, HK1.out, by go_num, rfl, N3.out rfl, F5.out.trans E6.out (fun _ h _ => h)⟩
              case measure => simp [intOf]; omega
      · have NXT := Lib.hid (I1.out k r HK1.out HI.out (fun h => hq1 (hq.symm.trans h)))
        go_wp2_with (go_at_call 124; have hc_ := ORk.out w4; (with_reducible refine hc_.mono ?_); clear hc_; rintro e w5 ⟨rfl, f5⟩; have F5 := Lib.hid (FB.out.trans f5 (fun _ h _ => h)); clear f5)
        go_roundw
        case rel => exact ⟨k + 1, r, HK1.out, by go_num, rfl, NXT.out, F5.out⟩
        case measure => simp [intOf]; omega
    · have hkn : k = n := by omega
      subst hkn
      go_wp2_with fail
      go_ret
      exact ⟨⟨r, rfl, HI.out⟩, F2.out.trans HF.out (fun _ h _ => h)⟩
theorem best_c (a b : Hf.P) (A : Option Addr) (l : List Hf.P) (c : Nat) (W : World) (hl : l.length ≤ 1000) (hp : Pts W A l) : Calls Try.prog 93 #[pt a.1 a.2, pt b.1 b.2, .slice A l.length c] W fun e w' => e = .returned (.int .i64 (Hf.best a b l)) ∧ Fr (fun _ => False) W w' := by
  have gx : ∀ i (h : i < l.length), l.getD i (0, 0) = l[i] := fun i h => by simp [List.getD, h]
  refine (best_walk a.1 a.2 b.1 b.2 A l.length c (fun i => (l.getD i (0, 0)).1) (fun i => (l.getD i (0, 0)).2) (fun i => orA a b (l.getD i (0, 0))) (fun i j => decide (Hf.Cf a b (l.getD i (0, 0)) (l.getD j (0, 0)))) (Hf.IsB a b l) W hl ?_ ?_ ?_ (Hf.isB_zero a b l) ?_ ?_ ?_ ?_ ?_).mono ?_
  · intro i hi
    obtain ⟨ad, e, h1, h2⟩ := hp i hi
    exact ⟨ad, e, by rw [gx i hi]; exact h1, by rw [gx i hi]; exact h2⟩
  · intro i _ w
    exact orient_any a b (l.getD i (0, 0)) w
  · intro i j _ _ h1 h2 w
    have l1 := (orA_one _ _ _).1 h1
    have l2 := (orA_one _ _ _).1 h2
    exact conflict_c a b _ _ l1.1.1 l1.1.2.1 l1.1.2.2 l2.1.2.2 w
  · intro k r hk h h1
    rw [orA_one, gx k hk] at h1
    exact Hf.isB_skip h hk h1
  · intro k hk h h1
    rw [orA_one, gx k hk] at h1
    exact Hf.isB_first h hk h1
  · intro k i hk hi h h1 h2
    rw [orA_one, gx k hk] at h1
    rw [gx k hk, gx i hi] at h2
    exact Hf.isB_take h hi hk h1 (of_decide_eq_true h2)
  · intro k i hk hi h h1 h2
    rw [gx k hk, gx i hi] at h2
    exact Hf.isB_keep h hi hk (of_decide_eq_false h2)
  · intro k r h
    rcases h with h | ⟨i, hi, _, e, h, _⟩
    · exact .inl h.1
    · refine .inr ⟨i, hi, e, ?_⟩
      rw [orA_one, gx i hi]; exact h
  · rintro e w' ⟨⟨r, rfl, h⟩, f⟩
    exact ⟨by rw [Hf.best_un h], f⟩
end Go.Proofs.Ytngmkjgklonfmaa.Wd

