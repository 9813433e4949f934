/- Joined texts. -/
import Derived.Shelf.SlSortCmp.WholeK
/- What is used of RsP. -/
namespace Go.Proofs.Ytgaicbodpneeoaa.Rs
structure Cone where
  x : Int
  d : Int
  id : Int
deriving DecidableEq
structure Part where
  c : Cone
  fr : Int
deriving DecidableEq
structure Sp where
  f : Int
  t : Int
  id : Int
deriving DecidableEq
def offs (c : Cone) (x : Int) : Int := c.d + (x - c.x) * (x - c.x)
def leads (a b : Cone) (x : Int) : Bool := decide (offs b x < offs a x ∨ (offs b x = offs a x ∧ b.id < a.id))
def frm (a b : Cone) : Nat → Int → Int → Int
  | 0, lo, _ => lo
  | k + 1, lo, hi => if lo < hi then (if leads a b (lo + (hi - lo) / 2) then frm a b k lo (lo + (hi - lo) / 2) else frm a b k (lo + (hi - lo) / 2 + 1) hi) else lo
theorem frm_ge (a b : Cone) : ∀ (k : Nat) (lo hi : Int), lo ≤ frm a b k lo hi
  | 0, lo, _ => Int.le_refl lo
  | k + 1, lo, hi => by
    rw [frm]
    split
    · split
      · exact frm_ge a b k lo _
      · have := frm_ge a b k (lo + (hi - lo) / 2 + 1) hi
        omega
    · exact Int.le_refl lo
theorem frm_le (a b : Cone) : ∀ (k : Nat) (lo hi : Int), lo ≤ hi → frm a b k lo hi ≤ hi
  | 0, _, _, h => h
  | k + 1, lo, hi, h => by
    rw [frm]
    split
    · split
      · have := frm_le a b k lo (lo + (hi - lo) / 2) (by omega)
        omega
      · exact frm_le a b k (lo + (hi - lo) / 2 + 1) hi (by omega)
    · exact h
/-- What is left of the stack under a new cone, and from where on that leads. -/
def popl (c : Cone) (lo hi : Int) : List Part → Int × List Part
  | [] => (lo, [])
  | p :: r => if p.c.x = c.x then (hi, p :: r) else
      if p.fr < frm p.c c (hi - p.fr).toNat p.fr hi then (frm p.c c (hi - p.fr).toNat p.fr hi, p :: r) else popl c lo hi r
def push (lo hi : Int) (s : List Part) (c : Cone) : List Part :=
  if (popl c lo hi s).1 < hi then ⟨c, (popl c lo hi s).1⟩ :: (popl c lo hi s).2 else (popl c lo hi s).2
def lower (l : List Cone) (lo hi : Int) : List Part := l.foldl (push lo hi) []
/-- The parts as spans, top first. -/
def spansR : List Part → Int → List Sp
  | [], _ => []
  | p :: r, hi => ⟨p.fr, hi, p.c.id⟩ :: spansR r p.fr
def shift (by_ : Int) (s : Sp) : Sp := ⟨s.f + by_, s.t + by_, s.id⟩
def joined : List Sp → Sp → List Sp
  | [], s => [s]
  | u :: r, s => if u.id = s.id then ⟨u.f, s.t, u.id⟩ :: r else s :: u :: r
/-- All of a stack of spans put to others. -/
def joinAll (out : List Sp) : List Sp → List Sp
  | [] => out
  | s :: r => joined (joinAll out r) s
/-- What stands in a square's row. -/
def sq (L : List Cone) (lo hi by_ : Int) (out : List Sp) : List Sp := joinAll out ((spansR (lower L lo hi) hi).map (shift by_))
/-- The row from x up to t, square by square. -/
def rows (L : List Cone) (n t : Int) : Nat → Int → List Sp → List Sp
  | 0, _, out => out
  | k + 1, x, out => if x < t then rows L n t k (min n (t - x / n * n) + x / n * n) (sq L (x % n) (min n (t - x / n * n)) (x / n * n) out) else out
end Go.Proofs.Ytgaicbodpneeoaa.Rs


/- What is used of RsS. -/
namespace Go.Proofs.Ytgaicbodpneeoaa.Rs
/-- A site: its id, where it lies. -/
structure Site where
  id : Int
  x : Int
  y : Int
deriving DecidableEq
def dist (s r : Int) : Int := if s - r < 0 then -(s - r) else s - r
def gapd (s r n : Int) : Int := min (dist s r) (n - dist s r)
def three (n row : Int) (p : Site) : List Cone := [⟨p.x + -1 * n, gapd p.y row n * gapd p.y row n, p.id⟩, ⟨p.x + 0 * n, gapd p.y row n * gapd p.y row n, p.id⟩, ⟨p.x + 1 * n, gapd p.y row n * gapd p.y row n, p.id⟩]
def raw (l : List Site) (n row : Int) : List Cone := l.flatMap (three n row)
end Go.Proofs.Ytgaicbodpneeoaa.Rs


/- What is used of RsO. -/
namespace Go.Proofs.Ytgaicbodpneeoaa.Rs
open Go.Shelf Go.Sort
def cmp3 (a b : Int) : Int := if a < b then -1 else if a > b then 1 else 0
def or2 (a b : Int) : Int := if a = 0 then b else a
def cfC (x y : Cone) : Int := or2 (cmp3 x.x y.x) (or2 (cmp3 x.d y.d) (cmp3 x.id y.id))
def ltC (x y : Cone) : Prop := x.x < y.x ∨ (x.x = y.x ∧ (x.d < y.d ∨ (x.d = y.d ∧ x.id < y.id)))
theorem cfC_neg (x y : Cone) : cfC x y < 0 ↔ ltC x y := by
  unfold cfC ltC or2 cmp3
  repeat' split
  all_goals omega
theorem ltC_irrefl (x : Cone) : ¬ ltC x x := by unfold ltC; omega
theorem ltC_trans {x y z : Cone} (h1 : ltC x y) (h2 : ltC y z) : ltC x z := by unfold ltC at *; omega
theorem extC {x y : Cone} (h0 : x.x = y.x) (h1 : x.d = y.d) (h2 : x.id = y.id) : x = y := by
  rcases x with ⟨_, _, _⟩; rcases y with ⟨_, _, _⟩; simp only at *; subst h0 h1 h2; rfl
theorem ltC_tri (x y : Cone) : ltC x y ∨ x = y ∨ ltC y x := by
  by_cases h : x.x = y.x ∧ x.d = y.d ∧ x.id = y.id
  · exact .inr (.inl (extC h.1 h.2.1 h.2.2))
  · unfold ltC; omega
theorem lt_iff (x y : Cone) : ltOf cfC x y = true ↔ ltC x y := by
  unfold ltOf; rw [decide_eq_true_iff, cfC_neg]
theorem lt_false (x y : Cone) : ltOf cfC x y = false ↔ ¬ ltC x y := by rw [← lt_iff]; simp
theorem swo : SWO (ltOf cfC) where
  irrefl x := by rw [lt_false]; exact ltC_irrefl x
  trans x y z h1 h2 := by rw [lt_iff] at *; exact ltC_trans h1 h2
  ntrans x y z h1 h2 := by
    rw [lt_false] at *
    intro h
    rcases ltC_tri x y with h3 | rfl | h3
    · exact h1 h3
    · exact h2 h
    · exact h2 (ltC_trans h3 h)
theorem tot (x y : Cone) (h1 : ltOf cfC x y = false) (h2 : ltOf cfC y x = false) : x = y := by
  rw [lt_false] at *
  rcases ltC_tri x y with h3 | h3 | h3
  · exact absurd h3 h1
  · exact h3
  · exact absurd h3 h2
def leC (a b : Cone) : Bool := !(ltOf cfC) b a
def cones (l : List Site) (n row : Int) : List Cone := (raw l n row).mergeSort leC
theorem raw_length (l : List Site) (n row : Int) : (raw l n row).length = 3 * l.length := by
  induction l with
  | nil => rfl
  | cons p l ih => simp only [raw, List.flatMap_cons, List.length_append, List.length_cons] at *; rw [ih]; simp [three]; omega
/-- A row of sites on a torus. -/
def row (l : List Site) (n y a t : Int) : List Sp := rows (cones l n (y % n)) n t (t - a).toNat a []
theorem cones_lives : cones [⟨0, 0, 0⟩, ⟨1, 5, 0⟩] 10 (0 % 10) = [⟨-10, 0, 0⟩, ⟨-5, 0, 1⟩, ⟨0, 0, 0⟩, ⟨5, 0, 1⟩, ⟨10, 0, 0⟩, ⟨15, 0, 1⟩] := by
  have e : raw [⟨0, 0, 0⟩, ⟨1, 5, 0⟩] 10 (0 % 10) = [⟨-10, 0, 0⟩, ⟨0, 0, 0⟩, ⟨10, 0, 0⟩, ⟨-5, 0, 1⟩, ⟨5, 0, 1⟩, ⟨15, 0, 1⟩] := by decide +kernel
  unfold cones
  rw [e]
  simp [List.mergeSort, List.MergeSort.Internal.splitInTwo, leC, ltOf, cfC, or2, cmp3]
theorem row_lives : (row [⟨0, 0, 0⟩, ⟨1, 5, 0⟩] 10 0 0 10).reverse = [⟨0, 3, 0⟩, ⟨3, 8, 1⟩, ⟨8, 10, 0⟩] := by
  unfold row
  rw [cones_lives]
  decide +kernel
end Go.Proofs.Ytgaicbodpneeoaa.Rs

