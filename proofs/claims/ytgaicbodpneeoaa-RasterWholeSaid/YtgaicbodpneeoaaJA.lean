/- Joined texts. -/
import Derived.Shelf.SlSortCmp.WholeK
/- The plain law of rows: what the walk of the sites' cones computes is a row without a gap, and the same a side farther.
   Stacks stand with their top first. -/
namespace Go.Proofs.Ytgaicbodpneeoaa.Rs
structure Cone where
  x : Int
  d : Int
  id : Int
deriving DecidableEq
structure Part where
  c : Cone
  fr : Int
deriving DecidableEq
structure Sp where
  f : Int
  t : Int
  id : Int
deriving DecidableEq
def offs (c : Cone) (x : Int) : Int := c.d + (x - c.x) * (x - c.x)
def leads (a b : Cone) (x : Int) : Bool := decide (offs b x < offs a x ∨ (offs b x = offs a x ∧ b.id < a.id))
def frm (a b : Cone) : Nat → Int → Int → Int
  | 0, lo, _ => lo
  | k + 1, lo, hi => if lo < hi then (if leads a b (lo + (hi - lo) / 2) then frm a b k lo (lo + (hi - lo) / 2) else frm a b k (lo + (hi - lo) / 2 + 1) hi) else lo
theorem frm_ge (a b : Cone) : ∀ (k : Nat) (lo hi : Int), lo ≤ frm a b k lo hi
  | 0, lo, _ => Int.le_refl lo
  | k + 1, lo, hi => by
    rw [frm]
    split
    · split
      · exact frm_ge a b k lo _
      · have := frm_ge a b k (lo + (hi - lo) / 2 + 1) hi
        omega
    · exact Int.le_refl lo
theorem frm_le (a b : Cone) : ∀ (k : Nat) (lo hi : Int), lo ≤ hi → frm a b k lo hi ≤ hi
  | 0, _, _, h => h
  | k + 1, lo, hi, h => by
    rw [frm]
    split
    · split
      · have := frm_le a b k lo (lo + (hi - lo) / 2) (by omega)
        omega
      · exact frm_le a b k (lo + (hi - lo) / 2 + 1) hi (by omega)
    · exact h
/-- What is left of the stack under a new cone, and from where on that leads. -/
def popl (c : Cone) (lo hi : Int) : List Part → Int × List Part
  | [] => (lo, [])
  | p :: r => if p.c.x = c.x then (hi, p :: r) else
      if p.fr < frm p.c c (hi - p.fr).toNat p.fr hi then (frm p.c c (hi - p.fr).toNat p.fr hi, p :: r) else popl c lo hi r
def push (lo hi : Int) (s : List Part) (c : Cone) : List Part :=
  if (popl c lo hi s).1 < hi then ⟨c, (popl c lo hi s).1⟩ :: (popl c lo hi s).2 else (popl c lo hi s).2
def lower (l : List Cone) (lo hi : Int) : List Part := l.foldl (push lo hi) []
/-- Parts that follow one another, the lowest beginning at lo. -/
def Stk (lo : Int) : List Part → Int → Prop
  | [], b => b = lo
  | p :: r, b => p.fr < b ∧ Stk lo r p.fr
theorem Stk.up {lo : Int} : ∀ {s : List Part} {b b' : Int}, s ≠ [] → Stk lo s b → b ≤ b' → Stk lo s b'
  | _ :: _, _, _, _, h, hb => ⟨by have := h.1; omega, h.2⟩
theorem popl_ok (c : Cone) (lo hi : Int) (hlo : lo < hi) : ∀ (s : List Part) (b : Int), s ≠ [] → Stk lo s b → b ≤ hi →
    Stk lo (popl c lo hi s).2 (popl c lo hi s).1 ∧ (popl c lo hi s).1 ≤ hi ∧ ((popl c lo hi s).1 = hi → (popl c lo hi s).2 ≠ [])
  | [], _, h, _, _ => absurd rfl h
  | p :: r, b, _, h, hb => by
    rw [popl]
    split
    · exact ⟨⟨by have := h.1; omega, h.2⟩, Int.le_refl _, fun _ => by simp⟩
    · split
      · next hlt => exact ⟨⟨hlt, h.2⟩, frm_le _ _ _ _ _ (by have := h.1; omega), fun _ => by simp⟩
      · rcases r with - | ⟨q, r⟩
        · exact ⟨rfl, by rw [popl]; exact Int.le_of_lt hlo, by rw [popl]; intro e; simp only at e; omega⟩
        · exact popl_ok c lo hi hlo (q :: r) p.fr (by simp) h.2 (by have := h.1; omega)
theorem push_ok (lo hi : Int) (hlo : lo < hi) (s : List Part) (c : Cone) (h : s = [] ∨ Stk lo s hi) : push lo hi s c ≠ [] ∧ Stk lo (push lo hi s c) hi := by
  rcases s with - | ⟨p, r⟩
  · unfold push
    rw [popl, if_pos hlo]
    exact ⟨by simp, hlo, rfl⟩
  · have h : Stk lo (p :: r) hi := h.resolve_left (by simp)
    obtain ⟨h1, h2, h3⟩ := popl_ok c lo hi hlo (p :: r) hi (by simp) h (Int.le_refl _)
    unfold push
    split
    · next hl => exact ⟨by simp, hl, h1⟩
    · have he : (popl c lo hi (p :: r)).1 = hi := by omega
      exact ⟨h3 he, by rw [he] at h1; exact h1⟩
theorem lower_ok (l : List Cone) (lo hi : Int) (hlo : lo < hi) (hl : l ≠ []) : lower l lo hi ≠ [] ∧ Stk lo (lower l lo hi) hi := by
  unfold lower
  have go : ∀ (l : List Cone) (s : List Part), (s ≠ [] ∧ Stk lo s hi) → l.foldl (push lo hi) s ≠ [] ∧ Stk lo (l.foldl (push lo hi) s) hi := by
    intro l
    induction l with
    | nil => intro s h; exact h
    | cons a l ih => intro s h; exact ih _ (push_ok lo hi hlo s a (.inr h.2))
  rcases l with - | ⟨a, l⟩
  · exact absurd rfl hl
  · exact go l _ (push_ok lo hi hlo [] a (.inl rfl))
/-- The parts as spans, top first. -/
def spansR : List Part → Int → List Sp
  | [], _ => []
  | p :: r, hi => ⟨p.fr, hi, p.c.id⟩ :: spansR r p.fr
def shift (by_ : Int) (s : Sp) : Sp := ⟨s.f + by_, s.t + by_, s.id⟩
def joined : List Sp → Sp → List Sp
  | [], s => [s]
  | u :: r, s => if u.id = s.id then ⟨u.f, s.t, u.id⟩ :: r else s :: u :: r
/-- All of a stack of spans put to others. -/
def joinAll (out : List Sp) : List Sp → List Sp
  | [] => out
  | s :: r => joined (joinAll out r) s
/-- A row from a to b, top first. -/
def RW (a : Int) : List Sp → Int → Prop
  | [], b => b = a
  | s :: r, b => s.t = b ∧ s.f < s.t ∧ (∀ u ∈ r.head?, u.id ≠ s.id) ∧ RW a r s.f
theorem joined_ok {a b : Int} {out : List Sp} {s : Sp} (h : RW a out b) (hf : s.f = b) (ht : s.f < s.t) : RW a (joined out s) s.t := by
  rcases out with - | ⟨u, r⟩
  · exact ⟨rfl, ht, by simp, by have : b = a := h; exact hf.trans this⟩
  · obtain ⟨h1, h2, h3, h4⟩ := h
    rw [joined]
    split
    · exact ⟨rfl, by show u.f < s.t; omega, h3, h4⟩
    · next hne => exact ⟨rfl, ht, by simpa using hne, by show u.t = s.f; omega, h2, h3, h4⟩
theorem joinAll_ok {a lo by_ : Int} {out : List Sp} (h : RW a out (lo + by_)) : ∀ (s : List Part) (hi : Int), Stk lo s hi →
    RW a (joinAll out ((spansR s hi).map (shift by_))) (hi + by_)
  | [], hi, hs => by
    have : hi = lo := hs
    subst this
    exact h
  | p :: r, hi, hs => by
    have := joinAll_ok h r p.fr hs.2
    exact joined_ok this rfl (by show p.fr + by_ < hi + by_; have := hs.1; omega)
/-- What stands in a square's row. -/
def sq (L : List Cone) (lo hi by_ : Int) (out : List Sp) : List Sp := joinAll out ((spansR (lower L lo hi) hi).map (shift by_))
/-- The row from x up to t, square by square. -/
def rows (L : List Cone) (n t : Int) : Nat → Int → List Sp → List Sp
  | 0, _, out => out
  | k + 1, x, out => if x < t then rows L n t k (min n (t - x / n * n) + x / n * n) (sq L (x % n) (min n (t - x / n * n)) (x / n * n) out) else out
theorem rows_ok (L : List Cone) (n t a : Int) (hn : 1 ≤ n) (hL : L ≠ []) : ∀ (k : Nat) (x : Int) (out : List Sp), (t - x).toNat ≤ k → x ≤ t → RW a out x → RW a (rows L n t k x out) t
  | 0, x, out, hk, hx, h => by
    have : x = t := by omega
    subst this
    exact h
  | k + 1, x, out, hk, hx, h => by
    rw [rows]
    split
    · next hlt =>
      have e1 := Int.emod_add_mul_ediv x n
      have e2 := Int.emod_lt_of_pos x (show 0 < n by omega)
      have e3 := Int.emod_nonneg x (show n ≠ 0 by omega)
      rw [Int.mul_comm] at e1
      generalize x / n * n = q at *
      generalize x % n = p at *
      have hp : p < min n (t - q) := by omega
      refine rows_ok L n t a hn hL k _ _ (by omega) (by omega) ?_
      exact joinAll_ok (by rw [e1]; exact h) _ _ (lower_ok L p (min n (t - q)) hp hL).2
    · have : x = t := by omega
      subst this
      exact h
theorem joined_shift (by_ : Int) (out : List Sp) (s : Sp) : (joined out s).map (shift by_) = joined (out.map (shift by_)) (shift by_ s) := by
  rcases out with - | ⟨u, r⟩
  · rfl
  · rw [joined, List.map_cons, joined]
    split
    · next h => rw [if_pos (by exact h)]; rfl
    · next h => rw [if_neg (by exact h)]; rfl
theorem joinAll_shift (by_ : Int) (out : List Sp) : ∀ l : List Sp, (joinAll out l).map (shift by_) = joinAll (out.map (shift by_)) (l.map (shift by_))
  | [] => rfl
  | s :: r => by rw [joinAll, joined_shift, joinAll_shift by_ out r, List.map_cons, joinAll]
theorem shift_shift (a b : Int) (s : Sp) : shift a (shift b s) = shift (b + a) s := by simp [shift, Int.add_assoc]
theorem sq_shift (L : List Cone) (lo hi by_ d : Int) (out : List Sp) : (sq L lo hi by_ out).map (shift d) = sq L lo hi (by_ + d) (out.map (shift d)) := by
  unfold sq
  rw [joinAll_shift, List.map_map]
  congr 1
  exact List.map_congr_left fun s _ => shift_shift d by_ s
/-- A side farther the row is the same. -/
theorem rows_shift (L : List Cone) (n t : Int) (hn : 1 ≤ n) : ∀ (k : Nat) (x : Int) (out : List Sp), (rows L n t k x out).map (shift (-n)) = rows L n (t - n) k (x - n) (out.map (shift (-n)))
  | 0, _, _ => rfl
  | k + 1, x, out => by
    have e0 : n ≠ 0 := by omega
    have e1 : (x - n) / n = x / n - 1 := by
      rw [show x - n = x + (-1) * n by omega, Int.add_mul_ediv_right _ _ e0]; omega
    have e2 : (x - n) % n = x % n := by rw [Int.sub_emod_right]
    have e3 : (x / n - 1) * n = x / n * n - n := by rw [Int.sub_mul, Int.one_mul]
    rw [rows, rows, e1, e2, e3]
    generalize x / n * n = q
    by_cases h : x < t
    · rw [if_pos h, if_pos (by omega), rows_shift L n t hn k, sq_shift]
      rw [show t - n - (q - n) = t - q by omega, show min n (t - q) + q - n = min n (t - q) + (q - n) by omega, show q + -n = q - n by omega]
    · rw [if_neg h, if_neg (by omega)]
/-- The same with the row's beginning first. -/
def Wh : Int → List Sp → Int → Prop
  | a, [], b => a = b
  | a, s :: r, b => s.f = a ∧ a < s.t ∧ (∀ u ∈ r.head?, u.id ≠ s.id) ∧ Wh s.t r b
theorem Wh_of (a : Int) : ∀ (l m : List Sp) (b c : Int), RW a l b → Wh b m c → (∀ s ∈ l.head?, ∀ u ∈ m.head?, u.id ≠ s.id) → Wh a (l.reverse ++ m) c
  | [], m, b, c, h, hm, _ => by
    have : b = a := h
    subst this
    exact hm
  | s :: r, m, b, c, h, hm, hh => by
    obtain ⟨h1, h2, h3, h4⟩ := h
    subst h1
    rw [List.reverse_cons, List.append_assoc]
    refine Wh_of a r (s :: m) s.f c h4 ⟨rfl, h2, fun u hu => hh s rfl u hu, hm⟩ ?_
    intro u hu v hv
    have : s = v := by simpa using hv
    subst this
    exact (h3 u hu).symm
theorem rows_whole (L : List Cone) (n a t : Int) (hn : 1 ≤ n) (hL : L ≠ []) (h : a ≤ t) : Wh a (rows L n t (t - a).toNat a []).reverse t := by
  have := Wh_of a _ [] t t (rows_ok L n t a hn hL (t - a).toNat a [] (Nat.le_refl _) h rfl) rfl (fun _ _ u hu => by simp at hu)
  simpa using this
end Go.Proofs.Ytgaicbodpneeoaa.Rs

/- Sites and how far a row is off them. -/
namespace Go.Proofs.Ytgaicbodpneeoaa.Rs
/-- A site: its id, where it lies. -/
structure Site where
  id : Int
  x : Int
  y : Int
deriving DecidableEq
def dist (s r : Int) : Int := if s - r < 0 then -(s - r) else s - r
def gapd (s r n : Int) : Int := min (dist s r) (n - dist s r)
def three (n row : Int) (p : Site) : List Cone := [⟨p.x + -1 * n, gapd p.y row n * gapd p.y row n, p.id⟩, ⟨p.x + 0 * n, gapd p.y row n * gapd p.y row n, p.id⟩, ⟨p.x + 1 * n, gapd p.y row n * gapd p.y row n, p.id⟩]
def raw (l : List Site) (n row : Int) : List Cone := l.flatMap (three n row)
end Go.Proofs.Ytgaicbodpneeoaa.Rs

/- Cones in their order: what slices.SortFunc wants of it. -/
namespace Go.Proofs.Ytgaicbodpneeoaa.Rs
open Go.Shelf Go.Sort
def cmp3 (a b : Int) : Int := if a < b then -1 else if a > b then 1 else 0
def or2 (a b : Int) : Int := if a = 0 then b else a
def cfC (x y : Cone) : Int := or2 (cmp3 x.x y.x) (or2 (cmp3 x.d y.d) (cmp3 x.id y.id))
def ltC (x y : Cone) : Prop := x.x < y.x ∨ (x.x = y.x ∧ (x.d < y.d ∨ (x.d = y.d ∧ x.id < y.id)))
theorem cfC_neg (x y : Cone) : cfC x y < 0 ↔ ltC x y := by
  unfold cfC ltC or2 cmp3
  repeat' split
  all_goals omega
theorem ltC_irrefl (x : Cone) : ¬ ltC x x := by unfold ltC; omega
theorem ltC_trans {x y z : Cone} (h1 : ltC x y) (h2 : ltC y z) : ltC x z := by unfold ltC at *; omega
theorem extC {x y : Cone} (h0 : x.x = y.x) (h1 : x.d = y.d) (h2 : x.id = y.id) : x = y := by
  rcases x with ⟨_, _, _⟩; rcases y with ⟨_, _, _⟩; simp only at *; subst h0 h1 h2; rfl
theorem ltC_tri (x y : Cone) : ltC x y ∨ x = y ∨ ltC y x := by
  by_cases h : x.x = y.x ∧ x.d = y.d ∧ x.id = y.id
  · exact .inr (.inl (extC h.1 h.2.1 h.2.2))
  · unfold ltC; omega
theorem lt_iff (x y : Cone) : ltOf cfC x y = true ↔ ltC x y := by
  unfold ltOf; rw [decide_eq_true_iff, cfC_neg]
theorem lt_false (x y : Cone) : ltOf cfC x y = false ↔ ¬ ltC x y := by rw [← lt_iff]; simp
theorem swo : SWO (ltOf cfC) where
  irrefl x := by rw [lt_false]; exact ltC_irrefl x
  trans x y z h1 h2 := by rw [lt_iff] at *; exact ltC_trans h1 h2
  ntrans x y z h1 h2 := by
    rw [lt_false] at *
    intro h
    rcases ltC_tri x y with h3 | rfl | h3
    · exact h1 h3
    · exact h2 h
    · exact h2 (ltC_trans h3 h)
theorem tot (x y : Cone) (h1 : ltOf cfC x y = false) (h2 : ltOf cfC y x = false) : x = y := by
  rw [lt_false] at *
  rcases ltC_tri x y with h3 | h3 | h3
  · exact absurd h3 h1
  · exact h3
  · exact absurd h3 h2
def leC (a b : Cone) : Bool := !(ltOf cfC) b a
def cones (l : List Site) (n row : Int) : List Cone := (raw l n row).mergeSort leC
theorem raw_length (l : List Site) (n row : Int) : (raw l n row).length = 3 * l.length := by
  induction l with
  | nil => rfl
  | cons p l ih => simp only [raw, List.flatMap_cons, List.length_append, List.length_cons] at *; rw [ih]; simp [three]; omega
theorem cones_ne (l : List Site) (n row : Int) (h : l ≠ []) : cones l n row ≠ [] := by
  intro e
  have h1 : (cones l n row).length = 3 * l.length := by unfold cones; rw [List.length_mergeSort, raw_length]
  rw [e] at h1
  cases l with
  | nil => exact h rfl
  | cons a l => simp at h1
/-- A row of sites on a torus. -/
def row (l : List Site) (n y a t : Int) : List Sp := rows (cones l n (y % n)) n t (t - a).toNat a []
theorem row_whole (l : List Site) (n y a t : Int) (hn : 1 ≤ n) (hl : l ≠ []) (h : a ≤ t) : Wh a (row l n y a t).reverse t := rows_whole _ n a t hn (cones_ne l n _ hl) h
theorem row_shift (l : List Site) (n y a t : Int) (hn : 1 ≤ n) : row l n (y + n) (a - n) (t - n) = (row l n y a t).map (shift (-n)) := by
  unfold row
  rw [rows_shift _ n t hn, show (y + n) % n = y % n from by rw [Int.add_emod_right], show t - n - (a - n) = t - a by omega]
  rfl
theorem cones_lives : cones [⟨0, 0, 0⟩, ⟨1, 5, 0⟩] 10 (0 % 10) = [⟨-10, 0, 0⟩, ⟨-5, 0, 1⟩, ⟨0, 0, 0⟩, ⟨5, 0, 1⟩, ⟨10, 0, 0⟩, ⟨15, 0, 1⟩] := by
  have e : raw [⟨0, 0, 0⟩, ⟨1, 5, 0⟩] 10 (0 % 10) = [⟨-10, 0, 0⟩, ⟨0, 0, 0⟩, ⟨10, 0, 0⟩, ⟨-5, 0, 1⟩, ⟨5, 0, 1⟩, ⟨15, 0, 1⟩] := by decide +kernel
  unfold cones
  rw [e]
  simp [List.mergeSort, List.MergeSort.Internal.splitInTwo, leC, ltOf, cfC, or2, cmp3]
theorem row_lives : (row [⟨0, 0, 0⟩, ⟨1, 5, 0⟩] 10 0 0 10).reverse = [⟨0, 3, 0⟩, ⟨3, 8, 1⟩, ⟨8, 10, 0⟩] := by
  unfold row
  rw [cones_lives]
  decide +kernel
end Go.Proofs.Ytgaicbodpneeoaa.Rs
