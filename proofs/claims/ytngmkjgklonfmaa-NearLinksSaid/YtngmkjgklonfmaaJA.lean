/- Joined texts. -/
import Derived.Test.YtngmkjgklonfmaaPNearNearestx0
import Derived.Test.YtngmkjgklonfmaaZFr
import Derived.Test.YtngmkjgklonfmaaWAt
import Derived.RowKit
import Derived.RowKit3
import Derived.WideLaws
import Derived.WalkLawsBesides
import Derived.WalkSpells
import Derived.Lib.Hide
import Derived.Outline
import Derived.WalkKit
import Derived.Deep.RegionLaw
import Derived.Deep.DeepCutAuto
import Derived.Test.YtngmkjgklonfmaaProg
import Derived.Laws.Externs
import Derived.Shelf.Spec.BitsCarry
/- What is used of BigF. -/
namespace Go.Proofs.Ytngmkjgklonfmaa.Big
open Go.RowKit Go.Proofs.Ytngmkjgklonfmaa.PNearNearest Go.Proofs.YtngmkjgklonfmaaW.PrintWords

theorem w64 {n : Int} (h1 : -9223372036854775808 ≤ n) (h2 : n < 9223372036854775808) : wrap64 n = n := by unfold wrap64; omega
end Go.Proofs.Ytngmkjgklonfmaa.Big


/- What is used of BigW. -/
namespace Go.Proofs.Ytngmkjgklonfmaa.Big
open Go.RowKit Go.Proofs.ZFr Go.Proofs.Ytngmkjgklonfmaa.PNearNearest Go.Proofs.YtngmkjgklonfmaaW.PrintWords

theorem second (W : World) (o o' : Obj) : ((W.alloc o).alloc o').heap[W.heap.size + 1]? = some o' := by
  have h := heap_alloc_new (W.alloc o) o'
  rw [show (W.alloc o).heap.size = W.heap.size + 1 from Array.size_push ..] at h
  exact h
theorem tri (w : World) (o1 o2 o3 : Obj) : (((w.alloc o1).alloc o2).alloc o3).heap[w.heap.size]? = some o1 ∧ (((w.alloc o1).alloc o2).alloc o3).heap[w.heap.size + 1]? = some o2 ∧ (((w.alloc o1).alloc o2).alloc o3).heap[w.heap.size + 1 + 1]? = some o3 ∧ Fr (fun _ => False) w (((w.alloc o1).alloc o2).alloc o3) := by
  have h1 := heap_alloc_new w o1
  have h2 := second w o1 o2
  have h3 := second (w.alloc o1) o2 o3
  rw [show (w.alloc o1).heap.size = w.heap.size + 1 from Array.size_push ..] at h3
  exact ⟨ZFr.blk_alloc (ZFr.blk_alloc h1 _) _, ZFr.blk_alloc h2 _, h3, (((Fr.refl _ w).alloc _).alloc _).alloc _⟩
theorem cell_far {w : World} {p q : Addr} {u v : Value} (h : w.cell? q = some v) (hb : q.block ≠ p.block) : (w.setCell p u).cell? q = some v := by
  have := Below.heap_setCell w p u q.block hb
  unfold World.cell? at *
  rw [this]; exact h
end Go.Proofs.Ytngmkjgklonfmaa.Big


/- What is used of BigQ. -/
namespace Go.Proofs.Ytngmkjgklonfmaa.Big
open Go.RowKit Go.Proofs.ZFr Go.Proofs.Ytngmkjgklonfmaa.PNearNearest Go.Proofs.YtngmkjgklonfmaaW.PrintWords

theorem fr_cell {w w' : World} {a : Addr} {v : Value} (h : w.cell? a = some v) (hf : Fr (fun _ => False) w w') : w'.cell? a = some v := by
  have hb := World.block_lt_of_cell? w a h
  have := hf.block a.block hb (fun h => h)
  unfold World.cell? at *
  rw [this]; exact h
end Go.Proofs.Ytngmkjgklonfmaa.Big


/- What is used of BigZ. -/
namespace Go.Proofs.Ytngmkjgklonfmaa.Big
open Go.RowKit Go.Proofs.ZFr Go.Proofs.Ytngmkjgklonfmaa.PNearNearest Go.Proofs.YtngmkjgklonfmaaW.PrintWords
theorem four (w : World) (o1 o2 o3 o4 : Obj) : ((((w.alloc o1).alloc o2).alloc o3).alloc o4).heap[w.heap.size]? = some o1 ∧ ((((w.alloc o1).alloc o2).alloc o3).alloc o4).heap[w.heap.size + 1]? = some o2 ∧ ((((w.alloc o1).alloc o2).alloc o3).alloc o4).heap[w.heap.size + 1 + 1]? = some o3 ∧ ((((w.alloc o1).alloc o2).alloc o3).alloc o4).heap[w.heap.size + 1 + 1 + 1]? = some o4 ∧ Fr (fun _ => False) w ((((w.alloc o1).alloc o2).alloc o3).alloc o4) := by
  obtain ⟨h1, h2, h3, f⟩ := tri w o1 o2 o3
  have h4 := (tri (w.alloc o1) o2 o3 o4).2.2.1
  rw [show (w.alloc o1).heap.size = w.heap.size + 1 from Array.size_push ..] at h4
  exact ⟨ZFr.blk_alloc h1 _, ZFr.blk_alloc h2 _, ZFr.blk_alloc h3 _, h4, f.alloc _⟩
end Go.Proofs.Ytngmkjgklonfmaa.Big


/- What is used of BigJ. -/
namespace Go.Proofs.Ytngmkjgklonfmaa.Big
open Go.RowKit Go.Proofs.ZFr Go.Proofs.Ytngmkjgklonfmaa.PNearNearest Go.Proofs.YtngmkjgklonfmaaW.PrintWords

def inP (a : Int) : Prop := -1099511627776 ≤ a ∧ a ≤ 1099511627776
instance (a : Int) : Decidable (inP a) := inferInstanceAs (Decidable (_ ∧ _))
def i64P (a : Int) : Prop := -9223372036854775808 ≤ a ∧ a < 9223372036854775808
end Go.Proofs.Ytngmkjgklonfmaa.Big


/- What is used of BigK. -/
namespace Go.Proofs.Ytngmkjgklonfmaa.Big
open Go.RowKit Go.Proofs.ZFr Go.Proofs.Ytngmkjgklonfmaa.PNearNearest Go.Proofs.YtngmkjgklonfmaaW.PrintWords

theorem point_cells {w : World} {b : Nat} {x y : Int} (h : w.heap[b]? = some (.cells #[.int .i64 x, .int .i64 y] 24 (0, 0))) : w.cell? ⟨b, 0, none⟩ = some (.int .i64 x) ∧ w.cell? ⟨b, 1, none⟩ = some (.int .i64 y) := ⟨ZFr.blk_cell h 0, ZFr.blk_cell h 1⟩
theorem pt_store {w : World} {b : Nat} {x y : Int} (h : w.heap[b]? = some (.cells #[.int .i64 x, .int .i64 y] 24 (0, 0))) : w.cell? ⟨b, 0, none⟩ = some (.int .i64 x) ∧ w.cell? ⟨b, 1, none⟩ = some (.int .i64 y) ∧ w.frozen? ⟨b, 0, none⟩ = false ∧ w.frozen? ⟨b, 1, none⟩ = false := ⟨ZFr.blk_cell h 0, ZFr.blk_cell h 1, ZFr.blk_free h 0, ZFr.blk_free h 1⟩
theorem of_store {w : World} {b : Nat} {x y : Int} (h : w.heap[b]? = some (.cells #[.int .i64 x, .int .i64 y] 59 (0, 0))) : w.cell? ⟨b, 0, none⟩ = some (.int .i64 x) ∧ w.cell? ⟨b, 1, none⟩ = some (.int .i64 y) ∧ w.frozen? ⟨b, 0, none⟩ = false ∧ w.frozen? ⟨b, 1, none⟩ = false := ⟨ZFr.blk_cell h 0, ZFr.blk_cell h 1, ZFr.blk_free h 0, ZFr.blk_free h 1⟩
theorem div_in {x n : Int} (hx : inP x) (hn : 1 ≤ n) : i64P (x / n) := by
  obtain ⟨h0, h1⟩ := hx
  have a1 : -1099511627776 * n ≤ -1099511627776 * 1 := Int.mul_le_mul_of_nonpos_left (by omega) hn
  have a2 : (1099511627776 + 1) * 1 ≤ (1099511627776 + 1) * n := Int.mul_le_mul_of_nonneg_left hn (by omega)
  have h2 : -1099511627776 ≤ x / n := Int.le_ediv_of_mul_le (by omega) (by omega)
  have h3 : x / n < 1099511627776 + 1 := Int.ediv_lt_of_lt_mul (by omega) (by omega)
  exact ⟨by omega, by omega⟩
end Go.Proofs.Ytngmkjgklonfmaa.Big


/- What is used of BigS. -/
namespace Go.Proofs.Ytngmkjgklonfmaa.Big
open Go.RowKit Go.Proofs.ZFr Go.Proofs.Ytngmkjgklonfmaa.PNearNearest Go.Proofs.YtngmkjgklonfmaaW.PrintWords
def d2 (x y x' y' : Int) : Int := (x' - x) * (x' - x) + (y' - y) * (y' - y)
end Go.Proofs.Ytngmkjgklonfmaa.Big


/- What is used of Far28. -/
namespace Go.Proofs.Ytngmkjgklonfmaa.Big
open Go.RowKit Go.Proofs.ZFr Go.Proofs.Ytngmkjgklonfmaa.PNearNearest Go.Proofs.YtngmkjgklonfmaaW.PrintWords

/-- The distance by way of the m-th of nine squares, and the least of the first m. -/
def dAt (x y X Y n : Int) (m : Nat) : Int := d2 x y (X + (((m / 3 : Nat) : Int) - 1) * n) (Y + (((m % 3 : Nat) : Int) - 1) * n)
def mn (x y X Y n : Int) : Nat → Int
  | 0 => 0
  | m + 1 => if m = 0 then dAt x y X Y n 0 else if dAt x y X Y n m < mn x y X Y n m then dAt x y X Y n m else mn x y X Y n m
theorem mul_self_nn (a : Int) : 0 ≤ a * a := by
  by_cases h : 0 ≤ a
  · exact Int.mul_nonneg h h
  · exact Int.mul_nonneg_of_nonpos_of_nonpos (by omega) (by omega)
theorem mn_nn (x y X Y n : Int) : ∀ m, 0 ≤ mn x y X Y n m
  | 0 => Int.le_refl 0
  | m + 1 => by
    have h : ∀ k, 0 ≤ dAt x y X Y n k := fun k => by
      unfold dAt d2
      exact Int.add_nonneg (mul_self_nn _) (mul_self_nn _)
    rw [mn]
    split
    · exact h 0
    · split
      · exact h m
      · exact mn_nn x y X Y n m
def sqP (a n : Int) : Prop := 0 ≤ a ∧ a < n
end Go.Proofs.Ytngmkjgklonfmaa.Big


/- What is used of Can28. -/
namespace Go.Proofs.Ytngmkjgklonfmaa.Big
open Go.RowKit Go.Proofs.ZFr Go.Proofs.Ytngmkjgklonfmaa.PNearNearest Go.Proofs.YtngmkjgklonfmaaW.PrintWords

/-- Places in memory: their ids and where they lie. -/
def Pls (w : World) (A : Option Addr) (l : List (Int × Int × Int)) : Prop :=
  ∀ i (h : i < l.length), ∃ ad, A = some ad ∧ w.cell? (ad.add (i * 3)) = some (.int .i64 l[i].1) ∧ w.cell? ⟨(ad.add (i * 3)).block, (ad.add (i * 3)).off + 1, none⟩ = some (.int .i64 l[i].2.1) ∧ w.cell? ⟨(ad.add (i * 3)).block, (ad.add (i * 3)).off + 2, none⟩ = some (.int .i64 l[i].2.2)
theorem Pls.fr {w w' : World} {A : Option Addr} {l : List (Int × Int × Int)} (h : Pls w A l) (hf : Fr (fun _ => False) w w') : Pls w' A l := fun i hi => by
  obtain ⟨ad, e, h1, h2, h3⟩ := h i hi
  exact ⟨ad, e, fr_cell h1 hf, fr_cell h2 hf, fr_cell h3 hf⟩
def okP (n : Int) (p : Int × Int × Int) : Prop := sqP p.2.1 n ∧ sqP p.2.2 n
instance (a n : Int) : Decidable (sqP a n) := inferInstanceAs (Decidable (_ ∧ _))
instance (n : Int) (p : Int × Int × Int) : Decidable (okP n p) := inferInstanceAs (Decidable (_ ∧ _))
def canD (l : List (Int × Int × Int)) (n x y : Int) : Prop := (1 ≤ n ∧ n ≤ 1073741824) ∧ (inP x ∧ inP y) ∧ ∀ p ∈ l, okP n p
instance (l : List (Int × Int × Int)) (n x y : Int) : Decidable (canD l n x y) := inferInstanceAs (Decidable (_ ∧ _))
end Go.Proofs.Ytngmkjgklonfmaa.Big


/- What is used of Near28. -/
namespace Go.Proofs.Ytngmkjgklonfmaa.Big
open Go.RowKit Go.Proofs.ZFr Go.Proofs.Ytngmkjgklonfmaa.PNearNearest Go.Proofs.YtngmkjgklonfmaaW.PrintWords

def zP : Int × Int × Int := (0, 0, 0)
def fv (l : List (Int × Int × Int)) (n x y : Int) (i : Nat) : Int := mn (x % n) (y % n) (l.getD i zP).2.1 (l.getD i zP).2.2 n 9
def better (l : List (Int × Int × Int)) (n x y : Int) (i a : Nat) : Prop := fv l n x y i < fv l n x y a ∨ (fv l n x y i = fv l n x y a ∧ (l.getD i zP).1 < (l.getD a zP).1)
instance (l : List (Int × Int × Int)) (n x y : Int) (i a : Nat) : Decidable (better l n x y i a) := inferInstanceAs (Decidable (_ ∨ _))
/-- The nearest of the first k + 1 places. -/
def nb (l : List (Int × Int × Int)) (n x y : Int) : Nat → Nat
  | 0 => 0
  | k + 1 => if better l n x y (k + 1) (nb l n x y k) then k + 1 else nb l n x y k
end Go.Proofs.Ytngmkjgklonfmaa.Big


/- What is used of Wide. -/
namespace Go.Proofs.Ytngmkjgklonfmaa.Wd
open Go.RowKit Go.Proofs.ZFr

def hiW (n : Int) : Int := n / 18446744073709551616
def loW (n : Int) : Int := n % 18446744073709551616
def encW (n : Int) : Value := .agg #[.int .i64 (hiW n), .int .u64 (loW n)]

theorem hi_lo (n : Int) : n = hiW n * 18446744073709551616 + loW n ∧ 0 ≤ loW n ∧ loW n < 18446744073709551616 := by unfold hiW loW; omega
def cmpW (a b : Int) : Int := if a = b then 0 else if a < b then -1 else 1
def cmp2 (x u y v : Int) : Int := if x = y ∧ u = v then 0 else if x < y ∨ (x = y ∧ u < v) then -1 else 1
theorem cmpW_eq (a b : Int) : cmpW a b = cmp2 (hiW a) (loW a) (hiW b) (loW b) := by
  obtain ⟨a1, a2, a3⟩ := hi_lo a
  obtain ⟨b1, b2, b3⟩ := hi_lo b
  unfold cmpW cmp2
  by_cases h1 : hiW a < hiW b
  · rw [if_neg (by omega), if_pos (by omega), if_neg (by omega), if_pos (by omega)]
  · by_cases h2 : hiW a = hiW b
    · by_cases h3 : loW a = loW b
      · rw [if_pos (by omega), if_pos (by omega)]
      · by_cases h4 : loW a < loW b
        · rw [if_neg (by omega), if_pos (by omega), if_neg (by omega), if_pos (by omega)]
        · rw [if_neg (by omega), if_neg (by omega), if_neg (by omega), if_neg (by omega)]
    · rw [if_neg (by omega), if_neg (by omega), if_neg (by omega), if_neg (by omega)]
theorem cmp_walk (a b : Int) (W : World) : Calls Try.prog 31 #[encW a, encW b] W fun e w' => e = .returned (.int .i64 (cmpW a b)) ∧ Fr (fun _ => False) W w' := by
  rw [cmpW_eq]
  unfold encW
  generalize hiW a = x
  generalize loW a = u
  generalize hiW b = y
  generalize loW b = v
  have fin : ∀ o o', Fr (fun _ => False) W ((W.alloc o).alloc o') := fun o o' => ((Fr.refl _ W).alloc _).alloc _
  by_cases h1 : x = y
  · subst h1
    by_cases h2 : u = v
    · subst h2
      go_enter Try.func31, Try.ntmps31
      go_wp2_with fail
      go_ret
      exact ⟨by simp [cmp2], fin _ _⟩
    · by_cases h3 : u < v
      · go_enter Try.func31, Try.ntmps31
        go_wp2_with fail
        go_ret
        exact ⟨by simp [cmp2, h2, h3], fin _ _⟩
      · go_enter Try.func31, Try.ntmps31
        go_wp2_with fail
        go_ret
        exact ⟨by simp [cmp2, h2, h3], fin _ _⟩
  · by_cases h3 : x < y
    · go_enter Try.func31, Try.ntmps31
      go_wp2_with fail
      go_ret
      exact ⟨by simp [cmp2, h1, h3], fin _ _⟩
    · go_enter Try.func31, Try.ntmps31
      go_wp2_with fail
      go_ret
      exact ⟨by simp [cmp2, h1, h3], fin _ _⟩
theorem add64 (x y c : Int) (hx : 0 ≤ x) (hy : 0 ≤ y) (hc0 : 0 ≤ c) (hc : c ≤ 1) (W : World) : (callFunc 146 #[.int .u64 x, .int .u64 y, .int .u64 c]).run Try.prog W = .ok (.value (.tuple #[.int .u64 ((x + y + c) % 18446744073709551616), .int .u64 ((x + y + c) / 18446744073709551616)])) W := by
  rw [run_callFunc_extern Try.func146 (by kernel_rfl) (by kernel_rfl) (by kernel_rfl) (e := add64Entry) (by kernel_rfl), run_add64 x y c hx hy hc0 hc]
  rfl
theorem third (W : World) (o o' o'' : Obj) : (((W.alloc o).alloc o').alloc o'').heap[W.heap.size + 1 + 1]? = some o'' := by
  have h := heap_alloc_new ((W.alloc o).alloc o') o''
  rw [show ((W.alloc o).alloc o').heap.size = W.heap.size + 1 + 1 from (Array.size_push ..).trans (congrArg (· + 1) (Array.size_push ..))] at h
  exact h
set_option maxRecDepth 100000 in
theorem add_walk (a b : Int) (h0 : -170141183460469231731687303715884105728 ≤ a + b) (h1 : a + b < 170141183460469231731687303715884105728) (W : World) : Calls Try.prog 139 #[encW a, encW b] W fun e w' => e = .returned (encW (a + b)) ∧ Fr (fun _ => False) W w' := by
  obtain ⟨a1, a2, a3⟩ := hi_lo a
  obtain ⟨b1, b2, b3⟩ := hi_lo b
  have e1 : ∀ W, _ := fun W => add64 (loW a) (loW b) 0 a2 b2 (by omega) (by omega) W
  have e2 : ∀ W, _ := fun W => add64 (IntKind.u64.wrap (hiW a)) (IntKind.u64.wrap (hiW b)) ((loW a + loW b) / 18446744073709551616) (by rw [show IntKind.u64.wrap (hiW a) = hiW a % 18446744073709551616 from rfl]; omega) (by rw [show IntKind.u64.wrap (hiW b) = hiW b % 18446744073709551616 from rfl]; omega) (by omega) (by omega) W
  have elo : (loW a + loW b) % 18446744073709551616 = loW (a + b) := by unfold loW; omega
  have ehi : wrap64 ((IntKind.u64.wrap (hiW a) + IntKind.u64.wrap (hiW b) + (loW a + loW b) / 18446744073709551616) % 18446744073709551616) = hiW (a + b) := by
    rw [show IntKind.u64.wrap (hiW a) = hiW a % 18446744073709551616 from rfl, show IntKind.u64.wrap (hiW b) = hiW b % 18446744073709551616 from rfl]
    unfold wrap64 hiW loW
    omega
  clear a1 b1
  unfold encW
  go_enter Try.func139, Try.ntmps139
  go_wp2_with fail
  refine bodyPost_ret (results_cell_row rfl _ _ (W.heap.size + 1 + 1) 28 #[.int .i64 (hiW (a + b)), .int .u64 (loW (a + b))] (0, 0) _ rfl ?_ Try.underlying28 rfl (by kernel_rfl)) rfl ?_
  · exact third _ _ _ _
  · exact ⟨rfl, (((Fr.refl _ W).alloc _).alloc _).alloc _⟩
end Go.Proofs.Ytngmkjgklonfmaa.Wd

