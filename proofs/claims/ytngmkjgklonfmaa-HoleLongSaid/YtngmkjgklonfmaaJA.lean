/- Joined texts. -/
import Derived.Test.YtngmkjgklonfmaaBigP5
import Derived.Test.YtngmkjgklonfmaaBigP7
import Derived.Test.YtngmkjgklonfmaaBigP1
import Derived.Test.YtngmkjgklonfmaaZFr
import Derived.Test.YtngmkjgklonfmaaWAt
import Derived.RowKit
import Derived.RowKit3
import Derived.WideLaws
import Derived.WalkLawsBesides
import Derived.WalkSpells
import Derived.Lib.Hide
import Derived.Outline
import Derived.WalkKit
import Derived.Test.YtngmkjgklonfmaaBigTor
import Derived.Deep.RegionLaw
import Derived.Deep.DeepCutAuto
import Derived.Test.YtngmkjgklonfmaaProg
import Derived.Laws.Externs
import Derived.Shelf.Spec.BitsCarry
import Derived.Test.YtngmkjgklonfmaaNP4
/- What is used of BigF. -/
namespace Go.Proofs.Ytngmkjgklonfmaa.Big
open Go.RowKit Go.Proofs.Ytngmkjgklonfmaa.PNearNearest Go.Proofs.YtngmkjgklonfmaaW.PrintWords

theorem w64 {n : Int} (h1 : -9223372036854775808 ≤ n) (h2 : n < 9223372036854775808) : wrap64 n = n := by unfold wrap64; omega
end Go.Proofs.Ytngmkjgklonfmaa.Big


/- What is used of BigW. -/
namespace Go.Proofs.Ytngmkjgklonfmaa.Big
open Go.RowKit Go.Proofs.ZFr Go.Proofs.Ytngmkjgklonfmaa.PNearNearest Go.Proofs.YtngmkjgklonfmaaW.PrintWords

theorem second (W : World) (o o' : Obj) : ((W.alloc o).alloc o').heap[W.heap.size + 1]? = some o' := by
  have h := heap_alloc_new (W.alloc o) o'
  rw [show (W.alloc o).heap.size = W.heap.size + 1 from Array.size_push ..] at h
  exact h
theorem tri (w : World) (o1 o2 o3 : Obj) : (((w.alloc o1).alloc o2).alloc o3).heap[w.heap.size]? = some o1 ∧ (((w.alloc o1).alloc o2).alloc o3).heap[w.heap.size + 1]? = some o2 ∧ (((w.alloc o1).alloc o2).alloc o3).heap[w.heap.size + 1 + 1]? = some o3 ∧ Fr (fun _ => False) w (((w.alloc o1).alloc o2).alloc o3) := by
  have h1 := heap_alloc_new w o1
  have h2 := second w o1 o2
  have h3 := second (w.alloc o1) o2 o3
  rw [show (w.alloc o1).heap.size = w.heap.size + 1 from Array.size_push ..] at h3
  exact ⟨ZFr.blk_alloc (ZFr.blk_alloc h1 _) _, ZFr.blk_alloc h2 _, h3, (((Fr.refl _ w).alloc _).alloc _).alloc _⟩
theorem cell_far {w : World} {p q : Addr} {u v : Value} (h : w.cell? q = some v) (hb : q.block ≠ p.block) : (w.setCell p u).cell? q = some v := by
  have := Below.heap_setCell w p u q.block hb
  unfold World.cell? at *
  rw [this]; exact h
end Go.Proofs.Ytngmkjgklonfmaa.Big


/- What is used of BigQ. -/
namespace Go.Proofs.Ytngmkjgklonfmaa.Big
open Go.RowKit Go.Proofs.ZFr Go.Proofs.Ytngmkjgklonfmaa.PNearNearest Go.Proofs.YtngmkjgklonfmaaW.PrintWords

theorem fr_cell {w w' : World} {a : Addr} {v : Value} (h : w.cell? a = some v) (hf : Fr (fun _ => False) w w') : w'.cell? a = some v := by
  have hb := World.block_lt_of_cell? w a h
  have := hf.block a.block hb (fun h => h)
  unfold World.cell? at *
  rw [this]; exact h
end Go.Proofs.Ytngmkjgklonfmaa.Big


/- What is used of BigJ. -/
namespace Go.Proofs.Ytngmkjgklonfmaa.Big
open Go.RowKit Go.Proofs.ZFr Go.Proofs.Ytngmkjgklonfmaa.PNearNearest Go.Proofs.YtngmkjgklonfmaaW.PrintWords

def inP (a : Int) : Prop := -1099511627776 ≤ a ∧ a ≤ 1099511627776
instance (a : Int) : Decidable (inP a) := inferInstanceAs (Decidable (_ ∧ _))
def i64P (a : Int) : Prop := -9223372036854775808 ≤ a ∧ a < 9223372036854775808
end Go.Proofs.Ytngmkjgklonfmaa.Big


/- What is used of BigK. -/
namespace Go.Proofs.Ytngmkjgklonfmaa.Big
open Go.RowKit Go.Proofs.ZFr Go.Proofs.Ytngmkjgklonfmaa.PNearNearest Go.Proofs.YtngmkjgklonfmaaW.PrintWords

theorem point_cells {w : World} {b : Nat} {x y : Int} (h : w.heap[b]? = some (.cells #[.int .i64 x, .int .i64 y] 24 (0, 0))) : w.cell? ⟨b, 0, none⟩ = some (.int .i64 x) ∧ w.cell? ⟨b, 1, none⟩ = some (.int .i64 y) := ⟨ZFr.blk_cell h 0, ZFr.blk_cell h 1⟩
end Go.Proofs.Ytngmkjgklonfmaa.Big


/- What is used of BigS. -/
namespace Go.Proofs.Ytngmkjgklonfmaa.Big
open Go.RowKit Go.Proofs.ZFr Go.Proofs.Ytngmkjgklonfmaa.PNearNearest Go.Proofs.YtngmkjgklonfmaaW.PrintWords
def d2 (x y x' y' : Int) : Int := (x' - x) * (x' - x) + (y' - y) * (y' - y)
end Go.Proofs.Ytngmkjgklonfmaa.Big


/- What is used of Far28. -/
namespace Go.Proofs.Ytngmkjgklonfmaa.Big
open Go.RowKit Go.Proofs.ZFr Go.Proofs.Ytngmkjgklonfmaa.PNearNearest Go.Proofs.YtngmkjgklonfmaaW.PrintWords

theorem mul_self_nn (a : Int) : 0 ≤ a * a := by
  by_cases h : 0 ≤ a
  · exact Int.mul_nonneg h h
  · exact Int.mul_nonneg_of_nonpos_of_nonpos (by omega) (by omega)
end Go.Proofs.Ytngmkjgklonfmaa.Big


/- What is used of Wide. -/
namespace Go.Proofs.Ytngmkjgklonfmaa.Wd
open Go.RowKit Go.Proofs.ZFr

def hiW (n : Int) : Int := n / 18446744073709551616
def loW (n : Int) : Int := n % 18446744073709551616
def encW (n : Int) : Value := .agg #[.int .i64 (hiW n), .int .u64 (loW n)]

theorem hi_lo (n : Int) : n = hiW n * 18446744073709551616 + loW n ∧ 0 ≤ loW n ∧ loW n < 18446744073709551616 := by unfold hiW loW; omega
theorem add64 (x y c : Int) (hx : 0 ≤ x) (hy : 0 ≤ y) (hc0 : 0 ≤ c) (hc : c ≤ 1) (W : World) : (callFunc 146 #[.int .u64 x, .int .u64 y, .int .u64 c]).run Try.prog W = .ok (.value (.tuple #[.int .u64 ((x + y + c) % 18446744073709551616), .int .u64 ((x + y + c) / 18446744073709551616)])) W := by
  rw [run_callFunc_extern Try.func146 (by kernel_rfl) (by kernel_rfl) (by kernel_rfl) (e := add64Entry) (by kernel_rfl), run_add64 x y c hx hy hc0 hc]
  rfl
theorem third (W : World) (o o' o'' : Obj) : (((W.alloc o).alloc o').alloc o'').heap[W.heap.size + 1 + 1]? = some o'' := by
  have h := heap_alloc_new ((W.alloc o).alloc o') o''
  rw [show ((W.alloc o).alloc o').heap.size = W.heap.size + 1 + 1 from (Array.size_push ..).trans (congrArg (· + 1) (Array.size_push ..))] at h
  exact h
set_option maxRecDepth 100000 in
theorem add_walk (a b : Int) (h0 : -170141183460469231731687303715884105728 ≤ a + b) (h1 : a + b < 170141183460469231731687303715884105728) (W : World) : Calls Try.prog 139 #[encW a, encW b] W fun e w' => e = .returned (encW (a + b)) ∧ Fr (fun _ => False) W w' := by
  obtain ⟨a1, a2, a3⟩ := hi_lo a
  obtain ⟨b1, b2, b3⟩ := hi_lo b
  have e1 : ∀ W, _ := fun W => add64 (loW a) (loW b) 0 a2 b2 (by omega) (by omega) W
  have e2 : ∀ W, _ := fun W => add64 (IntKind.u64.wrap (hiW a)) (IntKind.u64.wrap (hiW b)) ((loW a + loW b) / 18446744073709551616) (by rw [show IntKind.u64.wrap (hiW a) = hiW a % 18446744073709551616 from rfl]; omega) (by rw [show IntKind.u64.wrap (hiW b) = hiW b % 18446744073709551616 from rfl]; omega) (by omega) (by omega) W
  have elo : (loW a + loW b) % 18446744073709551616 = loW (a + b) := by unfold loW; omega
  have ehi : wrap64 ((IntKind.u64.wrap (hiW a) + IntKind.u64.wrap (hiW b) + (loW a + loW b) / 18446744073709551616) % 18446744073709551616) = hiW (a + b) := by
    rw [show IntKind.u64.wrap (hiW a) = hiW a % 18446744073709551616 from rfl, show IntKind.u64.wrap (hiW b) = hiW b % 18446744073709551616 from rfl]
    unfold wrap64 hiW loW
    omega
  clear a1 b1
  unfold encW
  go_enter Try.func139, Try.ntmps139
  go_wp2_with fail
  refine bodyPost_ret (results_cell_row rfl _ _ (W.heap.size + 1 + 1) 28 #[.int .i64 (hiW (a + b)), .int .u64 (loW (a + b))] (0, 0) _ rfl ?_ Try.underlying28 rfl (by kernel_rfl)) rfl ?_
  · exact third _ _ _ _
  · exact ⟨rfl, (((Fr.refl _ W).alloc _).alloc _).alloc _⟩
theorem sub64 (x y c : Int) (hx : 0 ≤ x) (hx1 : x < 18446744073709551616) (hy : 0 ≤ y) (hy1 : y < 18446744073709551616) (hc0 : 0 ≤ c) (hc : c ≤ 1) (W : World) : (callFunc 162 #[.int .u64 x, .int .u64 y, .int .u64 c]).run Try.prog W = .ok (.value (.tuple #[.int .u64 ((x - y - c) % 18446744073709551616), .int .u64 (if x < y + c then 1 else 0)])) W := by
  obtain ⟨X, rfl⟩ := Int.eq_ofNat_of_zero_le hx
  obtain ⟨Y, rfl⟩ := Int.eq_ofNat_of_zero_le hy
  obtain ⟨C, rfl⟩ := Int.eq_ofNat_of_zero_le hc0
  rw [run_callFunc_extern Try.func162 (by kernel_rfl) (by kernel_rfl) (by kernel_rfl) (e := sub64Entry) (by kernel_rfl), run_sub64 X Y C (by omega)]
  simp only [Result.andThen]
  have e1 : (((X + 18446744073709551616 - Y - C) % 18446744073709551616 : Nat) : Int) = ((X : Int) - Y - C) % 18446744073709551616 := by omega
  have e2 : ((if X < Y + C then 1 else 0 : Nat) : Int) = if (X : Int) < Y + C then 1 else 0 := by split <;> split <;> omega
  rw [e1, e2]
set_option maxRecDepth 100000 in
theorem sub_walk (a b : Int) (h0 : -170141183460469231731687303715884105728 ≤ a - b) (h1 : a - b < 170141183460469231731687303715884105728) (W : World) : Calls Try.prog 160 #[encW a, encW b] W fun e w' => e = .returned (encW (a - b)) ∧ Fr (fun _ => False) W w' := by
  obtain ⟨a1, a2, a3⟩ := hi_lo a
  obtain ⟨b1, b2, b3⟩ := hi_lo b
  obtain ⟨c, hc, hc0, hc1⟩ : ∃ c : Int, (if loW a < loW b then (1 : Int) else 0) = c ∧ 0 ≤ c ∧ c ≤ 1 := ⟨_, rfl, by split <;> omega, by split <;> omega⟩
  have e1 : ∀ W, _ := fun W => sub64 (loW a) (loW b) 0 a2 a3 b2 b3 (by omega) (by omega) W
  have e2 : ∀ W, _ := fun W => sub64 (IntKind.u64.wrap (hiW a)) (IntKind.u64.wrap (hiW b)) c (by rw [show IntKind.u64.wrap (hiW a) = hiW a % 18446744073709551616 from rfl]; omega) (by rw [show IntKind.u64.wrap (hiW a) = hiW a % 18446744073709551616 from rfl]; omega) (by rw [show IntKind.u64.wrap (hiW b) = hiW b % 18446744073709551616 from rfl]; omega) (by rw [show IntKind.u64.wrap (hiW b) = hiW b % 18446744073709551616 from rfl]; omega) hc0 hc1 W
  rw [Int.sub_zero, Int.add_zero, hc] at e1
  generalize (if IntKind.u64.wrap (hiW a) < IntKind.u64.wrap (hiW b) + c then (1 : Int) else 0) = c2 at e2
  have elo : (loW a - loW b) % 18446744073709551616 = loW (a - b) := by unfold loW; omega
  have ehi : wrap64 ((IntKind.u64.wrap (hiW a) - IntKind.u64.wrap (hiW b) - c) % 18446744073709551616) = hiW (a - b) := by
    rw [show IntKind.u64.wrap (hiW a) = hiW a % 18446744073709551616 from rfl, show IntKind.u64.wrap (hiW b) = hiW b % 18446744073709551616 from rfl, ← hc]
    unfold wrap64 hiW loW
    split <;> omega
  clear a1 b1 hc
  unfold encW
  go_enter Try.func160, Try.ntmps160
  go_wp2_with fail
  refine bodyPost_ret (results_cell_row rfl _ _ (W.heap.size + 1 + 1) 28 #[.int .i64 (hiW (a - b)), .int .u64 (loW (a - b))] (0, 0) _ rfl ?_ Try.underlying28 rfl (by kernel_rfl)) rfl ?_
  · exact third _ _ _ _
  · exact ⟨rfl, (((Fr.refl _ W).alloc _).alloc _).alloc _⟩
end Go.Proofs.Ytngmkjgklonfmaa.Wd


/- What is used of MulW. -/
namespace Go.Proofs.Ytngmkjgklonfmaa.Wd
open Go.RowKit Go.Proofs.ZFr Go.Proofs.Ytngmkjgklonfmaa.PNearNearest Go.Proofs.Ytngmkjgklonfmaa.Big

theorem and32 (x : Int) (h0 : 0 ≤ x) (h1 : x < 18446744073709551616) : Go.bits .and .u64 x 4294967295 = x % 4294967296 :=
  bits_mask .u64 64 (by decide) (fun n a b => by show n % 18446744073709551616 = n; exact Int.emod_eq_of_lt a (by simpa using b)) 32 (by decide) x h0 (by simpa using h1)
theorem prod_le {a b : Int} (ha : 0 ≤ a ∧ a ≤ 4294967295) (hb : 0 ≤ b ∧ b ≤ 4294967295) : 0 ≤ a * b ∧ a * b ≤ 18446744065119617025 :=
  ⟨Int.mul_nonneg ha.1 hb.1, Int.le_trans (Int.mul_le_mul ha.2 hb.2 hb.1 (by decide)) (by decide)⟩
theorem mul_parts (x1 x0 y1 y0 : Int) : (x1 * 4294967296 + x0) * (y1 * 4294967296 + y0) = x1 * y1 * 18446744073709551616 + (x1 * y0 + x0 * y1) * 4294967296 + x0 * y0 := by
  rw [Int.add_mul, Int.mul_add, Int.mul_add]
  have e1 : x1 * 4294967296 * (y1 * 4294967296) = x1 * y1 * 18446744073709551616 := by
    rw [Int.mul_assoc, Int.mul_left_comm 4294967296, ← Int.mul_assoc]; rfl
  have e2 : x1 * 4294967296 * y0 = x1 * y0 * 4294967296 := by rw [Int.mul_assoc, Int.mul_comm 4294967296, ← Int.mul_assoc]
  have e3 : x0 * (y1 * 4294967296) = x0 * y1 * 4294967296 := by rw [← Int.mul_assoc]
  rw [e1, e2, e3]
  omega
theorem mul64_f (x y : Int) (hx : 0 ≤ x ∧ x < 18446744073709551616) (hy : 0 ≤ y ∧ y < 18446744073709551616) : bits_Mul64.f x y = some (x * y / 18446744073709551616, x * y % 18446744073709551616) := by
  unfold bits_Mul64.f
  have u : ∀ n : Int, IntKind.u64.wrap n = n % 18446744073709551616 := fun _ => rfl
  have hp := mul_parts (x / 4294967296) (x % 4294967296) (y / 4294967296) (y % 4294967296)
  rw [show x / 4294967296 * 4294967296 + x % 4294967296 = x from by omega, show y / 4294967296 * 4294967296 + y % 4294967296 = y from by omega] at hp
  have b1 := prod_le (a := x / 4294967296) (b := y / 4294967296) (by omega) (by omega)
  have b2 := prod_le (a := x / 4294967296) (b := y % 4294967296) (by omega) (by omega)
  have b3 := prod_le (a := x % 4294967296) (b := y / 4294967296) (by omega) (by omega)
  have b4 := prod_le (a := x % 4294967296) (b := y % 4294967296) (by omega) (by omega)
  have m : ∀ n : Int, 0 ≤ n → n < 18446744073709551616 → n % 18446744073709551616 = n := fun n a b => Int.emod_eq_of_lt a b
  rw [and32 x hx.1 hx.2, and32 y hy.1 hy.2]
  simp only [u]
  generalize x / 4294967296 * (y / 4294967296) = P at *
  generalize x / 4294967296 * (y % 4294967296) = Q at *
  generalize x % 4294967296 * (y / 4294967296) = R at *
  generalize x % 4294967296 * (y % 4294967296) = T at *
  generalize x * y = Z at *
  rw [m P b1.1 (by omega), m Q b2.1 (by omega), m R b3.1 (by omega), m T b4.1 (by omega), m (Q + T / 4294967296) (by omega) (by omega), and32 (Q + T / 4294967296) (by omega) (by omega), m ((Q + T / 4294967296) % 4294967296 + R) (by omega) (by omega)]
  congr 2
  omega
theorem mul_f (a b : Int) (ha : -9223372036854775808 ≤ a ∧ a < 9223372036854775808) (hb : -9223372036854775808 ≤ b ∧ b < 9223372036854775808) : wide_Mul.f a b = some (hiW (a * b), loW (a * b)) := by
  unfold wide_Mul.f
  have u : ∀ n : Int, IntKind.u64.wrap n = n % 18446744073709551616 := fun _ => rfl
  have hbd : -85070591730234615865843651857942052864 ≤ a * b ∧ a * b ≤ 85070591730234615865843651857942052864 := by
    have h := Int.natAbs_mul a b
    have h1 : a.natAbs * b.natAbs ≤ 9223372036854775808 * 9223372036854775808 := Nat.mul_le_mul (by omega) (by omega)
    omega
  simp only [u]
  have nn : ∀ n : Int, 0 ≤ n → n < 9223372036854775808 → n % 18446744073709551616 = n := fun n h1 h2 => Int.emod_eq_of_lt h1 (by omega)
  have ng : ∀ n : Int, n < 0 → -9223372036854775808 ≤ n → n % 18446744073709551616 = n + 18446744073709551616 := fun n h1 h2 => by omega
  have w : ∀ n : Int, wrap64 n = (n + 9223372036854775808) % 18446744073709551616 - 9223372036854775808 := fun _ => by unfold wrap64; rfl
  rw [mul64_f _ _ (by omega) (by omega), Option.bind_some]
  simp only [w]
  unfold hiW loW
  by_cases h1 : a < 0
  · rw [if_pos h1, ng a h1 ha.1]
    by_cases h2 : b < 0
    · rw [if_pos h2, ng b h2 hb.1]
      have e : (a + 18446744073709551616) * (b + 18446744073709551616) = a * b + 18446744073709551616 * (a + b) + 340282366920938463463374607431768211456 := by
        rw [Int.add_mul, Int.mul_add, Int.mul_add, Int.mul_comm a 18446744073709551616]; omega
      rw [e]
      generalize a * b = Z at *
      congr 2 <;> omega
    · rw [if_neg h2, nn b (by omega) hb.2]
      have e : (a + 18446744073709551616) * b = a * b + 18446744073709551616 * b := by rw [Int.add_mul]
      rw [e]
      generalize a * b = Z at *
      congr 2 <;> omega
  · rw [if_neg h1, nn a (by omega) ha.2]
    by_cases h2 : b < 0
    · rw [if_pos h2, ng b h2 hb.1]
      have e : a * (b + 18446744073709551616) = a * b + 18446744073709551616 * a := by rw [Int.mul_add, Int.mul_comm a 18446744073709551616]
      rw [e]
      generalize a * b = Z at *
      congr 2 <;> omega
    · rw [if_neg h2, nn b (by omega) hb.2]
      have h0 : 0 ≤ a * b := Int.mul_nonneg (by omega) (by omega)
      generalize a * b = Z at *
      congr 2
      omega
theorem mul_c (a b : Int) (ha : i64P a) (hb : i64P b) (W : World) : Calls Try.prog 123 #[.int .i64 a, .int .i64 b] W fun e w' => e = .returned (encW (a * b)) ∧ Fr (fun _ => False) W w' := by
  refine (wide_Mul.calls a b _ _ W (mul_f a b ha hb)).mono ?_
  rintro e w' ⟨rfl, hb⟩
  exact ⟨rfl, Fr.of_below hb⟩
end Go.Proofs.Ytngmkjgklonfmaa.Wd

