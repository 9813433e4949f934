/- Joined texts. -/
import Derived.Test.YtngmkjgklonfmaaProg
import Derived.Test.YtngmkjgklonfmaaJC
import Derived.Laws.Externs
import Derived.Shelf.Spec.BitsCarry
import Derived.RowKit
import Derived.RowKit3
import Derived.WideLaws
import Derived.WalkLawsBesides
import Derived.WalkSpells
import Derived.Lib.Hide
import Derived.Outline
import Derived.WalkKit
import Derived.Test.YtngmkjgklonfmaaJE
import Derived.Deep.RegionLaw
import Derived.Test.YtngmkjgklonfmaaSkNP4
import Derived.Test.YtngmkjgklonfmaaSkNPC
/- What is used of Wide. -/
namespace Go.Proofs.Ytngmkjgklonfmaa.Wd
open Go.RowKit Go.Proofs.ZFr

def hiW (n : Int) : Int := n / 18446744073709551616
def loW (n : Int) : Int := n % 18446744073709551616
def encW (n : Int) : Value := .agg #[.int .i64 (hiW n), .int .u64 (loW n)]

theorem hi_lo (n : Int) : n = hiW n * 18446744073709551616 + loW n ∧ 0 ≤ loW n ∧ loW n < 18446744073709551616 := by unfold hiW loW; omega
theorem add64 (x y c : Int) (hx : 0 ≤ x) (hy : 0 ≤ y) (hc0 : 0 ≤ c) (hc : c ≤ 1) (W : World) : (callFunc 146 #[.int .u64 x, .int .u64 y, .int .u64 c]).run Try.prog W = .ok (.value (.tuple #[.int .u64 ((x + y + c) % 18446744073709551616), .int .u64 ((x + y + c) / 18446744073709551616)])) W := by
  rw [run_callFunc_extern Try.func146 (by kernel_rfl) (by kernel_rfl) (by kernel_rfl) (e := add64Entry) (by kernel_rfl), run_add64 x y c hx hy hc0 hc]
  rfl
theorem third (W : World) (o o' o'' : Obj) : (((W.alloc o).alloc o').alloc o'').heap[W.heap.size + 1 + 1]? = some o'' := by
  have h := heap_alloc_new ((W.alloc o).alloc o') o''
  rw [show ((W.alloc o).alloc o').heap.size = W.heap.size + 1 + 1 from (Array.size_push ..).trans (congrArg (· + 1) (Array.size_push ..))] at h
  exact h
set_option maxRecDepth 100000 in
theorem add_walk (a b : Int) (h0 : -170141183460469231731687303715884105728 ≤ a + b) (h1 : a + b < 170141183460469231731687303715884105728) (W : World) : Calls Try.prog 139 #[encW a, encW b] W fun e w' => e = .returned (encW (a + b)) ∧ Fr (fun _ => False) W w' := by
  obtain ⟨a1, a2, a3⟩ := hi_lo a
  obtain ⟨b1, b2, b3⟩ := hi_lo b
  have e1 : ∀ W, _ := fun W => add64 (loW a) (loW b) 0 a2 b2 (by omega) (by omega) W
  have e2 : ∀ W, _ := fun W => add64 (IntKind.u64.wrap (hiW a)) (IntKind.u64.wrap (hiW b)) ((loW a + loW b) / 18446744073709551616) (by rw [show IntKind.u64.wrap (hiW a) = hiW a % 18446744073709551616 from rfl]; omega) (by rw [show IntKind.u64.wrap (hiW b) = hiW b % 18446744073709551616 from rfl]; omega) (by omega) (by omega) W
  have elo : (loW a + loW b) % 18446744073709551616 = loW (a + b) := by unfold loW; omega
  have ehi : wrap64 ((IntKind.u64.wrap (hiW a) + IntKind.u64.wrap (hiW b) + (loW a + loW b) / 18446744073709551616) % 18446744073709551616) = hiW (a + b) := by
    rw [show IntKind.u64.wrap (hiW a) = hiW a % 18446744073709551616 from rfl, show IntKind.u64.wrap (hiW b) = hiW b % 18446744073709551616 from rfl]
    unfold wrap64 hiW loW
    omega
  clear a1 b1
  unfold encW
  go_enter Try.func139, Try.ntmps139
  go_wp2_with fail
  refine bodyPost_ret (results_cell_row rfl _ _ (W.heap.size + 1 + 1) 28 #[.int .i64 (hiW (a + b)), .int .u64 (loW (a + b))] (0, 0) _ rfl ?_ Try.underlying28 rfl (by kernel_rfl)) rfl ?_
  · exact third _ _ _ _
  · exact ⟨rfl, (((Fr.refl _ W).alloc _).alloc _).alloc _⟩
theorem sub64 (x y c : Int) (hx : 0 ≤ x) (hx1 : x < 18446744073709551616) (hy : 0 ≤ y) (hy1 : y < 18446744073709551616) (hc0 : 0 ≤ c) (hc : c ≤ 1) (W : World) : (callFunc 162 #[.int .u64 x, .int .u64 y, .int .u64 c]).run Try.prog W = .ok (.value (.tuple #[.int .u64 ((x - y - c) % 18446744073709551616), .int .u64 (if x < y + c then 1 else 0)])) W := by
  obtain ⟨X, rfl⟩ := Int.eq_ofNat_of_zero_le hx
  obtain ⟨Y, rfl⟩ := Int.eq_ofNat_of_zero_le hy
  obtain ⟨C, rfl⟩ := Int.eq_ofNat_of_zero_le hc0
  rw [run_callFunc_extern Try.func162 (by kernel_rfl) (by kernel_rfl) (by kernel_rfl) (e := sub64Entry) (by kernel_rfl), run_sub64 X Y C (by omega)]
  simp only [Result.andThen]
  have e1 : (((X + 18446744073709551616 - Y - C) % 18446744073709551616 : Nat) : Int) = ((X : Int) - Y - C) % 18446744073709551616 := by omega
  have e2 : ((if X < Y + C then 1 else 0 : Nat) : Int) = if (X : Int) < Y + C then 1 else 0 := by split <;> split <;> omega
  rw [e1, e2]
set_option maxRecDepth 100000 in
theorem sub_walk (a b : Int) (h0 : -170141183460469231731687303715884105728 ≤ a - b) (h1 : a - b < 170141183460469231731687303715884105728) (W : World) : Calls Try.prog 160 #[encW a, encW b] W fun e w' => e = .returned (encW (a - b)) ∧ Fr (fun _ => False) W w' := by
  obtain ⟨a1, a2, a3⟩ := hi_lo a
  obtain ⟨b1, b2, b3⟩ := hi_lo b
  obtain ⟨c, hc, hc0, hc1⟩ : ∃ c : Int, (if loW a < loW b then (1 : Int) else 0) = c ∧ 0 ≤ c ∧ c ≤ 1 := ⟨_, rfl, by split <;> omega, by split <;> omega⟩
  have e1 : ∀ W, _ := fun W => sub64 (loW a) (loW b) 0 a2 a3 b2 b3 (by omega) (by omega) W
  have e2 : ∀ W, _ := fun W => sub64 (IntKind.u64.wrap (hiW a)) (IntKind.u64.wrap (hiW b)) c (by rw [show IntKind.u64.wrap (hiW a) = hiW a % 18446744073709551616 from rfl]; omega) (by rw [show IntKind.u64.wrap (hiW a) = hiW a % 18446744073709551616 from rfl]; omega) (by rw [show IntKind.u64.wrap (hiW b) = hiW b % 18446744073709551616 from rfl]; omega) (by rw [show IntKind.u64.wrap (hiW b) = hiW b % 18446744073709551616 from rfl]; omega) hc0 hc1 W
  rw [Int.sub_zero, Int.add_zero, hc] at e1
  generalize (if IntKind.u64.wrap (hiW a) < IntKind.u64.wrap (hiW b) + c then (1 : Int) else 0) = c2 at e2
  have elo : (loW a - loW b) % 18446744073709551616 = loW (a - b) := by unfold loW; omega
  have ehi : wrap64 ((IntKind.u64.wrap (hiW a) - IntKind.u64.wrap (hiW b) - c) % 18446744073709551616) = hiW (a - b) := by
    rw [show IntKind.u64.wrap (hiW a) = hiW a % 18446744073709551616 from rfl, show IntKind.u64.wrap (hiW b) = hiW b % 18446744073709551616 from rfl, ← hc]
    unfold wrap64 hiW loW
    split <;> omega
  clear a1 b1 hc
  unfold encW
  go_enter Try.func160, Try.ntmps160
  go_wp2_with fail
  refine bodyPost_ret (results_cell_row rfl _ _ (W.heap.size + 1 + 1) 28 #[.int .i64 (hiW (a - b)), .int .u64 (loW (a - b))] (0, 0) _ rfl ?_ Try.underlying28 rfl (by kernel_rfl)) rfl ?_
  · exact third _ _ _ _
  · exact ⟨rfl, (((Fr.refl _ W).alloc _).alloc _).alloc _⟩
end Go.Proofs.Ytngmkjgklonfmaa.Wd


/- What is used of WideL. -/
namespace Go.Proofs.Ytngmkjgklonfmaa.Big
open Go.RowKit Go.Proofs.ZFr Go.Proofs.Ytngmkjgklonfmaa.PNearNearest Go.Proofs.YtngmkjgklonfmaaW.PrintWords

def v8 : List Int → Int
  | [] => 0
  | d :: l => d + 256 * v8 l
end Go.Proofs.Ytngmkjgklonfmaa.Big


/- What is used of MulW. -/
namespace Go.Proofs.Ytngmkjgklonfmaa.Wd
open Go.RowKit Go.Proofs.ZFr Go.Proofs.Ytngmkjgklonfmaa.PNearNearest Go.Proofs.Ytngmkjgklonfmaa.Big

theorem and32 (x : Int) (h0 : 0 ≤ x) (h1 : x < 18446744073709551616) : Go.bits .and .u64 x 4294967295 = x % 4294967296 :=
  bits_mask .u64 64 (by decide) (fun n a b => by show n % 18446744073709551616 = n; exact Int.emod_eq_of_lt a (by simpa using b)) 32 (by decide) x h0 (by simpa using h1)
theorem prod_le {a b : Int} (ha : 0 ≤ a ∧ a ≤ 4294967295) (hb : 0 ≤ b ∧ b ≤ 4294967295) : 0 ≤ a * b ∧ a * b ≤ 18446744065119617025 :=
  ⟨Int.mul_nonneg ha.1 hb.1, Int.le_trans (Int.mul_le_mul ha.2 hb.2 hb.1 (by decide)) (by decide)⟩
theorem mul_parts (x1 x0 y1 y0 : Int) : (x1 * 4294967296 + x0) * (y1 * 4294967296 + y0) = x1 * y1 * 18446744073709551616 + (x1 * y0 + x0 * y1) * 4294967296 + x0 * y0 := by
  rw [Int.add_mul, Int.mul_add, Int.mul_add]
  have e1 : x1 * 4294967296 * (y1 * 4294967296) = x1 * y1 * 18446744073709551616 := by
    rw [Int.mul_assoc, Int.mul_left_comm 4294967296, ← Int.mul_assoc]; rfl
  have e2 : x1 * 4294967296 * y0 = x1 * y0 * 4294967296 := by rw [Int.mul_assoc, Int.mul_comm 4294967296, ← Int.mul_assoc]
  have e3 : x0 * (y1 * 4294967296) = x0 * y1 * 4294967296 := by rw [← Int.mul_assoc]
  rw [e1, e2, e3]
  omega
theorem mul64_f (x y : Int) (hx : 0 ≤ x ∧ x < 18446744073709551616) (hy : 0 ≤ y ∧ y < 18446744073709551616) : bits_Mul64.f x y = some (x * y / 18446744073709551616, x * y % 18446744073709551616) := by
  unfold bits_Mul64.f
  have u : ∀ n : Int, IntKind.u64.wrap n = n % 18446744073709551616 := fun _ => rfl
  have hp := mul_parts (x / 4294967296) (x % 4294967296) (y / 4294967296) (y % 4294967296)
  rw [show x / 4294967296 * 4294967296 + x % 4294967296 = x from by omega, show y / 4294967296 * 4294967296 + y % 4294967296 = y from by omega] at hp
  have b1 := prod_le (a := x / 4294967296) (b := y / 4294967296) (by omega) (by omega)
  have b2 := prod_le (a := x / 4294967296) (b := y % 4294967296) (by omega) (by omega)
  have b3 := prod_le (a := x % 4294967296) (b := y / 4294967296) (by omega) (by omega)
  have b4 := prod_le (a := x % 4294967296) (b := y % 4294967296) (by omega) (by omega)
  have m : ∀ n : Int, 0 ≤ n → n < 18446744073709551616 → n % 18446744073709551616 = n := fun n a b => Int.emod_eq_of_lt a b
  rw [and32 x hx.1 hx.2, and32 y hy.1 hy.2]
  simp only [u]
  generalize x / 4294967296 * (y / 4294967296) = P at *
  generalize x / 4294967296 * (y % 4294967296) = Q at *
  generalize x % 4294967296 * (y / 4294967296) = R at *
  generalize x % 4294967296 * (y % 4294967296) = T at *
  generalize x * y = Z at *
  rw [m P b1.1 (by omega), m Q b2.1 (by omega), m R b3.1 (by omega), m T b4.1 (by omega), m (Q + T / 4294967296) (by omega) (by omega), and32 (Q + T / 4294967296) (by omega) (by omega), m ((Q + T / 4294967296) % 4294967296 + R) (by omega) (by omega)]
  congr 2
  omega
theorem mul_f (a b : Int) (ha : -9223372036854775808 ≤ a ∧ a < 9223372036854775808) (hb : -9223372036854775808 ≤ b ∧ b < 9223372036854775808) : wide_Mul.f a b = some (hiW (a * b), loW (a * b)) := by
  unfold wide_Mul.f
  have u : ∀ n : Int, IntKind.u64.wrap n = n % 18446744073709551616 := fun _ => rfl
  have hbd : -85070591730234615865843651857942052864 ≤ a * b ∧ a * b ≤ 85070591730234615865843651857942052864 := by
    have h := Int.natAbs_mul a b
    have h1 : a.natAbs * b.natAbs ≤ 9223372036854775808 * 9223372036854775808 := Nat.mul_le_mul (by omega) (by omega)
    omega
  simp only [u]
  have nn : ∀ n : Int, 0 ≤ n → n < 9223372036854775808 → n % 18446744073709551616 = n := fun n h1 h2 => Int.emod_eq_of_lt h1 (by omega)
  have ng : ∀ n : Int, n < 0 → -9223372036854775808 ≤ n → n % 18446744073709551616 = n + 18446744073709551616 := fun n h1 h2 => by omega
  have w : ∀ n : Int, wrap64 n = (n + 9223372036854775808) % 18446744073709551616 - 9223372036854775808 := fun _ => by unfold wrap64; rfl
  rw [mul64_f _ _ (by omega) (by omega), Option.bind_some]
  simp only [w]
  unfold hiW loW
  by_cases h1 : a < 0
  · rw [if_pos h1, ng a h1 ha.1]
    by_cases h2 : b < 0
    · rw [if_pos h2, ng b h2 hb.1]
      have e : (a + 18446744073709551616) * (b + 18446744073709551616) = a * b + 18446744073709551616 * (a + b) + 340282366920938463463374607431768211456 := by
        rw [Int.add_mul, Int.mul_add, Int.mul_add, Int.mul_comm a 18446744073709551616]; omega
      rw [e]
      generalize a * b = Z at *
      congr 2 <;> omega
    · rw [if_neg h2, nn b (by omega) hb.2]
      have e : (a + 18446744073709551616) * b = a * b + 18446744073709551616 * b := by rw [Int.add_mul]
      rw [e]
      generalize a * b = Z at *
      congr 2 <;> omega
  · rw [if_neg h1, nn a (by omega) ha.2]
    by_cases h2 : b < 0
    · rw [if_pos h2, ng b h2 hb.1]
      have e : a * (b + 18446744073709551616) = a * b + 18446744073709551616 * a := by rw [Int.mul_add, Int.mul_comm a 18446744073709551616]
      rw [e]
      generalize a * b = Z at *
      congr 2 <;> omega
    · rw [if_neg h2, nn b (by omega) hb.2]
      have h0 : 0 ≤ a * b := Int.mul_nonneg (by omega) (by omega)
      generalize a * b = Z at *
      congr 2
      omega
theorem mul_c (a b : Int) (ha : i64P a) (hb : i64P b) (W : World) : Calls Try.prog 123 #[.int .i64 a, .int .i64 b] W fun e w' => e = .returned (encW (a * b)) ∧ Fr (fun _ => False) W w' := by
  refine (wide_Mul.calls a b _ _ W (mul_f a b ha hb)).mono ?_
  rintro e w' ⟨rfl, hb⟩
  exact ⟨rfl, Fr.of_below hb⟩
end Go.Proofs.Ytngmkjgklonfmaa.Wd


/- What is used of Far28. -/
namespace Go.Proofs.Ytngmkjgklonfmaa.Big
open Go.RowKit Go.Proofs.ZFr Go.Proofs.Ytngmkjgklonfmaa.PNearNearest Go.Proofs.YtngmkjgklonfmaaW.PrintWords

theorem mul_self_nn (a : Int) : 0 ≤ a * a := by
  by_cases h : 0 ≤ a
  · exact Int.mul_nonneg h h
  · exact Int.mul_nonneg_of_nonpos_of_nonpos (by omega) (by omega)
end Go.Proofs.Ytngmkjgklonfmaa.Big


/- What is used of Dist2W. -/
namespace Go.Proofs.Ytngmkjgklonfmaa.Wd
open Go.RowKit Go.Proofs.ZFr Go.Proofs.Ytngmkjgklonfmaa.PNearNearest Go.Proofs.Ytngmkjgklonfmaa.Big
theorem wide_store {w : World} {b : Nat} {x y : Int} (h : w.heap[b]? = some (.cells #[.int .i64 x, .int .u64 y] 28 (0, 0))) : w.cell? ⟨b, 0, none⟩ = some (.int .i64 x) ∧ w.cell? ⟨b, 1, none⟩ = some (.int .u64 y) ∧ w.frozen? ⟨b, 0, none⟩ = false ∧ w.frozen? ⟨b, 1, none⟩ = false := ⟨ZFr.blk_cell h 0, ZFr.blk_cell h 1, ZFr.blk_free h 0, ZFr.blk_free h 1⟩
set_option maxRecDepth 100000 in
set_option maxHeartbeats 4000000 in
theorem Add_walk (a b : Int) (h0 : -170141183460469231731687303715884105728 ≤ a + b) (h1 : a + b < 170141183460469231731687303715884105728) (W : World) : Calls Try.prog 122 #[encW a, encW b] W fun e w' => e = .returned (encW (a + b)) ∧ Fr (fun _ => False) W w' := by
  have hadd := fun w => add_walk a b h0 h1 w
  have HA := Lib.hid hadd
  clear hadd h0 h1
  unfold encW at HA ⊢
  generalize hiW a = xa at HA ⊢
  generalize loW a = ya at HA ⊢
  generalize hiW b = xb at HA ⊢
  generalize loW b = yb at HA ⊢
  generalize hiW (a + b) = xs at HA ⊢
  generalize loW (a + b) = ys at HA ⊢
  obtain ⟨t1, t2, t3, f3⟩ := tri W (Obj.cells #[Value.int IntKind.i64 xa, Value.int IntKind.u64 ya] 28) (Obj.cells #[Value.int IntKind.i64 xb, Value.int IntKind.u64 yb] 28) (Obj.cells #[Value.int IntKind.i64 0, Value.int IntKind.u64 0] 28)
  go_enter Try.func122, Try.ntmps122
  go_wp2_with fail
  generalize ((W.alloc (Obj.cells #[Value.int IntKind.i64 xa, Value.int IntKind.u64 ya] 28)).alloc (Obj.cells #[Value.int IntKind.i64 xb, Value.int IntKind.u64 yb] 28)).alloc (Obj.cells #[Value.int IntKind.i64 0, Value.int IntKind.u64 0] 28) = w3 at t1 t2 t3 f3 ⊢
  have T3 := Lib.hid t3
  have F3 := Lib.hid f3
  clear t1 t2 t3 f3
  go_wp2_with (first
    | (go_at_call 139; have hc_ := HA.out w3; (with_reducible refine hc_.mono ?_); clear hc_; rintro e w4 ⟨rfl, f4⟩; have T4 := Lib.hid (ZFr.blk_fr T3.out f4 (fun h => h)); obtain ⟨i1, i2, i3, i4⟩ := wide_store T4.out; have F4 := Lib.hid (F3.out.trans f4 (fun _ h _ => h)); clear f4))
  refine bodyPost_ret (results_cell_row rfl _ _ (W.heap.size + 1 + 1) 28 #[.int .i64 xs, .int .u64 ys] (0, 0) _ rfl (ZFr.blk_set (ZFr.blk_set T4.out 0 _) 1 _) Try.underlying28 rfl (by kernel_rfl)) rfl ?_
  exact ⟨rfl, (F4.out.set _ _ (.inr (by dsimp only; omega))).set _ _ (.inr (by dsimp only; omega))⟩
theorem sq_bd {x : Int} (h : -4611686018427387904 ≤ x ∧ x ≤ 4611686018427387904) : 0 ≤ x * x ∧ x * x ≤ 21267647932558653966460912964485513216 := by
  refine ⟨mul_self_nn x, ?_⟩
  have e := Int.natAbs_mul x x
  have h1 : x.natAbs * x.natAbs ≤ 4611686018427387904 * 4611686018427387904 := Nat.mul_le_mul (by omega) (by omega)
  have := mul_self_nn x
  omega
set_option maxRecDepth 100000 in
set_option maxHeartbeats 4000000 in
theorem square_walk (x y : Int) (W : World) (hx : -4611686018427387904 ≤ x ∧ x ≤ 4611686018427387904) (hy : -4611686018427387904 ≤ y ∧ y ≤ 4611686018427387904) : Calls Try.prog 85 #[.agg #[.int .i64 x, .int .i64 y]] W fun e w' => e = .returned (encW (x * x + y * y)) ∧ Fr (fun _ => False) W w' := by
  have b1 := sq_bd hx
  have b2 := sq_bd hy
  have MX := Lib.hid (fun w => mul_c x x ⟨by omega, by omega⟩ ⟨by omega, by omega⟩ w)
  have MY := Lib.hid (fun w => mul_c y y ⟨by omega, by omega⟩ ⟨by omega, by omega⟩ w)
  have AD := Lib.hid (fun w => Add_walk (x * x) (y * y) (by omega) (by omega) w)
  unfold encW at MX MY AD ⊢
  clear b1 b2 hx hy
  generalize hiW (x * x) = x1 at MX AD
  generalize loW (x * x) = y1 at MX AD
  generalize hiW (y * y) = x2 at MY AD
  generalize loW (y * y) = y2 at MY AD
  generalize hiW (x * x + y * y) = xs at AD ⊢
  generalize loW (x * x + y * y) = ys at AD ⊢
  have t1 := ZFr.blk_alloc (heap_alloc_new W (Obj.cells #[Value.int IntKind.i64 x, Value.int IntKind.i64 y] 24)) (Obj.cells #[Value.int IntKind.i64 0, Value.int IntKind.u64 0] 28)
  have t2 := second W (Obj.cells #[Value.int IntKind.i64 x, Value.int IntKind.i64 y] 24) (Obj.cells #[Value.int IntKind.i64 0, Value.int IntKind.u64 0] 28)
  have f2 := ((Fr.refl (fun _ => False) W).alloc (Obj.cells #[Value.int IntKind.i64 x, Value.int IntKind.i64 y] 24)).alloc (Obj.cells #[Value.int IntKind.i64 0, Value.int IntKind.u64 0] 28)
  go_enter Try.func85, Try.ntmps85
  go_wp2_with fail
  generalize (W.alloc (Obj.cells #[Value.int IntKind.i64 x, Value.int IntKind.i64 y] 24)).alloc (Obj.cells #[Value.int IntKind.i64 0, Value.int IntKind.u64 0] 28) = w2 at t1 t2 f2 ⊢
  have T1 := Lib.hid t1
  have T2 := Lib.hid t2
  have F2 := Lib.hid f2
  obtain ⟨p1, p2⟩ := point_cells (w := w2.drew) t1
  clear t1 t2 f2
  go_region_held3 (fun w' => w'.cell? ⟨W.heap.size, 0, none⟩ = some (.int .i64 x) ∧ w'.cell? ⟨W.heap.size, 1, none⟩ = some (.int .i64 y))
    (refine ⟨?_, ?_⟩ <;> first | with_reducible assumption | exact cell_far (by with_reducible assumption) (by dsimp only; omega) | exact cell_far (cell_far (by with_reducible assumption) (by dsimp only; omega)) (by dsimp only; omega))
    (first
      | ((go_at_call 122; have hc_ := AD.out w4; (with_reducible refine hc_.mono ?_); clear hc_; rintro e w5 ⟨rfl, f5⟩; obtain ⟨q1, q2⟩ := point_cells (ZFr.blk_fr Q4.out f5 (fun h => h)); have T5 := Lib.hid (ZFr.blk_fr T4.out f5 (fun h => h)); obtain ⟨i1, i2, i3, i4⟩ := wide_store T5.out; have F5 := Lib.hid (F4.out.trans f5 (fun _ h _ => h)); clear f5))
      | ((go_at_call 123; have hc_ := MY.out w3; (with_reducible refine hc_.mono ?_); clear hc_; rintro e w4 ⟨rfl, f4⟩; have Q4 := Lib.hid (ZFr.blk_fr Q3.out f4 (fun h => h)); obtain ⟨q1, q2⟩ := point_cells Q4.out; have T4 := Lib.hid (ZFr.blk_fr T3.out f4 (fun h => h)); have F4 := Lib.hid (F3.out.trans f4 (fun _ h _ => h)); clear f4))
      | ((go_at_call 123; have hc_ := MX.out w2.drew; (with_reducible refine hc_.mono ?_); clear hc_; rintro e w3 ⟨rfl, f3⟩; have Q3 := Lib.hid (ZFr.blk_fr (w := w2.drew) T1.out f3 (fun h => h)); obtain ⟨q1, q2⟩ := point_cells Q3.out; have T3 := Lib.hid (ZFr.blk_fr (w := w2.drew) T2.out f3 (fun h => h)); have F3 := Lib.hid (F2.out.drew.trans f3 (fun _ h _ => h)); clear f3)))
  all_goals
    go_wp2_with fail
    refine bodyPost_ret (results_cell_row rfl _ _ (W.heap.size + 1) 28 #[.int .i64 xs, .int .u64 ys] (0, 0) _ rfl (ZFr.blk_set (ZFr.blk_set T5.out 0 _) 1 _) Try.underlying28 rfl (by kernel_rfl)) rfl ?_
    exact ⟨rfl, (F5.out.set _ _ (.inr (by dsimp only; omega))).set _ _ (.inr (by dsimp only; omega))⟩
end Go.Proofs.Ytngmkjgklonfmaa.Wd


/- What is used of Dist2V. -/
namespace Go.Proofs.Ytngmkjgklonfmaa.Wd
open Go.RowKit Go.Proofs.ZFr Go.Proofs.Ytngmkjgklonfmaa.PNearNearest Go.Proofs.Ytngmkjgklonfmaa.Big Go.Proofs.YtngmkjgklonfmaaW.PrintWords
theorem lcan_f (x y : Int) (hx : inP x) (hy : inP y) : lift_Can.f x y = some true := by
  unfold lift_Can.f lift_can.f lift_within.f
  rw [if_pos hx.1, Option.bind_some, decide_eq_true hx.2, if_pos rfl, if_pos hy.1, Option.bind_some, decide_eq_true hy.2, Option.bind_some]
end Go.Proofs.Ytngmkjgklonfmaa.Wd

