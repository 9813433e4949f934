/- What is used of Wide. -/
import Derived.Test.YtgaicbodpneeoaaProg
import Derived.Test.YtgaicbodpneeoaaSkZFr
import Derived.Laws.Externs
import Derived.Shelf.Spec.BitsCarry
import Derived.RowKit
import Derived.RowKit3
import Derived.WideLaws
import Derived.WalkLawsBesides
import Derived.WalkSpells
import Derived.Lib.Hide
import Derived.Outline
import Derived.WalkKit
namespace Go.Proofs.Ytgaicbodpneeoaa.Wd
open Go.RowKit Go.Proofs.ZFr

def hiW (n : Int) : Int := n / 18446744073709551616
def loW (n : Int) : Int := n % 18446744073709551616
def encW (n : Int) : Value := .agg #[.int .i64 (hiW n), .int .u64 (loW n)]

theorem hi_lo (n : Int) : n = hiW n * 18446744073709551616 + loW n ∧ 0 ≤ loW n ∧ loW n < 18446744073709551616 := by unfold hiW loW; omega
def cmpW (a b : Int) : Int := if a = b then 0 else if a < b then -1 else 1
def cmp2 (x u y v : Int) : Int := if x = y ∧ u = v then 0 else if x < y ∨ (x = y ∧ u < v) then -1 else 1
theorem cmpW_eq (a b : Int) : cmpW a b = cmp2 (hiW a) (loW a) (hiW b) (loW b) := by
  obtain ⟨a1, a2, a3⟩ := hi_lo a
  obtain ⟨b1, b2, b3⟩ := hi_lo b
  unfold cmpW cmp2
  by_cases h1 : hiW a < hiW b
  · rw [if_neg (by omega), if_pos (by omega), if_neg (by omega), if_pos (by omega)]
  · by_cases h2 : hiW a = hiW b
    · by_cases h3 : loW a = loW b
      · rw [if_pos (by omega), if_pos (by omega)]
      · by_cases h4 : loW a < loW b
        · rw [if_neg (by omega), if_pos (by omega), if_neg (by omega), if_pos (by omega)]
        · rw [if_neg (by omega), if_neg (by omega), if_neg (by omega), if_neg (by omega)]
    · rw [if_neg (by omega), if_neg (by omega), if_neg (by omega), if_neg (by omega)]
theorem cmp_walk (a b : Int) (W : World) : Calls Try.prog 29 #[encW a, encW b] W fun e w' => e = .returned (.int .i64 (cmpW a b)) ∧ Fr (fun _ => False) W w' := by
  rw [cmpW_eq]
  unfold encW
  generalize hiW a = x
  generalize loW a = u
  generalize hiW b = y
  generalize loW b = v
  have fin : ∀ o o', Fr (fun _ => False) W ((W.alloc o).alloc o') := fun o o' => ((Fr.refl _ W).alloc _).alloc _
  by_cases h1 : x = y
  · subst h1
    by_cases h2 : u = v
    · subst h2
      go_enter Try.func29, Try.ntmps29
      go_wp2_with fail
      go_ret
      exact ⟨by simp [cmp2], fin _ _⟩
    · by_cases h3 : u < v
      · go_enter Try.func29, Try.ntmps29
        go_wp2_with fail
        go_ret
        exact ⟨by simp [cmp2, h2, h3], fin _ _⟩
      · go_enter Try.func29, Try.ntmps29
        go_wp2_with fail
        go_ret
        exact ⟨by simp [cmp2, h2, h3], fin _ _⟩
  · by_cases h3 : x < y
    · go_enter Try.func29, Try.ntmps29
      go_wp2_with fail
      go_ret
      exact ⟨by simp [cmp2, h1, h3], fin _ _⟩
    · go_enter Try.func29, Try.ntmps29
      go_wp2_with fail
      go_ret
      exact ⟨by simp [cmp2, h1, h3], fin _ _⟩
theorem add64 (x y c : Int) (hx : 0 ≤ x) (hy : 0 ≤ y) (hc0 : 0 ≤ c) (hc : c ≤ 1) (W : World) : (callFunc 94 #[.int .u64 x, .int .u64 y, .int .u64 c]).run Try.prog W = .ok (.value (.tuple #[.int .u64 ((x + y + c) % 18446744073709551616), .int .u64 ((x + y + c) / 18446744073709551616)])) W := by
  rw [run_callFunc_extern Try.func94 (by kernel_rfl) (by kernel_rfl) (by kernel_rfl) (e := add64Entry) (by kernel_rfl), run_add64 x y c hx hy hc0 hc]
  rfl
theorem third (W : World) (o o' o'' : Obj) : (((W.alloc o).alloc o').alloc o'').heap[W.heap.size + 1 + 1]? = some o'' := by
  have h := heap_alloc_new ((W.alloc o).alloc o') o''
  rw [show ((W.alloc o).alloc o').heap.size = W.heap.size + 1 + 1 from (Array.size_push ..).trans (congrArg (· + 1) (Array.size_push ..))] at h
  exact h
set_option maxRecDepth 100000 in
theorem add_walk (a b : Int) (h0 : -170141183460469231731687303715884105728 ≤ a + b) (h1 : a + b < 170141183460469231731687303715884105728) (W : World) : Calls Try.prog 92 #[encW a, encW b] W fun e w' => e = .returned (encW (a + b)) ∧ Fr (fun _ => False) W w' := by
  obtain ⟨a1, a2, a3⟩ := hi_lo a
  obtain ⟨b1, b2, b3⟩ := hi_lo b
  have e1 : ∀ W, _ := fun W => add64 (loW a) (loW b) 0 a2 b2 (by omega) (by omega) W
  have e2 : ∀ W, _ := fun W => add64 (IntKind.u64.wrap (hiW a)) (IntKind.u64.wrap (hiW b)) ((loW a + loW b) / 18446744073709551616) (by rw [show IntKind.u64.wrap (hiW a) = hiW a % 18446744073709551616 from rfl]; omega) (by rw [show IntKind.u64.wrap (hiW b) = hiW b % 18446744073709551616 from rfl]; omega) (by omega) (by omega) W
  have elo : (loW a + loW b) % 18446744073709551616 = loW (a + b) := by unfold loW; omega
  have ehi : wrap64 ((IntKind.u64.wrap (hiW a) + IntKind.u64.wrap (hiW b) + (loW a + loW b) / 18446744073709551616) % 18446744073709551616) = hiW (a + b) := by
    rw [show IntKind.u64.wrap (hiW a) = hiW a % 18446744073709551616 from rfl, show IntKind.u64.wrap (hiW b) = hiW b % 18446744073709551616 from rfl]
    unfold wrap64 hiW loW
    omega
  clear a1 b1
  unfold encW
  go_enter Try.func92, Try.ntmps92
  go_wp2_with fail
  refine bodyPost_ret (results_cell_row rfl _ _ (W.heap.size + 1 + 1) 54 #[.int .i64 (hiW (a + b)), .int .u64 (loW (a + b))] (0, 0) _ rfl ?_ Try.underlying54 rfl (by kernel_rfl)) rfl ?_
  · exact third _ _ _ _
  · exact ⟨rfl, (((Fr.refl _ W).alloc _).alloc _).alloc _⟩
end Go.Proofs.Ytgaicbodpneeoaa.Wd

