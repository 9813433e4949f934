/- Joined texts. -/
import Derived.Test.YtngmkjgklonfmaaJG
import Derived.Deep.DrawnRows
import Derived.ChangeKeysEq
/- What is used of HoQ. -/
namespace Go.Proofs.Ytngmkjgklonfmaa.Wd
open Go.RowKit Go.Proofs.ZFr Go.Proofs.Ytngmkjgklonfmaa.PNearNearest Go.Proofs.Ytngmkjgklonfmaa.Big
def Q4 (f : Nat → Int) : Array Value := #[.int .u64 (f 0), .int .u64 (f 1), .int .u64 (f 2), .int .u64 (f 3)]
theorem q4_cell {w : World} {b : Nat} {f : Nat → Int} (h : w.heap[b]? = some (.cells (Q4 f) 79 (0, 0))) (k : Nat) (hk : k < 4) : w.cell? ⟨b, k, none⟩ = some (.int .u64 (f k)) := by
  rw [ZFr.blk_cell h k]
  match k, hk with
  | 0, _ => rfl
  | 1, _ => rfl
  | 2, _ => rfl
  | 3, _ => rfl
theorem q4_set (f : Nat → Int) (k : Nat) (hk : k < 4) (x : Int) : (Q4 f).setIfInBounds k (.int .u64 x) = Q4 (fun i => if i = k then x else f i) := by
  match k, hk with
  | 0, _ => rfl
  | 1, _ => rfl
  | 2, _ => rfl
  | 3, _ => rfl
def cA (a b : Nat → Int) : Nat → Int
  | 0 => 0
  | k + 1 => (a k + b k + cA a b k) / 18446744073709551616
def sA (a b : Nat → Int) (k : Nat) : Int := (a k + b k + cA a b k) % 18446744073709551616
def cS (a b : Nat → Int) : Nat → Int
  | 0 => 0
  | k + 1 => if a k < b k + cS a b k then 1 else 0
def sS (a b : Nat → Int) (k : Nat) : Int := (a k - b k - cS a b k) % 18446744073709551616
theorem cA_bd {a b : Nat → Int} (ha : ∀ i, i < 4 → 0 ≤ a i ∧ a i < 18446744073709551616) (hb : ∀ i, i < 4 → 0 ≤ b i ∧ b i < 18446744073709551616) : ∀ k, k ≤ 4 → 0 ≤ cA a b k ∧ cA a b k ≤ 1
  | 0, _ => by unfold cA; omega
  | k + 1, h => by
    have := cA_bd ha hb k (by omega)
    have := ha k (by omega)
    have := hb k (by omega)
    unfold cA; omega
theorem cS_bd {a b : Nat → Int} (_ : ∀ i, i < 4 → 0 ≤ a i ∧ a i < 18446744073709551616) (_ : ∀ i, i < 4 → 0 ≤ b i ∧ b i < 18446744073709551616) : ∀ k, k ≤ 4 → 0 ≤ cS a b k ∧ cS a b k ≤ 1
  | 0, _ => by unfold cS; omega
  | k + 1, _ => by unfold cS; split <;> omega
attribute [local go_sem ↓] Go.wp_at_zero Go.wp_at_succ
set_option maxRecDepth 100000 in
set_option maxHeartbeats 4000000 in
theorem qadd_words (a b : Nat → Int) (W : World) (ha : ∀ i, i < 4 → 0 ≤ a i ∧ a i < 18446744073709551616) (hb : ∀ i, i < 4 → 0 ≤ b i ∧ b i < 18446744073709551616) : Calls Try.prog 157 #[.agg (Q4 a), .agg (Q4 b)] W fun e w' => e = .returned (.agg (Q4 (sA a b))) ∧ Fr (fun _ => False) W w' := by
  have HA := Lib.hid ha
  have HB := Lib.hid hb
  have HC := Lib.hid (cA_bd ha hb)
  clear ha hb
  obtain ⟨t1, t2, t3, f3⟩ := tri W (Obj.cells (Q4 a) 79) (Obj.cells (Q4 b) 79) (Obj.cells (Q4 fun _ => 0) 79)
  unfold Q4 at t1 t2 t3 f3 ⊢
  go_enter Try.func157, Try.ntmps157
  go_wp2_with fail
  generalize ((W.alloc (Obj.cells #[.int .u64 (a 0), .int .u64 (a 1), .int .u64 (a 2), .int .u64 (a 3)] 79)).alloc (Obj.cells #[.int .u64 (b 0), .int .u64 (b 1), .int .u64 (b 2), .int .u64 (b 3)] 79)).alloc (Obj.cells #[.int .u64 0, .int .u64 0, .int .u64 0, .int .u64 0] 79) = w3 at t1 t2 t3 f3 ⊢
  have T1 := Lib.hid t1
  have T2 := Lib.hid t2
  have T3 := Lib.hid t3
  have F3 := Lib.hid f3
  clear t1 t2 t3 f3
  go_loopw [5, 7] (fun c i wr => ∃ k : Nat, k ≤ 4 ∧ i = .int .i64 (k : Int) ∧ c = .int .u64 (cA a b k) ∧ wr.heap[W.heap.size + 1 + 1]? = some (.cells (Q4 fun i => if i < k then sA a b i else 0) 79 (0, 0)) ∧ Fr (fun q => q = W.heap.size + 1 + 1) w3 wr) (fun _ i _ => (4 - intOf i).toNat)
  case atStart => exact ⟨0, by omega, rfl, rfl, T3.out, Fr.refl _ _⟩
  case round =>
    obtain ⟨k, hk, rfl, rfl, ho, hf⟩ := hrel
    have HO := Lib.hid ho
    have HF := Lib.hid hf
    clear ho hf
    by_cases hk4 : k < 4
    · have hkd : (k : Int) < 4 := by omega
      have hk0 : (0 : Int) ≤ (k : Int) := by omega
      have EQ := Lib.hid (fun w => add64 (a k) (b k) (cA a b k) (HA.out k hk4).1 (HB.out k hk4).1 (HC.out k (by omega)).1 (HC.out k (by omega)).2 w)
      have hse : (fun i => if i < k + 1 then sA a b i else 0) = fun i => if i = k then sA a b k else (if i < k then sA a b i else 0) := by
        funext i
        by_cases e1 : i = k
        · subst e1; simp
        · by_cases e2 : i < k
          · rw [if_pos (by omega), if_neg e1, if_pos e2]
          · rw [if_neg (by omega), if_neg e1, if_neg e2]
      have HSE := Lib.hid hse
      clear hse
      have e1 : (a k + b k + cA a b k) % 18446744073709551616 = sA a b k := rfl
      have e2 : (a k + b k + cA a b k) / 18446744073709551616 = cA a b (k + 1) := rfl
      rw [e1, e2] at EQ
      clear e1 e2
      have A1 := Lib.hid (q4_cell (ZFr.blk_fr T1.out HF.out (fun h => absurd h (by omega))) k hk4)
      have B1 := Lib.hid (q4_cell (ZFr.blk_fr T2.out HF.out (fun h => absurd h (by omega))) k hk4)
      have O1 := Lib.hid (And.intro (q4_cell HO.out k hk4) (ZFr.blk_free HO.out k))
      generalize a k = ak at EQ A1
      generalize b k = bk at EQ B1
      generalize cA a b k = ck at EQ ⊢
      generalize sA a b k = sk at EQ HSE
      generalize hck : cA a b (k + 1) = ck1 at EQ
      have HCK := Lib.hid hck
      clear hck
      have c1 := A1.out
      have c2 := B1.out
      have d1 : wr.drew.cell? ⟨W.heap.size, k, none⟩ = some (.int .u64 ak) := A1.out
      have d2 : wr.drew.cell? ⟨W.heap.size + 1, k, none⟩ = some (.int .u64 bk) := B1.out
      obtain ⟨o1, o2⟩ := O1.out
      have eq9 := EQ.out
      go_upto_region 5 with fail
      go_region_held3 (fun w' => w'.cell? ⟨W.heap.size, k, none⟩ = some (.int .u64 ak) ∧ w'.cell? ⟨W.heap.size + 1, k, none⟩ = some (.int .u64 bk))
        (refine ⟨?_, ?_⟩ <;> (repeat (first | with_reducible assumption | (with_reducible refine cell_far ?_ (by dsimp only; omega)) | go_keep)))
        (fail)
      all_goals
        clear d1 d2 c1 c2 o1 o2 eq9
        go_wp2_with fail
        go_roundw
        case rel =>
          refine ⟨k + 1, by omega, by go_num, by rw [HCK.out], ?_, (HF.out.set ⟨W.heap.size + 1 + 1, k, none⟩ (.int .u64 sk) (.inl rfl)).drew⟩
          have h9 := ZFr.blk_set HO.out k (.int .u64 sk)
          rw [q4_set _ k hk4 sk] at h9
          rw [HSE.out]
          exact h9
        case measure => simp [intOf]; omega
    · have hke : k = 4 := by omega
      subst hke
      have ho := HO.out
      rw [show (Q4 fun i => if i < 4 then sA a b i else 0) = Q4 (sA a b) from rfl] at ho
      have HO4 := Lib.hid ho
      have o0 := q4_cell ho 0 (by decide)
      have o1 := q4_cell ho 1 (by decide)
      have o2 := q4_cell ho 2 (by decide)
      have o3 := q4_cell ho 3 (by decide)
      have z0 := ZFr.blk_free ho 0
      have z1 := ZFr.blk_free ho 1
      have z2 := ZFr.blk_free ho 2
      have z3 := ZFr.blk_free ho 3
      clear ho HO
      go_wp2_with fail
      refine bodyPost_ret (results_cell_row rfl _ _ (W.heap.size + 1 + 1) 79 (Q4 (sA a b)) (0, 0) _ rfl (ZFr.blk_set (ZFr.blk_set (ZFr.blk_set (ZFr.blk_set HO4.out 0 _) 1 _) 2 _) 3 _) Try.underlying79 rfl (by kernel_rfl)) rfl ?_
      refine ⟨rfl, ?_⟩
      have h3 := F3.out
      have h4 := ((((HF.out.set ⟨W.heap.size + 1 + 1, 0, none⟩ (.int .u64 (sA a b 0)) (.inl rfl)).set ⟨W.heap.size + 1 + 1, 1, none⟩ (.int .u64 (sA a b 1)) (.inl rfl)).set ⟨W.heap.size + 1 + 1, 2, none⟩ (.int .u64 (sA a b 2)) (.inl rfl)).set ⟨W.heap.size + 1 + 1, 3, none⟩ (.int .u64 (sA a b 3)) (.inl rfl))
      exact h3.trans h4 (fun i hi hlt => absurd hi (by omega))
set_option maxRecDepth 100000 in
set_option maxHeartbeats 4000000 in
theorem qsub_words (a b : Nat → Int) (W : World) (ha : ∀ i, i < 4 → 0 ≤ a i ∧ a i < 18446744073709551616) (hb : ∀ i, i < 4 → 0 ≤ b i ∧ b i < 18446744073709551616) : Calls Try.prog 156 #[.agg (Q4 a), .agg (Q4 b)] W fun e w' => e = .returned (.agg (Q4 (sS a b))) ∧ Fr (fun _ => False) W w' := by
  have HA := Lib.hid ha
  have HB := Lib.hid hb
  have HC := Lib.hid (cS_bd ha hb)
  clear ha hb
  obtain ⟨t1, t2, t3, f3⟩ := tri W (Obj.cells (Q4 a) 79) (Obj.cells (Q4 b) 79) (Obj.cells (Q4 fun _ => 0) 79)
  unfold Q4 at t1 t2 t3 f3 ⊢
  go_enter Try.func156, Try.ntmps156
  go_wp2_with fail
  generalize ((W.alloc (Obj.cells #[.int .u64 (a 0), .int .u64 (a 1), .int .u64 (a 2), .int .u64 (a 3)] 79)).alloc (Obj.cells #[.int .u64 (b 0), .int .u64 (b 1), .int .u64 (b 2), .int .u64 (b 3)] 79)).alloc (Obj.cells #[.int .u64 0, .int .u64 0, .int .u64 0, .int .u64 0] 79) = w3 at t1 t2 t3 f3 ⊢
  have T1 := Lib.hid t1
  have T2 := Lib.hid t2
  have T3 := Lib.hid t3
  have F3 := Lib.hid f3
  clear t1 t2 t3 f3
  go_loopw [5, 7] (fun c i wr => ∃ k : Nat, k ≤ 4 ∧ i = .int .i64 (k : Int) ∧ c = .int .u64 (cS a b k) ∧ wr.heap[W.heap.size + 1 + 1]? = some (.cells (Q4 fun i => if i < k then sS a b i else 0) 79 (0, 0)) ∧ Fr (fun q => q = W.heap.size + 1 + 1) w3 wr) (fun _ i _ => (4 - intOf i).toNat)
  case atStart => exact ⟨0, by omega, rfl, rfl, T3.out, Fr.refl _ _⟩
  case round =>
    obtain ⟨k, hk, rfl, rfl, ho, hf⟩ := hrel
    have HO := Lib.hid ho
    have HF := Lib.hid hf
    clear ho hf
    by_cases hk4 : k < 4
    · have hkd : (k : Int) < 4 := by omega
      have hk0 : (0 : Int) ≤ (k : Int) := by omega
      have EQ := Lib.hid (fun w => sub64 (a k) (b k) (cS a b k) (HA.out k hk4).1 (HA.out k hk4).2 (HB.out k hk4).1 (HB.out k hk4).2 (HC.out k (by omega)).1 (HC.out k (by omega)).2 w)
      have hse : (fun i => if i < k + 1 then sS a b i else 0) = fun i => if i = k then sS a b k else (if i < k then sS a b i else 0) := by
        funext i
        by_cases e1 : i = k
        · subst e1; simp
        · by_cases e2 : i < k
          · rw [if_pos (by omega), if_neg e1, if_pos e2]
          · rw [if_neg (by omega), if_neg e1, if_neg e2]
      have HSE := Lib.hid hse
      clear hse
      have e1 : (a k - b k - cS a b k) % 18446744073709551616 = sS a b k := rfl
      have e2 : (if a k < b k + cS a b k then 1 else 0) = cS a b (k + 1) := rfl
      rw [e1, e2] at EQ
      clear e1 e2
      have A1 := Lib.hid (q4_cell (ZFr.blk_fr T1.out HF.out (fun h => absurd h (by omega))) k hk4)
      have B1 := Lib.hid (q4_cell (ZFr.blk_fr T2.out HF.out (fun h => absurd h (by omega))) k hk4)
      have O1 := Lib.hid (And.intro (q4_cell HO.out k hk4) (ZFr.blk_free HO.out k))
      generalize a k = ak at EQ A1
      generalize b k = bk at EQ B1
      generalize cS a b k = ck at EQ ⊢
      generalize sS a b k = sk at EQ HSE
      generalize hck : cS a b (k + 1) = ck1 at EQ
      have HCK := Lib.hid hck
      clear hck
      have c1 := A1.out
      have c2 := B1.out
      have d1 : wr.drew.cell? ⟨W.heap.size, k, none⟩ = some (.int .u64 ak) := A1.out
      have d2 : wr.drew.cell? ⟨W.heap.size + 1, k, none⟩ = some (.int .u64 bk) := B1.out
      obtain ⟨o1, o2⟩ := O1.out
      have eq9 := EQ.out
      go_upto_region 5 with fail
      go_region_held3 (fun w' => w'.cell? ⟨W.heap.size, k, none⟩ = some (.int .u64 ak) ∧ w'.cell? ⟨W.heap.size + 1, k, none⟩ = some (.int .u64 bk))
        (refine ⟨?_, ?_⟩ <;> (repeat (first | with_reducible assumption | (with_reducible refine cell_far ?_ (by dsimp only; omega)) | go_keep)))
        (fail)
      all_goals
        clear d1 d2 c1 c2 o1 o2 eq9
        go_wp2_with fail
        go_roundw
        case rel =>
          refine ⟨k + 1, by omega, by go_num, by rw [HCK.out], ?_, (HF.out.set ⟨W.heap.size + 1 + 1, k, none⟩ (.int .u64 sk) (.inl rfl)).drew⟩
          have h9 := ZFr.blk_set HO.out k (.int .u64 sk)
          rw [q4_set _ k hk4 sk] at h9
          rw [HSE.out]
          exact h9
        case measure => simp [intOf]; omega
    · have hke : k = 4 := by omega
      subst hke
      have ho := HO.out
      rw [show (Q4 fun i => if i < 4 then sS a b i else 0) = Q4 (sS a b) from rfl] at ho
      have HO4 := Lib.hid ho
      have o0 := q4_cell ho 0 (by decide)
      have o1 := q4_cell ho 1 (by decide)
      have o2 := q4_cell ho 2 (by decide)
      have o3 := q4_cell ho 3 (by decide)
      have z0 := ZFr.blk_free ho 0
      have z1 := ZFr.blk_free ho 1
      have z2 := ZFr.blk_free ho 2
      have z3 := ZFr.blk_free ho 3
      clear ho HO
      go_wp2_with fail
      refine bodyPost_ret (results_cell_row rfl _ _ (W.heap.size + 1 + 1) 79 (Q4 (sS a b)) (0, 0) _ rfl (ZFr.blk_set (ZFr.blk_set (ZFr.blk_set (ZFr.blk_set HO4.out 0 _) 1 _) 2 _) 3 _) Try.underlying79 rfl (by kernel_rfl)) rfl ?_
      refine ⟨rfl, ?_⟩
      have h3 := F3.out
      have h4 := ((((HF.out.set ⟨W.heap.size + 1 + 1, 0, none⟩ (.int .u64 (sS a b 0)) (.inl rfl)).set ⟨W.heap.size + 1 + 1, 1, none⟩ (.int .u64 (sS a b 1)) (.inl rfl)).set ⟨W.heap.size + 1 + 1, 2, none⟩ (.int .u64 (sS a b 2)) (.inl rfl)).set ⟨W.heap.size + 1 + 1, 3, none⟩ (.int .u64 (sS a b 3)) (.inl rfl))
      exact h3.trans h4 (fun i hi hlt => absurd hi (by omega))
end Go.Proofs.Ytngmkjgklonfmaa.Wd


/- What is used of HoR. -/
namespace Go.Proofs.Ytngmkjgklonfmaa.Wd
open Go.RowKit Go.Proofs.ZFr Go.Proofs.Ytngmkjgklonfmaa.PNearNearest Go.Proofs.Ytngmkjgklonfmaa.Big
def wq (n : Int) : Nat → Int
  | 0 => n % 18446744073709551616
  | 1 => n / 18446744073709551616 % 18446744073709551616
  | 2 => n / 340282366920938463463374607431768211456 % 18446744073709551616
  | _ => n / 6277101735386680763835789423207666416102355444464034512896 % 18446744073709551616
theorem wq0 (n : Int) : wq n 0 = n % 18446744073709551616 := rfl
theorem wq1 (n : Int) : wq n 1 = n / 18446744073709551616 % 18446744073709551616 := rfl
theorem wq2 (n : Int) : wq n 2 = n / 340282366920938463463374607431768211456 % 18446744073709551616 := rfl
theorem wq3 (n : Int) : wq n 3 = n / 6277101735386680763835789423207666416102355444464034512896 % 18446744073709551616 := rfl
def encQ (n : Int) : Value := .agg (Q4 (wq n))
theorem wq_bd (n : Int) : ∀ i, i < 4 → 0 ≤ wq n i ∧ wq n i < 18446744073709551616
  | 0, _ => by rw [wq0]; omega
  | 1, _ => by rw [wq1]; omega
  | 2, _ => by rw [wq2]; omega
  | 3, _ => by rw [wq3]; omega
/-- A number's four words. -/
theorem wq_is (n : Int) : ∃ a0 a1 a2 a3 A : Int, wq n 0 = a0 ∧ wq n 1 = a1 ∧ wq n 2 = a2 ∧ wq n 3 = a3 ∧ n = a0 + a1 * 18446744073709551616 + a2 * 340282366920938463463374607431768211456 + a3 * 6277101735386680763835789423207666416102355444464034512896 + A * 115792089237316195423570985008687907853269984665640564039457584007913129639936 ∧ (0 ≤ a0 ∧ a0 < 18446744073709551616) ∧ (0 ≤ a1 ∧ a1 < 18446744073709551616) ∧ (0 ≤ a2 ∧ a2 < 18446744073709551616) ∧ 0 ≤ a3 ∧ a3 < 18446744073709551616 := by
  refine ⟨_, _, _, _, n / 115792089237316195423570985008687907853269984665640564039457584007913129639936, rfl, rfl, rfl, rfl, ?_, ?_, ?_, ?_, ?_⟩
  · rw [wq0, wq1, wq2, wq3]; omega
  · rw [wq0]; omega
  · rw [wq1]; omega
  · rw [wq2]; omega
  · rw [wq3]; omega
theorem wq_of (a0 a1 a2 a3 A n : Int) (h : n = a0 + a1 * 18446744073709551616 + a2 * 340282366920938463463374607431768211456 + a3 * 6277101735386680763835789423207666416102355444464034512896 + A * 115792089237316195423570985008687907853269984665640564039457584007913129639936) (h0 : 0 ≤ a0 ∧ a0 < 18446744073709551616) (h1 : 0 ≤ a1 ∧ a1 < 18446744073709551616) (h2 : 0 ≤ a2 ∧ a2 < 18446744073709551616) (h3 : 0 ≤ a3 ∧ a3 < 18446744073709551616) : wq n 0 = a0 ∧ wq n 1 = a1 ∧ wq n 2 = a2 ∧ wq n 3 = a3 := by
  refine ⟨?_, ?_, ?_, ?_⟩
  · rw [wq0]; omega
  · rw [wq1]; omega
  · rw [wq2]; omega
  · rw [wq3]; omega
theorem q4_congr {f g : Nat → Int} (h0 : f 0 = g 0) (h1 : f 1 = g 1) (h2 : f 2 = g 2) (h3 : f 3 = g 3) : Q4 f = Q4 g := by unfold Q4; rw [h0, h1, h2, h3]
theorem add_q (a b : Int) : Q4 (sA (wq a) (wq b)) = Q4 (wq (a + b)) := by
  obtain ⟨a0, a1, a2, a3, A, e0, e1, e2, e3, ea, ha0, ha1, ha2, ha3⟩ := wq_is a
  obtain ⟨b0, b1, b2, b3, B, f0, f1, f2, f3, eb, hb0, hb1, hb2, hb3⟩ := wq_is b
  obtain ⟨c1, hc1⟩ : ∃ c, (a0 + b0 + 0) / 18446744073709551616 = c := ⟨_, rfl⟩
  obtain ⟨c2, hc2⟩ : ∃ c, (a1 + b1 + c1) / 18446744073709551616 = c := ⟨_, rfl⟩
  obtain ⟨c3, hc3⟩ : ∃ c, (a2 + b2 + c2) / 18446744073709551616 = c := ⟨_, rfl⟩
  obtain ⟨c4, hc4⟩ : ∃ c, (a3 + b3 + c3) / 18446744073709551616 = c := ⟨_, rfl⟩
  obtain ⟨w0, w1, w2, w3⟩ := wq_of ((a0 + b0 + 0) % 18446744073709551616) ((a1 + b1 + c1) % 18446744073709551616) ((a2 + b2 + c2) % 18446744073709551616) ((a3 + b3 + c3) % 18446744073709551616) (A + B + c4) (a + b) (by omega) (by omega) (by omega) (by omega) (by omega)
  refine q4_congr ?_ ?_ ?_ ?_
  · rw [w0]; simp only [sA, cA, e0, f0]
  · rw [w1]; simp only [sA, cA, e0, f0, e1, f1, hc1]
  · rw [w2]; simp only [sA, cA, e0, f0, e1, f1, hc1, e2, f2, hc2]
  · rw [w3]; simp only [sA, cA, e0, f0, e1, f1, hc1, e2, f2, hc2, e3, f3, hc3]
theorem sub_q (a b : Int) : Q4 (sS (wq a) (wq b)) = Q4 (wq (a - b)) := by
  obtain ⟨a0, a1, a2, a3, A, e0, e1, e2, e3, ea, ha0, ha1, ha2, ha3⟩ := wq_is a
  obtain ⟨b0, b1, b2, b3, B, f0, f1, f2, f3, eb, hb0, hb1, hb2, hb3⟩ := wq_is b
  have hc : ∀ x y c : Int, ∃ d : Int, (if x < y + c then (1 : Int) else 0) = d ∧ ((x < y + c ∧ d = 1) ∨ (¬ x < y + c ∧ d = 0)) := fun x y c => by
    by_cases h : x < y + c
    · exact ⟨1, if_pos h, .inl ⟨h, rfl⟩⟩
    · exact ⟨0, if_neg h, .inr ⟨h, rfl⟩⟩
  obtain ⟨c1, hc1, k1⟩ := hc a0 b0 0
  obtain ⟨c2, hc2, k2⟩ := hc a1 b1 c1
  obtain ⟨c3, hc3, k3⟩ := hc a2 b2 c2
  obtain ⟨c4, hc4, k4⟩ := hc a3 b3 c3
  obtain ⟨w0, w1, w2, w3⟩ := wq_of ((a0 - b0 - 0) % 18446744073709551616) ((a1 - b1 - c1) % 18446744073709551616) ((a2 - b2 - c2) % 18446744073709551616) ((a3 - b3 - c3) % 18446744073709551616) (A - B - c4) (a - b) (by omega) (by omega) (by omega) (by omega) (by omega)
  refine q4_congr ?_ ?_ ?_ ?_
  · rw [w0]; simp only [sS, cS, e0, f0]
  · rw [w1]; simp only [sS, cS, e0, f0, e1, f1, hc1]
  · rw [w2]; simp only [sS, cS, e0, f0, e1, f1, hc1, e2, f2, hc2]
  · rw [w3]; simp only [sS, cS, e0, f0, e1, f1, hc1, e2, f2, hc2, e3, f3, hc3]
theorem qadd_c (a b : Int) (W : World) : Calls Try.prog 157 #[encQ a, encQ b] W fun e w' => e = .returned (encQ (a + b)) ∧ Fr (fun _ => False) W w' := by
  have h := qadd_words (wq a) (wq b) W (wq_bd a) (wq_bd b)
  rw [add_q] at h
  exact h
theorem qsub_c (a b : Int) (W : World) : Calls Try.prog 156 #[encQ a, encQ b] W fun e w' => e = .returned (encQ (a - b)) ∧ Fr (fun _ => False) W w' := by
  have h := qsub_words (wq a) (wq b) W (wq_bd a) (wq_bd b)
  rw [sub_q] at h
  exact h
set_option maxRecDepth 100000 in
set_option maxHeartbeats 4000000 in
theorem QAdd_walk (a b : Int) (W : World) : Calls Try.prog 150 #[encQ a, encQ b] W fun e w' => e = .returned (encQ (a + b)) ∧ Fr (fun _ => False) W w' := by
  have HA := Lib.hid (qadd_c a b)
  unfold encQ Q4 at HA ⊢
  generalize wq a 0 = a0 at HA ⊢
  generalize wq a 1 = a1 at HA ⊢
  generalize wq a 2 = a2 at HA ⊢
  generalize wq a 3 = a3 at HA ⊢
  generalize wq b 0 = b0 at HA ⊢
  generalize wq b 1 = b1 at HA ⊢
  generalize wq b 2 = b2 at HA ⊢
  generalize wq b 3 = b3 at HA ⊢
  generalize wq (a + b) 0 = s0 at HA ⊢
  generalize wq (a + b) 1 = s1 at HA ⊢
  generalize wq (a + b) 2 = s2 at HA ⊢
  generalize wq (a + b) 3 = s3 at HA ⊢
  obtain ⟨t1, t2, t3, f3⟩ := tri W (Obj.cells #[.int .u64 a0, .int .u64 a1, .int .u64 a2, .int .u64 a3] 79) (Obj.cells #[.int .u64 b0, .int .u64 b1, .int .u64 b2, .int .u64 b3] 79) (Obj.cells #[.int .u64 0, .int .u64 0, .int .u64 0, .int .u64 0] 79)
  go_enter Try.func150, Try.ntmps150
  go_wp2_with fail
  generalize ((W.alloc (Obj.cells #[.int .u64 a0, .int .u64 a1, .int .u64 a2, .int .u64 a3] 79)).alloc (Obj.cells #[.int .u64 b0, .int .u64 b1, .int .u64 b2, .int .u64 b3] 79)).alloc (Obj.cells #[.int .u64 0, .int .u64 0, .int .u64 0, .int .u64 0] 79) = w3 at t1 t2 t3 f3 ⊢
  have T3 := Lib.hid t3
  have F3 := Lib.hid f3
  clear t1 t2 t3 f3
  go_wp2_with (go_at_call 157; have hc_ := HA.out w3; (with_reducible refine hc_.mono ?_); clear hc_; rintro e w4 ⟨rfl, f4⟩; have T4 := Lib.hid (ZFr.blk_fr T3.out f4 (fun h => h)); have i0 := ZFr.blk_cell T4.out 0; have i1 := ZFr.blk_cell T4.out 1; have i2 := ZFr.blk_cell T4.out 2; have i3 := ZFr.blk_cell T4.out 3; have j0 := ZFr.blk_free T4.out 0; have j1 := ZFr.blk_free T4.out 1; have j2 := ZFr.blk_free T4.out 2; have j3 := ZFr.blk_free T4.out 3; have F4 := Lib.hid (F3.out.trans f4 (fun _ h _ => h)); clear f4)
  refine bodyPost_ret (results_cell_row rfl _ _ (W.heap.size + 1 + 1) 79 #[.int .u64 s0, .int .u64 s1, .int .u64 s2, .int .u64 s3] (0, 0) _ rfl (ZFr.blk_set (ZFr.blk_set (ZFr.blk_set (ZFr.blk_set T4.out 0 _) 1 _) 2 _) 3 _) Try.underlying79 rfl (by kernel_rfl)) rfl ?_
  exact ⟨rfl, (((F4.out.set _ _ (.inr (by dsimp only; omega))).set _ _ (.inr (by dsimp only; omega))).set _ _ (.inr (by dsimp only; omega))).set _ _ (.inr (by dsimp only; omega))⟩
end Go.Proofs.Ytngmkjgklonfmaa.Wd


/- What is used of HoS. -/
namespace Go.Proofs.Ytngmkjgklonfmaa.Wd
open Go.RowKit Go.Proofs.ZFr Go.Proofs.Ytngmkjgklonfmaa.PNearNearest Go.Proofs.Ytngmkjgklonfmaa.Big
theorem eqi_cons {P : Program} {d : Nat} {xs ys : Array Value} {e : TypeId} {n i : Nat} {is : List Nat} {a b : Value} {r s : Bool} {w : World} (ha : (part e xs (i * n)).run P w = .ok a w) (hb : (part e ys (i * n)).run P w = .ok b w) (he : (Op.equalIn d e a b).run P w = .ok r w) (hr : (Op.eqItems d e n xs ys is).run P w = .ok s w) : (Op.eqItems d e n xs ys (i :: is)).run P w = .ok (r && s) w := by
  simp only [Op.eqItems, Sem.run_bind, ha, hb, he, Result.andThen_ok]
  cases r
  · simp
  · simpa using hr
theorem info26 : (Try.prog.info? 26).map (fun i => (i.zero, i.size, i.bytes)) = some (some (.int .u64 0), 1, 8) := by kernel_rfl
theorem eqA79 (d : Nat) (w : World) (x0 x1 x2 x3 y0 y1 y2 y3 : Int) : (Op.equalIn (d + 2) 79 (.agg #[.int .u64 x0, .int .u64 x1, .int .u64 x2, .int .u64 x3]) (.agg #[.int .u64 y0, .int .u64 y1, .int .u64 y2, .int .u64 y3])).run Try.prog w = .ok (x0 == y0 && (x1 == y1 && (x2 == y2 && (x3 == y3 && true)))) w := by
  obtain ⟨i0, hi0, _⟩ := info_parts info26
  rw [Go.run_equalIn_array w (d + 1) _ _ Try.underlying79 hi0, show Try.prog.cellsOf 26 = 1 from by kernel_rfl, show List.range 4 = [0, 1, 2, 3] from rfl]
  refine eqi_cons (by go_simp; rfl) (by go_simp; rfl) (by go_simp) ?_
  refine eqi_cons (by go_simp; rfl) (by go_simp; rfl) (by go_simp) ?_
  refine eqi_cons (by go_simp; rfl) (by go_simp; rfl) (by go_simp) ?_
  refine eqi_cons (by go_simp; rfl) (by go_simp; rfl) (by go_simp) ?_
  simp [Op.eqItems]
attribute [local go_sem high] eqA79
set_option maxRecDepth 100000 in
theorem below_walk (a0 a1 a2 a3 : Int) (W : World) (h : 0 ≤ a3 ∧ a3 < 18446744073709551616) : Calls Try.prog 158 #[.agg #[.int .u64 a0, .int .u64 a1, .int .u64 a2, .int .u64 a3]] W fun e w' => e = .returned (.bool (decide (9223372036854775808 ≤ a3))) ∧ Fr (fun _ => False) W w' := by
  have F1 := Lib.hid ((Fr.refl (fun _ => False) W).alloc (Obj.cells #[.int .u64 a0, .int .u64 a1, .int .u64 a2, .int .u64 a3] 79))
  have hs : (a3 / 9223372036854775808 == 1) = decide (9223372036854775808 ≤ a3) := by
    by_cases hh : 9223372036854775808 ≤ a3
    · rw [decide_eq_true hh]; simp; omega
    · rw [decide_eq_false hh]; simp; omega
  have H := Lib.hid hs
  have HH := Lib.hid h
  clear hs h
  go_enter Try.func158, Try.ntmps158
  go_wp2_with fail
  go_ret
  exact ⟨by rw [← H.out]; rfl, F1.out⟩
set_option maxRecDepth 100000 in
theorem QSign_walk (a0 a1 a2 a3 : Int) (W : World) (h : 0 ≤ a3 ∧ a3 < 18446744073709551616) : Calls Try.prog 151 #[.agg #[.int .u64 a0, .int .u64 a1, .int .u64 a2, .int .u64 a3]] W fun e w' => e = .returned (.int .i64 (if 9223372036854775808 ≤ a3 then -1 else if a0 = 0 ∧ a1 = 0 ∧ a2 = 0 ∧ a3 = 0 then 0 else 1)) ∧ Fr (fun _ => False) W w' := by
  have BW := Lib.hid (fun w => below_walk a0 a1 a2 a3 w h)
  have T1 := Lib.hid (heap_alloc_new W (Obj.cells #[.int .u64 a0, .int .u64 a1, .int .u64 a2, .int .u64 a3] 79))
  have F1 := Lib.hid ((Fr.refl (fun _ => False) W).alloc (Obj.cells #[.int .u64 a0, .int .u64 a1, .int .u64 a2, .int .u64 a3] 79))
  clear h
  by_cases h1 : 9223372036854775808 ≤ a3
  · rw [decide_eq_true h1] at BW
    rw [if_pos h1]
    clear h1
    go_enter Try.func151, Try.ntmps151
    go_wp2_with fail
    generalize W.alloc (Obj.cells #[.int .u64 a0, .int .u64 a1, .int .u64 a2, .int .u64 a3] 79) = w1 at T1 F1 ⊢
    have c0 := ZFr.blk_cell T1.out 0
    have c1 := ZFr.blk_cell T1.out 1
    have c2 := ZFr.blk_cell T1.out 2
    have c3 := ZFr.blk_cell T1.out 3
    go_wp2_with (go_at_call 158; have hc_ := BW.out w1; (with_reducible refine hc_.mono ?_); clear hc_; rintro e w2 ⟨rfl, f2⟩; have T2 := Lib.hid (ZFr.blk_fr T1.out f2 (fun h => h)); have d0 := ZFr.blk_cell T2.out 0; have d1 := ZFr.blk_cell T2.out 1; have d2 := ZFr.blk_cell T2.out 2; have d3 := ZFr.blk_cell T2.out 3; have F2 := Lib.hid (F1.out.trans f2 (fun _ h _ => h)); clear f2)
    go_ret
    exact ⟨rfl, F2.out⟩
  · rw [decide_eq_false h1] at BW
    rw [if_neg h1]
    clear h1
    obtain ⟨R, hR⟩ : ∃ R : Int, (if a0 = 0 ∧ a1 = 0 ∧ a2 = 0 ∧ a3 = 0 then (0 : Int) else 1) = R := ⟨_, rfl⟩
    obtain ⟨bz, hbz⟩ : ∃ b, (a0 == 0 && (a1 == 0 && (a2 == 0 && a3 == 0))) = b := ⟨_, rfl⟩
    have HZ := Lib.hid (show (if bz = true then (0 : Int) else 1) = R from by
      rw [← hR, ← hbz]
      by_cases e0 : a0 = 0 <;> by_cases e1 : a1 = 0 <;> by_cases e2 : a2 = 0 <;> by_cases e3 : a3 = 0 <;> simp [e0, e1, e2, e3])
    rw [hR]
    clear hR
    cases bz
    all_goals
      go_enter Try.func151, Try.ntmps151
      go_wp2_with fail
      generalize W.alloc (Obj.cells #[.int .u64 a0, .int .u64 a1, .int .u64 a2, .int .u64 a3] 79) = w1 at T1 F1 ⊢
      have c0 := ZFr.blk_cell T1.out 0
      have c1 := ZFr.blk_cell T1.out 1
      have c2 := ZFr.blk_cell T1.out 2
      have c3 := ZFr.blk_cell T1.out 3
      go_wp2_with (go_at_call 158; have hc_ := BW.out w1; (with_reducible refine hc_.mono ?_); clear hc_; rintro e w2 ⟨rfl, f2⟩; have T2 := Lib.hid (ZFr.blk_fr T1.out f2 (fun h => h)); have d0 := ZFr.blk_cell T2.out 0; have d1 := ZFr.blk_cell T2.out 1; have d2 := ZFr.blk_cell T2.out 2; have d3 := ZFr.blk_cell T2.out 3; have F2 := Lib.hid (F1.out.trans f2 (fun _ h _ => h)); clear f2)

      go_ret
      exact ⟨by rw [← HZ.out]; rfl, F2.out⟩
theorem qsign_c (n : Int) (h : -57896044618658097711785492504343953926634992332820282019728792003956564819968 ≤ n ∧ n < 57896044618658097711785492504343953926634992332820282019728792003956564819968) (W : World) : Calls Try.prog 151 #[encQ n] W fun e w' => e = .returned (.int .i64 (sgn n)) ∧ Fr (fun _ => False) W w' := by
  have h9 := QSign_walk (wq n 0) (wq n 1) (wq n 2) (wq n 3) W (wq_bd n 3 (by decide))
  have e : (if 9223372036854775808 ≤ wq n 3 then (-1 : Int) else if wq n 0 = 0 ∧ wq n 1 = 0 ∧ wq n 2 = 0 ∧ wq n 3 = 0 then 0 else 1) = sgn n := by
    obtain ⟨a0, a1, a2, a3, A, e0, e1, e2, e3, ea, ha0, ha1, ha2, ha3⟩ := wq_is n
    rw [e0, e1, e2, e3]
    unfold sgn
    by_cases c : 9223372036854775808 ≤ a3
    · rw [if_pos c, if_pos (by omega)]
    · rw [if_neg c]
      by_cases z : a0 = 0 ∧ a1 = 0 ∧ a2 = 0 ∧ a3 = 0
      · rw [if_pos z, if_neg (by omega), if_pos (by omega)]
      · rw [if_neg z, if_neg (by omega), if_neg (by omega)]
  rw [e] at h9
  exact h9
end Go.Proofs.Ytngmkjgklonfmaa.Wd


/- What is used of HoT. -/
namespace Go.Proofs.Ytngmkjgklonfmaa.Wd
open Go.RowKit Go.Proofs.ZFr Go.Proofs.Ytngmkjgklonfmaa.PNearNearest Go.Proofs.Ytngmkjgklonfmaa.Big Go.Proofs.YtngmkjgklonfmaaW.PrintWords
theorem encW0 : encW 0 = .agg #[.int .i64 0, .int .u64 0] := rfl
set_option maxRecDepth 100000 in
set_option maxHeartbeats 4000000 in
theorem Neg_walk (a : Int) (h0 : -170141183460469231731687303715884105728 < a) (h1 : a < 170141183460469231731687303715884105728) (W : World) : Calls Try.prog 161 #[encW a] W fun e w' => e = .returned (encW (-a)) ∧ Fr (fun _ => False) W w' := by
  have HA := Lib.hid (fun w => sub_walk 0 a (by omega) (by omega) w)
  rw [encW0, Int.zero_sub] at HA
  unfold encW at HA ⊢
  generalize hiW a = xa at HA ⊢
  generalize loW a = ya at HA ⊢
  generalize hiW (-a) = xs at HA ⊢
  generalize loW (-a) = ys at HA ⊢
  have t2 := second W (Obj.cells #[Value.int IntKind.i64 xa, Value.int IntKind.u64 ya] 28) (Obj.cells #[Value.int IntKind.i64 0, Value.int IntKind.u64 0] 28)
  have f2 := ((Fr.refl (fun _ => False) W).alloc (Obj.cells #[Value.int IntKind.i64 xa, Value.int IntKind.u64 ya] 28)).alloc (Obj.cells #[Value.int IntKind.i64 0, Value.int IntKind.u64 0] 28)
  have t1 := ZFr.blk_alloc (heap_alloc_new W (Obj.cells #[Value.int IntKind.i64 xa, Value.int IntKind.u64 ya] 28)) (Obj.cells #[Value.int IntKind.i64 0, Value.int IntKind.u64 0] 28)
  go_enter Try.func161, Try.ntmps161
  go_wp2_with fail
  generalize (W.alloc (Obj.cells #[Value.int IntKind.i64 xa, Value.int IntKind.u64 ya] 28)).alloc (Obj.cells #[Value.int IntKind.i64 0, Value.int IntKind.u64 0] 28) = w2 at t1 t2 f2 ⊢
  have T1 := Lib.hid t1
  have T2 := Lib.hid t2
  have F2 := Lib.hid f2
  clear t1 t2 f2
  have c0 := ZFr.blk_cell T1.out 0
  have c1 := ZFr.blk_cell T1.out 1
  go_wp2_with (go_at_call 160; have hc_ := HA.out w2; (with_reducible refine hc_.mono ?_); clear hc_; rintro e w4 ⟨rfl, f4⟩; have T4 := Lib.hid (ZFr.blk_fr T2.out f4 (fun h => h)); obtain ⟨i1, i2, i3, i4⟩ := wide_store T4.out; have F4 := Lib.hid (F2.out.trans f4 (fun _ h _ => h)); clear f4)
  refine bodyPost_ret (results_cell_row rfl _ _ (W.heap.size + 1) 28 #[.int .i64 xs, .int .u64 ys] (0, 0) _ rfl (ZFr.blk_set (ZFr.blk_set T4.out 0 _) 1 _) Try.underlying28 rfl (by kernel_rfl)) rfl ?_
  exact ⟨rfl, (F4.out.set _ _ (.inr (by dsimp only; omega))).set _ _ (.inr (by dsimp only; omega))⟩
def Q2 (f : Nat → Int) : Array Value := #[.int .u64 (f 0), .int .u64 (f 1)]
/-- An amount's two words. -/
def wa (n : Int) : Nat → Int
  | 0 => (n.natAbs : Int) % 18446744073709551616
  | _ => (n.natAbs : Int) / 18446744073709551616
theorem wa0 (n : Int) : wa n 0 = (n.natAbs : Int) % 18446744073709551616 := rfl
theorem wa1 (n : Int) : wa n 1 = (n.natAbs : Int) / 18446744073709551616 := rfl
set_option maxRecDepth 100000 in
set_option maxHeartbeats 4000000 in
theorem apart_walk (a : Int) (h0 : -170141183460469231731687303715884105728 < a) (h1 : a < 170141183460469231731687303715884105728) (W : World) : Calls Try.prog 155 #[encW a] W fun e w' => e = .returned (.tuple #[.agg (Q2 (wa a)), .bool (decide (a < 0))]) ∧ Fr (fun _ => False) W w' := by
  have NG := Lib.hid (Neg_walk a h0 h1)
  obtain ⟨a1, a2, a3⟩ := hi_lo a
  have hneg : decide (hiW a < 0) = decide (a < 0) := decide_eq_decide.2 (by omega)
  rw [← hneg]
  clear hneg
  have HW := Lib.hid (show (hiW a < 0 → IntKind.u64.wrap (hiW (-a)) = wa a 1 ∧ loW (-a) = wa a 0) ∧ (¬ hiW a < 0 → IntKind.u64.wrap (hiW a) = wa a 1 ∧ loW a = wa a 0) from by
    rw [wa0, wa1, show IntKind.u64.wrap (hiW (-a)) = hiW (-a) % 18446744073709551616 from rfl, show IntKind.u64.wrap (hiW a) = hiW a % 18446744073709551616 from rfl]
    unfold hiW loW at *
    omega)
  clear h0 h1 a1 a2 a3
  unfold encW at NG ⊢
  unfold Q2
  generalize wa a 0 = m0 at HW ⊢
  generalize wa a 1 = m1 at HW ⊢
  generalize hiW a = xa at NG HW ⊢
  generalize loW a = ya at NG HW ⊢
  generalize hiW (-a) = xs at NG HW
  generalize loW (-a) = ys at NG HW
  have t2 := second W (Obj.cells #[Value.int IntKind.i64 xa, Value.int IntKind.u64 ya] 28) (Obj.cells #[Value.int IntKind.u64 0, Value.int IntKind.u64 0] 190)
  have f2 := ((Fr.refl (fun _ => False) W).alloc (Obj.cells #[Value.int IntKind.i64 xa, Value.int IntKind.u64 ya] 28)).alloc (Obj.cells #[Value.int IntKind.u64 0, Value.int IntKind.u64 0] 190)
  have t1 := ZFr.blk_alloc (heap_alloc_new W (Obj.cells #[Value.int IntKind.i64 xa, Value.int IntKind.u64 ya] 28)) (Obj.cells #[Value.int IntKind.u64 0, Value.int IntKind.u64 0] 190)
  have T1 := Lib.hid t1
  have T2 := Lib.hid t2
  have F2 := Lib.hid f2
  clear t1 t2 f2
  by_cases hn : xa < 0
  · obtain ⟨e1, e2⟩ := HW.out.1 hn
    rw [decide_eq_true hn]
    have HE1 := Lib.hid e1
    have HE2 := Lib.hid e2
    clear e1 e2 HW
    go_enter Try.func155, Try.ntmps155
    go_wp2_with fail
    generalize (W.alloc (Obj.cells #[Value.int IntKind.i64 xa, Value.int IntKind.u64 ya] 28)).alloc (Obj.cells #[Value.int IntKind.u64 0, Value.int IntKind.u64 0] 190) = w2 at T1 T2 F2 ⊢
    have c0 := ZFr.blk_cell T1.out 0
    have c1 := ZFr.blk_cell T1.out 1
    go_wp2_with (go_at_call 161; have hc_ := NG.out w2; (with_reducible refine hc_.mono ?_); clear hc_; rintro e w4 ⟨rfl, f4⟩; have U4 := Lib.hid (ZFr.blk_fr T1.out f4 (fun h => h)); have T4 := Lib.hid (ZFr.blk_fr T2.out f4 (fun h => h)); obtain ⟨i1, i2, i3, i4⟩ := wide_store U4.out; have j1 := ZFr.blk_free T4.out 0; have j2 := ZFr.blk_free T4.out 1; have k1 := ZFr.blk_cell T4.out 0; have k2 := ZFr.blk_cell T4.out 1; have F4 := Lib.hid (F2.out.trans f4 (fun _ h _ => h)); clear f4)
    refine bodyPost_ret (results_ct rfl _ _ (W.heap.size + 1) 190 #[.int .u64 ys, .int .u64 (IntKind.u64.wrap xs)] (0, 0) _ rfl (ZFr.blk_set (ZFr.blk_set (ZFr.blk_set_other (ZFr.blk_set_other T4.out _ _ (by dsimp only; omega)) _ _ (by dsimp only; omega)) 0 _) 1 _) Try.underlying190 rfl (by kernel_rfl)) rfl ?_
    refine ⟨by rw [← HE1.out, ← HE2.out]; rfl, ?_⟩
    exact (((F4.out.set _ _ (.inr (by dsimp only; omega))).set _ _ (.inr (by dsimp only; omega))).set _ _ (.inr (by dsimp only; omega))).set _ _ (.inr (by dsimp only; omega))
  · obtain ⟨e1, e2⟩ := HW.out.2 hn
    rw [decide_eq_false hn]
    have HE1 := Lib.hid e1
    have HE2 := Lib.hid e2
    clear e1 e2 HW
    go_enter Try.func155, Try.ntmps155
    go_wp2_with fail
    refine bodyPost_ret (results_ct rfl _ _ (W.heap.size + 1) 190 #[.int .u64 ya, .int .u64 (IntKind.u64.wrap xa)] (0, 0) _ rfl ?_ Try.underlying190 rfl (by kernel_rfl)) rfl ?_
    · exact second W _ _
    · exact ⟨by rw [← HE1.out, ← HE2.out]; rfl, ((Fr.refl _ W).alloc _).alloc _⟩
end Go.Proofs.Ytngmkjgklonfmaa.Wd


/- What is used of HoU. -/
namespace Go.Proofs.Ytngmkjgklonfmaa.Wd
open Go.RowKit Go.Proofs.ZFr Go.Proofs.Ytngmkjgklonfmaa.PNearNearest Go.Proofs.Ytngmkjgklonfmaa.Big Go.Proofs.YtngmkjgklonfmaaW.PrintWords
def rowQ (x y o : Nat → Int) (i : Nat) : Nat → (Nat → Int) × Int
  | 0 => (o, 0)
  | k + 1 => (fun j => if j = i + k then ((rowQ x y o i k).1 (i + k) + x i * y k + (rowQ x y o i k).2) % 18446744073709551616 else (rowQ x y o i k).1 j, ((rowQ x y o i k).1 (i + k) + x i * y k + (rowQ x y o i k).2) / 18446744073709551616)
def outQ (x y : Nat → Int) : Nat → Nat → Int
  | 0 => fun _ => 0
  | i + 1 => fun j => if j = i + 2 then ((rowQ x y (outQ x y i) i 2).1 (i + 2) + (rowQ x y (outQ x y i) i 2).2) % 18446744073709551616 else (rowQ x y (outQ x y i) i 2).1 j
def wd (n : Int) : Prop := 0 ≤ n ∧ n < 18446744073709551616
theorem prod64 {a b : Int} (ha : wd a) (hb : wd b) : 0 ≤ a * b ∧ a * b ≤ 340282366920938463426481119284349108225 :=
  ⟨Int.mul_nonneg ha.1 hb.1, Int.le_trans (Int.mul_le_mul (show a ≤ 18446744073709551615 by have := ha.2; omega) (show b ≤ 18446744073709551615 by have := hb.2; omega) hb.1 (by decide)) (by decide)⟩
theorem rowQ_bd {x y o : Nat → Int} (hx : ∀ i, i < 2 → wd (x i)) (hy : ∀ i, i < 2 → wd (y i)) (ho : ∀ i, wd (o i)) (i : Nat) (hi : i < 2) : ∀ k, k ≤ 2 → (∀ j, wd ((rowQ x y o i k).1 j)) ∧ wd (rowQ x y o i k).2
  | 0, _ => ⟨ho, by unfold wd rowQ; simp only; omega⟩
  | k + 1, hk => by
    obtain ⟨h1, h2⟩ := rowQ_bd hx hy ho i hi k (by omega)
    have h3 := h1 (i + k)
    have h4 := prod64 (hx i hi) (hy k (by omega))
    rw [rowQ]
    simp only
    generalize x i * y k = P at *
    unfold wd at *
    refine ⟨fun j => ?_, ?_⟩
    · split
      · omega
      · exact h1 j
    · omega
theorem outQ_bd {x y : Nat → Int} (hx : ∀ i, i < 2 → wd (x i)) (hy : ∀ i, i < 2 → wd (y i)) : ∀ i, i ≤ 2 → ∀ j, wd (outQ x y i j)
  | 0, _ => fun j => by unfold wd outQ; omega
  | i + 1, hi => fun j => by
    obtain ⟨h1, h2⟩ := rowQ_bd hx hy (outQ_bd hx hy i (by omega)) i (by omega) 2 (by decide)
    rw [outQ]
    dsimp only
    split
    · unfold wd at *; have := h1 (i + 2); omega
    · exact h1 j
theorem mul_step (o P c : Int) (ho : wd o) (hP : 0 ≤ P ∧ P ≤ 340282366920938463426481119284349108225) (hc : wd c) : ∃ s1 c1 c2 : Int, (o + P % 18446744073709551616 + 0) % 18446744073709551616 = s1 ∧ (o + P % 18446744073709551616 + 0) / 18446744073709551616 = c1 ∧ (s1 + c + 0) % 18446744073709551616 = (o + P + c) % 18446744073709551616 ∧ (s1 + c + 0) / 18446744073709551616 = c2 ∧ wd s1 ∧ IntKind.u64.wrap (IntKind.u64.wrap (P / 18446744073709551616 + c1) + c2) = (o + P + c) / 18446744073709551616 := by
  unfold wd at *
  have u : ∀ n : Int, IntKind.u64.wrap n = n % 18446744073709551616 := fun _ => rfl
  refine ⟨_, _, _, rfl, rfl, by omega, rfl, by omega, ?_⟩
  rw [u, u]; omega
theorem outQ_val (x y : Nat → Int) (hx : ∀ i, i < 2 → wd (x i)) (hy : ∀ i, i < 2 → wd (y i)) : Q4 (outQ x y 2) = Q4 (wq ((x 0 + x 1 * 18446744073709551616) * (y 0 + y 1 * 18446744073709551616))) := by
  have p00 := prod64 (hx 0 (by decide)) (hy 0 (by decide))
  have p01 := prod64 (hx 0 (by decide)) (hy 1 (by decide))
  have p10 := prod64 (hx 1 (by decide)) (hy 0 (by decide))
  have p11 := prod64 (hx 1 (by decide)) (hy 1 (by decide))
  have he : (x 0 + x 1 * 18446744073709551616) * (y 0 + y 1 * 18446744073709551616) = x 0 * y 0 + (x 0 * y 1 + x 1 * y 0) * 18446744073709551616 + x 1 * y 1 * 340282366920938463463374607431768211456 := by
    rw [Int.add_mul, Int.mul_add, Int.mul_add]
    have e1 : x 1 * 18446744073709551616 * (y 1 * 18446744073709551616) = x 1 * y 1 * 340282366920938463463374607431768211456 := by
      rw [Int.mul_assoc, Int.mul_left_comm 18446744073709551616, ← Int.mul_assoc]; rfl
    have e2 : x 1 * 18446744073709551616 * y 0 = x 1 * y 0 * 18446744073709551616 := by rw [Int.mul_assoc, Int.mul_comm 18446744073709551616, ← Int.mul_assoc]
    have e3 : x 0 * (y 1 * 18446744073709551616) = x 0 * y 1 * 18446744073709551616 := by rw [← Int.mul_assoc]
    rw [e1, e2, e3]; omega
  rw [he]
  have o0 : outQ x y 2 0 = (0 + x 0 * y 0 + 0) % 18446744073709551616 := rfl
  have o1 : outQ x y 2 1 = ((0 + x 0 * y 1 + (0 + x 0 * y 0 + 0) / 18446744073709551616) % 18446744073709551616 + x 1 * y 0 + 0) % 18446744073709551616 := rfl
  have o2 : outQ x y 2 2 = ((0 + (0 + x 0 * y 1 + (0 + x 0 * y 0 + 0) / 18446744073709551616) / 18446744073709551616) % 18446744073709551616 + x 1 * y 1 + ((0 + x 0 * y 1 + (0 + x 0 * y 0 + 0) / 18446744073709551616) % 18446744073709551616 + x 1 * y 0 + 0) / 18446744073709551616) % 18446744073709551616 := rfl
  have o3 : outQ x y 2 3 = (0 + ((0 + (0 + x 0 * y 1 + (0 + x 0 * y 0 + 0) / 18446744073709551616) / 18446744073709551616) % 18446744073709551616 + x 1 * y 1 + ((0 + x 0 * y 1 + (0 + x 0 * y 0 + 0) / 18446744073709551616) % 18446744073709551616 + x 1 * y 0 + 0) / 18446744073709551616) / 18446744073709551616) % 18446744073709551616 := rfl
  generalize x 0 * y 0 = P at *
  generalize x 0 * y 1 = Q at *
  generalize x 1 * y 0 = R at *
  generalize x 1 * y 1 = T at *
  obtain ⟨c0, hc0⟩ : ∃ c, (0 + P + 0) / 18446744073709551616 = c := ⟨_, rfl⟩
  rw [hc0] at o1 o2 o3
  obtain ⟨s0, hs0⟩ : ∃ c, (0 + P + 0) % 18446744073709551616 = c := ⟨_, rfl⟩
  rw [hs0] at o0
  obtain ⟨c1, hc1⟩ : ∃ c, (0 + Q + c0) / 18446744073709551616 = c := ⟨_, rfl⟩
  obtain ⟨s1, hs1⟩ : ∃ c, (0 + Q + c0) % 18446744073709551616 = c := ⟨_, rfl⟩
  rw [hs1] at o1 o2 o3
  rw [hc1] at o2 o3
  obtain ⟨c2, hc2⟩ : ∃ c, (s1 + R + 0) / 18446744073709551616 = c := ⟨_, rfl⟩
  obtain ⟨s2, hs2⟩ : ∃ c, (s1 + R + 0) % 18446744073709551616 = c := ⟨_, rfl⟩
  rw [hs2] at o1
  rw [hc2] at o2 o3
  obtain ⟨s3, hs3⟩ : ∃ c, ((0 + c1) % 18446744073709551616 + T + c2) % 18446744073709551616 = c := ⟨_, rfl⟩
  obtain ⟨c3, hc3⟩ : ∃ c, ((0 + c1) % 18446744073709551616 + T + c2) / 18446744073709551616 = c := ⟨_, rfl⟩
  rw [hs3] at o2
  rw [hc3] at o3
  obtain ⟨w0, w1, w2, w3⟩ := wq_of s0 s2 s3 ((0 + c3) % 18446744073709551616) 0 (P + (Q + R) * 18446744073709551616 + T * 340282366920938463463374607431768211456) (by omega) (by omega) (by omega) (by omega) (by omega)
  exact q4_congr (by rw [o0, w0]) (by rw [o1, w1]) (by rw [o2, w2]) (by rw [o3, w3])
theorem wa_wd (a : Int) (h0 : -170141183460469231731687303715884105728 < a) (h1 : a < 170141183460469231731687303715884105728) : ∀ i, i < 2 → wd (wa a i)
  | 0, _ => by rw [wa0]; unfold wd; omega
  | 1, _ => by rw [wa1]; unfold wd; omega
theorem wa_val (a : Int) : wa a 0 + wa a 1 * 18446744073709551616 = (a.natAbs : Int) := by rw [wa0, wa1]; omega
theorem sgn_mul (a b : Int) : (decide (a < 0) = decide (b < 0) → (a.natAbs : Int) * (b.natAbs : Int) = a * b) ∧ (decide (a < 0) ≠ decide (b < 0) → 0 - (a.natAbs : Int) * (b.natAbs : Int) = a * b) := by
  by_cases ha : a < 0 <;> by_cases hb : b < 0
  · rw [decide_eq_true ha, decide_eq_true hb, show (a.natAbs : Int) = -a by omega, show (b.natAbs : Int) = -b by omega]; simp [Int.neg_mul, Int.mul_neg]
  · rw [decide_eq_true ha, decide_eq_false hb, show (a.natAbs : Int) = -a by omega, show (b.natAbs : Int) = b by omega]; simp [Int.neg_mul]
  · rw [decide_eq_false ha, decide_eq_true hb, show (a.natAbs : Int) = a by omega, show (b.natAbs : Int) = -b by omega]; simp [Int.mul_neg]
  · rw [decide_eq_false ha, decide_eq_false hb, show (a.natAbs : Int) = a by omega, show (b.natAbs : Int) = b by omega]; simp
end Go.Proofs.Ytngmkjgklonfmaa.Wd


/- What is used of HoV. -/
namespace Go.Proofs.Ytngmkjgklonfmaa.Wd
open Go.RowKit Go.Proofs.ZFr Go.Proofs.Ytngmkjgklonfmaa.PNearNearest Go.Proofs.Ytngmkjgklonfmaa.Big Go.Proofs.YtngmkjgklonfmaaW.PrintWords
attribute [local go_sem ↓] Go.wp_at_zero Go.wp_at_succ
theorem q2_cell {w : World} {b : Nat} {f : Nat → Int} (h : w.heap[b]? = some (.cells (Q2 f) 190 (0, 0))) (k : Nat) (hk : k < 2) : w.cell? ⟨b, k, none⟩ = some (.int .u64 (f k)) := by
  rw [ZFr.blk_cell h k]
  match k, hk with
  | 0, _ => rfl
  | 1, _ => rfl
set_option maxRecDepth 100000 in
set_option maxHeartbeats 8000000 in
theorem qmul_walk (a b : Int) (ha0 : -170141183460469231731687303715884105728 < a) (ha1 : a < 170141183460469231731687303715884105728) (hb0 : -170141183460469231731687303715884105728 < b) (hb1 : b < 170141183460469231731687303715884105728) (W : World) : Calls Try.prog 149 #[encW a, encW b] W fun e w' => e = .returned (encQ (a * b)) ∧ Fr (fun _ => False) W w' := by
  have HX := Lib.hid (wa_wd a ha0 ha1)
  have HY := Lib.hid (wa_wd b hb0 hb1)
  have AP := Lib.hid (apart_walk a ha0 ha1)
  have BP := Lib.hid (apart_walk b hb0 hb1)
  have HV := Lib.hid (outQ_val (wa a) (wa b) HX.out HY.out)
  rw [wa_val, wa_val] at HV
  have HS := Lib.hid (sgn_mul a b)
  clear ha0 ha1 hb0 hb1
  unfold encW at AP BP ⊢
  generalize wa a = x at HX AP HV
  generalize wa b = y at HY BP HV
  generalize decide (a < 0) = na at AP HS
  generalize decide (b < 0) = nb at BP HS
  generalize (a.natAbs : Int) * (b.natAbs : Int) = Z at HV HS
  generalize a * b = R at HS ⊢
  generalize hiW a = a0 at AP ⊢
  generalize loW a = a1 at AP ⊢
  generalize hiW b = b0 at BP ⊢
  generalize loW b = b1 at BP ⊢
  obtain ⟨t1, t2, t3, f3⟩ := tri W (Obj.cells #[.int .i64 a0, .int .u64 a1] 28) (Obj.cells #[.int .i64 b0, .int .u64 b1] 28) (Obj.cells #[.int .u64 0, .int .u64 0, .int .u64 0, .int .u64 0] 79)
  unfold Q2 at AP BP
  go_enter Try.func149, Try.ntmps149
  go_wp2_with fail
  generalize ((W.alloc (Obj.cells #[.int .i64 a0, .int .u64 a1] 28)).alloc (Obj.cells #[.int .i64 b0, .int .u64 b1] 28)).alloc (Obj.cells #[.int .u64 0, .int .u64 0, .int .u64 0, .int .u64 0] 79) = w3 at t1 t2 t3 f3 ⊢
  have T1 := Lib.hid t1
  have T2 := Lib.hid t2
  have T3 := Lib.hid t3
  have F3 := Lib.hid f3
  obtain ⟨p1, p2, _, _⟩ := wide_store t1
  clear t1 t2 t3 f3
  go_wp2_with (first
    | (go_at_call 155; have hc_ := BP.out (w4.alloc (Obj.cells #[.int .u64 (x 0), .int .u64 (x 1)] 190)); (with_reducible refine hc_.mono ?_); clear hc_; rintro e w6 ⟨rfl, f6⟩; have X6 := Lib.hid (ZFr.blk_fr (heap_alloc_new w4 (Obj.cells #[.int .u64 (x 0), .int .u64 (x 1)] 190)) f6 (fun h => h)); have F6 := Lib.hid ((F4.out.alloc (Obj.cells #[.int .u64 (x 0), .int .u64 (x 1)] 190)).trans f6 (fun _ h _ => h)); clear f6)
    | (go_at_call 155; have hc_ := AP.out w3; (with_reducible refine hc_.mono ?_); clear hc_; rintro e w4 ⟨rfl, f4⟩; have F4 := Lib.hid f4; have Z4 := Lib.hid (wide_store (ZFr.blk_alloc (ZFr.blk_fr T2.out f4 (fun h => h)) (Obj.cells #[.int .u64 (x 0), .int .u64 (x 1)] 190))); obtain ⟨p3, p4, _, _⟩ := Z4.out; clear f4))
  have hx8 := ZFr.blk_alloc (ZFr.blk_alloc X6.out (Obj.cells #[.int .u64 (y 0), .int .u64 (y 1)] 190)) (Obj.cells #[.int .u64 0, .int .u64 0, .int .u64 0, .int .u64 0] 79)
  have hy8 := ZFr.blk_alloc (heap_alloc_new w6 (Obj.cells #[.int .u64 (y 0), .int .u64 (y 1)] 190)) (Obj.cells #[.int .u64 0, .int .u64 0, .int .u64 0, .int .u64 0] 79)
  have ho8 := second w6 (Obj.cells #[.int .u64 (y 0), .int .u64 (y 1)] 190) (Obj.cells #[.int .u64 0, .int .u64 0, .int .u64 0, .int .u64 0] 79)
  have hf8 := (F6.out.alloc (Obj.cells #[.int .u64 (y 0), .int .u64 (y 1)] 190)).alloc (Obj.cells #[.int .u64 0, .int .u64 0, .int .u64 0, .int .u64 0] 79)
  have hr8 := ZFr.blk_fr T3.out hf8 (fun h => h)
  have LT := Lib.hid (show w4.heap.size < w6.heap.size ∧ W.heap.size + 1 + 1 < w4.heap.size from ⟨ZFr.blk_lt X6.out, Nat.lt_of_lt_of_le (ZFr.blk_lt T3.out) F4.out.size⟩)
  clear p1 p2 p3 p4 T1 T2 T3 Z4
  generalize (w6.alloc (Obj.cells #[.int .u64 (y 0), .int .u64 (y 1)] 190)).alloc (Obj.cells #[.int .u64 0, .int .u64 0, .int .u64 0, .int .u64 0] 79) = w8 at hx8 hy8 ho8 hf8 hr8 ⊢
  have X8 := Lib.hid (show w8.heap[w4.heap.size]? = some (.cells (Q2 x) 190 (0, 0)) from hx8)
  have Y8 := Lib.hid (show w8.heap[w6.heap.size]? = some (.cells (Q2 y) 190 (0, 0)) from hy8)
  have O8 := Lib.hid (show w8.heap[w6.heap.size + 1]? = some (.cells (Q4 (outQ x y 0)) 79 (0, 0)) from ho8)
  have R8 := Lib.hid hr8
  have F8 := Lib.hid (F3.out.trans hf8 (fun _ h _ => h))
  clear hx8 hy8 ho8 hf8 hr8 X6 F6 F4
  generalize w4.heap.size = b5 at X8 LT ⊢
  generalize w6.heap.size = b7 at X8 Y8 O8 LT ⊢
  go_loopw [27] (fun s wr => ∃ i : Nat, i ≤ 2 ∧ s = .int .i64 (i : Int) ∧ wr.heap[b7 + 1]? = some (.cells (Q4 (outQ x y i)) 79 (0, 0)) ∧ Fr (fun q => q = b7 + 1) w8 wr) (fun s _ => (2 - intOf s).toNat)
  case atStart => exact ⟨0, by omega, rfl, O8.out, Fr.refl _ _⟩
  case round =>
    obtain ⟨i, hi, rfl, ho, hf⟩ := hrel
    have HO := Lib.hid ho
    have HF := Lib.hid hf
    clear ho hf
    by_cases hi2 : i < 2
    · have hid2 : (i : Int) < 2 := by omega
      have hid0 : (0 : Int) ≤ (i : Int) := by omega
      obtain ⟨wo, rfl⟩ : ∃ wo : World, wo = wr := ⟨_, rfl⟩
      go_wp2_with fail
      go_loopw [11, 30] (fun c s wr => ∃ k : Nat, k ≤ 2 ∧ s = .int .i64 (k : Int) ∧ c = .int .u64 (rowQ x y (outQ x y i) i k).2 ∧ wr.heap[b7 + 1]? = some (.cells (Q4 (rowQ x y (outQ x y i) i k).1) 79 (0, 0)) ∧ Fr (fun q => q = b7 + 1) w8 wr) (fun _ s _ => (2 - intOf s).toNat)
      case atStart => exact ⟨0, by omega, rfl, rfl, HO.out, HF.out⟩
      case round =>
        clear HO HF
        obtain ⟨k, hk, rfl, rfl, ho, hf⟩ := hrel
        have HO := Lib.hid ho
        have HF := Lib.hid hf
        clear ho hf
        have LTS := LT.out
        by_cases hk2 : k < 2
        · have hkd2 : (k : Int) < 2 := by omega
          have hkd0 : (0 : Int) ≤ (k : Int) := by omega
          have X1 := Lib.hid (q2_cell (ZFr.blk_fr X8.out HF.out (fun h => absurd h (by omega))) i hi2)
          have Y1 := Lib.hid (q2_cell (ZFr.blk_fr Y8.out HF.out (fun h => absurd h (by omega))) k hk2)
          obtain ⟨q1, q2⟩ := rowQ_bd HX.out HY.out (outQ_bd HX.out HY.out i (by omega)) i hi2 k (by omega)
          have hP := prod64 (HX.out i hi2) (HY.out k hk2)
          have HM := Lib.hid (mul64_f (x i) (y k) (HX.out i hi2) (HY.out k hk2))
          obtain ⟨s1, c1, c2, m1, m2, m3, m4, m5, m6⟩ := mul_step ((rowQ x y (outQ x y i) i k).1 (i + k)) (x i * y k) (rowQ x y (outQ x y i) i k).2 (q1 (i + k)) hP q2
          have E1 := Lib.hid (fun w => add64 ((rowQ x y (outQ x y i) i k).1 (i + k)) (x i * y k % 18446744073709551616) 0 (q1 (i + k)).1 (by omega) (by omega) (by omega) w)
          rw [m1, m2] at E1
          have E2 := Lib.hid (fun w => add64 s1 (rowQ x y (outQ x y i) i k).2 0 m5.1 q2.1 (by omega) (by omega) w)
          rw [m3, m4] at E2
          have HR1 := Lib.hid (show (rowQ x y (outQ x y i) i (k + 1)).1 = fun j => if j = i + k then ((rowQ x y (outQ x y i) i k).1 (i + k) + x i * y k + (rowQ x y (outQ x y i) i k).2) % 18446744073709551616 else (rowQ x y (outQ x y i) i k).1 j from rfl)
          have HR2 := Lib.hid (show (rowQ x y (outQ x y i) i (k + 1)).2 = ((rowQ x y (outQ x y i) i k).1 (i + k) + x i * y k + (rowQ x y (outQ x y i) i k).2) / 18446744073709551616 from rfl)
          rw [← m6] at HR2
          have OC := Lib.hid (And.intro (q4_cell HO.out (i + k) (by omega)) (ZFr.blk_free HO.out (i + k)))
          generalize (rowQ x y (outQ x y i) i k).1 (i + k) = o at E1 E2 HR1 OC
          generalize (rowQ x y (outQ x y i) i k).2 = c at E2 HR1 ⊢
          generalize (o + x i * y k + c) % 18446744073709551616 = s2 at E2 HR1
          generalize x i * y k / 18446744073709551616 = ph at HM HR2
          generalize x i * y k % 18446744073709551616 = pl at HM E1
          have HBM := Lib.hid (fun w => bits_Mul64.calls (x i) (y k) ph pl w HM.out)
          generalize x i = xi at X1 HBM
          generalize y k = yk at Y1 HBM
          generalize (rowQ x y (outQ x y i) i k).1 = f at HR1 HO
          clear q1 q2 hP m1 m2 m3 m4 m5 m6 HM
          have cx := X1.out
          have cy := Y1.out
          have dx : wr.drew.cell? ⟨b5, i, none⟩ = some (.int .u64 xi) := X1.out
          have dy : wr.drew.cell? ⟨b7, k, none⟩ = some (.int .u64 yk) := Y1.out
          go_upto_region 11 with fail
          go_region_held3 (fun w' => w'.cell? ⟨b5, i, none⟩ = some (.int .u64 xi) ∧ w'.cell? ⟨b7, k, none⟩ = some (.int .u64 yk))
            (refine ⟨?_, ?_⟩ <;> (repeat (first | with_reducible assumption | (with_reducible refine fr_cell ?_ FB.out) | go_keep)))
            ((go_at_call 140; have hc_ := HBM.out wr.drew; (with_reducible refine hc_.mono ?_); clear hc_; rintro e w11 ⟨rfl, b11⟩; obtain ⟨nn, rfl⟩ := b11.out; have FB := Lib.hid ((Fr.refl (fun _ => False) wr.drew).drewN nn)))
          all_goals
            have EQ1 := E1.out
            have EQ2 := E2.out
            obtain ⟨m, hm⟩ : ∃ m, i + k = m := ⟨_, rfl⟩
            have hsum : (i : Int) + (k : Int) = (m : Int) := by omega
            have hm4 : (m : Int) < 4 := by omega
            have hm0 : (0 : Int) ≤ (m : Int) := by omega
            rw [hm] at OC HR1
            have HMM := Lib.hid hm
            clear hm
            have HO12 := Lib.hid (show (wr.drewN (1 + nn)).heap[b7 + 1]? = some (.cells (Q4 f) 79 (0, 0)) from HO.out)
            have HF12 := Lib.hid (show Fr (fun q => q = b7 + 1) w8 (wr.drewN (1 + nn)) from HF.out.drewN _)
            obtain ⟨o1, o2⟩ := OC.out
            have o3 : (wr.drewN (1 + nn)).cell? ⟨b7 + 1, m, none⟩ = some (.int .u64 o) := o1
            have o4 : (wr.drewN (1 + nn)).frozen? ⟨b7 + 1, m, none⟩ = false := o2
            clear o1 o2 cx cy dx dy
            generalize wr.drewN (1 + nn) = w12 at HO12 HF12 o3 o4 ⊢
            go_upto_region 14 with fail
            clear o3 o4
            have HO13 := Lib.hid (ZFr.blk_set HO12.out m (.int .u64 s1))
            have HF13 := Lib.hid (HF12.out.set ⟨b7 + 1, m, none⟩ (.int .u64 s1) (.inl rfl))
            rw [q4_set f m (by omega) s1] at HO13
            generalize w12.setCell ⟨b7 + 1, m, none⟩ (.int .u64 s1) = w13 at HO13 HF13 ⊢
            have o5 := q4_cell HO13.out m (by omega)
            simp only [if_pos] at o5
            have o6 := ZFr.blk_free HO13.out m
            go_wp2_with fail
            go_roundw
            case rel =>
              refine ⟨k + 1, by omega, by go_num, by rw [HR2.out], ?_, HF13.out.set _ _ (.inl rfl)⟩
              have h9 := ZFr.blk_set HO13.out m (.int .u64 s2)
              rw [q4_set _ m (by omega) s2, show (fun j => if j = m then s2 else if j = m then s1 else f j) = fun j => if j = m then s2 else f j from by funext j; by_cases e : j = m <;> simp [e]] at h9
              rw [HR1.out]
              exact h9
            case measure => simp [intOf]; omega
        · have hke : k = 2 := by omega
          subst hke
          have HR1 := Lib.hid (show outQ x y (i + 1) = fun j => if j = i + 2 then ((rowQ x y (outQ x y i) i 2).1 (i + 2) + (rowQ x y (outQ x y i) i 2).2) % 18446744073709551616 else (rowQ x y (outQ x y i) i 2).1 j from rfl)
          have OC := Lib.hid (And.intro (q4_cell HO.out (i + 2) (by omega)) (ZFr.blk_free HO.out (i + 2)))
          generalize (rowQ x y (outQ x y i) i 2).2 = c at HR1 ⊢
          generalize (rowQ x y (outQ x y i) i 2).1 = f at HR1 HO OC
          obtain ⟨m, hm⟩ : ∃ m, i + 2 = m := ⟨_, rfl⟩
          rw [hm] at HR1 OC
          have hsum : (i : Int) + 2 = (m : Int) := by omega
          have hm4 : (m : Int) < 4 := by omega
          have hm0 : (0 : Int) ≤ (m : Int) := by omega
          have HMM := Lib.hid hm
          clear hm
          obtain ⟨o1, o2⟩ := OC.out
          go_wp2_with fail
          go_roundw
          case rel =>
            refine ⟨i + 1, by omega, by go_num, ?_, HF.out.set _ _ (.inl rfl)⟩
            have h9 := ZFr.blk_set HO.out m (.int .u64 (IntKind.u64.wrap (f m + c)))
            rw [q4_set _ m (by omega) _] at h9
            rw [HR1.out]
            exact h9
          case measure => simp [intOf]; omega
    · have hie : i = 2 := by omega
      subst hie
      have ho := HO.out
      rw [HV.out] at ho
      have HOZ := Lib.hid ho
      have LTS := LT.out
      have RW := Lib.hid (ZFr.blk_fr R8.out HF.out (fun h => absurd h (by omega)))
      have HQ := Lib.hid (fun w => qsub_c 0 Z w)
      have c0 := q4_cell ho 0 (by decide)
      have c1 := q4_cell ho 1 (by decide)
      have c2 := q4_cell ho 2 (by decide)
      have c3 := q4_cell ho 3 (by decide)
      have r0 := ZFr.blk_cell RW.out 0
      have r1 := ZFr.blk_cell RW.out 1
      have r2 := ZFr.blk_cell RW.out 2
      have r3 := ZFr.blk_cell RW.out 3
      have z0 := ZFr.blk_free RW.out 0
      have z1 := ZFr.blk_free RW.out 1
      have z2 := ZFr.blk_free RW.out 2
      have z3 := ZFr.blk_free RW.out 3
      have FW := Lib.hid (F8.out.trans HF.out (fun q h hlt => absurd h (by have := LT.out; omega)))
      clear ho HO HF
      have hq0 : encQ 0 = .agg #[.int .u64 0, .int .u64 0, .int .u64 0, .int .u64 0] := rfl
      rw [hq0] at HQ
      clear hq0
      unfold encQ Q4 at HQ
      cases na <;> cases nb
      · have e := HS.out.1 rfl
        subst e
        go_wp2_with fail
        refine bodyPost_ret (results_cell_row rfl _ _ (W.heap.size + 1 + 1) 79 #[.int .u64 (wq Z 0), .int .u64 (wq Z 1), .int .u64 (wq Z 2), .int .u64 (wq Z 3)] (0, 0) _ rfl (ZFr.blk_set (ZFr.blk_set (ZFr.blk_set (ZFr.blk_set RW.out 0 _) 1 _) 2 _) 3 _) Try.underlying79 rfl (by kernel_rfl)) rfl ?_
        exact ⟨rfl, (((FW.out.set _ _ (.inr (by dsimp only; omega))).set _ _ (.inr (by dsimp only; omega))).set _ _ (.inr (by dsimp only; omega))).set _ _ (.inr (by dsimp only; omega))⟩
      · have e := HS.out.2 (by decide)
        rw [e] at HQ
        go_wp2_with (go_at_call 156; have hc_ := HQ.out wr; (with_reducible refine hc_.mono ?_); clear hc_; rintro e w4 ⟨rfl, f4⟩; have RV := Lib.hid (ZFr.blk_fr RW.out f4 (fun h => h)); have y0 := ZFr.blk_cell RV.out 0; have y1 := ZFr.blk_cell RV.out 1; have y2 := ZFr.blk_cell RV.out 2; have y3 := ZFr.blk_cell RV.out 3; have u0 := ZFr.blk_free RV.out 0; have u1 := ZFr.blk_free RV.out 1; have u2 := ZFr.blk_free RV.out 2; have u3 := ZFr.blk_free RV.out 3; have FV := Lib.hid (FW.out.trans f4 (fun _ h _ => h)); clear f4)
        refine bodyPost_ret (results_cell_row rfl _ _ (W.heap.size + 1 + 1) 79 #[.int .u64 (wq R 0), .int .u64 (wq R 1), .int .u64 (wq R 2), .int .u64 (wq R 3)] (0, 0) _ rfl (ZFr.blk_set (ZFr.blk_set (ZFr.blk_set (ZFr.blk_set RV.out 0 _) 1 _) 2 _) 3 _) Try.underlying79 rfl (by kernel_rfl)) rfl ?_
        exact ⟨rfl, (((FV.out.set _ _ (.inr (by dsimp only; omega))).set _ _ (.inr (by dsimp only; omega))).set _ _ (.inr (by dsimp only; omega))).set _ _ (.inr (by dsimp only; omega))⟩
      · have e := HS.out.2 (by decide)
        rw [e] at HQ
        go_wp2_with (go_at_call 156; have hc_ := HQ.out wr; (with_reducible refine hc_.mono ?_); clear hc_; rintro e w4 ⟨rfl, f4⟩; have RV := Lib.hid (ZFr.blk_fr RW.out f4 (fun h => h)); have y0 := ZFr.blk_cell RV.out 0; have y1 := ZFr.blk_cell RV.out 1; have y2 := ZFr.blk_cell RV.out 2; have y3 := ZFr.blk_cell RV.out 3; have u0 := ZFr.blk_free RV.out 0; have u1 := ZFr.blk_free RV.out 1; have u2 := ZFr.blk_free RV.out 2; have u3 := ZFr.blk_free RV.out 3; have FV := Lib.hid (FW.out.trans f4 (fun _ h _ => h)); clear f4)
        refine bodyPost_ret (results_cell_row rfl _ _ (W.heap.size + 1 + 1) 79 #[.int .u64 (wq R 0), .int .u64 (wq R 1), .int .u64 (wq R 2), .int .u64 (wq R 3)] (0, 0) _ rfl (ZFr.blk_set (ZFr.blk_set (ZFr.blk_set (ZFr.blk_set RV.out 0 _) 1 _) 2 _) 3 _) Try.underlying79 rfl (by kernel_rfl)) rfl ?_
        exact ⟨rfl, (((FV.out.set _ _ (.inr (by dsimp only; omega))).set _ _ (.inr (by dsimp only; omega))).set _ _ (.inr (by dsimp only; omega))).set _ _ (.inr (by dsimp only; omega))⟩
      · have e := HS.out.1 rfl
        subst e
        go_wp2_with fail
        refine bodyPost_ret (results_cell_row rfl _ _ (W.heap.size + 1 + 1) 79 #[.int .u64 (wq Z 0), .int .u64 (wq Z 1), .int .u64 (wq Z 2), .int .u64 (wq Z 3)] (0, 0) _ rfl (ZFr.blk_set (ZFr.blk_set (ZFr.blk_set (ZFr.blk_set RW.out 0 _) 1 _) 2 _) 3 _) Try.underlying79 rfl (by kernel_rfl)) rfl ?_
        exact ⟨rfl, (((FW.out.set _ _ (.inr (by dsimp only; omega))).set _ _ (.inr (by dsimp only; omega))).set _ _ (.inr (by dsimp only; omega))).set _ _ (.inr (by dsimp only; omega))⟩
end Go.Proofs.Ytngmkjgklonfmaa.Wd

