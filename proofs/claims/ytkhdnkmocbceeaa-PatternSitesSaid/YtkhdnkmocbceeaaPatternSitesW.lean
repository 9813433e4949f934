/- The walk of PatternSites. -/
import Derived.Test.YtkhdnkmocbceeaaPatC
namespace Go.Proofs.Ytkhdnkmocbceeaa.Pat
open Go.RowKit Go.Proofs.ZFr
open Go.Proofs.Hil
open Go.Joins (below_alloc1 below_alloc2 below_draws)

/-- A slice that owns sites, so many. -/
def Owns (w : World) (B : Nat) (v : Value) (n : Int) (N : Nat) : Prop := ∃ l : List (Int × Int), w.ownsRow B 61 3 v l.length (flat (wid l)) ∧ Sites n l ∧ l.length = N
theorem Owns.fr {w w' : World} {B : Nat} {v : Value} {n : Int} {N : Nat} (h : Owns w B v n N) (hb : Below w.heap.size w w') : Owns w' B v n N := by
  obtain ⟨l, h1, h2, h3⟩ := h
  exact ⟨l, row_fr h1 (Fr.of_below hb) (fun _ _ h => h), h2, h3⟩
theorem Owns.slice {w : World} {B : Nat} {v : Value} {n : Int} {N : Nat} (h : Owns w B v n N) : ∃ p c, v = .slice p N c := by
  obtain ⟨l, h1, h2, h3⟩ := h
  rw [h3] at h1
  exact row_slice h1
theorem owns_nil (w : World) (B : Nat) (n : Int) : Owns w B (.slice none 0 0) n 0 := ⟨[], World.ownsRow_nil _ _ _ _, sites_nil n, rfl⟩

def gN (n : Int) (k : Nat) : Nat := if 1 ≤ k ∧ (k : Int) ≤ n then k * k else 0
def sN (n : Int) (k : Nat) : Nat := if 1 ≤ k ∧ 2 * (k : Int) ≤ n then k * k else 0
def cN (n : Int) (b : Nat) : Nat := if ((2 ^ b : Nat) : Int) ≤ n then 2 ^ b * 2 ^ b else 0

theorem grid_own (w : World) (n : Int) (k : Nat) (hn0 : 1 ≤ n) (hn1 : n ≤ 1073741824) (hk : k ≤ 15) :
    Calls Try.prog 14 #[.int .i64 n, .int .i64 (k : Int)] w fun e w' => ∃ p c, e = .returned (.slice p (gN n k) c) ∧ Owns w' w.heap.size (.slice p (gN n k) c) n (gN n k) ∧ Below w.heap.size w w' := by
  by_cases h : 1 ≤ k ∧ (k : Int) ≤ n
  · refine (Grid_yes w n k hn0 hn1 h.1 (by omega) h.2).mono ?_
    rintro e w' ⟨v, rfl, ho, hb⟩
    have hN : gN n k = k * k := by unfold gN; rw [if_pos h]
    obtain ⟨p, c, rfl⟩ := row_slice ho
    rw [hN]
    refine ⟨p, c, rfl, ⟨grP n k (k * k), ?_, gr_sites n k h.1 h.2, by simp [grP]⟩, hb⟩
    rw [← gr_wid, show (grP n k (k * k)).length = k * k from by simp [grP]]; exact ho
  · refine (Grid_no w n k (by omega) (by omega)).mono ?_
    rintro e w' ⟨rfl, hb⟩
    have hN : gN n k = 0 := by unfold gN; rw [if_neg h]
    rw [hN]
    exact ⟨none, 0, rfl, owns_nil _ _ _, hb⟩
theorem skew_own (w : World) (n : Int) (k : Nat) (hn0 : 1 ≤ n) (hn1 : n ≤ 1073741824) (hk : k ≤ 15) :
    Calls Try.prog 16 #[.int .i64 n, .int .i64 (k : Int)] w fun e w' => ∃ p c, e = .returned (.slice p (sN n k) c) ∧ Owns w' w.heap.size (.slice p (sN n k) c) n (sN n k) ∧ Below w.heap.size w w' := by
  by_cases h : 1 ≤ k ∧ 2 * (k : Int) ≤ n
  · refine (Skew_yes w n k hn0 hn1 h.1 (by omega) h.2).mono ?_
    rintro e w' ⟨v, rfl, ho, hb⟩
    have hN : sN n k = k * k := by unfold sN; rw [if_pos h]
    obtain ⟨p, c, rfl⟩ := row_slice ho
    rw [hN]
    refine ⟨p, c, rfl, ⟨skP n k (k * k), ?_, sk_sites n k h.1 h.2, by simp [skP]⟩, hb⟩
    rw [← sk_wid, show (skP n k (k * k)).length = k * k from by simp [skP]]; exact ho
  · refine (Skew_no w n k (by omega) (by omega)).mono ?_
    rintro e w' ⟨rfl, hb⟩
    have hN : sN n k = 0 := by unfold sN; rw [if_neg h]
    rw [hN]
    exact ⟨none, 0, rfl, owns_nil _ _ _, hb⟩
theorem scat_own (w : World) (n : Int) (m : Nat) (seed : Int) (hn0 : 1 ≤ n) (hn1 : n ≤ 1073741824) (hm : m ≤ 63) :
    Calls Try.prog 38 #[.int .i64 n, .int .i64 (m : Int), .int .u64 seed] w fun e w' => ∃ N p c, N ≤ m ∧ e = .returned (.slice p N c) ∧ Owns w' w.heap.size (.slice p N c) n N ∧ Below w.heap.size w w' := by
  refine (Scatter_yes w n m seed hn0 hn1 (by omega)).mono ?_
  rintro e w' ⟨v, rfl, ho, hb⟩
  obtain ⟨p, c, rfl⟩ := row_slice ho
  exact ⟨_, p, c, scat_len n m _ _ _ (Nat.zero_le _), rfl, ⟨_, ho, scat_sites n m hn0 _ _ _ (sites_nil n), rfl⟩, hb⟩
theorem curve_own (w : World) (n : Int) (b : Nat) (hn0 : 1 ≤ n) (hn1 : n ≤ 1073741824) (hb : b ≤ 3) :
    Calls Try.prog 39 #[.int .i64 n, .int .i64 (b : Int)] w fun e w' => ∃ p c, e = .returned (.slice p (cN n b) c) ∧ Owns w' w.heap.size (.slice p (cN n b) c) n (cN n b) ∧ Below w.heap.size w w' := by
  by_cases h : ((2 ^ b : Nat) : Int) ≤ n
  · have hN : cN n b = 2 ^ b * 2 ^ b := by unfold cN; rw [if_pos h]
    have hc : Calls Try.prog 39 #[.int .i64 n, .int .i64 (b : Int)] w fun e w' => ∃ v, e = .returned v ∧ w'.ownsRow w.heap.size 61 3 v (2 ^ b * 2 ^ b) (flat (wid (cuP n b (2 ^ b * 2 ^ b)))) ∧ Below w.heap.size w w' := by
      have hb4 : b = 0 ∨ b = 1 ∨ b = 2 ∨ b = 3 := by omega
      rcases hb4 with rfl | rfl | rfl | rfl
      · exact Curve_0 w n hn0 hn1 (by simpa using h)
      · exact Curve_1 w n hn0 hn1 (by simpa using h)
      · exact Curve_2 w n hn0 hn1 (by simpa using h)
      · exact Curve_3 w n hn0 hn1 (by simpa using h)
    refine hc.mono ?_
    rintro e w' ⟨v, rfl, ho, hb⟩
    obtain ⟨p, c, rfl⟩ := row_slice ho
    rw [hN]
    refine ⟨p, c, rfl, ⟨cuP n b (2 ^ b * 2 ^ b), ?_, cu_sites n b h, by simp [cuP]⟩, hb⟩
    rw [cu_len]; exact ho
  · refine (Curve_small w n b hn0 hn1 hb (by omega)).mono ?_
    rintro e w' ⟨rfl, rfl⟩
    have hN : cN n b = 0 := by unfold cN; rw [if_neg h]
    rw [hN]
    exact ⟨none, 0, rfl, owns_nil _ _ _, Below.refl _ _⟩
theorem sites_own (w : World) (B : Nat) (v : Value) (n : Int) (N : Nat) (h : Owns w B v n N) (hN : N ≤ 100000) :
    Calls Try.prog 40 #[v, .int .i64 n] w fun e w' => e = .returned (.bool true) ∧ Below w.heap.size w w' := by
  obtain ⟨l, h1, h2, h3⟩ := h
  exact sites_any w B v l n h1 h2 (by omega)

theorem and15 (n : Int) : ∃ k : Nat, Go.bits .and .i64 n 15 = (k : Int) ∧ k ≤ 15 := by
  have hm : (BitVec.ofInt 64 15).toNat = 2 ^ 4 - 1 := by decide
  have key : (BitVec.ofInt 64 n &&& BitVec.ofInt 64 15).toNat = (n % ((2 ^ 64 : Nat) : Int)).toNat % 2 ^ 4 := by
    rw [BitVec.toNat_and, BitVec.toNat_ofInt, hm, Nat.and_two_pow_sub_one_eq_mod]
  refine ⟨(n % 16).toNat, ?_, by omega⟩
  show IntKind.i64.wrap ((BitVec.ofInt 64 n &&& BitVec.ofInt 64 15).toNat : Nat) = _
  rw [key, IntKind.wrap_i64]
  omega
theorem and63 (n : Int) : ∃ k : Nat, Go.bits .and .i64 n 63 = (k : Int) ∧ k ≤ 63 := by
  have hm : (BitVec.ofInt 64 63).toNat = 2 ^ 6 - 1 := by decide
  have key : (BitVec.ofInt 64 n &&& BitVec.ofInt 64 63).toNat = (n % ((2 ^ 64 : Nat) : Int)).toNat % 2 ^ 6 := by
    rw [BitVec.toNat_and, BitVec.toNat_ofInt, hm, Nat.and_two_pow_sub_one_eq_mod]
  refine ⟨(n % 64).toNat, ?_, by omega⟩
  show IntKind.i64.wrap ((BitVec.ofInt 64 n &&& BitVec.ofInt 64 63).toNat : Nat) = _
  rw [key, IntKind.wrap_i64]
  omega
theorem and3 (n : Int) : ∃ k : Nat, Go.bits .and .i64 n 3 = (k : Int) ∧ k ≤ 3 := by
  have hm : (BitVec.ofInt 64 3).toNat = 2 ^ 2 - 1 := by decide
  have key : (BitVec.ofInt 64 n &&& BitVec.ofInt 64 3).toNat = (n % ((2 ^ 64 : Nat) : Int)).toNat % 2 ^ 2 := by
    rw [BitVec.toNat_and, BitVec.toNat_ofInt, hm, Nat.and_two_pow_sub_one_eq_mod]
  refine ⟨(n % 4).toNat, ?_, by omega⟩
  show IntKind.i64.wrap ((BitVec.ofInt 64 n &&& BitVec.ofInt 64 3).toNat : Nat) = _
  rw [key, IntKind.wrap_i64]
  omega

theorem gN_le (n : Int) (k : Nat) (h : k ≤ 15) : gN n k ≤ 225 := by
  unfold gN; split
  · exact Nat.mul_le_mul h h
  · omega
theorem sN_le (n : Int) (k : Nat) (h : k ≤ 15) : sN n k ≤ 225 := by
  unfold sN; split
  · exact Nat.mul_le_mul h h
  · omega
theorem cN_le (n : Int) (b : Nat) (h : b ≤ 3) : cN n b ≤ 64 := by
  unfold cN; split
  · have := Nat.pow_le_pow_right (n := 2) (by decide) h
    exact Nat.mul_le_mul this this
  · omega

set_option maxRecDepth 100000 in
set_option maxHeartbeats 1600000 in
theorem sites_out (w : World) (n a b c seed : Int) (hn : ¬ (1 ≤ n ∧ n ≤ 1073741824)) (ha : -9223372036854775808 ≤ a ∧ a ≤ 9223372036854775807) (hb : -9223372036854775808 ≤ b ∧ b ≤ 9223372036854775807) :
    Calls Try.prog 11 #[.int .i64 n, .agg #[.int .i64 a, .int .i64 b, .int .i64 c], .int .u64 seed] w fun e w' => e = .returned (.bool true) ∧ Below w.heap.size w w' := by
  have HN := Lib.hid hn
  have HA := Lib.hid ha
  have HBb := Lib.hid hb
  have hn' : n < 1 ∨ 1073741824 < n := by omega
  clear hn ha hb
  have hx0 : (w.alloc (.cells #[.int .i64 a, .int .i64 b, .int .i64 c] 53)).heap[w.heap.size]? = some (.cells #[.int .i64 a, .int .i64 b, .int .i64 c] 53 (0, 0)) := heap_alloc_new w _
  have HX0 := Lib.hid hx0
  clear hx0
  have HA1 : Hid (¬ ((1 ≤ n ∧ n ≤ 1073741824) ∧ 1 ≤ a ∧ a ≤ 64 ∧ a ≤ n)) := Lib.hid (fun h => HN.out h.1)
  have HA2 : Hid (¬ ((1 ≤ n ∧ n ≤ 1073741824) ∧ 1 ≤ a ∧ a ≤ 64 ∧ 2 * a ≤ n)) := Lib.hid (fun h => HN.out h.1)
  have HA3 : Hid (¬ ((1 ≤ n ∧ n ≤ 1073741824) ∧ 0 ≤ b ∧ b ≤ 1000)) := Lib.hid (fun h => HN.out h.1)
  go_enter Try.func11, Try.ntmps11
  rcases hn' with hn' | hn'
  all_goals
    go_wp2_with fail
    refine (Grid_no _ n a HA.out HA1.out).mono ?_
    rintro e w1 ⟨rfl, hb1⟩
    have hx := blk_fr HX0.out (Fr.of_below hb1) (fun h => h)
    have y0 := blk_cell hx 0
    have y1 := blk_cell hx 1
    have y2 := blk_cell hx 2
    simp at y0 y1 y2
    have HXw1 := Lib.hid hx
    have HBBw1 := Lib.hid hb1
    clear hx hb1
    go_wp2_with fail
    clear y0 y1 y2
    refine (Skew_no w1 n a HA.out HA2.out).mono ?_
    rintro e w2 ⟨rfl, hb1⟩
    have hx := blk_fr HXw1.out (Fr.of_below hb1) (fun h => h)
    have y0 := blk_cell hx 0
    have y1 := blk_cell hx 1
    have y2 := blk_cell hx 2
    simp at y0 y1 y2
    have HXw2 := Lib.hid hx
    have HBBw2 := Lib.hid hb1
    clear hx hb1
    go_wp2_with fail
    clear y0 y1 y2
    refine (Scatter_no w2 n b seed HBb.out HA3.out).mono ?_
    rintro e w3 ⟨rfl, hb1⟩
    have hx := blk_fr HXw2.out (Fr.of_below hb1) (fun h => h)
    have y0 := blk_cell hx 0
    have y1 := blk_cell hx 1
    have y2 := blk_cell hx 2
    simp at y0 y1 y2
    have HXw3 := Lib.hid hx
    have HBBw3 := Lib.hid hb1
    clear hx hb1
    go_wp2_with fail
    clear y0 y1 y2
    refine (Curve_out w3 n c HN.out).mono ?_
    rintro e w4 ⟨rfl, rfl⟩
    go_wp2_with fail
    refine (lives w3).mono ?_
    rintro e w5 ⟨rfl, hb5⟩
    have HBB5 := Lib.hid hb5
    clear hb5
    go_wp2_with fail
    go_ret
    have s1 := HBBw1.out.size
    have s2 := HBBw2.out.size
    have s3 := HBBw3.out.size
    have s0 : w.heap.size ≤ (w.alloc (.cells #[.int .i64 a, .int .i64 b, .int .i64 c] 53)).heap.size := by simp
    exact ⟨rfl, ((((below_alloc1 w _).trans (HBBw1.out.mono s0)).trans (HBBw2.out.mono (by omega))).trans (HBBw3.out.mono (by omega))).trans (HBB5.out.mono (by omega))⟩

set_option maxRecDepth 100000 in
set_option maxHeartbeats 40000000 in
theorem sites_in (w : World) (n a b c seed : Int) (hn0 : 1 ≤ n) (hn1 : n ≤ 1073741824):
    Calls Try.prog 11 #[.int .i64 n, .agg #[.int .i64 a, .int .i64 b, .int .i64 c], .int .u64 seed] w fun e w' => e = .returned (.bool true) ∧ Below w.heap.size w w' := by
  obtain ⟨k, hk, hk15⟩ := and15 a
  obtain ⟨m, hm, hm63⟩ := and63 b
  obtain ⟨q, hq, hq3⟩ := and3 c
  go_enter Try.func11, Try.ntmps11
  go_wp2_with fail
  go_quiet (fail)
  clear hk hm hq
  go_wp2_with fail
  obtain ⟨w0, hw0⟩ : ∃ w0 : World, w0 = (w.alloc (.cells #[.int .i64 a, .int .i64 b, .int .i64 c] 53)).drewN nq := ⟨_, rfl⟩
  have hb0 : Below w.heap.size w w0 := by rw [hw0]; exact (below_alloc1 w _).trans (below_draws _ _ _)
  rw [← hw0]
  have HB0 := Lib.hid hb0
  clear hw0 hb0
  refine (grid_own w0 n k hn0 hn1 hk15).mono ?_
  rintro e w1 ⟨p1, c1, rfl, o1, hb1⟩
  have O1 := Lib.hid o1
  have HB1 := Lib.hid hb1
  clear o1 hb1
  go_wp2_with fail
  refine (skew_own w1 n k hn0 hn1 hk15).mono ?_
  rintro e w2 ⟨p2, c2, rfl, o2, hb2⟩
  have O2 := Lib.hid o2
  have HB2 := Lib.hid hb2
  clear o2 hb2
  go_wp2_with fail
  refine (scat_own w2 n m seed hn0 hn1 hm63).mono ?_
  rintro e w3 ⟨N3, p3, c3, hN3, rfl, o3, hb3⟩
  have O3 := Lib.hid o3
  have HB3 := Lib.hid hb3
  clear o3 hb3
  go_wp2_with fail
  refine (curve_own w3 n q hn0 hn1 hq3).mono ?_
  rintro e w4 ⟨p4, c4, rfl, o4, hb4⟩
  have O4 := Lib.hid o4
  have HB4 := Lib.hid hb4
  have n1 := gN_le n k hk15
  have n2 := sN_le n k hk15
  have n4 := cN_le n q hq3
  have t1 := O1.out.fr (HB2.out)
  clear o4 hb4
  have T1 := Lib.hid ((t1.fr HB3.out).fr HB4.out)
  have T2 := Lib.hid ((O2.out.fr HB3.out).fr HB4.out)
  have T3 := Lib.hid (O3.out.fr HB4.out)
  have HB04 : Below w.heap.size w w4 := by
    have s0 := HB0.out.size
    have s1 := HB1.out.size
    have s2 := HB2.out.size
    have s3 := HB3.out.size
    exact (((HB0.out.trans (HB1.out.mono s0)).trans (HB2.out.mono (by omega))).trans (HB3.out.mono (by omega))).trans (HB4.out.mono (by omega))
  have HB := Lib.hid HB04
  clear t1 HB04
  go_wp2_with fail
  refine (sites_own w4 _ _ n _ T1.out (by omega)).mono ?_
  rintro e w5 ⟨rfl, hb5⟩
  have HB5 := Lib.hid hb5
  clear hb5
  go_wp2_with fail
  refine (sites_own w5 _ _ n _ (T2.out.fr HB5.out) (by omega)).mono ?_
  rintro e w6 ⟨rfl, hb6⟩
  have HB6 := Lib.hid hb6
  clear hb6
  go_wp2_with fail
  refine (sites_own w6 _ _ n _ ((T3.out.fr HB5.out).fr HB6.out) (by omega)).mono ?_
  rintro e w7 ⟨rfl, hb7⟩
  have HB7 := Lib.hid hb7
  clear hb7
  go_wp2_with fail
  refine (sites_own w7 _ _ n _ (((O4.out.fr HB5.out).fr HB6.out).fr HB7.out) (by omega)).mono ?_
  rintro e w8 ⟨rfl, hb8⟩
  have HB8 := Lib.hid hb8
  clear hb8
  have hfin : Below w.heap.size w w8 := by
    have s0 := HB.out.size
    have s5 := HB5.out.size
    have s6 := HB6.out.size
    have s7 := HB7.out.size
    exact (((HB.out.trans (HB5.out.mono s0)).trans (HB6.out.mono (by omega))).trans (HB7.out.mono (by omega))).trans (HB8.out.mono (by omega))
  have HFIN := Lib.hid hfin
  clear hfin n1 n2 n4 HB0 HB1 HB2 HB3 HB4 HB5 HB6 HB7 HB8 T1 T2 T3 O1 O2 O3 O4 HB
  have hq4 : q = 0 ∨ q = 1 ∨ q = 2 ∨ q = 3 := by omega
  have hkk : IntKind.i64.wrap ((k : Int) * (k : Int)) = (k : Int) * (k : Int) := by
    have : (k : Int) * (k : Int) ≤ 15 * 15 := Int.mul_le_mul (by omega) (by omega) (by omega) (by omega)
    have := Int.mul_nonneg (show 0 ≤ (k : Int) by omega) (show 0 ≤ (k : Int) by omega)
    exact IntWalk.i64_in _ (by omega)
  have hg : (1 ≤ k ∧ 2 * (k : Int) ≤ n) ∨ (1 ≤ k ∧ (k : Int) ≤ n ∧ n < 2 * (k : Int)) ∨ k = 0 ∨ (1 ≤ k ∧ n < (k : Int)) := by omega
  rcases hg with ⟨hg1, hg2⟩ | ⟨hg1, hg2, hg3⟩ | hg | ⟨hg1, hg2⟩
  · have eg : gN n k = k * k := by unfold gN; rw [if_pos ⟨hg1, by omega⟩]
    have es : sN n k = k * k := by unfold sN; rw [if_pos ⟨hg1, hg2⟩]
    have hg4 : (k : Int) ≤ n := by omega
    rw [eg, es]
    clear eg es
    rcases hq4 with rfl | rfl | rfl | rfl
    · have ec : cN n 0 = 1 := by unfold cN; rw [if_pos (by simp; omega)]
      rw [ec]
      clear ec hq3
      go_wp2_with fail
      refine (lives w8).mono ?_
      rintro e w9 ⟨rfl, hb9⟩
      have HB9 := Lib.hid hb9
      clear hb9
      go_wp2_with fail
      go_ret
      exact ⟨rfl, HFIN.out.trans (HB9.out.mono HFIN.out.size)⟩
    · by_cases hcn : 2 ≤ n
      · have ec : cN n 1 = 4 := by unfold cN; rw [if_pos (by simp; omega)]
        rw [ec]
        clear ec hq3
        go_wp2_with fail
        refine (lives w8).mono ?_
        rintro e w9 ⟨rfl, hb9⟩
        have HB9 := Lib.hid hb9
        clear hb9
        go_wp2_with fail
        go_ret
        exact ⟨rfl, HFIN.out.trans (HB9.out.mono HFIN.out.size)⟩
      · exfalso; omega
    · by_cases hcn : 4 ≤ n
      · have ec : cN n 2 = 16 := by unfold cN; rw [if_pos (by simp; omega)]
        rw [ec]
        clear ec hq3
        go_wp2_with fail
        refine (lives w8).mono ?_
        rintro e w9 ⟨rfl, hb9⟩
        have HB9 := Lib.hid hb9
        clear hb9
        go_wp2_with fail
        go_ret
        exact ⟨rfl, HFIN.out.trans (HB9.out.mono HFIN.out.size)⟩
      · have ec : cN n 2 = 0 := by unfold cN; rw [if_neg (by simp; omega)]
        have hcn1 : n < 4 := by omega
        rw [ec]
        clear ec hq3 hcn
        go_wp2_with fail
        refine (lives w8).mono ?_
        rintro e w9 ⟨rfl, hb9⟩
        have HB9 := Lib.hid hb9
        clear hb9
        go_wp2_with fail
        go_ret
        exact ⟨rfl, HFIN.out.trans (HB9.out.mono HFIN.out.size)⟩
    · by_cases hcn : 8 ≤ n
      · have ec : cN n 3 = 64 := by unfold cN; rw [if_pos (by simp; omega)]
        rw [ec]
        clear ec hq3
        go_wp2_with fail
        refine (lives w8).mono ?_
        rintro e w9 ⟨rfl, hb9⟩
        have HB9 := Lib.hid hb9
        clear hb9
        go_wp2_with fail
        go_ret
        exact ⟨rfl, HFIN.out.trans (HB9.out.mono HFIN.out.size)⟩
      · have ec : cN n 3 = 0 := by unfold cN; rw [if_neg (by simp; omega)]
        have hcn1 : n < 8 := by omega
        rw [ec]
        clear ec hq3 hcn
        go_wp2_with fail
        refine (lives w8).mono ?_
        rintro e w9 ⟨rfl, hb9⟩
        have HB9 := Lib.hid hb9
        clear hb9
        go_wp2_with fail
        go_ret
        exact ⟨rfl, HFIN.out.trans (HB9.out.mono HFIN.out.size)⟩
  · have eg : gN n k = k * k := by unfold gN; rw [if_pos ⟨hg1, hg2⟩]
    have es : sN n k = 0 := by unfold sN; rw [if_neg (by omega)]
    rw [eg, es]
    clear eg es
    rcases hq4 with rfl | rfl | rfl | rfl
    · have ec : cN n 0 = 1 := by unfold cN; rw [if_pos (by simp; omega)]
      rw [ec]
      clear ec hq3
      go_wp2_with fail
      refine (lives w8).mono ?_
      rintro e w9 ⟨rfl, hb9⟩
      have HB9 := Lib.hid hb9
      clear hb9
      go_wp2_with fail
      go_ret
      exact ⟨rfl, HFIN.out.trans (HB9.out.mono HFIN.out.size)⟩
    · by_cases hcn : 2 ≤ n
      · have ec : cN n 1 = 4 := by unfold cN; rw [if_pos (by simp; omega)]
        rw [ec]
        clear ec hq3
        go_wp2_with fail
        refine (lives w8).mono ?_
        rintro e w9 ⟨rfl, hb9⟩
        have HB9 := Lib.hid hb9
        clear hb9
        go_wp2_with fail
        go_ret
        exact ⟨rfl, HFIN.out.trans (HB9.out.mono HFIN.out.size)⟩
      · have ec : cN n 1 = 0 := by unfold cN; rw [if_neg (by simp; omega)]
        have hcn1 : n < 2 := by omega
        rw [ec]
        clear ec hq3 hcn
        go_wp2_with fail
        refine (lives w8).mono ?_
        rintro e w9 ⟨rfl, hb9⟩
        have HB9 := Lib.hid hb9
        clear hb9
        go_wp2_with fail
        go_ret
        exact ⟨rfl, HFIN.out.trans (HB9.out.mono HFIN.out.size)⟩
    · by_cases hcn : 4 ≤ n
      · have ec : cN n 2 = 16 := by unfold cN; rw [if_pos (by simp; omega)]
        rw [ec]
        clear ec hq3
        go_wp2_with fail
        refine (lives w8).mono ?_
        rintro e w9 ⟨rfl, hb9⟩
        have HB9 := Lib.hid hb9
        clear hb9
        go_wp2_with fail
        go_ret
        exact ⟨rfl, HFIN.out.trans (HB9.out.mono HFIN.out.size)⟩
      · have ec : cN n 2 = 0 := by unfold cN; rw [if_neg (by simp; omega)]
        have hcn1 : n < 4 := by omega
        rw [ec]
        clear ec hq3 hcn
        go_wp2_with fail
        refine (lives w8).mono ?_
        rintro e w9 ⟨rfl, hb9⟩
        have HB9 := Lib.hid hb9
        clear hb9
        go_wp2_with fail
        go_ret
        exact ⟨rfl, HFIN.out.trans (HB9.out.mono HFIN.out.size)⟩
    · by_cases hcn : 8 ≤ n
      · have ec : cN n 3 = 64 := by unfold cN; rw [if_pos (by simp; omega)]
        rw [ec]
        clear ec hq3
        go_wp2_with fail
        refine (lives w8).mono ?_
        rintro e w9 ⟨rfl, hb9⟩
        have HB9 := Lib.hid hb9
        clear hb9
        go_wp2_with fail
        go_ret
        exact ⟨rfl, HFIN.out.trans (HB9.out.mono HFIN.out.size)⟩
      · have ec : cN n 3 = 0 := by unfold cN; rw [if_neg (by simp; omega)]
        have hcn1 : n < 8 := by omega
        rw [ec]
        clear ec hq3 hcn
        go_wp2_with fail
        refine (lives w8).mono ?_
        rintro e w9 ⟨rfl, hb9⟩
        have HB9 := Lib.hid hb9
        clear hb9
        go_wp2_with fail
        go_ret
        exact ⟨rfl, HFIN.out.trans (HB9.out.mono HFIN.out.size)⟩
  · subst hg
    have eg : gN n 0 = 0 := rfl
    have es : sN n 0 = 0 := rfl
    rw [eg, es]
    clear eg es hkk
    rcases hq4 with rfl | rfl | rfl | rfl
    · have ec : cN n 0 = 1 := by unfold cN; rw [if_pos (by simp; omega)]
      rw [ec]
      clear ec hq3
      go_wp2_with fail
      refine (lives w8).mono ?_
      rintro e w9 ⟨rfl, hb9⟩
      have HB9 := Lib.hid hb9
      clear hb9
      go_wp2_with fail
      go_ret
      exact ⟨rfl, HFIN.out.trans (HB9.out.mono HFIN.out.size)⟩
    · by_cases hcn : 2 ≤ n
      · have ec : cN n 1 = 4 := by unfold cN; rw [if_pos (by simp; omega)]
        rw [ec]
        clear ec hq3
        go_wp2_with fail
        refine (lives w8).mono ?_
        rintro e w9 ⟨rfl, hb9⟩
        have HB9 := Lib.hid hb9
        clear hb9
        go_wp2_with fail
        go_ret
        exact ⟨rfl, HFIN.out.trans (HB9.out.mono HFIN.out.size)⟩
      · have ec : cN n 1 = 0 := by unfold cN; rw [if_neg (by simp; omega)]
        have hcn1 : n < 2 := by omega
        rw [ec]
        clear ec hq3 hcn
        go_wp2_with fail
        refine (lives w8).mono ?_
        rintro e w9 ⟨rfl, hb9⟩
        have HB9 := Lib.hid hb9
        clear hb9
        go_wp2_with fail
        go_ret
        exact ⟨rfl, HFIN.out.trans (HB9.out.mono HFIN.out.size)⟩
    · by_cases hcn : 4 ≤ n
      · have ec : cN n 2 = 16 := by unfold cN; rw [if_pos (by simp; omega)]
        rw [ec]
        clear ec hq3
        go_wp2_with fail
        refine (lives w8).mono ?_
        rintro e w9 ⟨rfl, hb9⟩
        have HB9 := Lib.hid hb9
        clear hb9
        go_wp2_with fail
        go_ret
        exact ⟨rfl, HFIN.out.trans (HB9.out.mono HFIN.out.size)⟩
      · have ec : cN n 2 = 0 := by unfold cN; rw [if_neg (by simp; omega)]
        have hcn1 : n < 4 := by omega
        rw [ec]
        clear ec hq3 hcn
        go_wp2_with fail
        refine (lives w8).mono ?_
        rintro e w9 ⟨rfl, hb9⟩
        have HB9 := Lib.hid hb9
        clear hb9
        go_wp2_with fail
        go_ret
        exact ⟨rfl, HFIN.out.trans (HB9.out.mono HFIN.out.size)⟩
    · by_cases hcn : 8 ≤ n
      · have ec : cN n 3 = 64 := by unfold cN; rw [if_pos (by simp; omega)]
        rw [ec]
        clear ec hq3
        go_wp2_with fail
        refine (lives w8).mono ?_
        rintro e w9 ⟨rfl, hb9⟩
        have HB9 := Lib.hid hb9
        clear hb9
        go_wp2_with fail
        go_ret
        exact ⟨rfl, HFIN.out.trans (HB9.out.mono HFIN.out.size)⟩
      · have ec : cN n 3 = 0 := by unfold cN; rw [if_neg (by simp; omega)]
        have hcn1 : n < 8 := by omega
        rw [ec]
        clear ec hq3 hcn
        go_wp2_with fail
        refine (lives w8).mono ?_
        rintro e w9 ⟨rfl, hb9⟩
        have HB9 := Lib.hid hb9
        clear hb9
        go_wp2_with fail
        go_ret
        exact ⟨rfl, HFIN.out.trans (HB9.out.mono HFIN.out.size)⟩
  · have eg : gN n k = 0 := by unfold gN; rw [if_neg (by omega)]
    have es : sN n k = 0 := by unfold sN; rw [if_neg (by omega)]
    have hg4 : n < 2 * (k : Int) := by omega
    rw [eg, es]
    clear eg es
    rcases hq4 with rfl | rfl | rfl | rfl
    · have ec : cN n 0 = 1 := by unfold cN; rw [if_pos (by simp; omega)]
      rw [ec]
      clear ec hq3
      go_wp2_with fail
      refine (lives w8).mono ?_
      rintro e w9 ⟨rfl, hb9⟩
      have HB9 := Lib.hid hb9
      clear hb9
      go_wp2_with fail
      go_ret
      exact ⟨rfl, HFIN.out.trans (HB9.out.mono HFIN.out.size)⟩
    · by_cases hcn : 2 ≤ n
      · have ec : cN n 1 = 4 := by unfold cN; rw [if_pos (by simp; omega)]
        rw [ec]
        clear ec hq3
        go_wp2_with fail
        refine (lives w8).mono ?_
        rintro e w9 ⟨rfl, hb9⟩
        have HB9 := Lib.hid hb9
        clear hb9
        go_wp2_with fail
        go_ret
        exact ⟨rfl, HFIN.out.trans (HB9.out.mono HFIN.out.size)⟩
      · have ec : cN n 1 = 0 := by unfold cN; rw [if_neg (by simp; omega)]
        have hcn1 : n < 2 := by omega
        rw [ec]
        clear ec hq3 hcn
        go_wp2_with fail
        refine (lives w8).mono ?_
        rintro e w9 ⟨rfl, hb9⟩
        have HB9 := Lib.hid hb9
        clear hb9
        go_wp2_with fail
        go_ret
        exact ⟨rfl, HFIN.out.trans (HB9.out.mono HFIN.out.size)⟩
    · by_cases hcn : 4 ≤ n
      · have ec : cN n 2 = 16 := by unfold cN; rw [if_pos (by simp; omega)]
        rw [ec]
        clear ec hq3
        go_wp2_with fail
        refine (lives w8).mono ?_
        rintro e w9 ⟨rfl, hb9⟩
        have HB9 := Lib.hid hb9
        clear hb9
        go_wp2_with fail
        go_ret
        exact ⟨rfl, HFIN.out.trans (HB9.out.mono HFIN.out.size)⟩
      · have ec : cN n 2 = 0 := by unfold cN; rw [if_neg (by simp; omega)]
        have hcn1 : n < 4 := by omega
        rw [ec]
        clear ec hq3 hcn
        go_wp2_with fail
        refine (lives w8).mono ?_
        rintro e w9 ⟨rfl, hb9⟩
        have HB9 := Lib.hid hb9
        clear hb9
        go_wp2_with fail
        go_ret
        exact ⟨rfl, HFIN.out.trans (HB9.out.mono HFIN.out.size)⟩
    · by_cases hcn : 8 ≤ n
      · have ec : cN n 3 = 64 := by unfold cN; rw [if_pos (by simp; omega)]
        rw [ec]
        clear ec hq3
        go_wp2_with fail
        refine (lives w8).mono ?_
        rintro e w9 ⟨rfl, hb9⟩
        have HB9 := Lib.hid hb9
        clear hb9
        go_wp2_with fail
        go_ret
        exact ⟨rfl, HFIN.out.trans (HB9.out.mono HFIN.out.size)⟩
      · have ec : cN n 3 = 0 := by unfold cN; rw [if_neg (by simp; omega)]
        have hcn1 : n < 8 := by omega
        rw [ec]
        clear ec hq3 hcn
        go_wp2_with fail
        refine (lives w8).mono ?_
        rintro e w9 ⟨rfl, hb9⟩
        have HB9 := Lib.hid hb9
        clear hb9
        go_wp2_with fail
        go_ret
        exact ⟨rfl, HFIN.out.trans (HB9.out.mono HFIN.out.size)⟩

theorem patternSites (w : World) (n a b c seed : Int) (ha : -9223372036854775808 ≤ a ∧ a ≤ 9223372036854775807) (hb : -9223372036854775808 ≤ b ∧ b ≤ 9223372036854775807) :
    Calls Try.prog 11 #[.int .i64 n, .agg #[.int .i64 a, .int .i64 b, .int .i64 c], .int .u64 seed] w fun e w' => e = .returned (.bool true) ∧ Below w.heap.size w w' := by
  by_cases h : 1 ≤ n ∧ n ≤ 1073741824
  · exact sites_in w n a b c seed h.1 h.2
  · exact sites_out w n a b c seed h ha hb

end Go.Proofs.Ytkhdnkmocbceeaa.Pat
