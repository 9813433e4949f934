/- The walk of PatternGrids. -/
import Derived.Test.YtkhdnkmocbceeaaPatP
namespace Go.Proofs.Ytkhdnkmocbceeaa.Pat
open Go.RowKit Go.Proofs.ZFr Go.Proofs.Ytkhdnkmocbceeaa.PPatternGrids
open Go.Proofs.YtkhdnkmocbceeaaW.PrintWords (Kd LeO at_rounds Drawn0)
open Go.Joins (below_alloc1 below_alloc2 below_draws)

/-- What a grid has, of any numbers. -/
def good (b : Bool) (n k : Int) : Prop := (1 ≤ n ∧ n ≤ 1073741824) ∧ 1 ≤ k ∧ k ≤ 64 ∧ if b = true then 2 * k ≤ n else k ≤ n
instance (b : Bool) (n k : Int) : Decidable (good b n k) := by unfold good; exact inferInstance
def Gl (b : Bool) (n k : Int) : List S61 := if good b n k then (gs b n k.toNat (k.toNat * k.toNat)).map toS else []
theorem Gl_len (b : Bool) (n k : Int) : (Gl b n k).length ≤ 1000000 := by
  unfold Gl
  by_cases h : good b n k
  · rw [if_pos h]
    have := sq_le k.toNat (by unfold good at h; omega)
    cases b <;> simp [gs, gr_len, sk_len] <;> omega
  · rw [if_neg h]; simp

/-- A slice that reads as places. -/
def Reads (w : World) (v : Value) (l : List S61) : Prop := ∃ A c, v = .slice A l.length c ∧ l.length ≤ c ∧ Kd.C k61 w A l.length l
theorem Reads.below {w w' : World} {v : Value} {l : List S61} (h : Reads w v l) (hb : Below w.heap.size w w') : Reads w' v l := by
  obtain ⟨A, c, rfl, h1, h2⟩ := h
  exact ⟨A, c, rfl, h1, Kd.C_below h2 hb⟩
theorem reads_nil (w : World) : Reads w (.slice none 0 0) [] := ⟨none, 0, rfl, Nat.le_refl _, ⟨rfl, by simp, fun h => by simp at h⟩⟩
theorem reads_own {w : World} {B : Nat} {v : Value} {l : List (Int × Int × Int)} (h : w.ownsRow B 61 3 v l.length (flat l)) : Reads w v (l.map toS) := by
  obtain ⟨p, c, rfl⟩ := row_slice h
  obtain ⟨h1, h2, _⟩ := reads61 h
  exact ⟨p, c, by rw [List.length_map], by simpa using h2, h1⟩

theorem Grid_any (w : World) (n k : Int) (hk : -9223372036854775808 ≤ k ∧ k ≤ 9223372036854775807) :
    Calls Try.prog 14 #[.int .i64 n, .int .i64 k] w fun e w' => ∃ v, e = .returned v ∧ Reads w' v (Gl false n k) ∧ Below w.heap.size w w' := by
  unfold Gl
  by_cases h : good false n k
  · rw [if_pos h]
    obtain ⟨⟨h1, h2⟩, h3, h4, h5⟩ := h
    rw [if_neg (by decide)] at h5
    obtain ⟨K, rfl⟩ : ∃ K : Nat, k = K := ⟨k.toNat, by omega⟩
    refine (Grid_yes w n K h1 h2 (by omega) (by omega) h5).mono ?_
    rintro e w' ⟨v, rfl, ho, hb⟩
    have ho' : w'.ownsRow w.heap.size 61 3 v (gr n K (K * K)).length (flat (gr n K (K * K))) := by rw [gr_len]; exact ho
    exact ⟨v, rfl, reads_own ho', hb⟩
  · rw [if_neg h]
    refine (Grid_no w n k hk (by simpa [good] using h)).mono ?_
    rintro e w' ⟨rfl, hb⟩
    exact ⟨_, rfl, reads_nil _, hb⟩
theorem Skew_any (w : World) (n k : Int) (hk : -9223372036854775808 ≤ k ∧ k ≤ 9223372036854775807) :
    Calls Try.prog 16 #[.int .i64 n, .int .i64 k] w fun e w' => ∃ v, e = .returned v ∧ Reads w' v (Gl true n k) ∧ Below w.heap.size w w' := by
  unfold Gl
  by_cases h : good true n k
  · rw [if_pos h]
    obtain ⟨⟨h1, h2⟩, h3, h4, h5⟩ := h
    rw [if_pos rfl] at h5
    obtain ⟨K, rfl⟩ : ∃ K : Nat, k = K := ⟨k.toNat, by omega⟩
    refine (Skew_yes w n K h1 h2 (by omega) (by omega) h5).mono ?_
    rintro e w' ⟨v, rfl, ho, hb⟩
    have ho' : w'.ownsRow w.heap.size 61 3 v (sk n K (K * K)).length (flat (sk n K (K * K))) := by rw [sk_len]; exact ho
    exact ⟨v, rfl, reads_own ho', hb⟩
  · rw [if_neg h]
    refine (Skew_no w n k hk (by simpa [good] using h)).mono ?_
    rintro e w' ⟨rfl, hb⟩
    exact ⟨_, rfl, reads_nil _, hb⟩
theorem ref_any (w : World) (n k : Int) (b : Bool) (hk : -9223372036854775808 ≤ k ∧ k ≤ 9223372036854775807) :
    Calls Try.prog 15 #[.int .i64 n, .int .i64 k, .bool b] w fun e w' => ∃ v, e = .returned v ∧ Reads w' v (Gl b n k) ∧ Below w.heap.size w w' := by
  have hf : zelligeref43_Grid.f 5000 n k b = some (Gl b n k) := by
    unfold Gl
    by_cases h : good b n k
    · rw [if_pos h]
      obtain ⟨⟨h1, h2⟩, h3, h4, h5⟩ := h
      obtain ⟨K, rfl⟩ : ∃ K : Nat, k = K := ⟨k.toNat, by omega⟩
      exact refGrid_yes n K b h1 h2 (by omega) (by omega) h5
    · rw [if_neg h]; exact refGrid_no n k b hk h
  refine (zelligeref43_Grid.calls 5000 n k b _ w hf).mono ?_
  rintro e w' ⟨v, rfl, hR, hb⟩
  obtain ⟨A, c, rfl, h1, h2⟩ := Kd.R_reads hR
  exact ⟨_, rfl, ⟨A, c, rfl, h1, h2⟩, hb⟩
theorem same_any (w : World) (u v : Value) (l : List S61) (hu : Reads w u l) (hv : Reads w v l) (hl : l.length ≤ 1000000) :
    Calls Try.prog 13 #[u, v] w fun e w' => e = .returned (.bool true) ∧ Below w.heap.size w w' := by
  obtain ⟨A, c, rfl, h1, h2⟩ := hu
  obtain ⟨A', c', rfl, h1', h2'⟩ := hv
  refine (zelligeref17_Same.calls 1000001 A c l A' c' l true w h2 h1 h2' h1' (same_f l hl)).mono ?_
  rintro e w' ⟨rfl, hd⟩
  refine ⟨rfl, ?_⟩
  first
    | exact hd
    | (obtain ⟨m, rfl⟩ := hd.out; exact below_draws _ w m)

set_option maxRecDepth 100000 in
set_option maxHeartbeats 1600000 in
theorem rest (w : World) (n k : Int) (hk : -9223372036854775808 ≤ k ∧ k ≤ 9223372036854775807) (hk' : k ≤ 12 ∨ 64 < k) :
    Calls Try.prog 3 #[.int .i64 n, .int .i64 k] w fun e w' => e = .returned (.bool true) ∧ Below w.heap.size w w' := by
  have HK := Lib.hid hk
  obtain ⟨hk0, hk1⟩ := hk
  have HL0 := Lib.hid (Gl_len false n k)
  have HL1 := Lib.hid (Gl_len true n k)
  go_enter Try.func3, Try.ntmps3
  rcases hk' with hk' | hk'
  all_goals
    go_wp2_with fail
    refine (Grid_any w n k HK.out).mono ?_
    rintro e w1 ⟨v1, rfl, r1, b1⟩
    have R1 := Lib.hid r1
    have B1 := Lib.hid b1
    clear r1 b1
    go_wp2_with fail
    refine (ref_any w1 n k false HK.out).mono ?_
    rintro e w2 ⟨v2, rfl, r2, b2⟩
    have R2 := Lib.hid r2
    have B2 := Lib.hid b2
    clear r2 b2
    go_wp2_with fail
    refine (same_any w2 v1 v2 _ (R1.out.below B2.out) R2.out HL0.out).mono ?_
    rintro e w3 ⟨rfl, b3⟩
    have B3 := Lib.hid b3
    clear b3
    go_wp2_with fail
    refine (Skew_any w3 n k HK.out).mono ?_
    rintro e w4 ⟨v4, rfl, r4, b4⟩
    have R4 := Lib.hid r4
    have B4 := Lib.hid b4
    clear r4 b4
    go_wp2_with fail
    refine (ref_any w4 n k true HK.out).mono ?_
    rintro e w5 ⟨v5, rfl, r5, b5⟩
    have R5 := Lib.hid r5
    have B5 := Lib.hid b5
    clear r5 b5
    go_wp2_with fail
    refine (same_any w5 v4 v5 _ (R4.out.below B5.out) R5.out HL1.out).mono ?_
    rintro e w6 ⟨rfl, b6⟩
    have B6 := Lib.hid b6
    clear b6
    go_wp2_with fail
    refine (lives w6).mono ?_
    rintro e w7 ⟨rfl, b7⟩
    have B7 := Lib.hid b7
    clear b7
    go_wp2_with fail
    go_ret
    have s1 := B1.out.size
    have s2 := B2.out.size
    have s3 := B3.out.size
    have s4 := B4.out.size
    have s5 := B5.out.size
    have s6 := B6.out.size
    exact ⟨rfl, (((((B1.out.trans (B2.out.mono (by omega))).trans (B3.out.mono (by omega))).trans (B4.out.mono (by omega))).trans (B5.out.mono (by omega))).trans (B6.out.mono (by omega))).trans (B7.out.mono (by omega))⟩

set_option maxRecDepth 100000 in
set_option maxHeartbeats 1600000 in
theorem rest2 (w : World) (n k : Int) (hk0 : 12 < k) (hk1 : k ≤ 64) :
    Calls Try.prog 3 #[.int .i64 n, .int .i64 k] w fun e w' => e = .returned (.bool true) ∧ Below w.heap.size w w' := by
  have hb : 0 ≤ k % 12 ∧ k % 12 < 12 := by omega
  go_enter Try.func3, Try.ntmps3
  go_wp2_with fail
  generalize k % 12 = k2 at *
  have HK2 : Hid (-9223372036854775808 ≤ k2 ∧ k2 ≤ 9223372036854775807) := Lib.hid ⟨by omega, by omega⟩
  have HM0 := Lib.hid (Gl_len false n k2)
  have HM1 := Lib.hid (Gl_len true n k2)
  refine (Grid_any w n k2 HK2.out).mono ?_
  rintro e w1 ⟨v1, rfl, r1, b1⟩
  have R1 := Lib.hid r1
  have B1 := Lib.hid b1
  clear r1 b1
  go_wp2_with fail
  refine (ref_any w1 n k2 false HK2.out).mono ?_
  rintro e w2 ⟨v2, rfl, r2, b2⟩
  have R2 := Lib.hid r2
  have B2 := Lib.hid b2
  clear r2 b2
  go_wp2_with fail
  refine (same_any w2 v1 v2 _ (R1.out.below B2.out) R2.out HM0.out).mono ?_
  rintro e w3 ⟨rfl, b3⟩
  have B3 := Lib.hid b3
  clear b3
  go_wp2_with fail
  refine (Skew_any w3 n k2 HK2.out).mono ?_
  rintro e w4 ⟨v4, rfl, r4, b4⟩
  have R4 := Lib.hid r4
  have B4 := Lib.hid b4
  clear r4 b4
  go_wp2_with fail
  refine (ref_any w4 n k2 true HK2.out).mono ?_
  rintro e w5 ⟨v5, rfl, r5, b5⟩
  have R5 := Lib.hid r5
  have B5 := Lib.hid b5
  clear r5 b5
  go_wp2_with fail
  refine (same_any w5 v4 v5 _ (R4.out.below B5.out) R5.out HM1.out).mono ?_
  rintro e w6 ⟨rfl, b6⟩
  have B6 := Lib.hid b6
  clear b6
  go_wp2_with fail
  refine (lives w6).mono ?_
  rintro e w7 ⟨rfl, b7⟩
  have B7 := Lib.hid b7
  clear b7
  go_wp2_with fail
  go_ret
  have s1 := B1.out.size
  have s2 := B2.out.size
  have s3 := B3.out.size
  have s4 := B4.out.size
  have s5 := B5.out.size
  have s6 := B6.out.size
  exact ⟨rfl, (((((B1.out.trans (B2.out.mono (by omega))).trans (B3.out.mono (by omega))).trans (B4.out.mono (by omega))).trans (B5.out.mono (by omega))).trans (B6.out.mono (by omega))).trans (B7.out.mono (by omega))⟩


theorem patternGrids (n k : Int) (w : World) (hk : -9223372036854775808 ≤ k ∧ k ≤ 9223372036854775807) :
    Calls Try.prog 3 #[.int .i64 n, .int .i64 k] w fun e w' => e = .returned (.bool true) ∧ Below w.heap.size w w' := by
  by_cases h : k ≤ 12 ∨ 64 < k
  · exact rest w n k hk h
  · exact rest2 w n k (by omega) (by omega)

end Go.Proofs.Ytkhdnkmocbceeaa.Pat
