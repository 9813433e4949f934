/- The plain laws of patterns: all that is laid are sites, all different. -/
import Derived.Test.YtkhdnkmocbceeaaPatV
import Derived.Test.YtkhdnkmocbceeaaHil
namespace Go.Proofs.Ytkhdnkmocbceeaa.Pat
open Go.RowKit Go.Proofs.ZFr
open Go.Proofs.Hil

/-- The points of a grid. -/
def grP (n : Int) (K m : Nat) : List (Int × Int) := (List.range m).map fun t : Nat => (((t / K : Nat) : Int) * n / (K : Int), ((t % K : Nat) : Int) * n / (K : Int))
def skP (n : Int) (K m : Nat) : List (Int × Int) := (List.range m).map fun t : Nat => ((2 * ((t / K : Nat) : Int) * n + ((t % K : Nat) : Int) % 2 * n) / (2 * (K : Int)), ((t % K : Nat) : Int) * n / (K : Int))
theorem wid_map (f : Nat → Int × Int) (m : Nat) : wid ((List.range m).map f) = (List.range m).map fun t : Nat => ((t : Int), (f t).1, (f t).2) := by
  apply List.ext_getElem?
  intro i
  by_cases hi : i < m
  · simp [wid, hi]
  · simp [wid, hi]
theorem gr_wid (n : Int) (K m : Nat) : gr n K m = wid (grP n K m) := by rw [grP, wid_map]; rfl
theorem sk_wid (n : Int) (K m : Nat) : sk n K m = wid (skP n K m) := by rw [skP, wid_map]; rfl

theorem scaled_lt {i n K : Int} (hi0 : 0 ≤ i) (hi : i < K) (hn : 1 ≤ n) : 0 ≤ i * n / K ∧ i * n / K < n := by
  have hK : 0 < K := by omega
  refine ⟨Int.ediv_nonneg (Int.mul_nonneg hi0 (by omega)) (by omega), Int.ediv_lt_of_lt_mul hK ?_⟩
  rw [Int.mul_comm n K]
  exact Int.mul_lt_mul_of_pos_right hi (by omega)
theorem scaled_mono {i j n K : Int} (hK : 0 < K) (hij : i < j) (hKn : K ≤ n) : i * n / K < j * n / K := by
  have h1 : i * n + K ≤ j * n := by
    have : (i + 1) * n ≤ j * n := Int.mul_le_mul_of_nonneg_right (by omega) (by omega)
    rw [Int.add_mul] at this; omega
  have h2 : (i * n + K) / K ≤ j * n / K := Int.ediv_le_ediv hK h1
  rw [Int.add_ediv_of_dvd_right (Int.dvd_refl K), Int.ediv_self (by omega)] at h2
  omega
theorem scaled_inj {i j n K : Int} (hK : 0 < K) (hKn : K ≤ n) (h : i * n / K = j * n / K) : i = j := by
  rcases Int.lt_trichotomy i j with hh | hh | hh
  · have := scaled_mono hK hh hKn; omega
  · exact hh
  · have := scaled_mono hK hh hKn; omega
theorem div_eq_of (t u K : Nat) (h1 : t / K = u / K) (h2 : t % K = u % K) : t = u := by
  rw [← Nat.div_add_mod t K, ← Nat.div_add_mod u K, h1, h2]

theorem nodup_map_range {f : Nat → Int × Int} {m : Nat} (h : ∀ t u, t < m → u < m → f t = f u → t = u) : ((List.range m).map f).Nodup := by
  rw [List.nodup_iff_pairwise_ne, List.pairwise_map]
  have hn : (List.range m).Pairwise (· ≠ ·) := List.nodup_range
  have := hn
  rw [List.pairwise_iff_getElem] at this ⊢
  intro i j hi hj hij he
  exact this i j hi hj hij (h _ _ (by simp at hi ⊢; exact hi) (by simp at hj ⊢; exact hj) he)

theorem gr_sites (n : Int) (K : Nat) (hK : 1 ≤ K) (hKn : (K : Int) ≤ n) : Sites n (grP n K (K * K)) := by
  refine ⟨nodup_map_range fun t u ht hu he => ?_, fun p hp => ?_⟩
  · simp only [Prod.mk.injEq] at he
    have h1 := scaled_inj (by omega) hKn he.1
    have h2 := scaled_inj (by omega) hKn he.2
    exact div_eq_of t u K (by omega) (by omega)
  · simp only [grP, List.mem_map, List.mem_range] at hp
    obtain ⟨t, ht, rfl⟩ := hp
    have hI : t / K < K := Nat.div_lt_of_lt_mul ht
    have hJ : t % K < K := Nat.mod_lt _ (by omega)
    generalize t / K = I at *
    generalize t % K = J at *
    have a := scaled_lt (i := (I : Int)) (n := n) (K := (K : Int)) (by omega) (by omega) (by omega)
    have b := scaled_lt (i := (J : Int)) (n := n) (K := (K : Int)) (by omega) (by omega) (by omega)
    exact ⟨a.1, a.2, b.1, b.2⟩

theorem skew_form (n I r : Int) : 2 * I * n + r * n = (2 * I + r) * n := by rw [Int.add_mul]
theorem sk_sites (n : Int) (K : Nat) (hK : 1 ≤ K) (hKn : 2 * (K : Int) ≤ n) : Sites n (skP n K (K * K)) := by
  refine ⟨nodup_map_range fun t u ht hu he => ?_, fun p hp => ?_⟩
  · simp only [Prod.mk.injEq] at he
    have h2 := scaled_inj (by omega) (by omega) he.2
    have h1 := he.1
    rw [h2, skew_form n _ _, skew_form n _ _] at h1
    have h3 := scaled_inj (by omega) hKn h1
    exact div_eq_of t u K (by omega) (by omega)
  · simp only [skP, List.mem_map, List.mem_range] at hp
    obtain ⟨t, ht, rfl⟩ := hp
    have hI : t / K < K := Nat.div_lt_of_lt_mul ht
    have hJ : t % K < K := Nat.mod_lt _ (by omega)
    generalize t / K = I at *
    generalize t % K = J at *
    have a := scaled_lt (i := 2 * (I : Int) + (J : Int) % 2) (n := n) (K := 2 * (K : Int)) (by omega) (by omega) (by omega)
    have b := scaled_lt (i := (J : Int)) (n := n) (K := (K : Int)) (by omega) (by omega) (by omega)
    rw [skew_form n _ _]
    exact ⟨a.1, a.2, b.1, b.2⟩

theorem scat_sites (n : Int) (want : Nat) (hn : 1 ≤ n) : ∀ f s l, Sites n l → Sites n (scat n want f s l) := by
  intro f
  induction f with
  | zero => intro s l h; exact h
  | succ f ih =>
    intro s l h
    simp only [scat]
    split
    · apply ih
      split
      · exact h
      · rename_i hm
        refine ⟨?_, fun p hp => ?_⟩
        · rw [List.nodup_append]
          exact ⟨h.nodup, by simp, fun a ha b hb => by simp at hb; subst hb; intro e; subst e; exact hm ha⟩
        · rw [List.mem_append, List.mem_singleton] at hp
          rcases hp with hp | rfl
          · exact h.range p hp
          · exact ⟨Int.emod_nonneg _ (by omega), Int.emod_lt_of_pos _ (by omega), Int.emod_nonneg _ (by omega), Int.emod_lt_of_pos _ (by omega)⟩
    · exact h
theorem sites_nil (n : Int) : Sites n [] := ⟨List.nodup_nil, fun p hp => by simp at hp⟩

/-- The points along Hilbert's way. -/
def cuP (n : Int) (b m : Nat) : List (Int × Int) := (List.range m).map fun d : Nat => (((pt b d).1 : Int) * n / ((2 ^ b : Nat) : Int), ((pt b d).2 : Int) * n / ((2 ^ b : Nat) : Int))
theorem cu_sites (n : Int) (b : Nat) (hbn : ((2 ^ b : Nat) : Int) ≤ n) : Sites n (cuP n b (2 ^ b * 2 ^ b)) := by
  have hp := two_pos b
  refine ⟨nodup_map_range fun t u ht hu he => ?_, fun p hp' => ?_⟩
  · simp only [Prod.mk.injEq] at he
    have h1 := scaled_inj (by omega) hbn he.1
    have h2 := scaled_inj (by omega) hbn he.2
    have e1 := idx_pt b t ht
    have e2 := idx_pt b u hu
    rw [show (pt b t).1 = (pt b u).1 from by omega, show (pt b t).2 = (pt b u).2 from by omega, e2] at e1
    exact e1.symm
  · simp only [cuP, List.mem_map, List.mem_range] at hp'
    obtain ⟨t, ht, rfl⟩ := hp'
    have hl := pt_lt b t
    have a := scaled_lt (i := ((pt b t).1 : Int)) (n := n) (K := ((2 ^ b : Nat) : Int)) (by omega) (by omega) (by omega)
    have b' := scaled_lt (i := ((pt b t).2 : Int)) (n := n) (K := ((2 ^ b : Nat) : Int)) (by omega) (by omega) (by omega)
    exact ⟨a.1, a.2, b'.1, b'.2⟩

end Go.Proofs.Ytkhdnkmocbceeaa.Pat
