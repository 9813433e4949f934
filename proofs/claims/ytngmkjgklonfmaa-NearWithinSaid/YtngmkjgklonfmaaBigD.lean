/- The document's whole numbers of any length: division, bit by bit, in plain numbers. -/
import Derived.Test.YtngmkjgklonfmaaBigG
namespace Go.Proofs.Ytngmkjgklonfmaa.Big
open Go.RowKit Go.Proofs.Ytngmkjgklonfmaa.PNearNearest Go.Proofs.YtngmkjgklonfmaaW.PrintWords

def DivInv (A B la m : Nat) (qs : List Int) (R : Nat) : Prop :=
  R = (A / 2 ^ m) % B ∧ qs.length = la ∧ val qs = ((A / 2 ^ m / B * 2 ^ m : Nat) : Int) ∧ ∀ j, j < la → ∃ u : Nat, qs.getD j 0 = ((2 ^ (min 16 (m - 16 * j)) * u : Nat) : Int) ∧ 2 ^ (min 16 (m - 16 * j)) * u + 2 ^ (min 16 (m - 16 * j)) ≤ 65536
theorem val_zeros (n : Nat) : val (List.replicate n 0) = 0 := by
  induction n with
  | zero => rfl
  | succ n ih => rw [List.replicate_succ, val, ih]; rfl
theorem getD_zeros (n j : Nat) : (List.replicate n (0 : Int)).getD j 0 = 0 := by simp [List.getD, List.getElem?_replicate]; split <;> rfl
theorem pow16 (j : Nat) : (65536 : Nat) ^ j = 2 ^ (16 * j) := by rw [Nat.pow_mul]
theorem div_init (A B la : Nat) (h : A < 65536 ^ la) : DivInv A B la (16 * la) (List.replicate la 0) 0 := by
  rw [pow16] at h
  have h0 : A / 2 ^ (16 * la) = 0 := Nat.div_eq_of_lt h
  refine ⟨by rw [h0, Nat.zero_mod], by simp, by rw [val_zeros, h0, Nat.zero_div, Nat.zero_mul]; rfl, fun j hj => ⟨0, by rw [getD_zeros]; rfl, ?_⟩⟩
  rw [Nat.min_eq_left (by omega)]; decide
theorem div_num (Y B : Nat) (hB : 0 < B) : (B ≤ 2 * (Y / 2 % B) + Y % 2 → Y / B = 2 * (Y / 2 / B) + 1 ∧ Y % B = 2 * (Y / 2 % B) + Y % 2 - B) ∧ (¬ B ≤ 2 * (Y / 2 % B) + Y % 2 → Y / B = 2 * (Y / 2 / B) ∧ Y % B = 2 * (Y / 2 % B) + Y % 2) := by
  have h1 := Nat.div_add_mod (Y / 2) B
  have h2 := Nat.mod_lt (Y / 2) hB
  have h3 : 2 * (Y / 2) + Y % 2 = Y := Nat.div_add_mod Y 2
  have h4 : B * (2 * (Y / 2 / B)) = 2 * (B * (Y / 2 / B)) := by rw [Nat.mul_left_comm]
  refine ⟨fun h => (Nat.div_mod_unique hB).2 ⟨?_, by omega⟩, fun h => (Nat.div_mod_unique hB).2 ⟨?_, by omega⟩⟩
  · rw [Nat.mul_add, h4, Nat.mul_one]; omega
  · rw [h4]; omega
theorem pow_split (m : Nat) : (65536 : Int) ^ (m / 16) * 2 ^ (m % 16) = ((2 ^ m : Nat) : Int) := by
  have e : (2 : Nat) ^ m = 65536 ^ (m / 16) * 2 ^ (m % 16) := by rw [pow16, ← Nat.pow_add, Nat.div_add_mod]
  rw [e, Int.natCast_mul, Int.natCast_pow, Int.natCast_pow]; rfl
theorem getD_set_eq {l : List Int} {i : Nat} {v : Int} (h : i < l.length) : (l.set i v).getD i 0 = v := by simp [List.getD, h]
theorem exp_other {m j : Nat} (h : j ≠ m / 16) : min 16 (m + 1 - 16 * j) = min 16 (m - 16 * j) := by omega
theorem exp_here (m : Nat) : min 16 (m + 1 - 16 * (m / 16)) = m % 16 + 1 ∧ min 16 (m - 16 * (m / 16)) = m % 16 := by omega
theorem div_step {A B la m : Nat} {qs : List Int} {R : Nat} (hB : 0 < B) (hm : m < 16 * la) (h : DivInv A B la (m + 1) qs R) :
    (B ≤ 2 * R + A / 2 ^ m % 2 → DivInv A B la m (qs.set (m / 16) (qs.getD (m / 16) 0 + 2 ^ (m % 16))) (2 * R + A / 2 ^ m % 2 - B)) ∧ (¬ B ≤ 2 * R + A / 2 ^ m % 2 → DivInv A B la m qs (2 * R + A / 2 ^ m % 2)) := by
  obtain ⟨hR, hl, hv, hq⟩ := h
  have hY : A / 2 ^ (m + 1) = A / 2 ^ m / 2 := by rw [Nat.pow_succ, Nat.div_div_eq_div_mul]
  rw [hY] at hR hv
  subst hR
  obtain ⟨d1, d2⟩ := div_num (A / 2 ^ m) B hB
  obtain ⟨u, hu, hub⟩ := hq (m / 16) (by omega)
  obtain ⟨e1, e2⟩ := exp_here m
  rw [e1] at hu hub
  rw [Nat.pow_succ] at hu hub
  constructor
  · intro h
    obtain ⟨a1, a2⟩ := d1 h
    refine ⟨a2.symm, by rw [List.length_set, hl], ?_, fun j hj => ?_⟩
    · rw [val_set _ _ _ (by omega), hv, Int.add_comm (qs.getD _ _), Int.add_sub_cancel, pow_split, a1, ← Int.natCast_add]
      congr 1
      rw [Nat.pow_succ, Nat.add_mul, Nat.one_mul, Nat.mul_comm (2 ^ m) 2, ← Nat.mul_assoc, Nat.mul_comm 2]
    · by_cases hjm : j = m / 16
      · subst hjm
        rw [e2, getD_set_eq (by omega), hu]
        refine ⟨2 * u + 1, ?_, ?_⟩
        · rw [Nat.mul_add, Nat.mul_one, ← Nat.mul_assoc, Int.natCast_add (2 ^ (m % 16) * 2 * u), Int.natCast_pow]; rfl
        · rw [Nat.mul_add, Nat.mul_one, ← Nat.mul_assoc]; omega
      · obtain ⟨v, hv1, hv2⟩ := hq j hj
        rw [exp_other hjm] at hv1 hv2
        exact ⟨v, by rw [getD_set_ne (fun h => hjm h.symm)]; exact hv1, hv2⟩
  · intro h
    obtain ⟨a1, a2⟩ := d2 h
    refine ⟨a2.symm, hl, ?_, fun j hj => ?_⟩
    · rw [hv, a1, Nat.pow_succ, Nat.mul_comm (2 ^ m) 2, ← Nat.mul_assoc, Nat.mul_comm 2]
    · by_cases hjm : j = m / 16
      · subst hjm
        rw [e2, hu]
        exact ⟨2 * u, by rw [Nat.mul_assoc], by rw [← Nat.mul_assoc]; omega⟩
      · obtain ⟨v, hv1, hv2⟩ := hq j hj
        rw [exp_other hjm] at hv1 hv2
        exact ⟨v, hv1, hv2⟩
theorem div_done {A B la : Nat} {qs : List Int} {R : Nat} (h : DivInv A B la 0 qs R) : R = A % B ∧ Dig qs ∧ val qs = ((A / B : Nat) : Int) := by
  obtain ⟨hR, hl, hv, hq⟩ := h
  rw [Nat.pow_zero, Nat.div_one] at hR hv
  rw [Nat.mul_one] at hv
  refine ⟨hR, fun x hx => ?_, hv⟩
  obtain ⟨i, hi, rfl⟩ := List.mem_iff_getElem.1 hx
  obtain ⟨u, h1, h2⟩ := hq i (by omega)
  rw [Nat.zero_sub, Nat.min_eq_right (by omega), Nat.pow_zero, Nat.one_mul, getD_get hi] at h1
  rw [Nat.zero_sub, Nat.min_eq_right (by omega), Nat.pow_zero, Nat.one_mul] at h2
  omega
/-- The bit of a number, read off its digits. -/
theorem bit_at {l : List Int} (hd : Dig l) {A : Nat} (hv : val l = A) (m : Nat) : (l.getD (m / 16) 0 / 2 ^ (m % 16)) % 2 = ((A / 2 ^ m % 2 : Nat) : Int) := by
  have e := val_append (l.take (m / 16)) (l.drop (m / 16))
  rw [List.take_append_drop, hv] at e
  by_cases hl : m / 16 ≤ l.length
  · rw [List.length_take, Nat.min_eq_left hl, drop_at] at e
    have h1 := val_lt (hd.take (m / 16))
    have h2 := val_nonneg (hd.take (m / 16))
    rw [List.length_take, Nat.min_eq_left hl] at h1
    have h3 := pow_pos (m / 16)
    have h4 : (A : Int) / 65536 ^ (m / 16) = l.getD (m / 16) 0 + 65536 * val (l.drop (m / 16 + 1)) := by
      rw [e, Int.add_mul_ediv_left _ _ (by omega), Int.ediv_eq_zero_of_lt h2 h1, Int.zero_add]
    have h5 : ((A / 2 ^ m : Nat) : Int) = (A : Int) / 65536 ^ (m / 16) / 2 ^ (m % 16) := by
      rw [Int.ediv_ediv_of_nonneg (Int.le_of_lt h3), pow_split]; rfl
    rw [Int.natCast_emod, h5, h4]
    obtain ⟨t, ht⟩ : ∃ t, m % 16 + t = 15 := ⟨15 - m % 16, by omega⟩
    have h6 : (65536 : Int) = 2 ^ (m % 16) * (2 * 2 ^ t) := by
      rw [show (2 : Int) ^ (m % 16) * (2 * 2 ^ t) = 2 ^ (m % 16 + t) * 2 from by rw [Int.pow_add, Int.mul_comm 2, Int.mul_assoc], ht]; rfl
    rw [h6, Int.mul_assoc, Int.add_mul_ediv_left _ _ (by have := Int.pow_pos (n := 2) (m := m % 16) (by omega); omega), Int.mul_assoc 2]
    omega
  · rw [List.take_of_length_le (by omega), List.drop_eq_nil_of_le (by omega)] at e
    rw [getD_none (by omega), Int.zero_ediv]
    have h1 := val_lt hd
    rw [hv] at h1
    have h2 : (65536 : Int) ^ l.length ≤ 65536 ^ (m / 16) := pow_le (by omega)
    have h3 : A / 2 ^ m = 0 := by
      refine Nat.div_eq_of_lt ?_
      have h4 := pow_split m
      have h5 : (1 : Int) ≤ 2 ^ (m % 16) := Int.pow_pos (by omega)
      have h6 : (65536 : Int) ^ (m / 16) * 1 ≤ 65536 ^ (m / 16) * 2 ^ (m % 16) := Int.mul_le_mul_of_nonneg_left h5 (Int.le_of_lt (pow_pos _))
      omega
    rw [h3]; rfl
end Go.Proofs.Ytngmkjgklonfmaa.Big
