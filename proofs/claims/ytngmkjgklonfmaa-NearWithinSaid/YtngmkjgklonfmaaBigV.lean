namespace Go.Proofs.Ytngmkjgklonfmaa.Big
def val : List Int → Int
  | [] => 0
  | d :: l => d + 65536 * val l
def Dig (l : List Int) : Prop := ∀ d ∈ l, 0 ≤ d ∧ d < 65536
theorem Dig.tail {d : Int} {l : List Int} (h : Dig (d :: l)) : Dig l := fun x hx => h x (List.mem_cons_of_mem _ hx)
theorem Dig.head {d : Int} {l : List Int} (h : Dig (d :: l)) : 0 ≤ d ∧ d < 65536 := h d (List.mem_cons_self ..)
theorem Dig.append {a b : List Int} (h : Dig a) (k : Dig b) : Dig (a ++ b) := fun x hx => by rcases List.mem_append.1 hx with hx | hx; exact h x hx; exact k x hx
theorem Dig.one {d : Int} (h : 0 ≤ d ∧ d < 65536) : Dig [d] := fun x hx => by simp at hx; subst hx; exact h
theorem Dig.cons {d : Int} {l : List Int} (h : 0 ≤ d ∧ d < 65536) (k : Dig l) : Dig (d :: l) := fun x hx => by rcases List.mem_cons.1 hx with rfl | hx; exact h; exact k x hx
theorem Dig.nil : Dig [] := fun x hx => by simp at hx
theorem Dig.take {l : List Int} (h : Dig l) (n : Nat) : Dig (l.take n) := fun x hx => h x (List.mem_of_mem_take hx)
theorem Dig.get {l : List Int} (h : Dig l) {i : Nat} (hi : i < l.length) : 0 ≤ l[i] ∧ l[i] < 65536 := h _ (List.getElem_mem hi)
theorem val_nonneg : ∀ {l : List Int}, Dig l → 0 ≤ val l
  | [], _ => by simp [val]
  | d :: l, h => by have := val_nonneg h.tail; have := h.head; simp only [val]; omega
theorem val_append (a b : List Int) : val (a ++ b) = val a + 65536 ^ a.length * val b := by
  induction a with
  | nil => simp [val]
  | cons d l ih => simp only [List.cons_append, val, ih, List.length_cons, Int.pow_succ]; rw [Int.mul_add, ← Int.mul_assoc, Int.mul_comm 65536 (65536 ^ _), Int.add_assoc]
theorem val_snoc (a : List Int) (d : Int) : val (a ++ [d]) = val a + 65536 ^ a.length * d := by rw [val_append]; simp [val]
theorem pow_pos (n : Nat) : (0 : Int) < 65536 ^ n := Int.pow_pos (by omega)
theorem val_lt : ∀ {l : List Int}, Dig l → val l < 65536 ^ l.length
  | [], _ => by simp [val]
  | d :: l, h => by
    have := val_lt h.tail; have := h.head; simp only [val, List.length_cons, Int.pow_succ]
    rw [Int.mul_comm (65536 ^ _)]
    omega
/-- No nought at the end. -/
def Nrm (l : List Int) : Prop := Dig l ∧ ∀ d, l.getLast? = some d → d ≠ 0
theorem Nrm.nil : Nrm [] := ⟨Dig.nil, by simp⟩
theorem nrm_pos : ∀ {l : List Int}, Nrm l → l ≠ [] → 65536 ^ (l.length - 1) ≤ val l
  | [], _, h => absurd rfl h
  | [d], h, _ => by
    have := h.1.head; have := h.2 d rfl; simp [val]; omega
  | d :: e :: l, h, _ => by
    have hh : Nrm (e :: l) := ⟨h.1.tail, fun x hx => h.2 x (by simpa using hx)⟩
    have := nrm_pos hh (by simp)
    have := h.1.head
    simp only [val, List.length_cons, Nat.add_sub_cancel, Int.pow_succ] at *
    rw [Int.mul_comm (65536 ^ _)]
    omega
theorem pow_le {a b : Nat} (h : a ≤ b) : (65536 : Int) ^ a ≤ 65536 ^ b := by
  obtain ⟨k, rfl⟩ := Nat.exists_eq_add_of_le h
  rw [Int.pow_add]
  have h1 := pow_pos a
  have h2 := pow_pos k
  have : (65536 : Int) ^ a * 1 ≤ 65536 ^ a * 65536 ^ k := Int.mul_le_mul_of_nonneg_left (by omega) (by omega)
  omega
theorem lt_of_len {a b : List Int} (ha : Dig a) (hb : Nrm b) (h : a.length < b.length) : val a < val b := by
  have h1 := val_lt ha
  have h2 := nrm_pos hb (by intro e; rw [e] at h; simp at h)
  have h3 : (65536 : Int) ^ a.length ≤ 65536 ^ (b.length - 1) := pow_le (by omega)
  omega
theorem inj_len : ∀ {a b : List Int}, Dig a → Dig b → a.length = b.length → val a = val b → a = b
  | [], [], _, _, _, _ => rfl
  | [], _ :: _, _, _, h, _ => by simp at h
  | _ :: _, [], _, _, h, _ => by simp at h
  | d :: a, e :: b, ha, hb, hl, hv => by
    have h1 := ha.head; have h2 := hb.head
    simp only [val] at hv
    have : d = e := by omega
    subst this
    rw [inj_len ha.tail hb.tail (by simpa using hl) (by omega)]
theorem nrm_inj {a b : List Int} (ha : Nrm a) (hb : Nrm b) (h : val a = val b) : a = b := by
  rcases Nat.lt_trichotomy a.length b.length with hl | hl | hl
  · have := lt_of_len ha.1 hb hl; omega
  · exact inj_len ha.1 hb.1 hl h
  · have := lt_of_len hb.1 ha hl; omega
/-- The digits of a number. -/
def dg (n : Nat) : List Int := if h : n = 0 then [] else ((n % 65536 : Nat) : Int) :: dg (n / 65536)
theorem dg_zero : dg 0 = [] := by rw [dg]; simp
theorem dg_dig (n : Nat) : Dig (dg n) := by
  induction n using Nat.strongRecOn with
  | ind n ih =>
    rw [dg]
    split
    · exact Dig.nil
    · exact Dig.cons (by omega) (ih _ (by omega))
theorem dg_val (n : Nat) : val (dg n) = n := by
  induction n using Nat.strongRecOn with
  | ind n ih =>
    rw [dg]
    split
    · subst_vars; rfl
    · simp only [val, ih (n / 65536) (by omega)]; omega
theorem dg_nil {n : Nat} (h : dg n = []) : n = 0 := by have := dg_val n; rw [h] at this; simp [val] at this; omega
theorem dg_nrm (n : Nat) : Nrm (dg n) := by
  refine ⟨dg_dig n, ?_⟩
  induction n using Nat.strongRecOn with
  | ind n ih =>
    intro d hd
    rw [dg] at hd
    split at hd
    · simp at hd
    · by_cases h0 : n / 65536 = 0
      · rw [h0, dg_zero] at hd; simp at hd; omega
      · refine ih (n / 65536) (by omega) d ?_
        cases hq : dg (n / 65536) with
        | nil => exact absurd (dg_nil hq) h0
        | cons e l => rw [hq] at hd; simpa using hd
theorem dg_of {l : List Int} (h : Nrm l) {n : Nat} (hv : val l = n) : l = dg n := nrm_inj h (dg_nrm n) (hv.trans (dg_val n).symm)
/-- Cutting noughts off. -/
theorem trim_of {l : List Int} (h : Dig l) {n : Nat} (hn : n ≤ l.length) (hz : ∀ i (hi : i < l.length), n ≤ i → l[i] = 0) (hl : ∀ (h0 : 0 < n), l[n - 1]'(by omega) ≠ 0) : Nrm (l.take n) ∧ val (l.take n) = val l := by
  refine ⟨⟨h.take n, fun d hd => ?_⟩, ?_⟩
  · by_cases h0 : n = 0
    · subst h0; simp at hd
    · rw [List.getLast?_eq_getElem?, List.length_take, Nat.min_eq_left hn, List.getElem?_take, if_pos (by omega), List.getElem?_eq_getElem (by omega)] at hd
      have := hl (by omega)
      simp at hd
      rw [← hd]; exact this
  · have hv : ∀ l : List Int, (∀ x ∈ l, x = 0) → val l = 0 := by
      intro l; induction l with
      | nil => intro _; rfl
      | cons x l ih => intro h; simp only [val]; rw [h x (List.mem_cons_self ..), ih (fun y hy => h y (List.mem_cons_of_mem _ hy))]; rfl
    have e := val_append (l.take n) (l.drop n)
    rw [List.take_append_drop, hv (l.drop n) (fun x hx => by obtain ⟨i, hi, rfl⟩ := List.mem_iff_getElem.1 hx; rw [List.getElem_drop]; exact hz _ (by simp at hi; omega) (by omega))] at e
    omega
end Go.Proofs.Ytngmkjgklonfmaa.Big
