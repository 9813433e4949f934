/- Joined texts. -/
import Derived.Test.YtngmkjgklonfmaaJM
import Derived.Test.YtngmkjgklonfmaaJL
import Derived.Test.YtngmkjgklonfmaaNLR
import Derived.Test.YtngmkjgklonfmaaWSC
import Derived.Test.YtngmkjgklonfmaaJN
/- near.Beside walked. -/
namespace Go.Proofs.Ytngmkjgklonfmaa.Lk
open Go.RowKit Go.Lib Go.Proofs.ZFr Go.Proofs.Ytngmkjgklonfmaa.PNearLinks Go.Proofs.YtngmkjgklonfmaaW.PrintWords
theorem sort_c (B : Nat) (p : Option Addr) (d : Nat) (xs : List Int) (w : World) (h : w.ownsRow B 3 1 (.slice p xs.length d) xs.length (xs.map (Value.int .i64))) (hl : xs.length ≤ 100) : Calls Try.prog 42 #[.slice p xs.length d] w fun e w' => e = .returned (.tuple #[]) ∧ Fr (fun k => some k = (Value.slice p xs.length d).ownBlock) w w' ∧ Kd.C (Kd.int .i64) w' p xs.length (xs.mergeSort fun x y => decide (x ≤ y)) := by
  by_cases h0 : xs = []
  · subst h0
    refine (Try.slices_Sort_int_none p d w).mono ?_
    rintro e w' ⟨rfl, rfl⟩
    exact ⟨rfl, Fr.refl _ _, ⟨by simp, by decide, fun h => absurd h (by decide)⟩⟩
  · have hpos : 0 < xs.length := List.length_pos_iff.2 h0
    obtain ⟨h1, h2 | ⟨g, cap, cur, he, hb, hg, hn, hcap, hs, ht⟩⟩ := h
    · exact absurd h2.2 (by omega)
    · simp only [Value.slice.injEq, true_and] at he
      obtain ⟨rfl, rfl⟩ := he
      have hH : Go.Sort.Holds (Value.int .i64) w g 0 xs.toArray := by
        intro j hj
        have hj' : j < xs.length := by simpa using hj
        refine ⟨?_, ZFr.blk_free hg _⟩
        rw [Nat.zero_add, ZFr.blk_cell hg j]
        have hx : (xs.map (Value.int .i64))[j]? = some (.int .i64 xs[j]) := by rw [List.getElem?_map, List.getElem?_eq_getElem hj']; rfl
        rw [← ht, List.getElem?_take, if_pos (by omega), Array.getElem?_toList] at hx
        rw [hx]
        congr 2
        rw [getElem!_pos _ j hj]; simp
      have hbk := ZFr.blk_lt hg
      have hsz : xs.toArray.size = (xs.mergeSort fun x y => decide (x ≤ y)).toArray.size := by simp
      refine (Try.slices_Sort_int g 0 d xs w hH hbk (by omega)).mono ?_
      rintro e w' ⟨rfl, n, os, rfl⟩
      have hP : Go.Sort.Holds (Value.int .i64) (Go.Sort.grow (Go.Sort.putRow (Value.int .i64) (Go.Sort.ahead w n) g 0 (xs.mergeSort fun x y => decide (x ≤ y)).toArray) os) g 0 (xs.mergeSort fun x y => decide (x ≤ y)).toArray :=
        Go.Sort.holds_grow _ _ _ _ _ _ (by simpa [Go.Sort.putRow, Go.Sort.mapBlock, Go.Sort.ahead] using hbk) (Go.Sort.holds_putRow _ _ _ _ _ _ (Go.Sort.holds_ahead _ _ _ _ _ _ hH) (by simp))
      refine ⟨rfl, ?_, ?_⟩
      · refine ⟨rfl, rfl, rfl, by simp [Go.Sort.grow, Go.Sort.putRow, Go.Sort.mapBlock, Go.Sort.ahead], fun k hk hne => ?_⟩
        have hkg : k ≠ g := fun e => hne (by simp [Value.ownBlock, e])
        have hk' : k < (Go.Sort.putRow (Value.int .i64) (Go.Sort.ahead w n) g 0 (xs.mergeSort fun x y => decide (x ≤ y)).toArray).heap.size := by simpa [Go.Sort.putRow, Go.Sort.mapBlock, Go.Sort.ahead] using hk
        show ((Go.Sort.putRow (Value.int .i64) (Go.Sort.ahead w n) g 0 (xs.mergeSort fun x y => decide (x ≤ y)).toArray).heap ++ os)[k]? = _
        rw [Array.getElem?_append_left hk']
        show (w.heap.modify g _)[k]? = _
        rw [Array.getElem?_modify, if_neg (fun h => hkg h.symm)]
      · refine ⟨by simp, by omega, fun _ => ⟨_, rfl, fun j q hj => ?_⟩⟩
        have hjl := (List.getElem?_eq_some_iff.1 hj).1
        obtain ⟨hc, _⟩ := hP j (by simpa using hjl)
        refine ⟨_, rfl, rfl, fun i u hu => ?_⟩
        match i, hu with
        | 0, hu =>
          simp at hu; subst hu
          rw [Nat.zero_add] at hc
          rw [show ((⟨g, 0, none⟩ : Addr).add (j * (Kd.int .i64).sz + 0)) = ⟨g, j, none⟩ from by rw [show (Kd.int .i64).sz = 1 from rfl, Nat.mul_one, Nat.add_zero]; unfold Addr.add; split <;> simp_all]
          have e9 : (xs.mergeSort fun x y => decide (x ≤ y)).toArray[j]! = q := by
            rw [getElem!_pos _ j (by simpa using hjl)]
            simpa using (List.getElem?_eq_some_iff.1 hj).2
          rw [e9] at hc
          exact hc

theorem cu_spec (zs : List Int) (hs : zs.Pairwise (fun a b => a ≤ b)) : ∀ m, m ≤ zs.length → (compactUpTo zs.toArray m).Pairwise (fun a b => a < b) ∧ ∀ x, x ∈ compactUpTo zs.toArray m ↔ ∃ j, j < m ∧ zs.toArray[j]! = x
  | 0, _ => ⟨by simp [compactUpTo], fun x => by simp [compactUpTo]⟩
  | m + 1, hm => by
    obtain ⟨h1, h2⟩ := cu_spec zs hs m (by omega)
    have hle : ∀ i j, i < j → j < zs.length → zs.toArray[i]! ≤ zs.toArray[j]! := fun i j hij hj => by
      rw [getElem!_pos _ i (by simp; omega), getElem!_pos _ j (by simpa using hj)]
      simp only [List.getElem_toArray]
      exact List.pairwise_iff_getElem.1 hs i j (by omega) hj hij
    rw [compactUpTo_succ]
    by_cases hk : keeps zs.toArray m = true
    · rw [if_pos hk]
      refine ⟨List.pairwise_append.2 ⟨h1, List.pairwise_singleton .., fun a ha b hb => ?_⟩, fun x => ?_⟩
      · obtain rfl := List.mem_singleton.1 hb
        obtain ⟨j, hj, rfl⟩ := (h2 a).1 ha
        have hkk : m = 0 ∨ zs.toArray[m]! ≠ zs.toArray[m - 1]! := by unfold keeps at hk; exact of_decide_eq_true hk
        have e1 := hle (m - 1) m (by omega) (by omega)
        by_cases hjm : j = m - 1
        · subst hjm; omega
        · have e2 := hle j (m - 1) (by omega) (by omega)
          omega
      · rw [List.mem_append, h2, List.mem_singleton]
        constructor
        · rintro (⟨j, hj, h⟩ | rfl)
          · exact ⟨j, by omega, h⟩
          · exact ⟨m, by omega, rfl⟩
        · rintro ⟨j, hj, h⟩
          by_cases hjm : j = m
          · subst hjm; exact .inr h.symm
          · exact .inl ⟨j, by omega, h⟩
    · rw [if_neg hk, List.append_nil]
      refine ⟨h1, fun x => ?_⟩
      have hkk : ¬ (m = 0 ∨ zs.toArray[m]! ≠ zs.toArray[m - 1]!) := fun h => hk (by unfold keeps; exact decide_eq_true h)
      rw [h2]
      constructor
      · rintro ⟨j, hj, h⟩; exact ⟨j, by omega, h⟩
      · rintro ⟨j, hj, h⟩
        by_cases hjm : j = m
        · subst hjm
          refine ⟨j - 1, by omega, ?_⟩
          have : zs.toArray[j]! = zs.toArray[j - 1]! := by
            by_cases h9 : zs.toArray[j]! = zs.toArray[j - 1]!
            · exact h9
            · exact absurd (.inr h9) hkk
          rw [← this]; exact h
        · exact ⟨j, by omega, h⟩
theorem lib_compact (zs : List Int) (hs : zs.Pairwise (fun a b => a ≤ b)) : Lib.compact zs = cpI zs := by
  obtain ⟨h1, h2⟩ := cu_spec zs hs zs.length (Nat.le_refl _)
  refine strictI _ _ h1 (cpI_sorted zs hs) (fun x => ?_)
  unfold Lib.compact
  rw [h2, cpI_mem]
  constructor
  · rintro ⟨j, hj, h⟩
    rw [getElem!_pos _ j (by simpa using hj)] at h
    simp only [List.getElem_toArray] at h
    exact h ▸ List.getElem_mem hj
  · intro h
    obtain ⟨j, hj, h⟩ := List.getElem_of_mem h
    refine ⟨j, hj, ?_⟩
    rw [getElem!_pos _ j (by simpa using hj)]
    simpa using h
theorem ms_sorted (xs : List Int) : (xs.mergeSort fun x y => decide (x ≤ y)).Pairwise (fun a b => a ≤ b) := by
  have h := List.pairwise_mergeSort (le := fun x y : Int => decide (x ≤ y)) (fun a b c h1 h2 => by simp at *; omega) (fun a b => by simp; omega) xs
  exact h.imp (fun h => by simpa using h)
theorem cpI_len : ∀ (l : List Int), (cpI l).length ≤ l.length
  | [] => by simp [cpI]
  | [a] => by simp [cpI]
  | a :: b :: r => by
    have ih := cpI_len (b :: r)
    rw [cpI]; split
    · simp only [List.length_cons] at *; omega
    · simp only [List.length_cons] at *; omega
/-- slices.Compact of whole numbers, sorted. -/
theorem compI_c (g c : Nat) (xs : List Int) (w : World) (hH : Go.Sort.Holds (Value.int .i64) w g 0 xs.toArray) (hs : xs.Pairwise (fun a b => a ≤ b)) (hl : xs.length ≤ 1000) (hc : xs.length ≤ c) : Calls Try.prog 52 #[.slice (some ⟨g, 0, none⟩) xs.length c] w fun e w' => e = .returned (.slice (some ⟨g, 0, none⟩) (cpI xs).length c) ∧ Fr (fun k => k = g) w w' ∧ Kd.C (Kd.int .i64) w' (some ⟨g, 0, none⟩) (cpI xs).length (cpI xs) := by
  have h := Try.slices_Compact_int g 0 c xs w hH (by omega) hc
  rw [lib_compact xs hs] at h
  refine h.mono ?_
  rintro e w' ⟨rfl, n, rfl⟩
  have hlen := cpI_len xs
  have hP := Go.Sort.holds_putRow (Value.int .i64) (Go.Sort.ahead w n) g 0 xs.toArray (cpI xs ++ List.replicate (xs.length - (cpI xs).length) 0).toArray (Go.Sort.holds_ahead _ _ _ _ _ _ hH) (by simp; omega)
  refine ⟨rfl, ⟨rfl, rfl, rfl, by simp [Go.Sort.putRow, Go.Sort.mapBlock, Go.Sort.ahead], fun k hk hne => ?_⟩, ⟨rfl, by omega, fun _ => ⟨_, rfl, fun j q hj => ?_⟩⟩⟩
  · show (w.heap.modify g _)[k]? = _
    rw [Array.getElem?_modify, if_neg (fun h => hne h.symm)]
  · obtain ⟨hjl, hq⟩ := List.getElem?_eq_some_iff.1 hj
    obtain ⟨hc0, _⟩ := hP j (by simp; omega)
    refine ⟨_, rfl, rfl, fun i u hu => ?_⟩
    match i, hu with
    | 0, hu =>
      simp at hu; subst hu
      rw [Nat.zero_add] at hc0
      rw [show ((⟨g, 0, none⟩ : Addr).add (j * (Kd.int .i64).sz + 0)) = ⟨g, j, none⟩ from by rw [show (Kd.int .i64).sz = 1 from rfl, Nat.mul_one, Nat.add_zero]; unfold Addr.add; split <;> simp_all]
      rw [hc0]
      congr 2
      rw [getElem!_pos _ j (by simp; omega)]
      simp only [List.getElem_toArray]
      rw [List.getElem_append_left hjl]; exact hq
theorem contains_f (a b c id : Int) : slices_Contains_int_int.f 5 [a, b, c] id = some (decide (a = id ∨ b = id ∨ c = id)) := by
  have w0 : wrap64 (0 + 1) = 1 := by unfold wrap64; decide
  have w1 : wrap64 (1 + 1) = 2 := by unfold wrap64; decide
  have w2 : wrap64 (2 + 1) = 3 := by unfold wrap64; decide
  have l3 : (([a, b, c] : List Int).length : Int) = 3 := rfl
  have r0 : Go.Proofs.YtngmkjgklonfmaaW.PrintWords.rd [a, b, c] 0 = a := rfl
  have r1 : Go.Proofs.YtngmkjgklonfmaaW.PrintWords.rd [a, b, c] 1 = b := rfl
  have r2 : Go.Proofs.YtngmkjgklonfmaaW.PrintWords.rd [a, b, c] 2 = c := rfl
  unfold slices_Contains_int_int.f slices_Index_int_int.f
  rw [l3, slices_Index_int_int.l0, l3, r0, w0, if_pos (by decide), if_pos (by decide), if_pos (by decide)]
  by_cases h0 : id = a
  · rw [if_pos h0]; simp [h0]
  · rw [if_neg h0, slices_Index_int_int.l0, l3, r1, w1, if_pos (by decide), if_pos (by decide), if_pos (by decide)]
    by_cases h1 : id = b
    · rw [if_pos h1]; simp [h1]
    · rw [if_neg h1, slices_Index_int_int.l0, l3, r2, w2, if_pos (by decide), if_pos (by decide), if_pos (by decide)]
      by_cases h2 : id = c
      · rw [if_pos h2]; simp [h2]
      · rw [if_neg h2, slices_Index_int_int.l0, if_neg (by decide)]
        have e0 : ¬ a = id := fun e => h0 e.symm
        have e1 : ¬ b = id := fun e => h1 e.symm
        have e2 : ¬ c = id := fun e => h2 e.symm
        simp [e0, e1, e2]
end Go.Proofs.Ytngmkjgklonfmaa.Lk

/- near.Beside walked. -/
namespace Go.Proofs.Ytngmkjgklonfmaa.Lk
open Go.RowKit Go.Lib Go.Proofs.ZFr Go.Proofs.Ytngmkjgklonfmaa.PNearLinks Go.Proofs.YtngmkjgklonfmaaW.PrintWords
theorem ix3 (x y z : Int) (w : World) : (Instr.index 60 (.agg #[.int .i64 x, .int .i64 y, .int .i64 z]) (.int .i64 0)).run Try.prog w = .ok (.int .i64 x) w ∧ (Instr.index 60 (.agg #[.int .i64 x, .int .i64 y, .int .i64 z]) (.int .i64 1)).run Try.prog w = .ok (.int .i64 y) w ∧ (Instr.index 60 (.agg #[.int .i64 x, .int .i64 y, .int .i64 z]) (.int .i64 2)).run Try.prog w = .ok (.int .i64 z) w := ⟨by kernel_rfl, by kernel_rfl, by kernel_rfl⟩
theorem info3 : (Try.prog.info? 3).map (fun i => (i.zero, i.size, i.bytes)) = some (some (.int .i64 0), 1, 8) := by kernel_rfl
/-- The corners so far that are not the id. -/
def oj (f : Fa) (id : Int) (j : Nat) : List Int := ([f 0, f 1, f 2].take j).filter (fun v => v ≠ id)
theorem oj_len (f : Fa) (id : Int) (j : Nat) : (oj f id j).length ≤ 3 := by
  unfold oj
  refine Nat.le_trans (List.length_filter_le _ _) ?_
  rw [List.length_take]
  exact Nat.min_le_right _ _
theorem oj_step (f : Fa) (id : Int) (j : Nat) (hj : j < 3) : oj f id (j + 1) = oj f id j ++ (if f j = id then [] else [f j]) := by
  have e : ([f 0, f 1, f 2] : List Int).take (j + 1) = [f 0, f 1, f 2].take j ++ [f j] := by
    match j, hj with
    | 0, _ => rfl
    | 1, _ => rfl
    | 2, _ => rfl
  unfold oj
  rw [e, List.filter_append]
  by_cases h : f j = id
  · simp [h]
  · simp [h]
theorem pbs_snoc (l : List Fa) (f : Fa) (id : Int) : pbs (l ++ [f]) id = pbs l id ++ oth f id := by simp [pbs]
theorem pbs_len (l : List Fa) (id : Int) : (pbs l id).length ≤ 3 * l.length := by
  induction l with
  | nil => simp [pbs]
  | cons f r ih =>
    have h1 : pbs (f :: r) id = oth f id ++ pbs r id := by simp [pbs]
    have h2 : (oth f id).length ≤ 3 := by
      unfold oth; split
      · exact Nat.le_trans (List.length_filter_le _ _) (Nat.le_refl 3)
      · simp
    rw [h1, List.length_append, List.length_cons]; omega
theorem fr_drawn {w w1 : World} (h : Drawn0 w w1) : Fr (fun _ => False) w w1 := by
  obtain ⟨n, rfl⟩ := h.out
  exact (Fr.refl _ w).drewN n
theorem three_c {w : World} {b : Nat} {f : Fa} (h : w.heap[b]? = some (nin f)) : Kd.C (Kd.int .i64) w (some ⟨b, 0, none⟩) 3 [f 0, f 1, f 2] := by
  refine ⟨rfl, by decide, fun _ => ⟨_, rfl, fun j q hj => ?_⟩⟩
  have hjl := (List.getElem?_eq_some_iff.1 hj).1
  refine ⟨_, rfl, rfl, fun i u hu => ?_⟩
  match i, hu with
  | 0, hu =>
    simp at hu; subst hu
    rw [show ((⟨b, 0, none⟩ : Addr).add (j * (Kd.int .i64).sz + 0)) = ⟨b, j, none⟩ from by rw [show (Kd.int .i64).sz = 1 from rfl, Nat.mul_one, Nat.add_zero]; unfold Addr.add; split <;> simp_all]
    rw [nin_cell h j (by simp at hjl; omega)]
    match j, hj with
    | 0, hj => simp at hj; rw [hj]
    | 1, hj => simp at hj; rw [hj]
    | 2, hj => simp at hj; rw [hj]
/-- Sorted, and each once. -/
theorem tailI_c (B c : Nat) (p : Option Addr) (xs : List Int) (w : World) (h : w.ownsRow B 3 1 (.slice p xs.length c) xs.length (xs.map (Value.int .i64))) (hl : xs.length ≤ 1000) :
    Calls Try.prog 42 #[.slice p xs.length c] w fun e w' => e = .returned (.tuple #[]) ∧ Fr (fun k => B ≤ k ∧ k < w.heap.size) w w' ∧ Calls Try.prog 52 #[.slice p xs.length c] w' fun e2 w2 => ∃ n, n = (cpI (xs.mergeSort fun x y => decide (x ≤ y))).length ∧ e2 = .returned (.slice p n c) ∧ Fr (fun k => B ≤ k ∧ k < w.heap.size) w' w2 ∧ n ≤ c ∧ Kd.C (Kd.int .i64) w2 p n (cpI (xs.mergeSort fun x y => decide (x ≤ y))) := by
  cases xs with
  | nil =>
    refine (Try.slices_Sort_int_none p c w).mono ?_
    rintro e w' ⟨rfl, rfl⟩
    refine ⟨rfl, Fr.refl _ _, ?_⟩
    refine (Try.slices_Compact_int_empty p c w').mono ?_
    rintro e w2 ⟨rfl, rfl⟩
    have e : cpI (([] : List Int).mergeSort fun x y => decide (x ≤ y)) = [] := by rw [List.mergeSort]; rfl
    rw [e]
    exact ⟨0, rfl, rfl, Fr.refl _ _, Nat.zero_le _, ⟨rfl, by decide, fun h => absurd h (by decide)⟩⟩
  | cons s xs =>
    obtain ⟨g, c', hv⟩ := row_some h (by simp)
    simp only [Value.slice.injEq] at hv
    obtain ⟨rfl, _, rfl⟩ := hv
    have hb := row_base h g rfl
    have hcap : (s :: xs).length ≤ c := by
      obtain ⟨_, h | ⟨g', cap, cur, he, _, _, hn, _⟩⟩ := h
      · simp at h
      · simp only [Value.slice.injEq] at he
        omega
    have hH : Go.Sort.Holds (Value.int .i64) w g 0 (s :: xs).toArray := by
      obtain ⟨_, h | ⟨g', cap, cur, he, _, hg, hn, _, _, ht⟩⟩ := h
      · simp at h
      · simp only [Value.slice.injEq, Option.some.injEq, Addr.mk.injEq, and_true, true_and] at he
        obtain ⟨rfl, rfl⟩ := he
        intro j hj
        have hj' : j < (s :: xs).length := by simpa using hj
        refine ⟨?_, ZFr.blk_free hg _⟩
        rw [Nat.zero_add, ZFr.blk_cell hg j]
        have hx : ((s :: xs).map (Value.int .i64))[j]? = some (.int .i64 (s :: xs)[j]) := by rw [List.getElem?_map, List.getElem?_eq_getElem hj']; rfl
        rw [← ht, List.getElem?_take, if_pos (by omega), Array.getElem?_toList] at hx
        rw [hx]
        congr 2
        rw [getElem!_pos _ j hj]; simp
    have hlen : ((s :: xs).mergeSort fun x y => decide (x ≤ y)).length = (s :: xs).length := List.length_mergeSort ..
    refine (Try.slices_Sort_int g 0 c (s :: xs) w hH hb.2 (by omega)).mono ?_
    rintro e w' ⟨rfl, n, os, rfl⟩
    have hP : Go.Sort.Holds (Value.int .i64) (Go.Sort.grow (Go.Sort.putRow (Value.int .i64) (Go.Sort.ahead w n) g 0 ((s :: xs).mergeSort fun x y => decide (x ≤ y)).toArray) os) g 0 ((s :: xs).mergeSort fun x y => decide (x ≤ y)).toArray :=
      Go.Sort.holds_grow _ _ _ _ _ _ (by simpa [Go.Sort.putRow, Go.Sort.mapBlock, Go.Sort.ahead] using hb.2) (Go.Sort.holds_putRow _ _ _ _ _ _ (Go.Sort.holds_ahead _ _ _ _ _ _ hH) (by simp))
    refine ⟨rfl, ⟨rfl, rfl, rfl, by simp [Go.Sort.grow, Go.Sort.putRow, Go.Sort.mapBlock, Go.Sort.ahead], fun k hk hne => ?_⟩, ?_⟩
    · have hkg : ¬ g = k := fun e => hne (e ▸ hb)
      have hk' : k < (Go.Sort.putRow (Value.int .i64) (Go.Sort.ahead w n) g 0 ((s :: xs).mergeSort fun x y => decide (x ≤ y)).toArray).heap.size := by simpa [Go.Sort.putRow, Go.Sort.mapBlock, Go.Sort.ahead] using hk
      show ((Go.Sort.putRow (Value.int .i64) (Go.Sort.ahead w n) g 0 ((s :: xs).mergeSort fun x y => decide (x ≤ y)).toArray).heap ++ os)[k]? = _
      rw [Array.getElem?_append_left hk']
      show (w.heap.modify g _)[k]? = _
      rw [Array.getElem?_modify, if_neg hkg]
    · have h9 := compI_c g c ((s :: xs).mergeSort fun x y => decide (x ≤ y)) _ hP (ms_sorted _) (by omega) (by omega)
      rw [hlen] at h9
      refine h9.mono ?_
      rintro e2 w2 ⟨rfl, hf2, hC⟩
      have hcl := cpI_len ((s :: xs).mergeSort fun x y => decide (x ≤ y))
      exact ⟨_, rfl, rfl, hf2.mono (fun k hk => by subst hk; exact hb), by omega, hC⟩
set_option maxRecDepth 100000 in
set_option maxHeartbeats 4000000 in
theorem beside_walk (A : Option Addr) (c : Nat) (l : List Fa) (id : Int) (w : World) (hl : l.length ≤ 100) (hp : Fas w A l) : Calls Try.prog 27 #[.slice A l.length c, .int .i64 id] w fun e w' => ∃ p d, e = .returned (.slice p (bsd (insAll (lks l)) id).length d) ∧ (bsd (insAll (lks l)) id).length ≤ d ∧ Kd.C (Kd.int .i64) w' p (bsd (insAll (lks l)) id).length (bsd (insAll (lks l)) id) ∧ Fr (fun _ => False) w w' := by
  have HP := Lib.hid hp
  have H100 := Lib.hid hl
  clear hp hl
  go_enter Try.func27, Try.ntmps27
  go_wp2_with fail
  go_loopw [5, 12] (fun v i wr => ∃ k : Nat, k ≤ l.length ∧ i = .int .i64 (k : Int) ∧ wr.ownsRow w.heap.size 3 1 v (pbs (l.take k) id).length ((pbs (l.take k) id).map (Value.int .i64)) ∧ Fr (fun _ => False) w wr) (fun _ i _ => (l.length - intOf i).toNat)
  case atStart => exact ⟨0, by omega, rfl, ⟨rfl, .inl ⟨rfl, rfl⟩⟩, Fr.refl _ _⟩
  case round =>
    obtain ⟨k, hk, rfl, ho, hf⟩ := hrel
    have HO := Lib.hid ho
    have HF := Lib.hid hf
    clear ho hf
    by_cases hkl : k < l.length
    · have hk100 : (k : Int) < 100 := by have := H100.out; omega
      have hkli : (k : Int) < l.length := by omega
      obtain ⟨ad, rfl, c0, cj⟩ := (HP.out.fr HF.out) k hkl
      have c1 := cj 1 (by decide) (by decide)
      have c2 := cj 2 (by decide) (by decide)
      have c3 := cj 3 (by decide) (by decide)
      have c4 := cj 4 (by decide) (by decide)
      have c5 := cj 5 (by decide) (by decide)
      have c6 := cj 6 (by decide) (by decide)
      have c7 := cj 7 (by decide) (by decide)
      have c8 := cj 8 (by decide) (by decide)
      have HSN := Lib.hid (show pbs (l.take (k + 1)) id = pbs (l.take k) id ++ oth l[k] id from by rw [List.take_succ_eq_append_getElem hkl, pbs_snoc])
      have HPL := Lib.hid (show (pbs (l.take k) id).length ≤ 300 from by have h1 := pbs_len (l.take k) id; rw [List.length_take] at h1; omega)
      generalize l[k] = f at c0 c1 c2 c3 c4 c5 c6 c7 c8 HSN
      obtain ⟨P, hP⟩ : ∃ P, pbs (l.take k) id = P := ⟨_, rfl⟩
      rw [hP] at HO HSN HPL
      clear hP cj
      have T1 := Lib.hid (heap_alloc_new wr (nin f))
      have F1 := Lib.hid (HF.out.alloc (nin f))
      have O1 := Lib.hid (row_al HO.out (nin f))
      clear HO HF
      have CO := Lib.hid (fun w1 b (hT : w1.heap[b]? = some (nin f)) => (show Calls Try.prog 51 #[.slice (some ⟨b, 0, none⟩) 3 3, .int .i64 id] w1 (fun e w' => e = .returned (.bool (decide (f 0 = id ∨ f 1 = id ∨ f 2 = id))) ∧ Drawn0 w1 w') from slices_Contains_int_int.calls 5 (some ⟨b, 0, none⟩) 3 [f 0, f 1, f 2] id (decide (f 0 = id ∨ f 1 = id ∨ f 2 = id)) w1 (three_c hT) (Nat.le_refl 3) (contains_f _ _ _ _)))
      obtain ⟨ct, hct⟩ : ∃ ct, decide (f 0 = id ∨ f 1 = id ∨ f 2 = id) = ct := ⟨_, rfl⟩
      rw [hct] at CO
      have HCT := Lib.hid hct
      clear hct
      obtain ⟨wo, rfl⟩ : ∃ wo : World, wo = wr := ⟨_, rfl⟩
      go_upto_region 5 with fail
      change Code.wp _ _ _ _ (wo.alloc (nin f))
      generalize wo.alloc (nin f) = w1 at T1 F1 O1 ⊢
      generalize wo.heap.size = b at T1 ⊢
      go_upto_if 20 with (go_at_call 51; have hc_ := CO.out w1 b T1.out; (with_reducible refine hc_.mono ?_); clear hc_; rintro e w3 ⟨rfl, f3⟩; have F3 := Lib.hid (fr_drawn f3); clear f3)
      have T3 := Lib.hid (ZFr.blk_fr T1.out F3.out (fun h => h))
      have F4 := Lib.hid (F1.out.trans F3.out (fun _ h _ => h))
      have O3 := Lib.hid (row_fr O1.out F3.out (fun _ _ h => h))
      clear F1 O1 T1 F3 CO
      cases ct
      · have hno := of_decide_eq_false HCT.out
        go_wp2_with fail
        go_roundw
        case rel =>
          refine ⟨k + 1, by omega, by go_num, ?_, F4.out⟩
          have e : oth f id = [] := by unfold oth; rw [if_neg (show ¬ has f id from hno)]
          rw [HSN.out, e, List.append_nil]
          exact O3.out
        case measure => simp [intOf]; omega
      · rw [Bool.not_true]
        have hyes := of_decide_eq_true HCT.out
        have HY := Lib.hid (show oth f id = oj f id 3 from by unfold oth; rw [if_pos (show has f id from hyes)]; rfl)
        clear hyes
        have q0 := nin_cell T3.out 0 (by decide)
        have q1 := nin_cell T3.out 1 (by decide)
        have q2 := nin_cell T3.out 2 (by decide)
        obtain ⟨wp, rfl⟩ : ∃ wp : World, wp = w3 := ⟨_, rfl⟩
        go_wp2_with fail
        clear q0 q1 q2
        go_loopw [5, 23] (fun v i wr => ∃ j : Nat, j ≤ 3 ∧ i = .int .i64 (j : Int) ∧ wr.ownsRow w.heap.size 3 1 v (P ++ oj f id j).length ((P ++ oj f id j).map (Value.int .i64)) ∧ Fr (fun _ => False) w wr) (fun _ i _ => (3 - intOf i).toNat)
        case atStart => exact ⟨0, by omega, rfl, by rw [show oj f id 0 = [] from rfl, List.append_nil]; exact O3.out, F4.out⟩
        case round =>
          clear F4 O3
          obtain ⟨j, hj, rfl, ho, hf⟩ := hrel
          obtain ⟨p, c, rfl⟩ := row_slice ho
          have HO := Lib.hid ho
          have HF := Lib.hid hf
          clear ho hf
          have hjj : j = 0 ∨ j = 1 ∨ j = 2 ∨ j = 3 := by omega
          rcases hjj with rfl | rfl | rfl | rfl
          · have hix := fun w => (ix3 (f 0) (f 1) (f 2) w).1
            have hq : P ++ oj f id 1 = (P ++ oj f id 0) ++ (if f 0 = id then [] else [f 0]) := by rw [oj_step f id 0 (by decide), List.append_assoc]
            have hql : (P ++ oj f id 0).length ≤ 303 := by have h1 := HPL.out; have h2 := oj_len f id 0; rw [List.length_append]; omega
            obtain ⟨Q, hQ⟩ : ∃ Q, P ++ oj f id 0 = Q := ⟨_, rfl⟩
            rw [hQ] at hq HO hql ⊢
            have HQL := Lib.hid hql
            clear hQ hql
            by_cases hv : f 0 = id
            · have hvd : (f 0 != id) = false := by simp [hv]
              rw [if_pos hv, List.append_nil] at hq
              have HQ := Lib.hid hq
              clear hv hq
              go_wp2_with fail
              go_roundw
              case rel => exact ⟨1, by omega, rfl, by rw [HQ.out]; exact HO.out, HF.out⟩
              case measure => simp [intOf]
            · have hvd : (f 0 != id) = true := by simp [hv]
              rw [if_neg hv] at hq
              have HQ := Lib.hid hq
              clear hv hq
              obtain ⟨i0, hi0, hz0, hz1, hz2⟩ := info_parts info3
              go_wp2_with (at_builtin; refine wpList_append_own_at _ rfl (.tmp 29) (.tmp 31) 37 rfl w.heap.size 3 i0 _ 1 8 Try.underlying37 hi0 hz0 hz1 hz2 rfl (by decide) (.slice p Q.length c) Q.length (Q.map (Value.int .i64)) rfl (HO.out.alloc _) ⟨wr.heap.size, 0, none⟩ 1 1 [.int .i64 (f 0)] rfl rfl ?d1 ?d2 ?d3 ?d4 ?d5 ?more)
              case d1 => first | exact fun j u hj => hj | (intro j u hj; match j, hj with | 0, hj => simp at hj; subst hj; exact new_cell _ _ _ _ rfl 0)
              case d2 => intro u hu; simp at hu; subst hu; rfl
              case d3 => have h1 := HQL.out; unfold maxLen; omega
              case d4 => have h1 := HQL.out; omega
              case d5 => have e1 := HF.out.size; simp; omega
              case more =>
                intro v2 w2 hown2 hgrow _ _
                have HO2 := Lib.hid hown2
                have HG2 := Lib.hid hgrow
                clear hown2 hgrow
                go_wp2_with fail
                go_roundw
                case rel => exact ⟨1, by omega, rfl, by rw [HQ.out, List.length_append, List.map_append]; exact HO2.out, (HF.out.alloc _).grown HG2.out (fun k hk => .inr (row_base HO.out k hk).1)⟩
                case measure => simp [intOf]
          · have hix := fun w => (ix3 (f 0) (f 1) (f 2) w).2.1
            have hq : P ++ oj f id 2 = (P ++ oj f id 1) ++ (if f 1 = id then [] else [f 1]) := by rw [oj_step f id 1 (by decide), List.append_assoc]
            have hql : (P ++ oj f id 1).length ≤ 303 := by have h1 := HPL.out; have h2 := oj_len f id 1; rw [List.length_append]; omega
            obtain ⟨Q, hQ⟩ : ∃ Q, P ++ oj f id 1 = Q := ⟨_, rfl⟩
            rw [hQ] at hq HO hql ⊢
            have HQL := Lib.hid hql
            clear hQ hql
            by_cases hv : f 1 = id
            · have hvd : (f 1 != id) = false := by simp [hv]
              rw [if_pos hv, List.append_nil] at hq
              have HQ := Lib.hid hq
              clear hv hq
              go_wp2_with fail
              go_roundw
              case rel => exact ⟨2, by omega, rfl, by rw [HQ.out]; exact HO.out, HF.out⟩
              case measure => simp [intOf]
            · have hvd : (f 1 != id) = true := by simp [hv]
              rw [if_neg hv] at hq
              have HQ := Lib.hid hq
              clear hv hq
              obtain ⟨i0, hi0, hz0, hz1, hz2⟩ := info_parts info3
              go_wp2_with (at_builtin; refine wpList_append_own_at _ rfl (.tmp 29) (.tmp 31) 37 rfl w.heap.size 3 i0 _ 1 8 Try.underlying37 hi0 hz0 hz1 hz2 rfl (by decide) (.slice p Q.length c) Q.length (Q.map (Value.int .i64)) rfl (HO.out.alloc _) ⟨wr.heap.size, 0, none⟩ 1 1 [.int .i64 (f 1)] rfl rfl ?d1 ?d2 ?d3 ?d4 ?d5 ?more)
              case d1 => first | exact fun j u hj => hj | (intro j u hj; match j, hj with | 0, hj => simp at hj; subst hj; exact new_cell _ _ _ _ rfl 0)
              case d2 => intro u hu; simp at hu; subst hu; rfl
              case d3 => have h1 := HQL.out; unfold maxLen; omega
              case d4 => have h1 := HQL.out; omega
              case d5 => have e1 := HF.out.size; simp; omega
              case more =>
                intro v2 w2 hown2 hgrow _ _
                have HO2 := Lib.hid hown2
                have HG2 := Lib.hid hgrow
                clear hown2 hgrow
                go_wp2_with fail
                go_roundw
                case rel => exact ⟨2, by omega, rfl, by rw [HQ.out, List.length_append, List.map_append]; exact HO2.out, (HF.out.alloc _).grown HG2.out (fun k hk => .inr (row_base HO.out k hk).1)⟩
                case measure => simp [intOf]
          · have hix := fun w => (ix3 (f 0) (f 1) (f 2) w).2.2
            have hq : P ++ oj f id 3 = (P ++ oj f id 2) ++ (if f 2 = id then [] else [f 2]) := by rw [oj_step f id 2 (by decide), List.append_assoc]
            have hql : (P ++ oj f id 2).length ≤ 303 := by have h1 := HPL.out; have h2 := oj_len f id 2; rw [List.length_append]; omega
            obtain ⟨Q, hQ⟩ : ∃ Q, P ++ oj f id 2 = Q := ⟨_, rfl⟩
            rw [hQ] at hq HO hql ⊢
            have HQL := Lib.hid hql
            clear hQ hql
            by_cases hv : f 2 = id
            · have hvd : (f 2 != id) = false := by simp [hv]
              rw [if_pos hv, List.append_nil] at hq
              have HQ := Lib.hid hq
              clear hv hq
              go_wp2_with fail
              go_roundw
              case rel => exact ⟨3, by omega, rfl, by rw [HQ.out]; exact HO.out, HF.out⟩
              case measure => simp [intOf]
            · have hvd : (f 2 != id) = true := by simp [hv]
              rw [if_neg hv] at hq
              have HQ := Lib.hid hq
              clear hv hq
              obtain ⟨i0, hi0, hz0, hz1, hz2⟩ := info_parts info3
              go_wp2_with (at_builtin; refine wpList_append_own_at _ rfl (.tmp 29) (.tmp 31) 37 rfl w.heap.size 3 i0 _ 1 8 Try.underlying37 hi0 hz0 hz1 hz2 rfl (by decide) (.slice p Q.length c) Q.length (Q.map (Value.int .i64)) rfl (HO.out.alloc _) ⟨wr.heap.size, 0, none⟩ 1 1 [.int .i64 (f 2)] rfl rfl ?d1 ?d2 ?d3 ?d4 ?d5 ?more)
              case d1 => first | exact fun j u hj => hj | (intro j u hj; match j, hj with | 0, hj => simp at hj; subst hj; exact new_cell _ _ _ _ rfl 0)
              case d2 => intro u hu; simp at hu; subst hu; rfl
              case d3 => have h1 := HQL.out; unfold maxLen; omega
              case d4 => have h1 := HQL.out; omega
              case d5 => have e1 := HF.out.size; simp; omega
              case more =>
                intro v2 w2 hown2 hgrow _ _
                have HO2 := Lib.hid hown2
                have HG2 := Lib.hid hgrow
                clear hown2 hgrow
                go_wp2_with fail
                go_roundw
                case rel => exact ⟨3, by omega, rfl, by rw [HQ.out, List.length_append, List.map_append]; exact HO2.out, (HF.out.alloc _).grown HG2.out (fun k hk => .inr (row_base HO.out k hk).1)⟩
                case measure => simp [intOf]
          · go_wp2_with fail
            go_roundw
            case rel =>
              refine ⟨k + 1, by omega, by go_num, ?_, HF.out⟩
              rw [HSN.out, HY.out]
              exact HO.out
            case measure => simp [intOf]; omega
    · have hke : k = l.length := by omega
      subst hke
      obtain ⟨p, c, rfl⟩ := row_slice HO.out
      have ho := HO.out
      rw [List.take_of_length_le (Nat.le_refl _)] at ho ⊢
      have TC := Lib.hid (tailI_c w.heap.size c p (pbs l id) wr ho (by have h1 := pbs_len l id; have := H100.out; omega))
      rw [beside_eq l id (List.mergeSort_perm (pbs l id) _) (ms_sorted _)] at TC
      clear ho
      go_wp2_with (first
        | (go_at_call 52; have hc_ := H2.out; (with_reducible refine hc_.mono ?_); clear hc_; rintro e w2 ⟨n, hn, rfl, f2, hd, hC⟩; have F2 := Lib.hid f2; have HD := Lib.hid hd; have HC := Lib.hid hC; have HN := Lib.hid hn; clear f2 hd hC hn)
        | (go_at_call 42; have hc_ := TC.out; (with_reducible refine hc_.mono ?_); clear hc_; rintro e w1 ⟨rfl, f1, h2⟩; have F1 := Lib.hid f1; have H2 := Lib.hid h2; clear f1 h2))
      go_ret
      have hn := HN.out
      subst hn
      refine ⟨_, _, rfl, HD.out, HC.out, ?_⟩
      exact (HF.out.trans F1.out (fun i h hlt => absurd h.1 (by omega))).trans F2.out (fun i h hlt => absurd h.1 (by omega))
end Go.Proofs.Ytngmkjgklonfmaa.Lk

/- The document's ids beside one, walked. -/
namespace Go.Proofs.Ytngmkjgklonfmaa.Lk
open Go.RowKit Go.Lib Go.Proofs.ZFr Go.Proofs.Ytngmkjgklonfmaa.PNearLinks Go.Proofs.YtngmkjgklonfmaaW.PrintWords
theorem link_at {w : World} {p : Option Addr} {L : List S91} (h : Kd.C k91 w p L.length L) (i : Nat) (hi : i < L.length) : ∃ ad, p = some ad ∧ w.cell? (ad.add (i * 4)) = some (.int .i64 L[i].f0) ∧ w.cell? ⟨(ad.add (i * 4)).block, (ad.add (i * 4)).off + 1, none⟩ = some (.int .i64 L[i].f1) := by
  obtain ⟨ad, e, h0, h1, _, _⟩ := at_T91 h (i : Int) (by omega) (by omega)
  have e9 : rd_T91 L (i : Int) = L[i] := by unfold rd_T91; rw [Int.toNat_natCast, List.getD_eq_getElem?_getD, List.getElem?_eq_getElem hi]; rfl
  rw [e9, Int.toNat_natCast] at h0 h1
  exact ⟨ad, e, h0, h1⟩
theorem int_at {w : World} {p : Option Addr} {L : List Int} (h : Kd.C (Kd.int .i64) w p L.length L) (i : Nat) (hi : i < L.length) : ∃ ad, p = some ad ∧ w.cell? (ad.add i) = some (.int .i64 L[i]) := by
  obtain ⟨hlen, _, hh⟩ := h
  obtain ⟨ad, e, hc⟩ := hh (by omega)
  obtain ⟨cs, hcs, hK, h0⟩ := hc i L[i] (List.getElem?_eq_getElem hi)
  refine ⟨ad, e, ?_⟩
  have h1 := h0 0 (.int .i64 L[i]) (by rw [hK]; rfl)
  rwa [show i * (Kd.int .i64).sz + 0 = i from by rw [show (Kd.int .i64).sz = 1 from rfl]; omega] at h1
theorem bst_take (ls : List S91) (id : Int) (m : Nat) (h : m < ls.length) : bsd (ls.take (m + 1)) id = bst id (bsd (ls.take m) id) ls[m] := by
  rw [List.take_succ_eq_append_getElem h, bsd_snoc]
set_option maxRecDepth 100000 in
set_option maxHeartbeats 4000000 in
theorem dbeside_walk (A : Option Addr) (c : Nat) (l : List Fa) (id : Int) (w : World) (hl : l.length ≤ 30) (hp : Fas w A l) (hs : ∀ f ∈ l, smF f) : Calls Try.prog 28 #[.slice A l.length c, .int .i64 id] w fun e w' => ∃ p d, e = .returned (.slice p (bsd (insAll (lks l)) id).length d) ∧ (bsd (insAll (lks l)) id).length ≤ d ∧ Kd.C (Kd.int .i64) w' p (bsd (insAll (lks l)) id).length (bsd (insAll (lks l)) id) ∧ Fr (fun _ => False) w w' := by
  have F0 := Lib.hid ((Fr.refl (fun _ => False) w).alloc (.cells #[] 3))
  have DL := Lib.hid (dlinks_walk A c l (w.alloc (.cells #[] 3)) (by omega) (hp.fr F0.out) hs)
  have HLN := Lib.hid (show (insAll (lks l)).length ≤ 90 from by have h1 := insAll_len (lks l); have h2 := lks_len l; omega)
  clear hp hs hl
  generalize insAll (lks l) = ls at DL HLN ⊢
  generalize l.length = n at DL ⊢
  go_enter Try.func28, Try.ntmps28
  go_wp2_with (go_at_call 26; have hc_ := DL.out; (with_reducible refine hc_.mono ?_); clear hc_; rintro e w1 ⟨p, d, rfl, hd, hC, f1⟩; have HD := Lib.hid hd; have HC := Lib.hid hC; have F1 := Lib.hid (F0.out.trans f1 (fun _ h _ => h)); clear hd hC f1)
  clear DL F0
  go_loopw [5, 7] (fun v i wr => ∃ m : Nat, m ≤ ls.length ∧ i = .int .i64 (m : Int) ∧ (∃ p d, v = .slice p (bsd (ls.take m) id).length d ∧ (bsd (ls.take m) id).length ≤ d ∧ Kd.C (Kd.int .i64) wr p (bsd (ls.take m) id).length (bsd (ls.take m) id)) ∧ Fr (fun _ => False) w1 wr) (fun _ i _ => (ls.length - intOf i).toNat)
  case atStart => exact ⟨0, by omega, rfl, ⟨_, _, rfl, Nat.le_refl _, (show Kd.C (Kd.int .i64) _ _ ([] : List Int).length [] from ⟨rfl, by decide, fun h => absurd h (by decide)⟩)⟩, Fr.refl _ _⟩
  case round =>
    obtain ⟨m, hm, rfl, ⟨po, dO, rfl, hd, hC⟩, hf⟩ := hrel
    have HOD := Lib.hid hd
    have HOC := Lib.hid hC
    have HF := Lib.hid hf
    clear hd hC hf
    by_cases hml : m < ls.length
    · have hmi : (m : Int) < ls.length := by omega
      have hm100 : (m : Int) < 100 := by have := HLN.out; omega
      have HCW := Lib.hid (fun (w' : World) (h : Fr (fun _ => False) w1 w') => link_at (Kd.C_below HC.out (h.below w1.heap.size (Nat.le_refl _) (fun _ h => h.elim))) m hml)
      obtain ⟨ad, rfl, hz0, hz1⟩ := HCW.out wr HF.out
      clear hz0 hz1
      have HCX := Lib.hid (fun (w' : World) (h : Fr (fun _ => False) w1 w') => (show w'.cell? (ad.add (m * 4)) = some (.int .i64 ls[m].f0) ∧ w'.cell? ⟨(ad.add (m * 4)).block, (ad.add (m * 4)).off + 1, none⟩ = some (.int .i64 ls[m].f1) from by
        obtain ⟨ad', e', h0, h1⟩ := HCW.out w' h
        simp only [Option.some.injEq] at e'
        subst e'
        exact ⟨h0, h1⟩))
      have HST := Lib.hid (bst_take ls id m hml)
      have HOL := Lib.hid (show (bsd (ls.take m) id).length ≤ 90 from by have h1 := bsd_len (ls.take m) id; rw [List.length_take] at h1; have h2 := HLN.out; omega)
      clear HCW
      generalize ls[m] = x at HCX HST
      generalize bsd (ls.take m) id = out at HOD HOC HST HOL ⊢
      obtain ⟨x0, x1⟩ := HCX.out wr HF.out
      go_upto_if 27 with fail
      go_cut [8] (fun s wx => s = .int .i64 (oe x id) ∧ wx = wr)
      case first =>
        by_cases h1 : x.f1 = id
        · have hb : (x.f1 == id) = true := by simp [h1]
          have e : oe x id = x.f0 := by unfold oe; rw [if_pos h1]
          have HE := Lib.hid e
          clear h1 e
          go_wp2_with fail
          go_meet
          exact ⟨by rw [HE.out], rfl⟩
        · have hb : (x.f1 == id) = false := by simp [h1]
          have e : oe x id = x.f1 := by unfold oe; rw [if_neg h1]
          have HE := Lib.hid e
          clear h1 e
          go_wp2_with fail
          go_meet
          exact ⟨by rw [HE.out], rfl⟩
      case rest =>
        obtain ⟨rfl, rfl⟩ := hcut
        clear x0 x1
        obtain ⟨y, hy⟩ : ∃ y, oe x id = y := ⟨_, rfl⟩
        have HY := Lib.hid hy
        rw [hy]
        clear hy
        obtain ⟨wo, rfl⟩ : ∃ wo : World, wo = wc := ⟨_, rfl⟩
        go_wp2_with fail
        go_loopw [9, 10] (fun s i wr => ∃ k : Nat, k ≤ out.length ∧ i = .int .i64 (k : Int) ∧ s = .bool (decide (y ∈ out.take k)) ∧ wr = wo) (fun _ i _ => (out.length - intOf i).toNat)
        case atStart => exact ⟨0, by omega, rfl, by simp, rfl⟩
        case round =>
          obtain ⟨k, hk, rfl, rfl, rfl⟩ := hrel
          by_cases hko : k < out.length
          · have hki : (k : Int) < out.length := by omega
            have hk100 : (k : Int) < 100 := by have := HOL.out; omega
            obtain ⟨ao, rfl, z0⟩ := int_at HOC.out k hko
            have ht : (y ∈ out.take (k + 1)) ↔ (y ∈ out.take k ∨ out[k] = y) := by
              rw [List.take_succ_eq_append_getElem hko, List.mem_append, List.mem_singleton]
              constructor
              · rintro (h | h); exact .inl h; exact .inr h.symm
              · rintro (h | h); exact .inl h; exact .inr h.symm
            generalize out[k] = u at z0 ht
            have HT := Lib.hid ht
            clear ht
            obtain ⟨bb, hbb⟩ : ∃ bb, decide (y ∈ out.take k) = bb := ⟨_, rfl⟩
            have HBB := Lib.hid hbb
            rw [hbb]
            clear hbb
            cases bb
            · by_cases hu : u = y
              · have hub : (u == y) = true := by simp [hu]
                have HU := Lib.hid hu
                clear hu
                go_wp2_with fail
                go_roundw
                case rel => exact ⟨k + 1, by omega, by go_num, by rw [decide_eq_true (HT.out.2 (.inr HU.out))], by first | rfl | trivial⟩
                case measure => simp [intOf]; omega
              · have hub : (u == y) = false := by simp [hu]
                have HU := Lib.hid hu
                clear hu
                go_wp2_with fail
                go_roundw
                case rel => exact ⟨k + 1, by omega, by go_num, by rw [decide_eq_false (fun h => (HT.out.1 h).elim (of_decide_eq_false HBB.out) HU.out)], by first | rfl | trivial⟩
                case measure => simp [intOf]; omega
            · go_wp2_with fail
              go_roundw
              case rel => exact ⟨k + 1, by omega, by go_num, by rw [decide_eq_true (HT.out.2 (.inl (of_decide_eq_true HBB.out)))], by first | rfl | trivial⟩
              case measure => simp [intOf]; omega
          · have hke : k = out.length := by omega
            subst hke
            rw [List.take_of_length_le (Nat.le_refl _)]
            obtain ⟨bi, hbi⟩ : ∃ bi, decide (y ∈ out) = bi := ⟨_, rfl⟩
            have HBI := Lib.hid hbi
            rw [hbi]
            clear hbi
            obtain ⟨x0, x1⟩ := HCX.out wr HF.out
            obtain ⟨bt, hbt⟩ : ∃ bt, decide (tk out x id) = bt := ⟨_, rfl⟩
            obtain ⟨c0, hc0⟩ : ∃ c, (x.f0 == id) = c := ⟨_, rfl⟩
            obtain ⟨c1, hc1⟩ : ∃ c, (x.f1 == id) = c := ⟨_, rfl⟩
            obtain ⟨c2, hc2⟩ : ∃ c, (y != id) = c := ⟨_, rfl⟩
            have HTK := Lib.hid (show bt = (((c0 || c1) && c2) && !bi) from by
              rw [← hbt, ← HBI.out, ← hc0, ← hc1, ← hc2, ← HY.out]
              by_cases h0 : x.f0 = id <;> by_cases h1 : x.f1 = id <;> by_cases h2 : oe x id = id <;> by_cases h3 : oe x id ∈ out <;> simp [tk, h0, h1, h2, h3])
            have HBT := Lib.hid hbt
            clear hbt
            go_upto_region 13 with fail
            go_cut [72] (fun s wx => s = .bool bt ∧ wx = wr)
            case first =>
              cases c0 <;> cases c1 <;> cases c2 <;> cases bi
              all_goals
                go_wp2_with fail
                go_meet
                exact ⟨by rw [HTK.out]; rfl, by first | rfl | trivial⟩
            case rest =>
              obtain ⟨rfl, rfl⟩ := hcut
              clear x0 x1 hc0 hc1 hc2 HTK
              cases bt
              · have hno := of_decide_eq_false HBT.out
                go_wp2_with fail
                go_roundw
                case rel =>
                  refine ⟨m + 1, by omega, by go_num, ⟨po, dO, ?_, ?_, ?_⟩, HF.out⟩ <;> (rw [HST.out]; unfold bst; rw [if_neg hno])
                  · exact HOD.out
                  · exact HOC.out
                case measure => simp [intOf]; omega
              · have hyes := of_decide_eq_true HBT.out
                have HB := Lib.hid (show bst id out x = putI out y from by unfold bst; rw [if_pos hyes, HY.out])
                clear hyes
                have PU := Lib.hid (zelligeref28_Put.calls 200 po dO out y (putI out y) wc HOC.out HOD.out (put_f out y (by have := HOL.out; omega)))
                go_wp2_with (go_at_call 44; have hc_ := PU.out; (with_reducible refine hc_.mono ?_); clear hc_; rintro e w2 ⟨v2, rfl, hR, hb2⟩; obtain ⟨p2, d2, rfl, hd2, hC2⟩ := Kd.R_reads hR; have HD2 := Lib.hid hd2; have HC2 := Lib.hid hC2; have F2 := Lib.hid (Fr.of_below hb2); clear hR hd2 hC2 hb2)
                go_roundw
                case rel =>
                  refine ⟨m + 1, by omega, by go_num, ⟨p2, d2, ?_, ?_, ?_⟩, HF.out.trans F2.out (fun _ h _ => h)⟩ <;> rw [HST.out, HB.out]
                  · exact HD2.out
                  · exact HC2.out
                case measure => simp [intOf]; omega
    · have hme : m = ls.length := by omega
      subst hme
      have hD := HOD.out
      have hC := HOC.out
      rw [List.take_of_length_le (Nat.le_refl _)] at hD hC ⊢
      have HD9 := Lib.hid hD
      have HC9 := Lib.hid hC
      clear hD hC
      go_wp2_with fail
      go_ret
      exact ⟨_, _, rfl, HD9.out, HC9.out, F1.out.trans HF.out (fun _ h _ => h)⟩
end Go.Proofs.Ytngmkjgklonfmaa.Lk
