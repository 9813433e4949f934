/- Joined texts. -/
import Derived.Test.YtngmkjgklonfmaaNWP
import Derived.Test.YtngmkjgklonfmaaJC
import Derived.Test.YtngmkjgklonfmaaWSort
import Derived.Test.YtngmkjgklonfmaaJD
/- The document's numbers that rise. -/
namespace Go.Proofs.Ytngmkjgklonfmaa.Wd
open Go.RowKit Go.Proofs.Ytngmkjgklonfmaa.PNearWithin Go.Proofs.YtngmkjgklonfmaaW.PrintWords
def putI : List Int → Int → List Int
  | [], a => [a]
  | b :: r, a => if b > a then a :: b :: r else b :: putI r a
theorem putI_len : ∀ (l : List Int) (a : Int), (putI l a).length = l.length + 1
  | [], _ => rfl
  | b :: r, a => by rw [putI]; split; rfl; rw [List.length_cons, putI_len r a, List.length_cons]
theorem putI_perm : ∀ (l : List Int) (a : Int), (putI l a).Perm (l ++ [a])
  | [], _ => List.Perm.refl _
  | b :: r, a => by
    rw [putI]; split
    · exact (List.perm_append_comm (l₁ := [a]) (l₂ := b :: r))
    · exact (putI_perm r a).cons b
theorem putI_mem {l : List Int} {a x : Int} (h : x ∈ putI l a) : x ∈ l ∨ x = a := by
  have := (putI_perm l a).mem_iff.1 h
  simpa using this
theorem putI_sorted : ∀ (l : List Int) (a : Int), l.Pairwise (fun x y => x ≤ y) → (putI l a).Pairwise (fun x y => x ≤ y)
  | [], a, _ => by simp [putI]
  | b :: r, a, h => by
    obtain ⟨h1, h2⟩ := List.pairwise_cons.1 h
    rw [putI]; split
    · refine List.pairwise_cons.2 ⟨fun x hx => ?_, h⟩
      rcases List.mem_cons.1 hx with rfl | hx
      · omega
      · have := h1 x hx; omega
    · refine List.pairwise_cons.2 ⟨fun x hx => ?_, putI_sorted r a h2⟩
      rcases putI_mem hx with hx | rfl
      · exact h1 x hx
      · omega
theorem put_go (l : List Int) (a : Int) (hl : l.length ≤ 100) : ∀ (e i k : Nat) (out : List Int) (inn : Bool), i + e = l.length → e < k → out.length ≤ 2 * i + 2 →
    zelligeref28_Put.l0 k l a out inn (i : Int) = some (out ++ (if inn = true then l.drop i else putI (l.drop i) a))
  | 0, i, k, out, inn, hi, hk, ho => by
    obtain ⟨k, rfl⟩ : ∃ m, k = m + 1 := ⟨k - 1, by omega⟩
    rw [zelligeref28_Put.l0, if_neg (by omega), List.drop_of_length_le (by omega)]
    cases inn
    · rw [if_neg (by simp), if_pos (by omega), if_neg (by simp)]; rfl
    · rw [if_pos rfl, if_pos rfl, List.append_nil]
  | e + 1, i, k, out, inn, hi, hk, ho => by
    obtain ⟨k, rfl⟩ : ∃ m, k = m + 1 := ⟨k - 1, by omega⟩
    have hil : i < l.length := by omega
    have hw : wrap64 ((i : Int) + 1) = ((i + 1 : Nat) : Int) := by unfold wrap64; omega
    have hr : Go.Proofs.YtngmkjgklonfmaaW.PrintWords.rd l (i : Int) = l[i] := by
      unfold Go.Proofs.YtngmkjgklonfmaaW.PrintWords.rd
      rw [Int.toNat_natCast, List.getD_eq_getElem?_getD, List.getElem?_eq_getElem hil]; rfl
    rw [zelligeref28_Put.l0, if_pos (by omega), hr, hw, List.drop_eq_getElem_cons hil]
    cases inn
    · rw [if_neg (by simp), if_pos (by omega)]
      by_cases h : l[i] > a
      · rw [if_pos h, if_pos (by omega), Option.bind_some, if_pos (by simp; omega), put_go l a hl e (i + 1) k _ true (by omega) (by omega) (by simp; omega), if_pos rfl, if_neg (show ¬ false = true by simp), putI, if_pos h]
        simp
      · rw [if_neg h, if_pos (by omega), put_go l a hl e (i + 1) k _ false (by omega) (by omega) (by simp; omega), if_neg (show ¬ false = true by simp), if_neg (show ¬ false = true by simp), putI, if_neg h]
        simp
    · rw [if_pos rfl, if_pos (by omega), if_pos (by omega), put_go l a hl e (i + 1) k _ true (by omega) (by omega) (by simp; omega), if_pos rfl, if_pos rfl]
      simp
theorem put_f (l : List Int) (a : Int) (hl : l.length ≤ 100) : zelligeref28_Put.f 200 l a = some (putI l a) := by
  have h := put_go l a hl l.length 0 200 [] false (by omega) (by omega) (by simp)
  unfold zelligeref28_Put.f
  rw [Int.natCast_zero] at h
  rw [h, if_neg (by simp), List.drop_zero, List.nil_append]
theorem ints_go (l : List Int) (hl : l.length ≤ 100) : ∀ (e i k : Nat), i + e = l.length → e < k → zelligeref10_Ints.l0 k l l (i : Int) = some true
  | 0, i, k, hi, hk => by
    obtain ⟨k, rfl⟩ : ∃ m, k = m + 1 := ⟨k - 1, by omega⟩
    rw [zelligeref10_Ints.l0, if_neg (by omega)]
  | e + 1, i, k, hi, hk => by
    obtain ⟨k, rfl⟩ : ∃ m, k = m + 1 := ⟨k - 1, by omega⟩
    have hw : wrap64 ((i : Int) + 1) = ((i + 1 : Nat) : Int) := by unfold wrap64; omega
    rw [zelligeref10_Ints.l0, if_pos (by omega), if_pos (by omega), if_pos (by omega), if_pos rfl, hw, ints_go l hl e (i + 1) k (by omega) (by omega)]
theorem ints_f (l : List Int) (hl : l.length ≤ 100) : zelligeref10_Ints.f 200 l l = some true := by
  unfold zelligeref10_Ints.f
  rw [if_pos rfl]
  exact ints_go l hl l.length 0 200 (by omega) (by omega)
theorem sorted_eq {l m : List Int} (hp : m.Perm l) (hs : m.Pairwise (fun x y => x ≤ y)) : l.mergeSort (fun x y => decide (x ≤ y)) = m := by
  have hq : (l.mergeSort (fun x y => decide (x ≤ y))).Pairwise (fun a c => decide (a ≤ c) = true) := List.pairwise_mergeSort (le := fun x y => decide (x ≤ y)) (fun a b c h1 h2 => by simp at *; omega) (fun a b => by simp; omega) l
  refine ((List.mergeSort_perm l _).trans hp.symm).eq_of_pairwise (le := fun a c => decide (a ≤ c) = true) (fun x y _ _ h1 h2 => ?_) hq (hs.imp (fun h => decide_eq_true h))
  simp at h1 h2; omega
end Go.Proofs.Ytngmkjgklonfmaa.Wd

/- The program's places within a distance. -/
namespace Go.Proofs.Ytngmkjgklonfmaa.Wd
open Go.RowKit Go.Proofs.ZFr Go.Proofs.Ytngmkjgklonfmaa.PNearNearest Go.Proofs.Ytngmkjgklonfmaa.Big Go.Proofs.YtngmkjgklonfmaaW.PrintWords
/-- The ids of the first k places that are no farther than r. -/
def sel (l : List (Int × Int × Int)) (n x y r : Int) : Nat → List Int
  | 0 => []
  | k + 1 => if fv l n x y k ≤ r then sel l n x y r k ++ [(l.getD k zP).1] else sel l n x y r k
theorem sel_len (l : List (Int × Int × Int)) (n x y r : Int) : ∀ k, (sel l n x y r k).length ≤ k
  | 0 => Nat.le_refl 0
  | k + 1 => by
    have := sel_len l n x y r k
    rw [sel]; split
    · rw [List.length_append]; simp; omega
    · omega
theorem sort_c (B : Nat) (p : Option Addr) (d : Nat) (xs : List Int) (w : World) (h : w.ownsRow B 3 1 (.slice p xs.length d) xs.length (xs.map (Value.int .i64))) (hl : xs.length ≤ 100) : Calls Try.prog 42 #[.slice p xs.length d] w fun e w' => e = .returned (.tuple #[]) ∧ Fr (fun k => some k = (Value.slice p xs.length d).ownBlock) w w' ∧ Kd.C (Kd.int .i64) w' p xs.length (xs.mergeSort fun x y => decide (x ≤ y)) := by
  by_cases h0 : xs = []
  · subst h0
    refine (Try.slices_Sort_int_none p d w).mono ?_
    rintro e w' ⟨rfl, rfl⟩
    exact ⟨rfl, Fr.refl _ _, ⟨by simp, by decide, fun h => absurd h (by decide)⟩⟩
  · have hpos : 0 < xs.length := List.length_pos_iff.2 h0
    obtain ⟨h1, h2 | ⟨g, cap, cur, he, hb, hg, hn, hcap, hs, ht⟩⟩ := h
    · exact absurd h2.2 (by omega)
    · simp only [Value.slice.injEq, true_and] at he
      obtain ⟨rfl, rfl⟩ := he
      have hH : Go.Sort.Holds (Value.int .i64) w g 0 xs.toArray := by
        intro j hj
        have hj' : j < xs.length := by simpa using hj
        refine ⟨?_, ZFr.blk_free hg _⟩
        rw [Nat.zero_add, ZFr.blk_cell hg j]
        have hx : (xs.map (Value.int .i64))[j]? = some (.int .i64 xs[j]) := by rw [List.getElem?_map, List.getElem?_eq_getElem hj']; rfl
        rw [← ht, List.getElem?_take, if_pos (by omega), Array.getElem?_toList] at hx
        rw [hx]
        congr 2
        rw [getElem!_pos _ j hj]; simp
      have hbk := ZFr.blk_lt hg
      have hsz : xs.toArray.size = (xs.mergeSort fun x y => decide (x ≤ y)).toArray.size := by simp
      refine (Try.slices_Sort_int g 0 d xs w hH hbk (by omega)).mono ?_
      rintro e w' ⟨rfl, n, os, rfl⟩
      have hP : Go.Sort.Holds (Value.int .i64) (Go.Sort.grow (Go.Sort.putRow (Value.int .i64) (Go.Sort.ahead w n) g 0 (xs.mergeSort fun x y => decide (x ≤ y)).toArray) os) g 0 (xs.mergeSort fun x y => decide (x ≤ y)).toArray :=
        Go.Sort.holds_grow _ _ _ _ _ _ (by simpa [Go.Sort.putRow, Go.Sort.mapBlock, Go.Sort.ahead] using hbk) (Go.Sort.holds_putRow _ _ _ _ _ _ (Go.Sort.holds_ahead _ _ _ _ _ _ hH) (by simp))
      refine ⟨rfl, ?_, ?_⟩
      · refine ⟨rfl, rfl, rfl, by simp [Go.Sort.grow, Go.Sort.putRow, Go.Sort.mapBlock, Go.Sort.ahead], fun k hk hne => ?_⟩
        have hkg : k ≠ g := fun e => hne (by simp [Value.ownBlock, e])
        have hk' : k < (Go.Sort.putRow (Value.int .i64) (Go.Sort.ahead w n) g 0 (xs.mergeSort fun x y => decide (x ≤ y)).toArray).heap.size := by simpa [Go.Sort.putRow, Go.Sort.mapBlock, Go.Sort.ahead] using hk
        show ((Go.Sort.putRow (Value.int .i64) (Go.Sort.ahead w n) g 0 (xs.mergeSort fun x y => decide (x ≤ y)).toArray).heap ++ os)[k]? = _
        rw [Array.getElem?_append_left hk']
        show (w.heap.modify g _)[k]? = _
        rw [Array.getElem?_modify, if_neg (fun h => hkg h.symm)]
      · refine ⟨by simp, by omega, fun _ => ⟨_, rfl, fun j q hj => ?_⟩⟩
        have hjl := (List.getElem?_eq_some_iff.1 hj).1
        obtain ⟨hc, _⟩ := hP j (by simpa using hjl)
        refine ⟨_, rfl, rfl, fun i u hu => ?_⟩
        match i, hu with
        | 0, hu =>
          simp at hu; subst hu
          rw [Nat.zero_add] at hc
          rw [show ((⟨g, 0, none⟩ : Addr).add (j * (Kd.int .i64).sz + 0)) = ⟨g, j, none⟩ from by rw [show (Kd.int .i64).sz = 1 from rfl, Nat.mul_one, Nat.add_zero]; unfold Addr.add; split <;> simp_all]
          have e9 : (xs.mergeSort fun x y => decide (x ≤ y)).toArray[j]! = q := by
            rw [getElem!_pos _ j (by simpa using hjl)]
            simpa using (List.getElem?_eq_some_iff.1 hj).2
          rw [e9] at hc
          exact hc
set_option maxRecDepth 100000 in
set_option maxHeartbeats 4000000 in
theorem nwithin_no (A : Option Addr) (c : Nat) (l : List S35) (n x y r : Int) (W : World) (hl : l.length ≤ 100) (hC : Kd.C k35 W A l.length l) (hc : l.length ≤ c) (hno : ¬ canD (l.map tr) n x y) : Calls Try.prog 21 #[.slice A l.length c, .int .i64 n, .agg #[.int .i64 x, .int .i64 y], .int .i64 r] W fun e w' => e = .returned (.slice none 0 0) ∧ Fr (fun _ => False) W w' := by
  obtain ⟨a, b, hf, _⟩ := ncan_f l n x y hl
  have t0 := heap_alloc_new W (Obj.cells #[Value.int IntKind.i64 x, Value.int IntKind.i64 y] 24)
  have f1 := (Fr.refl (fun _ => False) W).alloc (Obj.cells #[Value.int IntKind.i64 x, Value.int IntKind.i64 y] 24)
  have CC := Lib.hid (fun w (h : Fr (fun _ => False) W w) => Kd.C_below hC (h.below W.heap.size (Nat.le_refl _) (fun _ h => h.elim)))
  rw [decide_eq_false hno] at hf
  have NF := Lib.hid hf
  have HC := Lib.hid hc
  clear hf hC hc hno hl
  go_enter Try.func21, Try.ntmps21
  go_wp2_with fail
  generalize W.alloc (Obj.cells #[Value.int IntKind.i64 x, Value.int IntKind.i64 y] 24) = w1 at t0 f1 ⊢
  have F1 := Lib.hid f1
  obtain ⟨p1, p2⟩ := point_cells t0
  clear t0 f1
  go_wp2_with (go_at_call 29; have hc_ := near_can.calls 200 A c l n x y a b false w1 (CC.out w1 F1.out) HC.out NF.out; (with_reducible refine hc_.mono ?_); clear hc_; rintro e w2 ⟨rfl, f2⟩; have G2 := Lib.hid (Fr.of_below f2); have F2 := Lib.hid (F1.out.trans G2.out (fun _ h _ => h)); clear f2)
  go_ret
  exact ⟨rfl, F2.out.alloc _⟩
set_option maxRecDepth 100000 in
set_option maxHeartbeats 4000000 in
theorem nwithin_yes (A : Option Addr) (c : Nat) (l : List S35) (n x y r : Int) (W : World) (hl : l.length ≤ 100) (hC : Kd.C k35 W A l.length l) (hc : l.length ≤ c) (hd : canD (l.map tr) n x y) (hr : i64P r) : Calls Try.prog 21 #[.slice A l.length c, .int .i64 n, .agg #[.int .i64 x, .int .i64 y], .int .i64 r] W fun e w' => ∃ p d, e = .returned (.slice p (sel (l.map tr) n x y r l.length).length d) ∧ (sel (l.map tr) n x y r l.length).length ≤ d ∧ Kd.C (Kd.int .i64) w' p (sel (l.map tr) n x y r l.length).length ((sel (l.map tr) n x y r l.length).mergeSort fun x y => decide (x ≤ y)) ∧ Fr (fun _ => False) W w' := by
  obtain ⟨a, b, hf, hab⟩ := ncan_f l n x y hl
  obtain ⟨rfl, rfl⟩ := hab hd
  rw [decide_eq_true hd] at hf
  have t0 := heap_alloc_new W (Obj.cells #[Value.int IntKind.i64 x, Value.int IntKind.i64 y] 24)
  have f1 := (Fr.refl (fun _ => False) W).alloc (Obj.cells #[Value.int IntKind.i64 x, Value.int IntKind.i64 y] 24)
  have CC := Lib.hid (fun w (h : Fr (fun _ => False) W w) => Kd.C_below hC (h.below W.heap.size (Nat.le_refl _) (fun _ h => h.elim)))
  have PL := Lib.hid (pls_of hC)
  have NF := Lib.hid hf
  have HC := Lib.hid hc
  have hll : (l.map tr).length = l.length := List.length_map ..
  have hg : ∀ i (h : i < l.length), (l.map tr).getD i zP = tr l[i] := fun i h => by simp [List.getD, h]
  have HN := Lib.hid hd.1
  have HU := Lib.hid (show sqP (x % n) n from ⟨Int.emod_nonneg _ (by have := HN.out; omega), Int.emod_lt_of_pos _ (by have := HN.out; omega)⟩)
  have HV := Lib.hid (show sqP (y % n) n from ⟨Int.emod_nonneg _ (by have := HN.out; omega), Int.emod_lt_of_pos _ (by have := HN.out; omega)⟩)
  have FAR := Lib.hid (fun i (h : i < l.length) w => (show Calls Try.prog 30 #[.agg #[.int .i64 (x % n), .int .i64 (y % n)], .agg #[.int .i64 l[i].f1.f0, .int .i64 l[i].f1.f1], .int .i64 n] w (fun e w' => e = .returned (encW (fv (l.map tr) n x y i)) ∧ Fr (fun _ => False) w w') from by
    have hok := hd.2.2 (tr l[i]) (List.mem_map.2 ⟨_, List.getElem_mem h, rfl⟩)
    have e : fv (l.map tr) n x y i = Big.mn (x % n) (y % n) l[i].f1.f0 l[i].f1.f1 n 9 := by unfold fv; rw [hg i h]; rfl
    rw [e]
    exact nfar_walk (x % n) (y % n) l[i].f1.f0 l[i].f1.f1 n w HN.out HU.out HV.out hok.1 hok.2))
  have OF := Lib.hid (fun w => of_walk r hr.1 hr.2 w)
  unfold encW at FAR OF
  have HG := Lib.hid hg
  have HL := Lib.hid hll
  have H100 := Lib.hid hl
  obtain ⟨L, hL⟩ : ∃ L, l.map tr = L := ⟨_, rfl⟩
  rw [hL] at PL FAR HG HL ⊢
  clear hC hf hc hd hll hg hL hab hl hr
  obtain ⟨u, hu⟩ : ∃ u, x % n = u := ⟨_, rfl⟩
  obtain ⟨v, hv⟩ : ∃ v, y % n = v := ⟨_, rfl⟩
  rw [hu, hv] at NF FAR
  clear HN HU HV hu hv
  go_enter Try.func21, Try.ntmps21
  go_wp2_with fail
  generalize W.alloc (Obj.cells #[Value.int IntKind.i64 x, Value.int IntKind.i64 y] 24) = w1 at t0 f1 ⊢
  have F1 := Lib.hid f1
  obtain ⟨p1, p2⟩ := point_cells t0
  clear t0 f1
  go_wp2_with (go_at_call 29; have hc_ := near_can.calls 200 A c l n x y u v true w1 (CC.out w1 F1.out) HC.out NF.out; (with_reducible refine hc_.mono ?_); clear hc_; rintro e w2 ⟨rfl, f2⟩; have G2 := Lib.hid (Fr.of_below f2); have F2 := Lib.hid (F1.out.trans G2.out (fun _ h _ => h)); clear f2)
  have Q3 := Lib.hid (heap_alloc_new w2 (Obj.cells #[Value.int IntKind.i64 u, Value.int IntKind.i64 v] 24))
  have F3 := Lib.hid (F2.out.alloc (Obj.cells #[Value.int IntKind.i64 u, Value.int IntKind.i64 v] 24))
  generalize w2.alloc (Obj.cells #[Value.int IntKind.i64 u, Value.int IntKind.i64 v] 24) = w3 at Q3 F3 ⊢
  generalize w2.heap.size = b9 at Q3 ⊢
  clear p1 p2 F2 G2 F1
  go_loopw [25, 11] (fun i s wr => ∃ k : Nat, k ≤ l.length ∧ i = .int .i64 (k : Int) ∧ wr.ownsRow W.heap.size 3 1 s (sel L n x y r k).length ((sel L n x y r k).map (Value.int .i64)) ∧ wr.heap[b9]? = some (.cells #[.int .i64 u, .int .i64 v] 24 (0, 0)) ∧ Fr (fun _ => False) W wr) (fun i _ _ => (l.length - intOf i).toNat)
  case atStart => exact ⟨0, Nat.zero_le _, rfl, ⟨rfl, .inl ⟨rfl, rfl⟩⟩, Q3.out, F3.out⟩
  case round =>
    obtain ⟨k, hk, rfl, ho, hq, hf⟩ := hrel
    obtain ⟨p, d, rfl⟩ := row_slice ho
    have HO := Lib.hid ho
    have HQ := Lib.hid hq
    have HF := Lib.hid hf
    clear ho hq hf
    by_cases hk1 : k < l.length
    · have hkd : (k : Int) < (l.length : Int) := by omega
      have hk100 : (k : Int) < 100 := by have := H100.out; omega
      obtain ⟨ad, rfl, k0, k1, k2⟩ := (PL.out.fr HF.out) k (by rw [HL.out]; exact hk1)
      have hL0 : L[k]'(by rw [HL.out]; exact hk1) = tr (l[k]'hk1) := by have h := HG.out k hk1; simpa [List.getD, HL.out, hk1] using h
      rw [hL0] at k0 k1 k2
      have hf0 := FAR.out k hk1
      obtain ⟨z1, hz1⟩ : ∃ z, (l[k]'hk1).f0 = z := ⟨_, rfl⟩
      have k0' : wr.cell? (ad.add (k * 3)) = some (.int .i64 z1) := hz1 ▸ k0
      have HZ1 := Lib.hid (show (L.getD k zP).1 = z1 from by rw [HG.out k hk1]; exact hz1)
      obtain ⟨X1, hX1⟩ : ∃ z, (l[k]'hk1).f1.f0 = z := ⟨_, rfl⟩
      obtain ⟨Y1, hY1⟩ : ∃ z, (l[k]'hk1).f1.f1 = z := ⟨_, rfl⟩
      have k1' : wr.cell? ⟨(ad.add (k * 3)).block, (ad.add (k * 3)).off + 1, none⟩ = some (.int .i64 X1) := hX1 ▸ k1
      have k2' : wr.cell? ⟨(ad.add (k * 3)).block, (ad.add (k * 3)).off + 2, none⟩ = some (.int .i64 Y1) := hY1 ▸ k2
      rw [hX1, hY1] at hf0
      have FAR1 := Lib.hid hf0
      have HK1 := Lib.hid hk1
      have hks := sel_len L n x y r k
      clear hf0 k0 k1 k2 hz1 hX1 hY1 hL0 hk1 hk
      obtain ⟨D1, hD1⟩ : ∃ z, fv L n x y k = z := ⟨_, rfl⟩
      have HSE := Lib.hid (show sel L n x y r (k + 1) = if D1 ≤ r then sel L n x y r k ++ [z1] else sel L n x y r k from by rw [sel, hD1, HZ1.out])
      rw [hD1] at FAR1
      clear hD1
      obtain ⟨q, hq⟩ : ∃ q, cmpW D1 r = q := ⟨_, rfl⟩
      have CM := Lib.hid (fun w => cmp_walk D1 r w)
      rw [hq] at CM
      have HQ2 := Lib.hid (show q ≤ 0 ↔ D1 ≤ r from by rw [← hq]; unfold cmpW; split <;> (try split) <;> omega)
      clear hq
      unfold encW at CM
      have q1 : ∀ o, (wr.alloc o).cell? ⟨b9, 0, none⟩ = some (.int .i64 u) := fun o => (point_cells (ZFr.blk_alloc HQ.out o)).1
      have q2 : ∀ o, (wr.alloc o).cell? ⟨b9, 1, none⟩ = some (.int .i64 v) := fun o => (point_cells (ZFr.blk_alloc HQ.out o)).2
      obtain ⟨m, hm⟩ : ∃ m, (sel L n x y r k).length = m := ⟨_, rfl⟩
      have HM := Lib.hid hm
      rw [hm] at HO hks ⊢
      clear hm
      obtain ⟨i0, hi0, hz0, hz1, hz2⟩ := info_parts info3
      by_cases hle : D1 ≤ r
      · have hq0 : q ≤ 0 := HQ2.out.2 hle
        have HS1 := Lib.hid (HSE.out.trans (if_pos hle))
        clear hle
        go_wp2_with (first
          | (go_at_call 31; have hc_ := CM.out w6; (with_reducible refine hc_.mono ?_); clear hc_; rintro e w7 ⟨rfl, f7⟩; have F7 := Lib.hid (F6.out.trans f7 (fun _ h _ => h)); have P7 := Lib.hid (ZFr.blk_fr P6.out f7 (fun h => h)); have s7 := (ZFr.blk_cell P7.out 0); simp at s7; clear f7)
          | (go_at_call 41; have hc_ := OF.out w5; (with_reducible refine hc_.mono ?_); clear hc_; rintro e w6 ⟨rfl, f6⟩; have F6 := Lib.hid (F5.out.trans f6 (fun _ h _ => h)); have P6 := Lib.hid (ZFr.blk_fr P5.out f6 (fun h => h)); clear f6)
          | (go_at_call 30; have hc_ := FAR1.out (wr.alloc (Obj.cells #[Value.int IntKind.i64 z1, Value.int IntKind.i64 X1, Value.int IntKind.i64 Y1] 35)); (with_reducible refine hc_.mono ?_); clear hc_; rintro e w5 ⟨rfl, f5⟩; have F5 := Lib.hid (((Fr.refl (fun _ => False) wr).alloc _).trans f5 (fun _ h _ => h)); have P5 := Lib.hid (ZFr.blk_fr (heap_alloc_new wr _) f5 (fun h => h)); clear f5)
          | (at_builtin; refine wpList_append_own_at _ rfl (.tmp 38) (.tmp 41) 37 rfl W.heap.size 3 i0 _ 1 8 Try.underlying37 hi0 hz0 hz1 hz2 rfl (by decide) (.slice p m d) m ((sel L n x y r k).map (Value.int .i64)) rfl ((row_fr HO.out F7.out (fun _ _ h => h)).alloc _) ⟨w7.heap.size, 0, none⟩ 1 1 [.int .i64 z1] rfl rfl ?d1 ?d2 ?d3 ?d4 ?d5 ?more))
        case more =>
          intro v2 w8 hown2 hgrow _ _
          rw [show (sel L n x y r k).map (Value.int .i64) ++ [Value.int .i64 z1] = (sel L n x y r (k + 1)).map (Value.int .i64) from by rw [HS1.out, List.map_append]; rfl] at hown2
          have HO3 := Lib.hid hown2
          have HG3 := Lib.hid hgrow
          clear hown2 hgrow
          go_wp2_with fail
          go_roundw
          case rel =>
            have hq8 := ZFr.blk_alloc (ZFr.blk_fr HQ.out F7.out (fun h => h)) (Obj.cells #[Value.int .i64 z1] 3)
            refine ⟨k + 1, HK1.out, rfl, ?_, ZFr.blk_grown hq8 HG3.out (row_ne ((row_fr HO.out F7.out (fun _ _ h => h)).alloc _) hq8 (by decide)), ((HF.out.trans F7.out (fun _ h _ => h)).alloc _).grown HG3.out (fun i hi => .inr (row_base HO.out i hi).1)⟩
            rw [show (sel L n x y r (k + 1)).length = m + 1 from by rw [HS1.out, List.length_append, HM.out]; rfl]
            exact HO3.out
          case measure => have := HK1.out; simp [intOf]; omega
        case d1 => intro i x hj; match i, hj with | 0, hj => simp at hj; subst hj; exact new_cell w7 w7.heap.size _ _ rfl 0
        case d2 => intro i hi; simp at hi; subst hi; rfl
        case d3 => unfold maxLen; omega
        case d4 => omega
        case d5 => have e1 := HF.out.size; have e2 := F7.out.size; simp; omega
      · have hq0 : ¬ q ≤ 0 := fun h => hle (HQ2.out.1 h)
        have HS1 := Lib.hid (HSE.out.trans (if_neg hle))
        clear hle
        go_wp2_with (first
          | (go_at_call 31; have hc_ := CM.out w6; (with_reducible refine hc_.mono ?_); clear hc_; rintro e w7 ⟨rfl, f7⟩; have F7 := Lib.hid (F6.out.trans f7 (fun _ h _ => h)); have P7 := Lib.hid (ZFr.blk_fr P6.out f7 (fun h => h)); have s7 := (ZFr.blk_cell P7.out 0); simp at s7; clear f7)
          | (go_at_call 41; have hc_ := OF.out w5; (with_reducible refine hc_.mono ?_); clear hc_; rintro e w6 ⟨rfl, f6⟩; have F6 := Lib.hid (F5.out.trans f6 (fun _ h _ => h)); have P6 := Lib.hid (ZFr.blk_fr P5.out f6 (fun h => h)); clear f6)
          | (go_at_call 30; have hc_ := FAR1.out (wr.alloc (Obj.cells #[Value.int IntKind.i64 z1, Value.int IntKind.i64 X1, Value.int IntKind.i64 Y1] 35)); (with_reducible refine hc_.mono ?_); clear hc_; rintro e w5 ⟨rfl, f5⟩; have F5 := Lib.hid (((Fr.refl (fun _ => False) wr).alloc _).trans f5 (fun _ h _ => h)); have P5 := Lib.hid (ZFr.blk_fr (heap_alloc_new wr _) f5 (fun h => h)); clear f5))
        go_roundw
        case rel =>
          refine ⟨k + 1, HK1.out, rfl, ?_, ZFr.blk_fr HQ.out F7.out (fun h => h), HF.out.trans F7.out (fun _ h _ => h)⟩
          rw [HS1.out, HM.out]
          exact row_fr HO.out F7.out (fun _ _ h => h)
        case measure => have := HK1.out; simp [intOf]; omega
    · obtain rfl : k = l.length := by omega
      have hks := sel_len L n x y r l.length
      have SC := Lib.hid (sort_c W.heap.size p d (sel L n x y r l.length) wr HO.out (by have := H100.out; omega))
      have HD := Lib.hid (show (sel L n x y r l.length).length ≤ d from by
        rcases HO.out.2 with ⟨e, h⟩ | ⟨g, cap, cur, e, _, _, h, _⟩
        · omega
        · simp at e; omega)
      go_wp2_with (go_at_call 42; have hc_ := SC.out; (with_reducible refine hc_.mono ?_); clear hc_; rintro e w4 ⟨rfl, f4, c4⟩; have F4 := Lib.hid f4; have C4 := Lib.hid c4; clear f4 c4)
      go_ret
      exact ⟨p, d, rfl, HD.out, C4.out, HF.out.trans F4.out (fun i hi hl => absurd (row_base HO.out i hi.symm).1 (by omega))⟩
end Go.Proofs.Ytngmkjgklonfmaa.Wd

/- The document's places within a distance. -/
namespace Go.Proofs.Ytngmkjgklonfmaa.Wd
open Go.RowKit Go.Proofs.ZFr Go.Proofs.Ytngmkjgklonfmaa.PNearNearest Go.Proofs.Ytngmkjgklonfmaa.Big Go.Proofs.YtngmkjgklonfmaaW.PrintWords
def insW (l : List (Int × Int × Int)) (n x y r : Int) : Nat → List Int
  | 0 => []
  | k + 1 => if fv l n x y k ≤ r then putI (insW l n x y r k) (l.getD k zP).1 else insW l n x y r k
theorem insW_perm (l : List (Int × Int × Int)) (n x y r : Int) : ∀ k, (insW l n x y r k).Perm (sel l n x y r k) ∧ (insW l n x y r k).Pairwise (fun x y => x ≤ y)
  | 0 => ⟨List.Perm.refl _, List.Pairwise.nil⟩
  | k + 1 => by
    obtain ⟨h1, h2⟩ := insW_perm l n x y r k
    rw [insW, sel]; split
    · exact ⟨(putI_perm _ _).trans (h1.append_right _), putI_sorted _ _ h2⟩
    · exact ⟨h1, h2⟩
theorem insW_len (l : List (Int × Int × Int)) (n x y r : Int) (k : Nat) : (insW l n x y r k).length ≤ k := by
  rw [(insW_perm l n x y r k).1.length_eq]; exact sel_len l n x y r k
set_option maxRecDepth 100000 in
set_option maxHeartbeats 4000000 in
theorem rwithin_walk (A : Option Addr) (c : Nat) (l : List (Int × Int × Int)) (n x y r : Int) (w : World) (hl : l.length ≤ 100) (hp : Pls w A l) (hc : canD l n x y) (hr : i64P r) : Calls Try.prog 23 #[.slice A l.length c, .int .i64 n, .agg #[.int .i64 x, .int .i64 y], .int .i64 r] w fun e w' => ∃ p d, e = .returned (.slice p (insW l n x y r l.length).length d) ∧ (insW l n x y r l.length).length ≤ d ∧ Kd.C (Kd.int .i64) w' p (insW l n x y r l.length).length (insW l n x y r l.length) ∧ Fr (fun _ => False) w w' := by
  have HP := Lib.hid hp
  have HC := Lib.hid hc
  have HR := Lib.hid hr
  have H100 := Lib.hid hl
  clear hp hc hr hl
  have HN := Lib.hid HC.out.1
  have HU := Lib.hid (show sqP (x % n) n from ⟨Int.emod_nonneg _ (by have := HN.out; omega), Int.emod_lt_of_pos _ (by have := HN.out; omega)⟩)
  have HV := Lib.hid (show sqP (y % n) n from ⟨Int.emod_nonneg _ (by have := HN.out; omega), Int.emod_lt_of_pos _ (by have := HN.out; omega)⟩)
  have hfv : ∀ i (h : i < l.length), fv l n x y i = Big.mn (x % n) (y % n) l[i].2.1 l[i].2.2 n 9 := fun i h => by unfold fv; rw [show l.getD i zP = l[i] from by simp [List.getD, h]]
  have hhome := fun W => home_walk x y n W HC.out.2.1.1 HC.out.2.1.2 HC.out.1
  have FAR := Lib.hid (fun i (h : i < l.length) w => (show Calls Try.prog 15 #[.agg #[.int .i64 (x % n), .int .i64 (y % n)], .agg #[.int .i64 l[i].2.1, .int .i64 l[i].2.2], .int .i64 n] w (fun e w' => ∃ v, e = .returned v ∧ Whole w' (fun _ => False) v (fv l n x y i) ∧ Fr (fun _ => False) w w') from by
    have hok := HC.out.2.2 _ (List.getElem_mem h)
    rw [hfv i h]
    exact far_walk (x % n) (y % n) l[i].2.1 l[i].2.2 n (fun _ => False) w (fun _ h => h.elim) HN.out HU.out HV.out hok.1 hok.2))
  have LF := Lib.hid (fun i (h : i < l.length) => (show (dg (fv l n x y i).natAbs).length < 800 from by
    have hok := HC.out.2.2 _ (List.getElem_mem h)
    rw [hfv i h]; exact mn_len ⟨HN.out, HU.out, HV.out, hok.1, hok.2⟩ 9 (by decide)))
  have LR := Lib.hid (len4 HR.out.1 HR.out.2)
  have LO := Lib.hid (fun w => long_c r HR.out.1 HR.out.2 (fun _ => False) w (fun _ h => h.elim))
  clear hfv
  obtain ⟨u, hu⟩ : ∃ u, x % n = u := ⟨_, rfl⟩
  obtain ⟨v, hv⟩ : ∃ v, y % n = v := ⟨_, rfl⟩
  obtain ⟨ou, hou⟩ : ∃ u, x / n = u := ⟨_, rfl⟩
  obtain ⟨ov, hov⟩ : ∃ v, y / n = v := ⟨_, rfl⟩
  rw [hu, hv] at FAR
  rw [hu, hv, hou, hov] at hhome
  have HH := Lib.hid hhome
  clear hhome HU HV HN hu hv hou hov
  have F0 := Lib.hid ((Fr.refl (fun _ => False) w).alloc (Obj.cells #[Value.int IntKind.i64 x, Value.int IntKind.i64 y] 24))
  go_enter Try.func23, Try.ntmps23
  go_wp2_with (go_at_call 33; have hc_ := HH.out (w.alloc (Obj.cells #[Value.int IntKind.i64 x, Value.int IntKind.i64 y] 24)); (with_reducible refine hc_.mono ?_); clear hc_; rintro e w2 ⟨rfl, f2⟩; have F2 := Lib.hid (F0.out.trans f2 (fun _ h _ => h)); clear f2)
  have t3 := ZFr.blk_alloc (ZFr.blk_alloc (heap_alloc_new w2 (Obj.cells #[Value.int IntKind.i64 u, Value.int IntKind.i64 v] 24)) (Obj.cells #[Value.int IntKind.i64 ou, Value.int IntKind.i64 ov] 59)) (Obj.cells #[] 3)
  have f3 := ((F2.out.alloc (Obj.cells #[Value.int IntKind.i64 u, Value.int IntKind.i64 v] 24)).alloc (Obj.cells #[Value.int IntKind.i64 ou, Value.int IntKind.i64 ov] 59)).alloc (Obj.cells #[] 3)
  generalize ((w2.alloc (Obj.cells #[Value.int IntKind.i64 u, Value.int IntKind.i64 v] 24)).alloc (Obj.cells #[Value.int IntKind.i64 ou, Value.int IntKind.i64 ov] 59)).alloc (Obj.cells #[] 3) = w3 at t3 f3 ⊢
  have T3 := Lib.hid t3
  have F3 := Lib.hid f3
  clear t3 f3
  generalize w2.heap.size = b9 at T3 ⊢
  go_loopw [12, 13] (fun s i wr => ∃ k : Nat, k ≤ l.length ∧ i = .int .i64 (k : Int) ∧ (∃ p d, s = .slice p (insW l n x y r k).length d ∧ (insW l n x y r k).length ≤ d ∧ Kd.C (Kd.int .i64) wr p (insW l n x y r k).length (insW l n x y r k)) ∧ wr.heap[b9]? = some (.cells #[.int .i64 u, .int .i64 v] 24 (0, 0)) ∧ Fr (fun _ => False) w wr) (fun _ i _ => (l.length - intOf i).toNat)
  case atStart => exact ⟨0, Nat.zero_le _, rfl, ⟨_, _, rfl, Nat.le_refl _, ⟨rfl, Nat.zero_le _, fun h => absurd h (Nat.lt_irrefl 0)⟩⟩, T3.out, F3.out⟩
  case round =>
    obtain ⟨k, hk, rfl, ⟨p, d, rfl, hd, hcs⟩, hq, hf⟩ := hrel
    have HD := Lib.hid hd
    have HCS := Lib.hid hcs
    have HQ := Lib.hid hq
    have HF := Lib.hid hf
    clear hd hcs hq hf
    by_cases hk1 : k < l.length
    · have hkd : (k : Int) < (l.length : Int) := by omega
      have hk100 : (k : Int) < 100 := by have := H100.out; omega
      obtain ⟨ad, rfl, k0, k1, k2⟩ := (HP.out.fr HF.out) k hk1
      have FAR1 := Lib.hid (FAR.out k hk1)
      have LF1 := Lib.hid (LF.out k hk1)
      have HK1 := Lib.hid hk1
      have hks := insW_len l n x y r k
      have HSE := Lib.hid (show insW l n x y r (k + 1) = if fv l n x y k ≤ r then putI (insW l n x y r k) l[k].1 else insW l n x y r k from by rw [insW, show l.getD k zP = l[k] from by rw [List.getD_eq_getElem?_getD, List.getElem?_eq_getElem hk1]; rfl])
      generalize l[k].1 = z1 at k0 HSE
      generalize l[k].2.1 = X1 at k1 FAR1
      generalize l[k].2.2 = Y1 at k2 FAR1
      generalize fv l n x y k = D1 at FAR1 LF1 HSE
      obtain ⟨q, hq⟩ : ∃ q, sg (D1 - r) = q := ⟨_, rfl⟩
      have HQ1 := Lib.hid hq
      have HQ2 := Lib.hid (show q ≤ 0 ↔ D1 ≤ r from by rw [← hq, (sg_le _).1]; omega)
      clear hq hk
      obtain ⟨m, hm⟩ : ∃ m, (insW l n x y r k).length = m := ⟨_, rfl⟩
      have HM := Lib.hid hm
      have PP := Lib.hid (fun w (h : Fr (fun _ => False) wr w) => (show Calls Try.prog 44 #[.slice p m d, .int .i64 z1] w (fun e w' => ∃ p' d', e = .returned (.slice p' (m + 1) d') ∧ m + 1 ≤ d' ∧ Kd.C (Kd.int .i64) w' p' (m + 1) (putI (insW l n x y r k) z1) ∧ Fr (fun _ => False) w w') from by
        have h9 := PNearWithin.zelligeref28_Put.calls 200 p d (insW l n x y r k) z1 _ w (Kd.C_below HCS.out (h.below wr.heap.size (Nat.le_refl _) (fun _ h => h.elim))) HD.out (put_f (insW l n x y r k) z1 (by have := H100.out; omega))
        rw [hm] at h9
        refine h9.mono ?_
        rintro e w' ⟨v0, rfl, hR, hb⟩
        obtain ⟨p', d', rfl, h1, h2⟩ := Kd.R_reads hR
        rw [putI_len, hm] at h1 h2
        exact ⟨p', d', by rw [putI_len, hm], h1, h2, Fr.of_below hb⟩))
      rw [hm] at HD HCS hks ⊢
      clear hm
      have PG := Lib.hid (fun w' (h : Fr (fun _ => False) wr w') => And.intro (point_cells (ZFr.blk_fr HQ.out h (fun h => h))).1 (And.intro (point_cells (ZFr.blk_fr HQ.out h (fun h => h))).2 (And.intro (fr_cell k1 h) (And.intro (show w'.cell? ⟨(ad.add (k * 3)).block, (ad.add (k * 3)).off + 1 + 1, none⟩ = some (.int .i64 Y1) from fr_cell k2 h) (fr_cell k0 h)))))
      clear k0 k1 k2
      by_cases hle : D1 ≤ r
      · have hq0 : q ≤ 0 := HQ2.out.2 hle
        have HS1 := Lib.hid (HSE.out.trans (if_pos hle))
        clear hle
        obtain ⟨s1, s2, s3, s4, s5⟩ := PG.out wr.drew (Fr.refl _ wr).drew
        go_wp2_with fail
        go_region_held3 (fun w' => w'.cell? ⟨b9, 0, none⟩ = some (.int .i64 u) ∧ w'.cell? ⟨b9, 1, none⟩ = some (.int .i64 v) ∧ w'.cell? ⟨(ad.add (k * 3)).block, (ad.add (k * 3)).off + 1, none⟩ = some (.int .i64 X1) ∧ w'.cell? ⟨(ad.add (k * 3)).block, (ad.add (k * 3)).off + 1 + 1, none⟩ = some (.int .i64 Y1))
          (refine ⟨?_, ?_, ?_, ?_⟩ <;> first | with_reducible assumption)
          (first
            | ((go_at_call 13; have hc_ := Big.cmp_walk D1 r _ _ (fun _ => False) w6 (fun _ h => h.elim) (Whole.mk (H5.out.fr K6.out (fun _ h => h))) (Whole.mk H6.out) LF1.out LR.out; rw [HQ1.out] at hc_; (with_reducible refine hc_.mono ?_); clear hc_; rintro e w7 ⟨rfl, f7⟩; have K7 := Lib.hid f7; have E7 := Lib.hid (E6.out.trans f7 (fun _ h _ => h)); obtain ⟨s71, s72, s73, s74, _⟩ := PG.out w7 E7.out; clear f7))
            | ((go_at_call 43; have hc_ := LO.out w5; (with_reducible refine hc_.mono ?_); clear hc_; rintro e w6 ⟨v6, rfl, h6, f6⟩; obtain ⟨y6, rfl, h6⟩ := h6; obtain ⟨A6, c6, rfl⟩ := h6.slice; have H6 := Lib.hid h6; clear h6; have K6 := Lib.hid f6; have E6 := Lib.hid (E5.out.trans f6 (fun _ h _ => h)); obtain ⟨s61, s62, s63, s64, _⟩ := PG.out w6 E6.out; clear f6))
            | ((go_at_call 15; have hc_ := FAR1.out wr.drew; (with_reducible refine hc_.mono ?_); clear hc_; rintro e w5 ⟨v5, rfl, h5, f5⟩; obtain ⟨y5, rfl, h5⟩ := h5; obtain ⟨A5, c5, rfl⟩ := h5.slice; have H5 := Lib.hid h5; clear h5; have K5 := Lib.hid f5; have E5 := Lib.hid ((Fr.refl (fun _ => False) wr).drew.trans f5 (fun _ h _ => h)); obtain ⟨s51, s52, s53, s54, _⟩ := PG.out w5 E5.out; clear f5)))
        all_goals
          go_wp2_with (go_at_call 44; have hc_ := PP.out w7 E7.out; (with_reducible refine hc_.mono ?_); clear hc_; rintro e w8 ⟨p8, d8, rfl, m8, c8, f8⟩; have M8 := Lib.hid m8; have C8 := Lib.hid c8; have E8 := Lib.hid (E7.out.trans f8 (fun _ h _ => h)); clear m8 c8 f8)
          go_roundw
          case rel =>
            have hl8 : (insW l n x y r (k + 1)).length = m + 1 := by rw [HS1.out, putI_len, HM.out]
            refine ⟨k + 1, HK1.out, rfl, ⟨p8, d8, by rw [hl8], by rw [hl8]; exact M8.out, ?_⟩, ZFr.blk_fr HQ.out E8.out (fun h => h), HF.out.trans E8.out (fun _ h _ => h)⟩
            rw [hl8, HS1.out]
            exact C8.out
          case measure => have := HK1.out; simp [intOf]; omega
      · have hq0 : ¬ q ≤ 0 := fun h => hle (HQ2.out.1 h)
        have HS1 := Lib.hid (HSE.out.trans (if_neg hle))
        clear hle
        obtain ⟨s1, s2, s3, s4, s5⟩ := PG.out wr.drew (Fr.refl _ wr).drew
        go_wp2_with fail
        go_region_held3 (fun w' => w'.cell? ⟨b9, 0, none⟩ = some (.int .i64 u) ∧ w'.cell? ⟨b9, 1, none⟩ = some (.int .i64 v) ∧ w'.cell? ⟨(ad.add (k * 3)).block, (ad.add (k * 3)).off + 1, none⟩ = some (.int .i64 X1) ∧ w'.cell? ⟨(ad.add (k * 3)).block, (ad.add (k * 3)).off + 1 + 1, none⟩ = some (.int .i64 Y1))
          (refine ⟨?_, ?_, ?_, ?_⟩ <;> first | with_reducible assumption)
          (first
            | ((go_at_call 13; have hc_ := Big.cmp_walk D1 r _ _ (fun _ => False) w6 (fun _ h => h.elim) (Whole.mk (H5.out.fr K6.out (fun _ h => h))) (Whole.mk H6.out) LF1.out LR.out; rw [HQ1.out] at hc_; (with_reducible refine hc_.mono ?_); clear hc_; rintro e w7 ⟨rfl, f7⟩; have K7 := Lib.hid f7; have E7 := Lib.hid (E6.out.trans f7 (fun _ h _ => h)); obtain ⟨s71, s72, s73, s74, _⟩ := PG.out w7 E7.out; clear f7))
            | ((go_at_call 43; have hc_ := LO.out w5; (with_reducible refine hc_.mono ?_); clear hc_; rintro e w6 ⟨v6, rfl, h6, f6⟩; obtain ⟨y6, rfl, h6⟩ := h6; obtain ⟨A6, c6, rfl⟩ := h6.slice; have H6 := Lib.hid h6; clear h6; have K6 := Lib.hid f6; have E6 := Lib.hid (E5.out.trans f6 (fun _ h _ => h)); obtain ⟨s61, s62, s63, s64, _⟩ := PG.out w6 E6.out; clear f6))
            | ((go_at_call 15; have hc_ := FAR1.out wr.drew; (with_reducible refine hc_.mono ?_); clear hc_; rintro e w5 ⟨v5, rfl, h5, f5⟩; obtain ⟨y5, rfl, h5⟩ := h5; obtain ⟨A5, c5, rfl⟩ := h5.slice; have H5 := Lib.hid h5; clear h5; have K5 := Lib.hid f5; have E5 := Lib.hid ((Fr.refl (fun _ => False) wr).drew.trans f5 (fun _ h _ => h)); obtain ⟨s51, s52, s53, s54, _⟩ := PG.out w5 E5.out; clear f5)))
        all_goals
          go_wp2_with fail
          go_roundw
          case rel =>
            refine ⟨k + 1, HK1.out, rfl, ⟨p, d, by rw [HS1.out, HM.out], by rw [HS1.out, HM.out]; exact HD.out, ?_⟩, ZFr.blk_fr HQ.out E7.out (fun h => h), HF.out.trans E7.out (fun _ h _ => h)⟩
            rw [HS1.out, HM.out]
            exact Kd.C_below HCS.out (E7.out.below wr.heap.size (Nat.le_refl _) (fun _ h => h.elim))
          case measure => have := HK1.out; simp [intOf]; omega
    · obtain rfl : k = l.length := by omega
      go_wp2_with fail
      go_ret
      exact ⟨p, d, rfl, HD.out, HCS.out, HF.out⟩
end Go.Proofs.Ytngmkjgklonfmaa.Wd

/- The law NearWithin walked. -/
namespace Go.Proofs.Ytngmkjgklonfmaa.Wd
open Go.RowKit Go.Proofs.ZFr Go.Proofs.Ytngmkjgklonfmaa.PNearNearest Go.Proofs.Ytngmkjgklonfmaa.Big Go.Proofs.YtngmkjgklonfmaaW.PrintWords
theorem at_cells {w : World} {b : Nat} {n x y : Int} (h : w.heap[b]? = some (.cells #[.int .i64 n, .int .i64 x, .int .i64 y] 53 (0, 0))) : w.cell? ⟨b, 0, none⟩ = some (.int .i64 n) ∧ w.cell? ⟨b, 1, none⟩ = some (.int .i64 x) ∧ w.cell? ⟨b, 2, none⟩ = some (.int .i64 y) := ⟨ZFr.blk_cell h 0, ZFr.blk_cell h 1, ZFr.blk_cell h 2⟩
set_option maxRecDepth 100000 in
set_option maxHeartbeats 4000000 in
theorem law_within (A : Option Addr) (c : Nat) (l : List S35) (n x y r : Int) (W : World) (hC : Kd.C k35 W A l.length l) (hc : l.length ≤ c) (hx : i64P x) (hy : i64P y) (hr : i64P r) : Calls Try.prog 6 #[.slice A l.length c, .agg #[.int .i64 n, .int .i64 x, .int .i64 y], .int .i64 r] W fun e w' => e = .returned (.bool true) ∧ Fr (fun _ => False) W w' := by
  have LV := Lib.hid lives28
  have T0 := Lib.hid (heap_alloc_new W (Obj.cells #[Value.int IntKind.i64 n, Value.int IntKind.i64 x, Value.int IntKind.i64 y] 53))
  have F0 := Lib.hid ((Fr.refl (fun _ => False) W).alloc (Obj.cells #[Value.int IntKind.i64 n, Value.int IntKind.i64 x, Value.int IntKind.i64 y] 53))
  have CW := Lib.hid (Kd.C_below hC (F0.out.below W.heap.size (Nat.le_refl _) (fun _ h => h.elim)))
  have HC := Lib.hid hc
  have FE := Lib.hid (few_f l)
  have h8 : (l.take 8).length ≤ 8 := by rw [List.length_take]; omega
  obtain ⟨m, hm⟩ : ∃ m, (l.take 8).length = m := ⟨_, rfl⟩
  obtain ⟨LL, hLL⟩ : ∃ LL, l.take 8 = LL := ⟨_, rfl⟩
  rw [hLL] at FE hm h8
  have HM := Lib.hid hm
  have H8 := Lib.hid h8
  have HX := Lib.hid hx
  have HY := Lib.hid hy
  have HR := Lib.hid hr
  clear hC hc hLL hm h8 hx hy hr
  go_enter Try.func6, Try.ntmps6
  go_wp2_with fail
  generalize W.alloc (Obj.cells #[Value.int IntKind.i64 n, Value.int IntKind.i64 x, Value.int IntKind.i64 y] 53) = w1 at T0 F0 CW ⊢
  go_upto_region 2 with (go_at_call 8; have hc_ := zelligelaw28_few.calls A c l LL w1 CW.out HC.out FE.out; (with_reducible refine hc_.mono ?_); clear hc_; rintro e w2 ⟨v2, rfl, r2, f2⟩; have G2 := Lib.hid (Fr.of_below f2); obtain ⟨A2, c2, rfl, hc2, hC2⟩ := Kd.R_reads r2; rw [HM.out] at hc2; have C2 := Lib.hid hC2; have HC2 := Lib.hid hc2; rw [HM.out]; have F2 := Lib.hid (F0.out.trans G2.out (fun _ h _ => h)); have T2 := Lib.hid (ZFr.blk_fr T0.out G2.out (fun h => h)); clear r2 f2 hc2 hC2)
  have HLl := Lib.hid (show (LL.map tr).length = m from by rw [List.length_map]; exact HM.out)
  have PL2 := Lib.hid (pls_of (show Kd.C k35 w2 A2 LL.length LL from by exact C2.out))
  have h2c : m ≤ c2 := HC2.out
  have hm8 : m ≤ 8 := by rw [← HM.out]; exact H8.out
  have CAN := Lib.hid (fun w (h : Fr (fun _ => False) w2 w) => (show Calls Try.prog 10 #[.slice A2 m c2, .int .i64 n, .agg #[.int .i64 x, .int .i64 y]] w (fun e w' => e = .returned (.bool (decide (canD (LL.map tr) n x y))) ∧ Fr (fun _ => False) w w') from by
    have h9 := can28_walk A2 c2 (LL.map tr) n x y w (by rw [HLl.out]; omega) (PL2.out.fr h) HX.out HY.out
    rw [HLl.out] at h9
    exact h9))
  obtain ⟨p1, p2, p3⟩ := at_cells T2.out
  by_cases hyes : canD (LL.map tr) n x y
  · obtain ⟨IL, hIL⟩ : ∃ IL, insW (LL.map tr) n x y r m = IL := ⟨_, rfl⟩
    have hpm := insW_perm (LL.map tr) n x y r m
    rw [hIL] at hpm
    obtain ⟨IM, hIM⟩ : ∃ IM, IL.length = IM := ⟨_, rfl⟩
    have hsl : (sel (LL.map tr) n x y r m).length = IM := by rw [← hpm.1.length_eq, hIM]
    have hse := sorted_eq hpm.1 hpm.2
    have NE := Lib.hid (show Calls Try.prog 21 #[.slice A2 m c2, .int .i64 n, .agg #[.int .i64 x, .int .i64 y], .int .i64 r] w2 (fun e w' => ∃ p d, e = .returned (.slice p IM d) ∧ IM ≤ d ∧ Kd.C (Kd.int .i64) w' p IM IL ∧ Fr (fun _ => False) w2 w') from by
      have h9 := nwithin_yes A2 c2 LL n x y r w2 (by rw [HM.out]; omega) C2.out (by rw [HM.out]; exact h2c) hyes HR.out
      rw [HM.out, hsl, hse] at h9
      exact h9)
    have RE := Lib.hid (fun w (h : Fr (fun _ => False) w2 w) => (show Calls Try.prog 23 #[.slice A2 m c2, .int .i64 n, .agg #[.int .i64 x, .int .i64 y], .int .i64 r] w (fun e w' => ∃ p d, e = .returned (.slice p IM d) ∧ IM ≤ d ∧ Kd.C (Kd.int .i64) w' p IM IL ∧ Fr (fun _ => False) w w') from by
      have h9 := rwithin_walk A2 c2 (LL.map tr) n x y r w (by rw [HLl.out]; omega) (PL2.out.fr h) hyes HR.out
      rw [HLl.out, hIL, hIM] at h9
      exact h9))
    have hil : IL.length ≤ 100 := by
      have h9 := insW_len (LL.map tr) n x y r m
      rw [hIL] at h9
      omega
    have IC := Lib.hid (fun w A0 c0 A1 c1 (h0 : Kd.C (Kd.int .i64) w A0 IM IL) (hc0 : IM ≤ c0) (h1 : Kd.C (Kd.int .i64) w A1 IM IL) (hc1 : IM ≤ c1) => (show Calls Try.prog 22 #[.slice A0 IM c0, .slice A1 IM c1] w (fun e w' => e = .returned (.bool true) ∧ Drawn0 w w') from by
      rw [← hIM] at h0 hc0 h1 hc1 ⊢
      exact PNearWithin.zelligeref10_Ints.calls 200 A0 c0 IL A1 c1 IL true w h0 hc0 h1 hc1 (ints_f IL hil)))
    rw [decide_eq_true hyes] at CAN
    clear hyes hIL hpm hIM hsl hse hil h2c hm8 PL2
    go_wp2_with (first
      | (go_at_call 11; have hc_ := LV.out w6; (with_reducible refine hc_.mono ?_); clear hc_; rintro e w7 ⟨rfl, f7⟩; have F7 := Lib.hid (F6.out.trans f7 (fun _ h _ => h)); clear f7)
      | (go_at_call 22; have hc_ := IC.out w5 p3_ d3_ p5_ d5_ (Kd.C_below C3.out ((K4.out.trans K5.out (fun _ h _ => h)).below w3.heap.size (Nat.le_refl _) (fun _ h => h.elim))) M3.out C5.out M5.out; (with_reducible refine hc_.mono ?_); clear hc_; rintro e w6 ⟨rfl, f6⟩; have F6 := Lib.hid (F5.out.trans (fr_drawn f6) (fun _ h _ => h)); clear f6)
      | (go_at_call 23; have hc_ := RE.out w4 F4.out; (with_reducible refine hc_.mono ?_); clear hc_; rintro e w5 ⟨p5_, d5_, rfl, m5, c5, f5⟩; have M5 := Lib.hid m5; have C5 := Lib.hid c5; have K5 := Lib.hid f5; have F5 := Lib.hid (F4.out.trans f5 (fun _ h _ => h)); clear m5 c5 f5)
      | (go_at_call 10; have hc_ := CAN.out w3 F3.out; (with_reducible refine hc_.mono ?_); clear hc_; rintro e w4 ⟨rfl, f4⟩; have K4 := Lib.hid f4; have F4 := Lib.hid (F3.out.trans f4 (fun _ h _ => h)); obtain ⟨r1, r2, r3⟩ := at_cells (ZFr.blk_fr T2.out F4.out (fun h => h)); clear f4)
      | (go_at_call 21; have hc_ := NE.out; (with_reducible refine hc_.mono ?_); clear hc_; rintro e w3 ⟨p3_, d3_, rfl, m3, c3, f3⟩; have M3 := Lib.hid m3; have C3 := Lib.hid c3; have F3 := Lib.hid f3; obtain ⟨q1, q2, q3⟩ := at_cells (ZFr.blk_fr T2.out f3 (fun h => h)); clear m3 c3 f3))
    go_ret
    exact ⟨rfl, F2.out.trans F7.out (fun _ h _ => h)⟩
  · have NE := Lib.hid (show Calls Try.prog 21 #[.slice A2 m c2, .int .i64 n, .agg #[.int .i64 x, .int .i64 y], .int .i64 r] w2 (fun e w' => e = .returned (.slice none 0 0) ∧ Fr (fun _ => False) w2 w') from by
      have h9 := nwithin_no A2 c2 LL n x y r w2 (by rw [HM.out]; omega) C2.out (by rw [HM.out]; exact h2c) hyes
      rw [HM.out] at h9
      exact h9)
    rw [decide_eq_false hyes] at CAN
    clear hyes h2c hm8 PL2
    go_wp2_with (first
      | (go_at_call 11; have hc_ := LV.out w4; (with_reducible refine hc_.mono ?_); clear hc_; rintro e w7 ⟨rfl, f7⟩; have F7 := Lib.hid (F4.out.trans f7 (fun _ h _ => h)); clear f7)
      | (go_at_call 10; have hc_ := CAN.out w3 F3.out; (with_reducible refine hc_.mono ?_); clear hc_; rintro e w4 ⟨rfl, f4⟩; have F4 := Lib.hid (F3.out.trans f4 (fun _ h _ => h)); clear f4)
      | (go_at_call 21; have hc_ := NE.out; (with_reducible refine hc_.mono ?_); clear hc_; rintro e w3 ⟨rfl, f3⟩; have F3 := Lib.hid f3; obtain ⟨q1, q2, q3⟩ := at_cells (ZFr.blk_fr T2.out f3 (fun h => h)); clear f3))
    go_ret
    exact ⟨rfl, F2.out.trans F7.out (fun _ h _ => h)⟩
theorem law_row2 (A : Option Addr) (c : Nat) (l : List S35) (n x y r : Int) (W : World) (hC : Kd.C k35 W A l.length l) (hc : l.length ≤ c) (wx : (Lit.int .i64 x).wf = true) (wy : (Lit.int .i64 y).wf = true) (wr : (Lit.int .i64 r).wf = true) : Calls Try.prog 6 #[.slice A l.length c, .agg #[.int .i64 n, .int .i64 x, .int .i64 y], .int .i64 r] W fun e w' => e = .returned (.bool true) ∧ Below W.heap.size W w' :=
  (law_within A c l n x y r W hC hc (i64_wf wx) (i64_wf wy) (i64_wf wr)).mono fun _ _ ⟨h1, h2⟩ => ⟨h1, h2.below W.heap.size (Nat.le_refl _) (fun _ h => h.elim)⟩
end Go.Proofs.Ytngmkjgklonfmaa.Wd

/- A point over a torus that comes in, as the row opens it. -/
namespace Go.Proofs.Ytngmkjgklonfmaa.Wd
open Go.RowKit Go.Proofs.ZFr Go.Proofs.Ytngmkjgklonfmaa.PNearNearest Go.Proofs.Ytngmkjgklonfmaa.Big Go.Proofs.YtngmkjgklonfmaaW.PrintWords
set_option maxRecDepth 100000 in
theorem open_at {H : Type} {enc : TypeId × Value → H} {W : World} {b base : Nat} {spare : Nat → Bool} {held : Bool} {v : Value} {x : DataW H × List MemPlace} (hv : Value.okWide Try.prog W .any b 53 v) (h : ∃ fuel, DataW.trod enc Try.prog W base spare held fuel 53 v.cells.toList = some x) : ∃ n x y : Int, v = .agg #[.int .i64 n, .int .i64 x, .int .i64 y] ∧ (Lit.int .i64 x).wf = true ∧ (Lit.int .i64 y).wf = true := by
  obtain ⟨cs, rfl, hcs⟩ : ∃ cs, v = .agg cs ∧ cs.size = 3 := by
    have hh := hv
    simp only [Value.okWide, Try.underlying53] at hh
    obtain ⟨cs, h1, h2, _⟩ := hh
    exact ⟨cs, h1, h2.trans (by kernel_rfl)⟩
  obtain ⟨c0, c1, c2, rfl⟩ : ∃ a b c, cs = #[a, b, c] := by
    rcases cs with ⟨l⟩
    match l, hcs with
    | [a, b, c], _ => exact ⟨a, b, c, rfl⟩
  obtain ⟨fuel, hf⟩ := h
  obtain ⟨y0, y1, n1, _, _, t0, t1⟩ := Go.ChangeShapes.trod_struct2 Try.underlying53 hf
  obtain ⟨y2, y3, n2, _, _, t2, t3⟩ := Go.ChangeShapes.trod_struct2 Try.underlying24 t1
  obtain ⟨z, e0, _, _⟩ := DataW.trod_int Try.underlying2 t0
  obtain ⟨X, e1, _, w1⟩ := DataW.trod_int Try.underlying2 t2
  obtain ⟨Y, e2, _, w2⟩ := DataW.trod_int Try.underlying2 t3
  rw [show Try.prog.cellsOf 2 = 1 from by kernel_rfl] at e0
  rw [show Try.prog.cellsOf 24 = 2 from by kernel_rfl, show Try.prog.cellsOf 2 = 1 from by kernel_rfl] at e1 e2
  simp [Value.cells] at e0 e1 e2
  subst e0 e1 e2
  exact ⟨z, X, Y, rfl, w1, w2⟩
end Go.Proofs.Ytngmkjgklonfmaa.Wd
