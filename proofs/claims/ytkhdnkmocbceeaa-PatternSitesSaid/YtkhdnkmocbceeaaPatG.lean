/- The walks of pattern.grid and its two ways to say where. -/
import Derived.Test.YtkhdnkmocbceeaaPatW
import Derived.Lib.SmallJoins
namespace Go.Proofs.Ytkhdnkmocbceeaa.Pat
open Go.RowKit Go.Proofs.ZFr
open Go.Joins (below_alloc1 below_draws)

theorem quo_fits {a k : Int} (h0 : 0 ≤ a) (h1 : a ≤ 4611686018427387904) (hk : 1 ≤ k) : wrap64 (a.tdiv k) = a / k := by
  rw [Int.tdiv_eq_ediv_of_nonneg h0]
  have h2 := Int.ediv_nonneg h0 (show (0 : Int) ≤ k by omega)
  have h3 := Int.ediv_le_self k h0
  unfold wrap64; omega
theorem mul_le {i n a b : Int} (hi0 : 0 ≤ i) (hi : i ≤ a) (hn0 : 0 ≤ n) (hn : n ≤ b) : 0 ≤ i * n ∧ i * n ≤ a * b :=
  ⟨Int.mul_nonneg hi0 hn0, Int.mul_le_mul hi hn hn0 (by omega)⟩
theorem tup2 {a b c d : Int} (h1 : a = c) (h2 : b = d) : Ending.returned (.tuple #[.int .i64 a, .int .i64 b]) = .returned (.tuple #[.int .i64 c, .int .i64 d]) := by rw [h1, h2]

set_option maxHeartbeats 800000 in
theorem gridAt (w : World) (nb kb : Nat) (i j n k : Int) (hn : w.cell? ⟨nb, 0, none⟩ = some (.int .i64 n)) (hk : w.cell? ⟨kb, 0, none⟩ = some (.int .i64 k)) (hi0 : 0 ≤ i) (hi : i ≤ 64) (hj0 : 0 ≤ j) (hj : j ≤ 64) (hn0 : 1 ≤ n) (hn1 : n ≤ 1073741824) (hk0 : 1 ≤ k) :
    Calls Try.prog 45 #[.int .i64 i, .int .i64 j, .pointer (some ⟨nb, 0, none⟩), .pointer (some ⟨kb, 0, none⟩)] w fun e w' => e = .returned (.tuple #[.int .i64 (i * n / k), .int .i64 (j * n / k)]) ∧ ∃ m, w' = w.drewN m := by
  obtain ⟨a1, a2⟩ := mul_le hi0 hi (show 0 ≤ n by omega) hn1
  obtain ⟨b1, b2⟩ := mul_le hj0 hj (show 0 ≤ n by omega) hn1
  have m1 : IntKind.i64.wrap (i * n) = i * n := IntWalk.i64_in _ (by omega)
  have m2 : IntKind.i64.wrap (j * n) = j * n := IntWalk.i64_in _ (by omega)
  go_enter Try.func45, Try.ntmps45
  go_wp2_with fail
  go_quiet (fail)
  go_wp2
  go_ret2
  exact ⟨rfl, _, rfl⟩

set_option maxHeartbeats 800000 in
theorem skewAt (w : World) (nb kb : Nat) (i j n k : Int) (hn : w.cell? ⟨nb, 0, none⟩ = some (.int .i64 n)) (hk : w.cell? ⟨kb, 0, none⟩ = some (.int .i64 k)) (hi0 : 0 ≤ i) (hi : i ≤ 64) (hj0 : 0 ≤ j) (hj : j ≤ 64) (hn0 : 1 ≤ n) (hn1 : n ≤ 1073741824) (hk0 : 1 ≤ k) (hk1 : k ≤ 64) :
    Calls Try.prog 47 #[.int .i64 i, .int .i64 j, .pointer (some ⟨nb, 0, none⟩), .pointer (some ⟨kb, 0, none⟩)] w fun e w' => e = .returned (.tuple #[.int .i64 ((2 * i * n + j % 2 * n) / (2 * k)), .int .i64 (j * n / k)]) ∧ ∃ m, w' = w.drewN m := by
  obtain ⟨a1, a2⟩ := mul_le (show 0 ≤ 2 * i by omega) (show 2 * i ≤ 128 by omega) (show 0 ≤ n by omega) hn1
  obtain ⟨b1, b2⟩ := mul_le hj0 hj (show 0 ≤ n by omega) hn1
  obtain ⟨c1, c2⟩ := mul_le (show 0 ≤ j % 2 by omega) (show j % 2 ≤ 1 by omega) (show 0 ≤ n by omega) hn1
  have m0 : IntKind.i64.wrap (2 * i) = 2 * i := IntWalk.i64_in _ (by omega)
  have m1 : IntKind.i64.wrap (2 * i * n) = 2 * i * n := IntWalk.i64_in _ (by omega)
  have m2 : IntKind.i64.wrap (j * n) = j * n := IntWalk.i64_in _ (by omega)
  have m3 : IntKind.i64.wrap (j % 2 * n) = j % 2 * n := IntWalk.i64_in _ (by omega)
  have m4 : IntKind.i64.wrap (2 * i * n + j % 2 * n) = 2 * i * n + j % 2 * n := IntWalk.i64_in _ (by omega)
  have m5 : IntKind.i64.wrap (2 * k) = 2 * k := IntWalk.i64_in _ (by omega)
  have m6 : 0 ≤ 2 * i * n + j % 2 * n := by omega
  have m7 : 2 * i * n + j % 2 * n ≤ 4611686018427387904 := by omega
  go_enter Try.func47, Try.ntmps47
  go_wp2_with fail
  go_quiet (fail)
  go_wp2
  go_ret2
  exact ⟨rfl, _, rfl⟩


theorem side_yes (w : World) (n : Int) (h0 : 1 ≤ n) (h1 : n ≤ 1073741824) : Calls Try.prog 43 #[.int .i64 n] w fun e w' => e = .returned (.bool true) ∧ w = w' := by
  go_enter Try.func43, Try.ntmps43
  go_wp2
  go_ret
  exact ⟨rfl, rfl⟩
theorem side_no (w : World) (n : Int) (h : ¬ (1 ≤ n ∧ n ≤ 1073741824)) : Calls Try.prog 43 #[.int .i64 n] w fun e w' => e = .returned (.bool false) ∧ w = w' := by
  by_cases h1 : n < 1
  · go_enter Try.func43, Try.ntmps43
    go_wp2
    go_ret
    exact ⟨rfl, rfl⟩
  · have h2 : 1073741824 < n := by omega
    clear h
    go_enter Try.func43, Try.ntmps43
    go_wp2
    go_ret
    exact ⟨by simp; omega, rfl⟩


/-- The first m places of a grid, each second row skew or not. -/
def gr (n : Int) (K m : Nat) : List (Int × Int × Int) := (List.range m).map fun t : Nat => ((t : Int), ((t / K : Nat) : Int) * n / (K : Int), ((t % K : Nat) : Int) * n / (K : Int))
def sk (n : Int) (K m : Nat) : List (Int × Int × Int) := (List.range m).map fun t : Nat => ((t : Int), (2 * ((t / K : Nat) : Int) * n + ((t % K : Nat) : Int) % 2 * n) / (2 * (K : Int)), ((t % K : Nat) : Int) * n / (K : Int))
theorem gr_nil (n : Int) (K : Nat) : gr n K 0 = [] := rfl
theorem sk_nil (n : Int) (K : Nat) : sk n K 0 = [] := rfl
theorem gr_len (n : Int) (K m : Nat) : (gr n K m).length = m := by simp [gr]
theorem sk_len (n : Int) (K m : Nat) : (sk n K m).length = m := by simp [sk]
theorem split_div {I J K : Nat} (h : J < K) : (I * K + J) / K = I ∧ (I * K + J) % K = J := by
  have hK : 0 < K := by omega
  rw [Nat.mul_comm]
  exact ⟨by rw [Nat.mul_add_div hK, Nat.div_eq_of_lt h]; omega, by rw [Nat.mul_add_mod, Nat.mod_eq_of_lt h]⟩
theorem gr_snoc (n : Int) (K I J : Nat) (h : J < K) : gr n K (I * K + J + 1) = gr n K (I * K + J) ++ [(((I * K + J : Nat) : Int), (I : Int) * n / (K : Int), (J : Int) * n / (K : Int))] := by
  obtain ⟨h1, h2⟩ := split_div (I := I) h
  simp only [gr, List.range_succ, List.map_append, List.map_cons, List.map_nil, h1, h2]
theorem sk_snoc (n : Int) (K I J : Nat) (h : J < K) : sk n K (I * K + J + 1) = sk n K (I * K + J) ++ [(((I * K + J : Nat) : Int), (2 * (I : Int) * n + (J : Int) % 2 * n) / (2 * (K : Int)), (J : Int) * n / (K : Int))] := by
  obtain ⟨h1, h2⟩ := split_div (I := I) h
  simp only [sk, List.range_succ, List.map_append, List.map_cons, List.map_nil, h1, h2]
theorem idx_le (I J K : Nat) (hI : I < K) (hJ : J < K) : I * K + J < K * K := by
  have : (I + 1) * K ≤ K * K := Nat.mul_le_mul_right K (by omega)
  rw [Nat.succ_mul] at this; omega
theorem sq_le (K : Nat) (h : K ≤ 64) : K * K ≤ 4096 := Nat.mul_le_mul h h

set_option maxRecDepth 100000 in
set_option maxHeartbeats 3200000 in
theorem grid_45 (w : World) (nb kb : Nat) (n : Int) (K : Nat) (hn : w.cell? ⟨nb, 0, none⟩ = some (.int .i64 n)) (hk : w.cell? ⟨kb, 0, none⟩ = some (.int .i64 (K : Int))) (hn0 : 1 ≤ n) (hn1 : n ≤ 1073741824) (hk0 : 1 ≤ K) (hk1 : K ≤ 64) :
    Calls Try.prog 44 #[.int .i64 (K : Int), .func (Fn.func 45) #[] #[.pointer (some ⟨nb, 0, none⟩), .pointer (some ⟨kb, 0, none⟩)]] w fun e w' => ∃ v, e = .returned v ∧ w'.ownsRow w.heap.size 61 3 v (K * K) (flat (gr n K (K * K))) ∧ Below w.heap.size w w' := by
  have hnl := World.block_lt_of_cell? w _ hn
  have hkl := World.block_lt_of_cell? w _ hk
  simp at hnl hkl
  have hKi : (K : Int) ≤ 64 := by omega
  have hKi1 : (1 : Int) ≤ (K : Int) := by omega
  have hLay : Lay (w.alloc (.cells #[.slice none 0 0] 77)) w.heap.size w.heap.size (.slice none 0 0) (gr n K 0) :=
    ⟨heap_alloc_new w _, by rw [gr_nil]; exact World.ownsRow_nil _ _ _ _, Nat.le_refl _⟩
  have HL := Lib.hid hLay
  have HN := Lib.hid hn
  have HK := Lib.hid hk
  have hB0 : Below w.heap.size w (w.alloc (.cells #[.slice none 0 0] 77)) := (Below.refl _ w).alloc (Nat.le_refl _) _
  have HB0 := Lib.hid hB0
  clear hLay hn hk hB0
  go_enter Try.func44, Try.ntmps44
  go_wp2
  go_loopw [6, 7, 9] (fun _ _ i wr => ∃ (I : Nat) (v : Value), I ≤ K ∧ i = .int .i64 (I : Int) ∧ Lay wr w.heap.size w.heap.size v (gr n K (I * K)) ∧ Below w.heap.size w wr) (fun _ _ i _ => K - (intOf i).toNat)
  case atStart => exact ⟨0, _, Nat.zero_le _, rfl, by rw [Nat.zero_mul]; exact HL.out, HB0.out⟩
  case round =>
    obtain ⟨I, v, hI, rfl, hlay, hbel⟩ := hrel
    have HLay := Lib.hid hlay
    have HBel := Lib.hid hbel
    clear hlay hbel
    by_cases hlt : I < K
    · go_wp2
      obtain ⟨wo, rfl⟩ : ∃ wo : World, wo = wr := ⟨_, rfl⟩
      go_loopw [7, 13] (fun _ j ws => ∃ (J : Nat) (u : Value), J ≤ K ∧ j = .int .i64 (J : Int) ∧ Lay ws w.heap.size w.heap.size u (gr n K (I * K + J)) ∧ Below w.heap.size w ws) (fun _ j _ => K - (intOf j).toNat)
      case atStart => exact ⟨0, _, Nat.zero_le _, rfl, HLay.out, HBel.out⟩
      case round =>
        obtain ⟨J, u, hJ, rfl, hlay, hbel⟩ := hrel
        have hcn : wr.cell? ⟨nb, 0, none⟩ = some (.int .i64 n) := (hbel.cell hnl).trans HN.out
        have hck : wr.cell? ⟨kb, 0, none⟩ = some (.int .i64 (K : Int)) := (hbel.cell hkl).trans HK.out
        have HLay2 := Lib.hid hlay
        have HBel2 := Lib.hid hbel
        have HCN := Lib.hid hcn
        have HCK := Lib.hid hck
        clear hlay hbel hcn hck
        by_cases hjt : J < K
        · have hlen := gr_len n K (I * K + J)
          have hIK := idx_le I J K hlt hjt
          have hsn := gr_snoc n K I J hjt
          have HSN := Lib.hid hsn
          have HLEN := Lib.hid hlen
          clear hsn hlen
          go_wp2_with fail
          refine (gridAt wr nb kb (I : Int) (J : Int) n (K : Int) HCN.out HCK.out (by omega) (by omega) (by omega) (by omega) hn0 hn1 (by omega)).mono ?_
          rintro e w2 ⟨rfl, m, rfl⟩
          have hl2 : Lay (wr.drewN m) w.heap.size w.heap.size u (gr n K (I * K + J)) := HLay2.out.fr ((Fr.refl (fun _ => False) wr).drewN m) (fun _ _ h => h)
          have HL2 := Lib.hid hl2
          clear hl2
          generalize hX : (I : Int) * n / (K : Int) = X
          generalize hY : (J : Int) * n / (K : Int) = Y
          have HX := Lib.hid hX
          have HY := Lib.hid hY
          clear hX hY
          go_wp2_with fail
          refine (put_any (wr.drewN m) _ _ u _ X Y HL2.out (by rw [HLEN.out]; have := sq_le K hk1; omega)).mono ?_
          rintro e w3 ⟨rfl, u', hl3, hf3⟩
          rw [HLEN.out] at hl3
          have HL3 := Lib.hid hl3
          have HF3 := Lib.hid hf3
          clear hl3 hf3
          go_wp2_with fail
          go_roundw
          case rel =>
            refine ⟨J + 1, u', by omega, by go_num, ?_, ?_⟩
            · rw [show I * K + (J + 1) = I * K + J + 1 from rfl, HSN.out, HX.out, HY.out]
              exact HL3.out
            · exact (HBel2.out.trans (below_draws _ wr m)).trans (HF3.out.below _ (by have := HBel2.out.size; exact this) (fun k hk => by
                rcases hk with rfl | hk
                · exact Nat.le_refl _
                · exact (HL2.out.row.lt k hk).1))
          case measure => simp [intOf]; omega
        · obtain rfl : J = K := by omega
          go_wp2_with fail
          go_roundw
          case rel =>
            exact ⟨I + 1, u, by omega, by go_num, by rw [Nat.succ_mul]; exact HLay2.out, HBel2.out⟩
          case measure => simp [intOf]; omega
    · have hIK : I = K := by omega
      have HIK := Lib.hid hIK
      clear hIK
      have k0 := blk_cell HLay.out.blk 0
      simp at k0
      go_wp2_with fail
      go_ret
      have hr := HLay.out.row
      rw [gr_len] at hr
      rw [HIK.out] at hr
      exact ⟨_, rfl, hr, HBel.out⟩

set_option maxRecDepth 100000 in
set_option maxHeartbeats 3200000 in
theorem grid_47 (w : World) (nb kb : Nat) (n : Int) (K : Nat) (hn : w.cell? ⟨nb, 0, none⟩ = some (.int .i64 n)) (hk : w.cell? ⟨kb, 0, none⟩ = some (.int .i64 (K : Int))) (hn0 : 1 ≤ n) (hn1 : n ≤ 1073741824) (hk0 : 1 ≤ K) (hk1 : K ≤ 64) :
    Calls Try.prog 44 #[.int .i64 (K : Int), .func (Fn.func 47) #[] #[.pointer (some ⟨nb, 0, none⟩), .pointer (some ⟨kb, 0, none⟩)]] w fun e w' => ∃ v, e = .returned v ∧ w'.ownsRow w.heap.size 61 3 v (K * K) (flat (sk n K (K * K))) ∧ Below w.heap.size w w' := by
  have hnl := World.block_lt_of_cell? w _ hn
  have hkl := World.block_lt_of_cell? w _ hk
  simp at hnl hkl
  have hKi : (K : Int) ≤ 64 := by omega
  have hKi1 : (1 : Int) ≤ (K : Int) := by omega
  have hLay : Lay (w.alloc (.cells #[.slice none 0 0] 77)) w.heap.size w.heap.size (.slice none 0 0) (sk n K 0) :=
    ⟨heap_alloc_new w _, by rw [sk_nil]; exact World.ownsRow_nil _ _ _ _, Nat.le_refl _⟩
  have HL := Lib.hid hLay
  have HN := Lib.hid hn
  have HK := Lib.hid hk
  have hB0 : Below w.heap.size w (w.alloc (.cells #[.slice none 0 0] 77)) := (Below.refl _ w).alloc (Nat.le_refl _) _
  have HB0 := Lib.hid hB0
  clear hLay hn hk hB0
  go_enter Try.func44, Try.ntmps44
  go_wp2
  go_loopw [6, 7, 9] (fun _ _ i wr => ∃ (I : Nat) (v : Value), I ≤ K ∧ i = .int .i64 (I : Int) ∧ Lay wr w.heap.size w.heap.size v (sk n K (I * K)) ∧ Below w.heap.size w wr) (fun _ _ i _ => K - (intOf i).toNat)
  case atStart => exact ⟨0, _, Nat.zero_le _, rfl, by rw [Nat.zero_mul]; exact HL.out, HB0.out⟩
  case round =>
    obtain ⟨I, v, hI, rfl, hlay, hbel⟩ := hrel
    have HLay := Lib.hid hlay
    have HBel := Lib.hid hbel
    clear hlay hbel
    by_cases hlt : I < K
    · go_wp2
      obtain ⟨wo, rfl⟩ : ∃ wo : World, wo = wr := ⟨_, rfl⟩
      go_loopw [7, 13] (fun _ j ws => ∃ (J : Nat) (u : Value), J ≤ K ∧ j = .int .i64 (J : Int) ∧ Lay ws w.heap.size w.heap.size u (sk n K (I * K + J)) ∧ Below w.heap.size w ws) (fun _ j _ => K - (intOf j).toNat)
      case atStart => exact ⟨0, _, Nat.zero_le _, rfl, HLay.out, HBel.out⟩
      case round =>
        obtain ⟨J, u, hJ, rfl, hlay, hbel⟩ := hrel
        have hcn : wr.cell? ⟨nb, 0, none⟩ = some (.int .i64 n) := (hbel.cell hnl).trans HN.out
        have hck : wr.cell? ⟨kb, 0, none⟩ = some (.int .i64 (K : Int)) := (hbel.cell hkl).trans HK.out
        have HLay2 := Lib.hid hlay
        have HBel2 := Lib.hid hbel
        have HCN := Lib.hid hcn
        have HCK := Lib.hid hck
        clear hlay hbel hcn hck
        by_cases hjt : J < K
        · have hlen := sk_len n K (I * K + J)
          have hIK := idx_le I J K hlt hjt
          have hsn := sk_snoc n K I J hjt
          have HSN := Lib.hid hsn
          have HLEN := Lib.hid hlen
          clear hsn hlen
          go_wp2_with fail
          refine (skewAt wr nb kb (I : Int) (J : Int) n (K : Int) HCN.out HCK.out (by omega) (by omega) (by omega) (by omega) hn0 hn1 (by omega) (by omega)).mono ?_
          rintro e w2 ⟨rfl, m, rfl⟩
          have hl2 : Lay (wr.drewN m) w.heap.size w.heap.size u (sk n K (I * K + J)) := HLay2.out.fr ((Fr.refl (fun _ => False) wr).drewN m) (fun _ _ h => h)
          have HL2 := Lib.hid hl2
          clear hl2
          generalize hX : (2 * (I : Int) * n + (J : Int) % 2 * n) / (2 * (K : Int)) = X
          generalize hY : (J : Int) * n / (K : Int) = Y
          have HX := Lib.hid hX
          have HY := Lib.hid hY
          clear hX hY
          go_wp2_with fail
          refine (put_any (wr.drewN m) _ _ u _ X Y HL2.out (by rw [HLEN.out]; have := sq_le K hk1; omega)).mono ?_
          rintro e w3 ⟨rfl, u', hl3, hf3⟩
          rw [HLEN.out] at hl3
          have HL3 := Lib.hid hl3
          have HF3 := Lib.hid hf3
          clear hl3 hf3
          go_wp2_with fail
          go_roundw
          case rel =>
            refine ⟨J + 1, u', by omega, by go_num, ?_, ?_⟩
            · rw [show I * K + (J + 1) = I * K + J + 1 from rfl, HSN.out, HX.out, HY.out]
              exact HL3.out
            · exact (HBel2.out.trans (below_draws _ wr m)).trans (HF3.out.below _ (by have := HBel2.out.size; exact this) (fun k hk => by
                rcases hk with rfl | hk
                · exact Nat.le_refl _
                · exact (HL2.out.row.lt k hk).1))
          case measure => simp [intOf]; omega
        · obtain rfl : J = K := by omega
          go_wp2_with fail
          go_roundw
          case rel =>
            exact ⟨I + 1, u, by omega, by go_num, by rw [Nat.succ_mul]; exact HLay2.out, HBel2.out⟩
          case measure => simp [intOf]; omega
    · have hIK : I = K := by omega
      have HIK := Lib.hid hIK
      clear hIK
      have k0 := blk_cell HLay.out.blk 0
      simp at k0
      go_wp2_with fail
      go_ret
      have hr := HLay.out.row
      rw [sk_len] at hr
      rw [HIK.out] at hr
      exact ⟨_, rfl, hr, HBel.out⟩

end Go.Proofs.Ytkhdnkmocbceeaa.Pat
