/- hilbert.Order walked. -/
import Derived.Test.YtkhdnkmocbceeaaOrdS
import Derived.Test.YtkhdnkmocbceeaaFnHilbertIndex
namespace Go.Proofs.Ytkhdnkmocbceeaa.Ord
open Go.Shelf Go.RowKit Go.Lib Go.Sort Go.Proofs.ZFr
open Go.Proofs.Hil Go.Proofs.Ytkhdnkmocbceeaa.FnHilbertIndex

/-- A slice of points that lies in memory. -/
def Pts (w : World) (A : Option Addr) (l : List (Int × Int)) : Prop :=
  ∀ i (h : i < l.length), ∃ g, A = some ⟨g, 0, none⟩ ∧ g < w.heap.size ∧ w.cell? ⟨g, i * 2, none⟩ = some (.int .i64 l[i].1) ∧ w.cell? ⟨g, i * 2 + 1, none⟩ = some (.int .i64 l[i].2)
theorem Pts.fr {w w' : World} {A : Option Addr} {l : List (Int × Int)} (h : Pts w A l) (hf : Fr (fun _ => False) w w') : Pts w' A l := by
  intro i hi
  obtain ⟨g, e, hg, h1, h2⟩ := h i hi
  have hb := hf.block g hg (fun h => h)
  refine ⟨g, e, by have := hf.size; omega, ?_, ?_⟩
  · unfold World.cell? at *; rw [hb]; exact h1
  · unfold World.cell? at *; rw [hb]; exact h2

theorem index_any (b x y : Int) (w : World) : Calls Try.prog 48 #[.int .i64 b, .agg #[.int .i64 x, .int .i64 y]] w fun e w' => e = .returned (.tuple #[.int .u64 (if inside b x y then ((idx b.toNat x.toNat y.toNat : Nat) : Int) else 0), .bool (decide (inside b x y))]) ∧ Fr (fun _ => False) w w' := by
  refine (PHilbertIndex.hilbert_index.calls 40 b x y (if inside b x y then ((idx b.toNat x.toNat y.toNat : Nat) : Int) else 0) (decide (inside b x y)) w ?_).mono ?_
  · rw [index_f 40 (by omega)]
    by_cases h : inside b x y <;> simp [h]
  · rintro e w' ⟨rfl, hb⟩
    exact ⟨rfl, Fr.of_below hb⟩

def seatAt (b : Int) (i : Nat) (p : Int × Int) : Seat := if inside b p.1 p.2 then ((i : Int), ((idx b.toNat p.1.toNat p.2.toNat : Nat) : Int), false) else ((i : Int), 0, true)
def seats (b : Int) (l : List (Int × Int)) : List Seat := l.zipIdx.map fun x => seatAt b x.2 x.1

theorem index_seat (b x y : Int) : ∃ d o, (∀ w, Calls Try.prog 48 #[.int .i64 b, .agg #[.int .i64 x, .int .i64 y]] w fun e w' => e = .returned (.tuple #[.int .u64 d, .bool o]) ∧ Fr (fun _ => False) w w') ∧ ∀ i : Nat, seatAt b i (x, y) = ((i : Int), d, !o) := by
  refine ⟨_, _, index_any b x y, fun i => ?_⟩
  unfold seatAt
  by_cases h : inside b x y <;> simp [h]
theorem seats_length (b : Int) (l : List (Int × Int)) : (seats b l).length = l.length := by simp [seats]
theorem seats_take (b : Int) (l : List (Int × Int)) (k : Nat) (h : k < l.length) : (seats b l).take (k + 1) = (seats b l).take k ++ [seatAt b k l[k]] := by
  have h' : k < (seats b l).length := by rw [seats_length]; exact h
  rw [List.take_succ_eq_append_getElem h']
  simp [seats]
theorem info83 : (Try.prog.info? 83).map (fun i => (i.zero, i.size, i.bytes)) = some (some (.agg #[.int .i64 0, .int .u64 0, .bool false]), 3, 24) := by kernel_rfl

theorem row_base {w : World} {base : Nat} {e : TypeId} {size : Nat} {v : Value} {n : Nat} {xs : List Value} (h : w.ownsRow base e size v n xs) : ∀ k, v.ownBlock = some k → base ≤ k ∧ k < w.heap.size := by
  intro k hk
  rcases h.2 with ⟨rfl, rfl⟩ | ⟨g, cap, cur, rfl, hb, hg, _⟩
  · simp [Value.ownBlock] at hk
  · simp only [Value.ownBlock, Option.some.injEq] at hk
    subst hk
    exact ⟨hb, blk_lt hg⟩
/-- Seats that lie in memory. -/
def SeatsIn (w : World) (p : Option Addr) (L : List Seat) : Prop :=
  ∀ i (h : i < L.length), ∃ g, p = some ⟨g, 0, none⟩ ∧ g < w.heap.size ∧ w.cell? ⟨g, i * 3, none⟩ = some (.int .i64 L[i].1) ∧ w.cell? ⟨g, i * 3 + 1, none⟩ = some (.int .u64 L[i].2.1) ∧ w.cell? ⟨g, i * 3 + 2, none⟩ = some (.bool L[i].2.2)
theorem SeatsIn.fr {w w' : World} {p : Option Addr} {L : List Seat} (h : SeatsIn w p L) (hf : Fr (fun _ => False) w w') : SeatsIn w' p L := by
  intro i hi
  obtain ⟨g, e, hg, h0, h1, h2⟩ := h i hi
  have hb := hf.block g hg (fun h => h)
  refine ⟨g, e, Nat.lt_of_lt_of_le hg hf.size, ?_, ?_, ?_⟩
  · unfold World.cell? at *; rw [hb]; exact h0
  · unfold World.cell? at *; rw [hb]; exact h1
  · unfold World.cell? at *; rw [hb]; exact h2
theorem info3 : (Try.prog.info? 3).map (fun i => (i.zero, i.size, i.bytes)) = some (some (.int .i64 0), 1, 8) := by kernel_rfl
theorem sort_any (B c : Nat) (p : Option Addr) (L : List Seat) (w : World) (h : w.ownsRow B 83 3 (.slice p L.length c) L.length (flat L)) (hl : L.length ≤ 1000) :
    Calls Try.prog 57 #[.slice p L.length c, .func (.func 58) #[] #[]] w fun e w' => e = .returned (.tuple #[]) ∧ Fr (fun k => B ≤ k ∧ k < w.heap.size) w w' ∧ SeatsIn w' p (L.mergeSort le3) := by
  cases L with
  | nil =>
    refine (AnyF.slices_SortFunc_none Try.sortSeats p c _ w).mono ?_
    rintro e w' ⟨rfl, rfl⟩
    exact ⟨rfl, Fr.refl _ _, fun i hi => absurd hi (by simp)⟩
  | cons s L =>
    obtain ⟨g, c', hv⟩ := row_some h (by simp)
    simp only [Value.slice.injEq] at hv
    obtain ⟨rfl, _, rfl⟩ := hv
    have hb := row_base h g rfl
    refine (sort_walk B g c (s :: L) w h (by omega)).mono ?_
    rintro e w' ⟨rfl, hf, hh⟩
    refine ⟨rfl, hf.mono (fun k hk => by subst hk; exact hb), fun i hi => ⟨g, rfl, Nat.lt_of_lt_of_le hb.2 hf.size, ?_⟩⟩
    have hi' : i < ((s :: L).mergeSort le3).toArray.size := by simpa using hi
    have c0 := (hh.cell hi' (show 0 < 3 by omega)).1
    have c1 := (hh.cell hi' (show 1 < 3 by omega)).1
    have c2 := (hh.cell hi' (show 2 < 3 by omega)).1
    simp only [Nat.zero_add, Nat.add_zero] at c0 c1 c2
    rw [getElem!_pos _ i hi'] at c0 c1 c2
    exact ⟨c0, c1, c2⟩

set_option maxRecDepth 100000 in
set_option maxHeartbeats 3200000 in
theorem order_walk (b : Int) (A : Option Addr) (c : Nat) (l : List (Int × Int)) (w : World) (hl : l.length ≤ 1000) (hp : Pts w A l) :
    Calls Try.prog 41 #[.int .i64 b, .slice A l.length c] w fun e w' => ∃ v, e = .returned v ∧ w'.ownsRow w.heap.size 3 1 v l.length (((seats b l).mergeSort le3).map fun s => .int .i64 s.1) ∧ Fr (fun _ => False) w w' := by
  go_enter Try.func41, Try.ntmps41
  go_wp2_with fail
  go_loopw [5, 15] (fun v5 v15 w' => ∃ (k : Nat), k ≤ l.length ∧ v15 = .int .i64 k ∧ w'.ownsRow w.heap.size 83 3 v5 k (flat ((seats b l).take k)) ∧ Fr (fun _ => False) w w') (fun _ v15 _ => (l.length + 1 - intOf v15).toNat)
  case atStart => exact ⟨0, by omega, rfl, ⟨by simp [flat], .inl ⟨rfl, rfl⟩⟩, Fr.refl _ _⟩
  case round =>
    obtain ⟨k, hk, rfl, hown, hfr⟩ := hrel
    by_cases hkl : k < l.length
    · obtain ⟨g, rfl, hg, hx, hy⟩ := hp.fr hfr k hkl
      obtain ⟨d, o, hi, hseat⟩ := index_seat b l[k].1 l[k].2
      have hst := seats_take b l k hkl
      have hsk := hseat k
      rw [show (l[k].1, l[k].2) = l[k] from rfl] at hsk
      rw [hsk] at hst
      generalize hgx : l[k].1 = x at hx hi
      generalize hgy : l[k].2 = y at hy hi
      obtain ⟨p5, c5, rfl⟩ := row_slice hown
      have HO := Lib.hid hown
      have HF := Lib.hid hfr
      have HP := Lib.hid hp
      have HST := Lib.hid hst
      clear hown hfr hp hst hsk hseat hgx hgy
      obtain ⟨i0, hi0, hz0, hz1, hz2⟩ := info_parts info83
      go_wp2_with (first
        | (go_at_call 48; refine (hi _).mono ?_; rintro e w1 ⟨rfl, f1⟩; have HF1 := Lib.hid f1; clear f1)
        | (at_builtin; refine wpList_append_own_at _ rfl (.tmp 26) (.tmp 32) 81 rfl w.heap.size 83 i0 _ 3 24 Try.underlying81 hi0 hz0 hz1 hz2 rfl (by decide) (.slice p5 k c5) k (flat ((seats b l).take k)) rfl ((row_fr (HO.out.alloc (.cells #[.int .i64 x, .int .i64 y] 29)) HF1.out (fun _ _ h => h)).alloc _) ⟨w1.heap.size, 0, none⟩ 1 1 [.int .i64 k, .int .u64 d, .bool (!o)] rfl rfl ?d1 ?d2 ?d3 ?d4 ?d5 ?more))
      case d1 => intro j u hj; match j, hj with | 0, hj => simp at hj; subst hj; exact new_cell _ _ _ _ rfl 0 | 1, hj => simp at hj; subst hj; exact new_cell _ _ _ _ rfl 1 | 2, hj => simp at hj; subst hj; exact new_cell _ _ _ _ rfl 2
      case d2 => intro u hu; simp at hu; rcases hu with rfl | rfl | rfl <;> rfl
      case d3 => unfold maxLen; omega
      case d4 => omega
      case d5 =>
        have e1 := HF.out.size
        have e2 := HF1.out.size
        simp at e2 ⊢
        omega
      case more =>
        intro v2 w2 hown2 hgrow _ _
        have HO2 := Lib.hid hown2
        have HG2 := Lib.hid hgrow
        clear hown2 hgrow
        go_wp2_with fail
        go_roundw
        case rel =>
          refine ⟨k + 1, by omega, by go_num, ?_, ?_⟩
          · rw [HST.out, flat_append]; exact HO2.out
          · exact ((((HF.out.alloc _).trans HF1.out (fun _ h _ => h)).alloc _).grown HG2.out (fun q hq => .inr (row_base HO.out q hq).1))
        case measure => simp [intOf]; omega
    · have hke : k = l.length := by omega
      subst hke
      obtain ⟨p5, c5, rfl⟩ := row_slice hown
      have hown' : wr.ownsRow w.heap.size 83 3 (.slice p5 (seats b l).length c5) (seats b l).length (flat (seats b l)) := by
        rw [seats_length]; rw [List.take_of_length_le (by rw [seats_length]; omega)] at hown; exact hown
      have hs := sort_any w.heap.size c5 p5 (seats b l) wr hown' (by rw [seats_length]; omega)
      rw [seats_length] at hs
      have hsl : ((seats b l).mergeSort le3).length = l.length := by rw [List.length_mergeSort, seats_length]
      generalize hM0 : (seats b l).mergeSort le3 = M at *
      have HM0 := Lib.hid hM0
      clear hM0
      have HF := Lib.hid hfr
      clear hown hown' hfr hp
      go_wp2_with (go_at_call 57; refine hs.mono ?_; rintro e w1 ⟨rfl, f1, hm⟩; have HF1 := Lib.hid f1; have HM := Lib.hid hm; clear f1 hm)
      clear hs
      obtain ⟨i0, hi0, hz0, hz1, hz2⟩ := info_parts info3
      go_loopw [10, 39] (fun v10 v39 w' => ∃ (k : Nat), k ≤ l.length ∧ v39 = .int .i64 k ∧ w'.ownsRow w1.heap.size 3 1 v10 k ((M.take k).map fun s => .int .i64 s.1) ∧ Fr (fun _ => False) w1 w') (fun _ v39 _ => (l.length + 1 - intOf v39).toNat)
      case atStart => exact ⟨0, by omega, rfl, ⟨by simp, .inl ⟨rfl, rfl⟩⟩, Fr.refl _ _⟩
      case round =>
        obtain ⟨k, hk, rfl, hown, hfr⟩ := hrel
        by_cases hkl : k < l.length
        · have hkM : k < M.length := by omega
          have hsi := (HM.out.fr hfr) k hkM
          obtain ⟨g, rfl, _, h0, h1, h2⟩ := hsi
          have hM : (M.take (k + 1)).map (fun s => Value.int .i64 s.1) = (M.take k).map (fun s => Value.int .i64 s.1) ++ [.int .i64 (M[k]'hkM).1] := by
            rw [List.take_succ_eq_append_getElem hkM, List.map_append]; rfl
          obtain ⟨⟨s0, s1, s2⟩, hsM⟩ : ∃ s, M[k]'hkM = s := ⟨_, rfl⟩
          rw [hsM] at h0 h1 h2 hM
          have HMM := Lib.hid hM
          clear hM hsM
          have HO := Lib.hid hown
          have HF2 := Lib.hid hfr
          obtain ⟨p10, c10, rfl⟩ := row_slice hown
          clear hown hfr
          go_wp2_with (at_builtin; refine wpList_append_own_at _ rfl (.tmp 43) (.tmp 46) 42 rfl w1.heap.size 3 i0 (.int .i64 0) 1 8 Try.underlying42 hi0 hz0 hz1 hz2 rfl (by decide) (.slice p10 k c10) k ((M.take k).map fun s => .int .i64 s.1) rfl ((HO.out.alloc (.cells #[.int .i64 s0, .int .u64 s1, .bool s2] 83)).alloc _) ⟨wr.heap.size + 1, 0, none⟩ 1 1 [.int .i64 s0] rfl rfl ?d1 ?d2 ?d3 ?d4 ?d5 ?more)
          case d2 => rfl
          case d3 => unfold maxLen; omega
          case d4 => omega
          case d5 =>
            have e1 := HF2.out.size
            simp at e1 ⊢
            omega
          case more =>
            intro v2 w2 hown2 hgrow _ _
            have HO2 := Lib.hid hown2
            have HG2 := Lib.hid hgrow
            clear hown2 hgrow
            go_wp2_with fail
            go_roundw
            case rel =>
              refine ⟨k + 1, by omega, by go_num, ?_, ?_⟩
              · rw [HMM.out, List.map_take]; exact HO2.out
              · exact (((HF2.out.alloc _).alloc _).grown HG2.out (fun q hq => .inr (row_base HO.out q hq).1))
            case measure => simp [intOf]; omega
        · have hke : k = l.length := by omega
          subst hke
          rw [List.take_of_length_le (by omega)] at hown
          have HO := Lib.hid hown
          have HF2 := Lib.hid hfr
          clear hown hfr
          go_wp2_with fail
          go_ret
          have e1 := HF.out.size
          have e2 := HF1.out.size
          rw [HM0.out]
          exact ⟨_, rfl, row_low HO.out (by omega), (HF.out.trans HF1.out (fun i h hlt => absurd h.1 (by omega))).trans HF2.out (fun _ h _ => h)⟩
end Go.Proofs.Ytkhdnkmocbceeaa.Ord
