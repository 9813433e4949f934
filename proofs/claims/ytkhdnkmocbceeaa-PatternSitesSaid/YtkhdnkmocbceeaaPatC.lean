/- The walk of pattern.Curve. -/
import Derived.Test.YtkhdnkmocbceeaaPatM
import Derived.Test.YtkhdnkmocbceeaaFnHilbertAt
import Derived.Deep.RegionHeld3
namespace Go.Proofs.Ytkhdnkmocbceeaa.Pat
open Go.RowKit Go.Proofs.ZFr
open Go.Proofs.Hil
open Go.Joins (below_alloc1 below_alloc2 below_draws)

theorem At_any (w : World) (b d : Nat) (hb : b ≤ 31) (hd : d < 2 ^ b * 2 ^ b) (hd2 : d < 18446744073709551616) :
    Calls Try.prog 21 #[.int .i64 (b : Int), .int .u64 (d : Int)] w fun e w' => e = .returned (.tuple #[.agg #[.int .i64 ((pt b d).1 : Int), .int .i64 ((pt b d).2 : Int)], .bool true]) ∧ Below w.heap.size w w' := by
  have hf := FnHilbertAt.At_f 80 (by decide) (b : Int) (d : Int) (by omega) (by omega)
  rw [if_pos (by unfold FnHilbertAt.onway; simp only [Int.toNat_natCast]; omega)] at hf
  simp only [Int.toNat_natCast] at hf
  exact PHilbertAt.hilbert_At.calls 80 (b : Int) (d : Int) _ _ _ w hf

theorem cu_snoc (n : Int) (b d : Nat) : cuP n b (d + 1) = cuP n b d ++ [(((pt b d).1 : Int) * n / ((2 ^ b : Nat) : Int), ((pt b d).2 : Int) * n / ((2 ^ b : Nat) : Int))] := by
  simp only [cuP, List.range_succ, List.map_append, List.map_cons, List.map_nil]
theorem cu_len (n : Int) (b d : Nat) : (cuP n b d).length = d := by simp [cuP]
theorem put_wid (w : World) (B lb : Nat) (v : Value) (l : List (Int × Int)) (x y : Int) (h : Lay w B lb v (wid l)) (hl : l.length ≤ 100000) :
    Calls Try.prog 56 #[.pointer (some ⟨lb, 0, none⟩), .int .i64 x, .int .i64 y] w fun e w' => e = .returned (.tuple #[]) ∧ ∃ v', Lay w' B lb v' (wid (l ++ [(x, y)])) ∧ Fr (Own lb v) w w' := by
  refine (put_any w B lb v (wid l) x y h (by rw [wid_len]; exact hl)).mono ?_
  rintro e w' ⟨rfl, v', h', hf⟩
  rw [wid_len] at h'
  exact ⟨rfl, v', by rw [wid_snoc]; exact h', hf⟩

set_option maxRecDepth 100000 in
set_option maxHeartbeats 3200000 in
theorem Curve_0 (w : World) (n : Int) (hn0 : 1 ≤ n) (hn1 : n ≤ 1073741824) (_hbn : 1 ≤ n) :
    Calls Try.prog 39 #[.int .i64 n, .int .i64 0] w fun e w' => ∃ v, e = .returned v ∧ w'.ownsRow w.heap.size 61 3 v 1 (flat (wid (cuP n 0 1))) ∧ Below w.heap.size w w' := by
  have hLay : Lay (w.alloc (.cells #[.slice none 0 0] 77)) w.heap.size w.heap.size (.slice none 0 0) (wid (cuP n 0 0)) :=
    ⟨heap_alloc_new w _, World.ownsRow_nil _ _ _ _, Nat.le_refl _⟩
  have HL := Lib.hid hLay
  have HB0 := Lib.hid ((Below.refl _ w).alloc (Nat.le_refl _) (.cells #[.slice none 0 0] 77))
  clear hLay
  go_enter Try.func39, Try.ntmps39
  go_wp2_with (go_at_call 43; refine (side_yes _ n hn0 hn1).mono ?_; rintro e w' ⟨rfl, rfl⟩)
  go_loopw [6, 7, 8, 29] (fun _ _ _ i wr => ∃ (d : Nat) (v : Value), d ≤ 1 ∧ i = .int .u64 (d : Int) ∧ Lay wr w.heap.size w.heap.size v (wid (cuP n 0 d)) ∧ Below w.heap.size w wr) (fun _ _ _ i _ => 1 - (intOf i).toNat)
  case atStart => exact ⟨0, _, Nat.zero_le _, rfl, HL.out, HB0.out⟩
  case round =>
    obtain ⟨d, v, hd, rfl, hlay, hbel⟩ := hrel
    have HLay := Lib.hid hlay
    have HBel := Lib.hid hbel
    have hsz := hbel.size
    have k0 := blk_cell hlay.blk 0
    simp at k0
    clear hlay hbel
    by_cases hlt : d < 1
    · have hpl := pt_lt 0 d
      have hat := At_any wr 0 d (by decide) (by simpa using hlt) (by omega)
      have hsn := cu_snoc n 0 d
      have hln := cu_len n 0 d
      generalize pt 0 d = q at *
      obtain ⟨x, y⟩ := q
      dsimp only at hpl hat hsn
      have hx1 : x < 1 := by have := hpl.1; simpa using this
      have hy1 : y < 1 := by have := hpl.2; simpa using this
      have hx0 : (0 : Int) ≤ (x : Int) := by omega
      have hy0 : (0 : Int) ≤ (y : Int) := by omega
      have mx := mul_le (a := 1) hx0 (by omega) (show 0 ≤ n by omega) hn1
      have my := mul_le (a := 1) hy0 (by omega) (show 0 ≤ n by omega) hn1
      have mx0 := mx.1
      have my0 := my.1
      have mx1 : (x : Int) * n ≤ 8589934592 := by omega
      have my1 : (y : Int) * n ≤ 8589934592 := by omega
      have wx : IntKind.i64.wrap ((x : Int) * n) = (x : Int) * n := IntWalk.i64_in _ (by omega)
      have wy : IntKind.i64.wrap ((y : Int) * n) = (y : Int) * n := IntWalk.i64_in _ (by omega)
      have HAT := Lib.hid hat
      have HSN := Lib.hid hsn
      have HLN := Lib.hid hln
      clear hpl hat hsn hln mx my hx1 hy1 hx0 hy0 k0
      go_wp2_with fail
      refine HAT.out.mono ?_
      rintro e w2 ⟨rfl, hb2⟩
      have hl2 : Lay w2 w.heap.size w.heap.size v (wid (cuP n 0 d)) := HLay.out.fr (Fr.of_below hb2) (fun _ _ h => h)
      have HL2 := Lib.hid hl2
      have HB2 := Lib.hid hb2
      have hsz2 := hb2.size
      have hltb := blk_lt hl2.blk
      clear hb2 hl2
      go_wp2_with fail
      obtain ⟨w3, hw3⟩ : ∃ w3 : World, w3 = w2.alloc (.cells #[.int .i64 (x : Int), .int .i64 (y : Int)] 29) := ⟨_, rfl⟩
      have hl3 : Lay w3 w.heap.size w.heap.size v (wid (cuP n 0 d)) := by rw [hw3]; exact HL2.out.fr ((Fr.refl (fun _ => False) w2).alloc _) (fun _ _ h => h)
      have hp3 : w3.heap[w2.heap.size]? = some (.cells #[.int .i64 (x : Int), .int .i64 (y : Int)] 29 (0, 0)) := by rw [hw3]; exact heap_alloc_new w2 _
      have hb3 : Below w.heap.size w w3 := by rw [hw3]; exact (HBel.out.trans (HB2.out.mono hsz)).alloc (by omega) _
      rw [← hw3]
      have c0 := blk_cell hp3 0
      have c1 := blk_cell hp3 1
      simp at c0 c1
      have hd4 : Lay w3.drew w.heap.size w.heap.size v (wid (cuP n 0 d)) := hl3.fr (Fr.refl (fun _ => False) w3).drew (fun _ _ h => h)
      have HB3 := Lib.hid hb3
      have HP3 := Lib.hid hp3
      have HD4 := Lib.hid hd4
      clear hw3 hl3 hp3 hb3 hd4
      go_region_held3 (fun w' => w'.cell? ⟨w2.heap.size, 0, none⟩ = some (.int .i64 (x : Int)) ∧ w'.cell? ⟨w2.heap.size, 1, none⟩ = some (.int .i64 (y : Int)))
        (exact ⟨by first | assumption | simpa using c0, by first | assumption | simpa using c1⟩)
        ((go_at_call 56; refine (put_wid w3.drew w.heap.size w.heap.size v (cuP n 0 d) ((x : Int) * n) ((y : Int) * n) HD4.out (by rw [HLN.out]; omega)).mono ?_; rintro e w5 ⟨rfl, v5, h5, f5⟩; have hp5 := blk_fr (w := w3.drew) HP3.out f5 (fun ho => by
            rcases ho with ho | ho
            · omega
            · exact row_ne HD4.out.row (show w3.drew.heap[w2.heap.size]? = _ from HP3.out) (by decide) ho); have cc0 := blk_cell hp5 0; have cc1 := blk_cell hp5 1; simp at cc0 cc1; have H5 := Lib.hid h5; have F5 := Lib.hid f5; clear h5 f5 hp5))
      all_goals
        go_wp2_with fail
        go_roundw
        case rel =>
          refine ⟨d + 1, v5, by omega, by go_num, ?_, ?_⟩
          · rw [HSN.out]
            simpa using H5.out
          · exact HB3.out.drew.trans (F5.out.below _ HB3.out.size (fun k hk => by
              rcases hk with rfl | hk
              · exact Nat.le_refl _
              · exact (HD4.out.row.lt k hk).1))
        case measure => simp [intOf]; omega
    · have hdm : d = 1 := by omega
      have HDM := Lib.hid hdm
      clear hdm
      go_wp2_with fail
      go_ret
      have hr := HLay.out.row
      rw [wid_len, cu_len, HDM.out] at hr
      exact ⟨_, rfl, hr, HBel.out⟩

set_option maxRecDepth 100000 in
set_option maxHeartbeats 3200000 in
theorem Curve_1 (w : World) (n : Int) (hn0 : 1 ≤ n) (hn1 : n ≤ 1073741824) (hbn : 2 ≤ n) :
    Calls Try.prog 39 #[.int .i64 n, .int .i64 1] w fun e w' => ∃ v, e = .returned v ∧ w'.ownsRow w.heap.size 61 3 v 4 (flat (wid (cuP n 1 4))) ∧ Below w.heap.size w w' := by
  have hLay : Lay (w.alloc (.cells #[.slice none 0 0] 77)) w.heap.size w.heap.size (.slice none 0 0) (wid (cuP n 1 0)) :=
    ⟨heap_alloc_new w _, World.ownsRow_nil _ _ _ _, Nat.le_refl _⟩
  have HL := Lib.hid hLay
  have HB0 := Lib.hid ((Below.refl _ w).alloc (Nat.le_refl _) (.cells #[.slice none 0 0] 77))
  clear hLay
  go_enter Try.func39, Try.ntmps39
  go_wp2_with (go_at_call 43; refine (side_yes _ n hn0 hn1).mono ?_; rintro e w' ⟨rfl, rfl⟩)
  go_loopw [6, 7, 8, 29] (fun _ _ _ i wr => ∃ (d : Nat) (v : Value), d ≤ 4 ∧ i = .int .u64 (d : Int) ∧ Lay wr w.heap.size w.heap.size v (wid (cuP n 1 d)) ∧ Below w.heap.size w wr) (fun _ _ _ i _ => 4 - (intOf i).toNat)
  case atStart => exact ⟨0, _, Nat.zero_le _, rfl, HL.out, HB0.out⟩
  case round =>
    obtain ⟨d, v, hd, rfl, hlay, hbel⟩ := hrel
    have HLay := Lib.hid hlay
    have HBel := Lib.hid hbel
    have hsz := hbel.size
    have k0 := blk_cell hlay.blk 0
    simp at k0
    clear hlay hbel
    by_cases hlt : d < 4
    · have hpl := pt_lt 1 d
      have hat := At_any wr 1 d (by decide) (by simpa using hlt) (by omega)
      have hsn := cu_snoc n 1 d
      have hln := cu_len n 1 d
      generalize pt 1 d = q at *
      obtain ⟨x, y⟩ := q
      dsimp only at hpl hat hsn
      have hx1 : x < 2 := by have := hpl.1; simpa using this
      have hy1 : y < 2 := by have := hpl.2; simpa using this
      have hx0 : (0 : Int) ≤ (x : Int) := by omega
      have hy0 : (0 : Int) ≤ (y : Int) := by omega
      have mx := mul_le (a := 2) hx0 (by omega) (show 0 ≤ n by omega) hn1
      have my := mul_le (a := 2) hy0 (by omega) (show 0 ≤ n by omega) hn1
      have mx0 := mx.1
      have my0 := my.1
      have mx1 : (x : Int) * n ≤ 8589934592 := by omega
      have my1 : (y : Int) * n ≤ 8589934592 := by omega
      have wx : IntKind.i64.wrap ((x : Int) * n) = (x : Int) * n := IntWalk.i64_in _ (by omega)
      have wy : IntKind.i64.wrap ((y : Int) * n) = (y : Int) * n := IntWalk.i64_in _ (by omega)
      have HAT := Lib.hid hat
      have HSN := Lib.hid hsn
      have HLN := Lib.hid hln
      clear hpl hat hsn hln mx my hx1 hy1 hx0 hy0 k0
      go_wp2_with fail
      refine HAT.out.mono ?_
      rintro e w2 ⟨rfl, hb2⟩
      have hl2 : Lay w2 w.heap.size w.heap.size v (wid (cuP n 1 d)) := HLay.out.fr (Fr.of_below hb2) (fun _ _ h => h)
      have HL2 := Lib.hid hl2
      have HB2 := Lib.hid hb2
      have hsz2 := hb2.size
      have hltb := blk_lt hl2.blk
      clear hb2 hl2
      go_wp2_with fail
      obtain ⟨w3, hw3⟩ : ∃ w3 : World, w3 = w2.alloc (.cells #[.int .i64 (x : Int), .int .i64 (y : Int)] 29) := ⟨_, rfl⟩
      have hl3 : Lay w3 w.heap.size w.heap.size v (wid (cuP n 1 d)) := by rw [hw3]; exact HL2.out.fr ((Fr.refl (fun _ => False) w2).alloc _) (fun _ _ h => h)
      have hp3 : w3.heap[w2.heap.size]? = some (.cells #[.int .i64 (x : Int), .int .i64 (y : Int)] 29 (0, 0)) := by rw [hw3]; exact heap_alloc_new w2 _
      have hb3 : Below w.heap.size w w3 := by rw [hw3]; exact (HBel.out.trans (HB2.out.mono hsz)).alloc (by omega) _
      rw [← hw3]
      have c0 := blk_cell hp3 0
      have c1 := blk_cell hp3 1
      simp at c0 c1
      have hd4 : Lay w3.drew w.heap.size w.heap.size v (wid (cuP n 1 d)) := hl3.fr (Fr.refl (fun _ => False) w3).drew (fun _ _ h => h)
      have HB3 := Lib.hid hb3
      have HP3 := Lib.hid hp3
      have HD4 := Lib.hid hd4
      clear hw3 hl3 hp3 hb3 hd4
      go_region_held3 (fun w' => w'.cell? ⟨w2.heap.size, 0, none⟩ = some (.int .i64 (x : Int)) ∧ w'.cell? ⟨w2.heap.size, 1, none⟩ = some (.int .i64 (y : Int)))
        (exact ⟨by first | assumption | simpa using c0, by first | assumption | simpa using c1⟩)
        ((go_at_call 56; refine (put_wid w3.drew w.heap.size w.heap.size v (cuP n 1 d) ((x : Int) * n / 2) ((y : Int) * n / 2) HD4.out (by rw [HLN.out]; omega)).mono ?_; rintro e w5 ⟨rfl, v5, h5, f5⟩; have hp5 := blk_fr (w := w3.drew) HP3.out f5 (fun ho => by
            rcases ho with ho | ho
            · omega
            · exact row_ne HD4.out.row (show w3.drew.heap[w2.heap.size]? = _ from HP3.out) (by decide) ho); have cc0 := blk_cell hp5 0; have cc1 := blk_cell hp5 1; simp at cc0 cc1; have H5 := Lib.hid h5; have F5 := Lib.hid f5; clear h5 f5 hp5))
      all_goals
        go_wp2_with fail
        go_roundw
        case rel =>
          refine ⟨d + 1, v5, by omega, by go_num, ?_, ?_⟩
          · rw [HSN.out]
            simpa using H5.out
          · exact HB3.out.drew.trans (F5.out.below _ HB3.out.size (fun k hk => by
              rcases hk with rfl | hk
              · exact Nat.le_refl _
              · exact (HD4.out.row.lt k hk).1))
        case measure => simp [intOf]; omega
    · have hdm : d = 4 := by omega
      have HDM := Lib.hid hdm
      clear hdm
      go_wp2_with fail
      go_ret
      have hr := HLay.out.row
      rw [wid_len, cu_len, HDM.out] at hr
      exact ⟨_, rfl, hr, HBel.out⟩

set_option maxRecDepth 100000 in
set_option maxHeartbeats 3200000 in
theorem Curve_2 (w : World) (n : Int) (hn0 : 1 ≤ n) (hn1 : n ≤ 1073741824) (hbn : 4 ≤ n) :
    Calls Try.prog 39 #[.int .i64 n, .int .i64 2] w fun e w' => ∃ v, e = .returned v ∧ w'.ownsRow w.heap.size 61 3 v 16 (flat (wid (cuP n 2 16))) ∧ Below w.heap.size w w' := by
  have hLay : Lay (w.alloc (.cells #[.slice none 0 0] 77)) w.heap.size w.heap.size (.slice none 0 0) (wid (cuP n 2 0)) :=
    ⟨heap_alloc_new w _, World.ownsRow_nil _ _ _ _, Nat.le_refl _⟩
  have HL := Lib.hid hLay
  have HB0 := Lib.hid ((Below.refl _ w).alloc (Nat.le_refl _) (.cells #[.slice none 0 0] 77))
  clear hLay
  go_enter Try.func39, Try.ntmps39
  go_wp2_with (go_at_call 43; refine (side_yes _ n hn0 hn1).mono ?_; rintro e w' ⟨rfl, rfl⟩)
  go_loopw [6, 7, 8, 29] (fun _ _ _ i wr => ∃ (d : Nat) (v : Value), d ≤ 16 ∧ i = .int .u64 (d : Int) ∧ Lay wr w.heap.size w.heap.size v (wid (cuP n 2 d)) ∧ Below w.heap.size w wr) (fun _ _ _ i _ => 16 - (intOf i).toNat)
  case atStart => exact ⟨0, _, Nat.zero_le _, rfl, HL.out, HB0.out⟩
  case round =>
    obtain ⟨d, v, hd, rfl, hlay, hbel⟩ := hrel
    have HLay := Lib.hid hlay
    have HBel := Lib.hid hbel
    have hsz := hbel.size
    have k0 := blk_cell hlay.blk 0
    simp at k0
    clear hlay hbel
    by_cases hlt : d < 16
    · have hpl := pt_lt 2 d
      have hat := At_any wr 2 d (by decide) (by simpa using hlt) (by omega)
      have hsn := cu_snoc n 2 d
      have hln := cu_len n 2 d
      generalize pt 2 d = q at *
      obtain ⟨x, y⟩ := q
      dsimp only at hpl hat hsn
      have hx1 : x < 4 := by have := hpl.1; simpa using this
      have hy1 : y < 4 := by have := hpl.2; simpa using this
      have hx0 : (0 : Int) ≤ (x : Int) := by omega
      have hy0 : (0 : Int) ≤ (y : Int) := by omega
      have mx := mul_le (a := 4) hx0 (by omega) (show 0 ≤ n by omega) hn1
      have my := mul_le (a := 4) hy0 (by omega) (show 0 ≤ n by omega) hn1
      have mx0 := mx.1
      have my0 := my.1
      have mx1 : (x : Int) * n ≤ 8589934592 := by omega
      have my1 : (y : Int) * n ≤ 8589934592 := by omega
      have wx : IntKind.i64.wrap ((x : Int) * n) = (x : Int) * n := IntWalk.i64_in _ (by omega)
      have wy : IntKind.i64.wrap ((y : Int) * n) = (y : Int) * n := IntWalk.i64_in _ (by omega)
      have HAT := Lib.hid hat
      have HSN := Lib.hid hsn
      have HLN := Lib.hid hln
      clear hpl hat hsn hln mx my hx1 hy1 hx0 hy0 k0
      go_wp2_with fail
      refine HAT.out.mono ?_
      rintro e w2 ⟨rfl, hb2⟩
      have hl2 : Lay w2 w.heap.size w.heap.size v (wid (cuP n 2 d)) := HLay.out.fr (Fr.of_below hb2) (fun _ _ h => h)
      have HL2 := Lib.hid hl2
      have HB2 := Lib.hid hb2
      have hsz2 := hb2.size
      have hltb := blk_lt hl2.blk
      clear hb2 hl2
      go_wp2_with fail
      obtain ⟨w3, hw3⟩ : ∃ w3 : World, w3 = w2.alloc (.cells #[.int .i64 (x : Int), .int .i64 (y : Int)] 29) := ⟨_, rfl⟩
      have hl3 : Lay w3 w.heap.size w.heap.size v (wid (cuP n 2 d)) := by rw [hw3]; exact HL2.out.fr ((Fr.refl (fun _ => False) w2).alloc _) (fun _ _ h => h)
      have hp3 : w3.heap[w2.heap.size]? = some (.cells #[.int .i64 (x : Int), .int .i64 (y : Int)] 29 (0, 0)) := by rw [hw3]; exact heap_alloc_new w2 _
      have hb3 : Below w.heap.size w w3 := by rw [hw3]; exact (HBel.out.trans (HB2.out.mono hsz)).alloc (by omega) _
      rw [← hw3]
      have c0 := blk_cell hp3 0
      have c1 := blk_cell hp3 1
      simp at c0 c1
      have hd4 : Lay w3.drew w.heap.size w.heap.size v (wid (cuP n 2 d)) := hl3.fr (Fr.refl (fun _ => False) w3).drew (fun _ _ h => h)
      have HB3 := Lib.hid hb3
      have HP3 := Lib.hid hp3
      have HD4 := Lib.hid hd4
      clear hw3 hl3 hp3 hb3 hd4
      go_region_held3 (fun w' => w'.cell? ⟨w2.heap.size, 0, none⟩ = some (.int .i64 (x : Int)) ∧ w'.cell? ⟨w2.heap.size, 1, none⟩ = some (.int .i64 (y : Int)))
        (exact ⟨by first | assumption | simpa using c0, by first | assumption | simpa using c1⟩)
        ((go_at_call 56; refine (put_wid w3.drew w.heap.size w.heap.size v (cuP n 2 d) ((x : Int) * n / 4) ((y : Int) * n / 4) HD4.out (by rw [HLN.out]; omega)).mono ?_; rintro e w5 ⟨rfl, v5, h5, f5⟩; have hp5 := blk_fr (w := w3.drew) HP3.out f5 (fun ho => by
            rcases ho with ho | ho
            · omega
            · exact row_ne HD4.out.row (show w3.drew.heap[w2.heap.size]? = _ from HP3.out) (by decide) ho); have cc0 := blk_cell hp5 0; have cc1 := blk_cell hp5 1; simp at cc0 cc1; have H5 := Lib.hid h5; have F5 := Lib.hid f5; clear h5 f5 hp5))
      all_goals
        go_wp2_with fail
        go_roundw
        case rel =>
          refine ⟨d + 1, v5, by omega, by go_num, ?_, ?_⟩
          · rw [HSN.out]
            simpa using H5.out
          · exact HB3.out.drew.trans (F5.out.below _ HB3.out.size (fun k hk => by
              rcases hk with rfl | hk
              · exact Nat.le_refl _
              · exact (HD4.out.row.lt k hk).1))
        case measure => simp [intOf]; omega
    · have hdm : d = 16 := by omega
      have HDM := Lib.hid hdm
      clear hdm
      go_wp2_with fail
      go_ret
      have hr := HLay.out.row
      rw [wid_len, cu_len, HDM.out] at hr
      exact ⟨_, rfl, hr, HBel.out⟩

set_option maxRecDepth 100000 in
set_option maxHeartbeats 3200000 in
theorem Curve_3 (w : World) (n : Int) (hn0 : 1 ≤ n) (hn1 : n ≤ 1073741824) (hbn : 8 ≤ n) :
    Calls Try.prog 39 #[.int .i64 n, .int .i64 3] w fun e w' => ∃ v, e = .returned v ∧ w'.ownsRow w.heap.size 61 3 v 64 (flat (wid (cuP n 3 64))) ∧ Below w.heap.size w w' := by
  have hLay : Lay (w.alloc (.cells #[.slice none 0 0] 77)) w.heap.size w.heap.size (.slice none 0 0) (wid (cuP n 3 0)) :=
    ⟨heap_alloc_new w _, World.ownsRow_nil _ _ _ _, Nat.le_refl _⟩
  have HL := Lib.hid hLay
  have HB0 := Lib.hid ((Below.refl _ w).alloc (Nat.le_refl _) (.cells #[.slice none 0 0] 77))
  clear hLay
  go_enter Try.func39, Try.ntmps39
  go_wp2_with (go_at_call 43; refine (side_yes _ n hn0 hn1).mono ?_; rintro e w' ⟨rfl, rfl⟩)
  go_loopw [6, 7, 8, 29] (fun _ _ _ i wr => ∃ (d : Nat) (v : Value), d ≤ 64 ∧ i = .int .u64 (d : Int) ∧ Lay wr w.heap.size w.heap.size v (wid (cuP n 3 d)) ∧ Below w.heap.size w wr) (fun _ _ _ i _ => 64 - (intOf i).toNat)
  case atStart => exact ⟨0, _, Nat.zero_le _, rfl, HL.out, HB0.out⟩
  case round =>
    obtain ⟨d, v, hd, rfl, hlay, hbel⟩ := hrel
    have HLay := Lib.hid hlay
    have HBel := Lib.hid hbel
    have hsz := hbel.size
    have k0 := blk_cell hlay.blk 0
    simp at k0
    clear hlay hbel
    by_cases hlt : d < 64
    · have hpl := pt_lt 3 d
      have hat := At_any wr 3 d (by decide) (by simpa using hlt) (by omega)
      have hsn := cu_snoc n 3 d
      have hln := cu_len n 3 d
      generalize pt 3 d = q at *
      obtain ⟨x, y⟩ := q
      dsimp only at hpl hat hsn
      have hx1 : x < 8 := by have := hpl.1; simpa using this
      have hy1 : y < 8 := by have := hpl.2; simpa using this
      have hx0 : (0 : Int) ≤ (x : Int) := by omega
      have hy0 : (0 : Int) ≤ (y : Int) := by omega
      have mx := mul_le (a := 8) hx0 (by omega) (show 0 ≤ n by omega) hn1
      have my := mul_le (a := 8) hy0 (by omega) (show 0 ≤ n by omega) hn1
      have mx0 := mx.1
      have my0 := my.1
      have mx1 : (x : Int) * n ≤ 8589934592 := by omega
      have my1 : (y : Int) * n ≤ 8589934592 := by omega
      have wx : IntKind.i64.wrap ((x : Int) * n) = (x : Int) * n := IntWalk.i64_in _ (by omega)
      have wy : IntKind.i64.wrap ((y : Int) * n) = (y : Int) * n := IntWalk.i64_in _ (by omega)
      have HAT := Lib.hid hat
      have HSN := Lib.hid hsn
      have HLN := Lib.hid hln
      clear hpl hat hsn hln mx my hx1 hy1 hx0 hy0 k0
      go_wp2_with fail
      refine HAT.out.mono ?_
      rintro e w2 ⟨rfl, hb2⟩
      have hl2 : Lay w2 w.heap.size w.heap.size v (wid (cuP n 3 d)) := HLay.out.fr (Fr.of_below hb2) (fun _ _ h => h)
      have HL2 := Lib.hid hl2
      have HB2 := Lib.hid hb2
      have hsz2 := hb2.size
      have hltb := blk_lt hl2.blk
      clear hb2 hl2
      go_wp2_with fail
      obtain ⟨w3, hw3⟩ : ∃ w3 : World, w3 = w2.alloc (.cells #[.int .i64 (x : Int), .int .i64 (y : Int)] 29) := ⟨_, rfl⟩
      have hl3 : Lay w3 w.heap.size w.heap.size v (wid (cuP n 3 d)) := by rw [hw3]; exact HL2.out.fr ((Fr.refl (fun _ => False) w2).alloc _) (fun _ _ h => h)
      have hp3 : w3.heap[w2.heap.size]? = some (.cells #[.int .i64 (x : Int), .int .i64 (y : Int)] 29 (0, 0)) := by rw [hw3]; exact heap_alloc_new w2 _
      have hb3 : Below w.heap.size w w3 := by rw [hw3]; exact (HBel.out.trans (HB2.out.mono hsz)).alloc (by omega) _
      rw [← hw3]
      have c0 := blk_cell hp3 0
      have c1 := blk_cell hp3 1
      simp at c0 c1
      have hd4 : Lay w3.drew w.heap.size w.heap.size v (wid (cuP n 3 d)) := hl3.fr (Fr.refl (fun _ => False) w3).drew (fun _ _ h => h)
      have HB3 := Lib.hid hb3
      have HP3 := Lib.hid hp3
      have HD4 := Lib.hid hd4
      clear hw3 hl3 hp3 hb3 hd4
      go_region_held3 (fun w' => w'.cell? ⟨w2.heap.size, 0, none⟩ = some (.int .i64 (x : Int)) ∧ w'.cell? ⟨w2.heap.size, 1, none⟩ = some (.int .i64 (y : Int)))
        (exact ⟨by first | assumption | simpa using c0, by first | assumption | simpa using c1⟩)
        ((go_at_call 56; refine (put_wid w3.drew w.heap.size w.heap.size v (cuP n 3 d) ((x : Int) * n / 8) ((y : Int) * n / 8) HD4.out (by rw [HLN.out]; omega)).mono ?_; rintro e w5 ⟨rfl, v5, h5, f5⟩; have hp5 := blk_fr (w := w3.drew) HP3.out f5 (fun ho => by
            rcases ho with ho | ho
            · omega
            · exact row_ne HD4.out.row (show w3.drew.heap[w2.heap.size]? = _ from HP3.out) (by decide) ho); have cc0 := blk_cell hp5 0; have cc1 := blk_cell hp5 1; simp at cc0 cc1; have H5 := Lib.hid h5; have F5 := Lib.hid f5; clear h5 f5 hp5))
      all_goals
        go_wp2_with fail
        go_roundw
        case rel =>
          refine ⟨d + 1, v5, by omega, by go_num, ?_, ?_⟩
          · rw [HSN.out]
            simpa using H5.out
          · exact HB3.out.drew.trans (F5.out.below _ HB3.out.size (fun k hk => by
              rcases hk with rfl | hk
              · exact Nat.le_refl _
              · exact (HD4.out.row.lt k hk).1))
        case measure => simp [intOf]; omega
    · have hdm : d = 64 := by omega
      have HDM := Lib.hid hdm
      clear hdm
      go_wp2_with fail
      go_ret
      have hr := HLay.out.row
      rw [wid_len, cu_len, HDM.out] at hr
      exact ⟨_, rfl, hr, HBel.out⟩

set_option maxHeartbeats 800000 in
theorem Curve_out (w : World) (n k : Int) (h : ¬ (1 ≤ n ∧ n ≤ 1073741824)) :
    Calls Try.prog 39 #[.int .i64 n, .int .i64 k] w fun e w' => e = .returned (.slice none 0 0) ∧ w = w' := by
  have HS := Lib.hid h
  clear h
  go_enter Try.func39, Try.ntmps39
  go_wp2_with (go_at_call 43; refine (side_no _ n HS.out).mono ?_; rintro e w' ⟨rfl, rfl⟩)
  go_ret
  exact ⟨rfl, rfl⟩
set_option maxHeartbeats 800000 in
theorem Curve_small (w : World) (n : Int) (b : Nat) (hn0 : 1 ≤ n) (hn1 : n ≤ 1073741824) (hb : b ≤ 3) (hbn : n < ((2 ^ b : Nat) : Int)) :
    Calls Try.prog 39 #[.int .i64 n, .int .i64 (b : Int)] w fun e w' => e = .returned (.slice none 0 0) ∧ w = w' := by
  have hb4 : b = 1 ∨ b = 2 ∨ b = 3 := by
    rcases Nat.eq_zero_or_pos b with rfl | h
    · simp at hbn; omega
    · omega
  rcases hb4 with rfl | rfl | rfl
  all_goals
    simp at hbn
    clear hb
    go_enter Try.func39, Try.ntmps39
    go_wp2_with (go_at_call 43; refine (side_yes _ n hn0 hn1).mono ?_; rintro e w' ⟨rfl, rfl⟩)
    go_ret
    exact ⟨rfl, rfl⟩
end Go.Proofs.Ytkhdnkmocbceeaa.Pat
