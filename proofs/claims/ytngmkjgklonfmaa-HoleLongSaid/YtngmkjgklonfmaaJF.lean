/- Joined texts. -/
import Derived.Test.YtngmkjgklonfmaaSkHoF
import Derived.Laws.MakeOwn
/- What is used of HoG. -/
namespace Go.Proofs.Ytngmkjgklonfmaa.Wd
open Go.RowKit Go.Proofs.ZFr Go.Proofs.Ytngmkjgklonfmaa.PNearNearest Go.Proofs.Ytngmkjgklonfmaa.Big Go.Proofs.YtngmkjgklonfmaaW.PrintWords
set_option maxRecDepth 100000 in
theorem fill_no (A : Option Addr) (n c : Nat) (hn : n < 3 ∨ 500 < n) (h1 : n ≤ 5000) (W : World) : Calls Try.prog 39 #[.slice A n c] W fun e w' => e = .returned (.tuple #[.slice none 0 0, .bool false]) ∧ Fr (fun _ => False) W w' := by
  by_cases h3 : n < 3
  · have a1 : (n : Int) < 3 := by omega
    go_enter Try.func39, Try.ntmps39
    go_wp2_with fail
    go_ret2
    exact ⟨rfl, Fr.refl _ _⟩
  · have a1 : ¬ (n : Int) < 3 := by omega
    have a2 : (500 : Int) < n := by omega
    go_enter Try.func39, Try.ntmps39
    go_wp2_with fail
    go_ret2
    exact ⟨rfl, Fr.refl _ _⟩
theorem Fill_no (A : Option Addr) (n c : Nat) (hn : n < 3 ∨ 500 < n) (h1 : n ≤ 5000) (W : World) : Calls Try.prog 17 #[.slice A n c] W fun e w' => e = .returned (.tuple #[.slice none 0 0, .bool false]) ∧ Fr (fun _ => False) W w' := by
  have H := Lib.hid (fill_no A n c hn h1)
  clear hn h1
  go_enter Try.func17, Try.ntmps17
  go_wp2_with (go_at_call 39; have hc_ := H.out W; (with_reducible refine hc_.mono ?_); clear hc_; rintro e w2 ⟨rfl, f2⟩)
  go_ret2
  exact ⟨rfl, f2⟩
set_option maxRecDepth 100000 in
set_option maxHeartbeats 4000000 in
theorem fill_yes (IC : ICz) (gp cp : Nat) (W : World) (hp : Pts4 W gp) : Calls Try.prog 39 #[.slice (some ⟨gp, 0, none⟩) 4 cp] W fun e w' => ∃ v', e = .returned (.tuple #[v', .bool true]) ∧ w'.ownsRow W.heap.size 60 3 v' 2 [.int .i64 0, .int .i64 1, .int .i64 3, .int .i64 1, .int .i64 2, .int .i64 3] ∧ Fr (fun _ => False) W w' := by
  have HP := Lib.hid hp
  have HGP := Lib.hid (World.block_lt_of_cell? W _ hp.1)
  have T1 := Lib.hid (heap_alloc_new W (Obj.cells #[.slice (some ⟨gp, 0, none⟩) 4 cp, .slice none 0 0] 117))
  have F1 := Lib.hid ((Fr.refl (fun _ => False) W).alloc (Obj.cells #[.slice (some ⟨gp, 0, none⟩) 4 cp, .slice none 0 0] 117))
  clear hp
  go_enter Try.func39, Try.ntmps39
  go_wp2_with fail
  generalize W.alloc (Obj.cells #[.slice (some ⟨gp, 0, none⟩) 4 cp, .slice none 0 0] 117) = w1 at T1 F1 ⊢
  go_loopw [5, 20] (fun s i wr => ∃ k : Nat, k ≤ 4 ∧ i = .int .i64 (k : Int) ∧ wr.ownsRow w1.heap.size 3 1 s k ((List.range k).map fun j : Nat => Value.int .i64 (j : Int)) ∧ Fr (fun _ => False) w1 wr) (fun _ i _ => (4 - intOf i).toNat)
  case atStart => exact ⟨0, by omega, rfl, ⟨rfl, .inl ⟨rfl, rfl⟩⟩, Fr.refl _ _⟩
  case round =>
    obtain ⟨k, hk, rfl, ho, hf⟩ := hrel
    obtain ⟨pr, cr, rfl⟩ := row_slice ho
    have HO := Lib.hid ho
    have HF := Lib.hid hf
    clear ho hf
    by_cases hk4 : k < 4
    · have hkd : (k : Int) < 4 := by omega
      obtain ⟨i0, hi0, hz0, hz1, hz2⟩ := info_parts pinfo3
      have HRG := Lib.hid (show ((List.range (k + 1)).map fun j : Nat => Value.int .i64 (j : Int)) = ((List.range k).map fun j : Nat => Value.int .i64 (j : Int)) ++ [.int .i64 (k : Int)] from by rw [List.range_succ, List.map_append]; rfl)
      generalize ((List.range k).map fun j : Nat => Value.int .i64 (j : Int)) = xs at HO HRG
      go_wp2_with (at_builtin; refine wpList_append_own_at _ rfl (.tmp 23) (.tmp 25) 37 rfl w1.heap.size 3 i0 _ 1 8 Try.underlying37 hi0 hz0 hz1 hz2 rfl (by decide) (.slice pr k cr) k xs rfl (HO.out.alloc _) ⟨wr.heap.size, 0, none⟩ 1 1 [.int .i64 (k : Int)] rfl rfl ?d1 ?d2 ?d3 ?d4 ?d5 ?more)
      case d1 => exact cell_one_new _ _ _
      case d2 => intro u hu; simp at hu; subst hu; rfl
      case d3 => unfold maxLen; omega
      case d4 => omega
      case d5 => have e1 := HF.out.size; simp; omega
      case more =>
        intro v2 w2 hown2 hgrow _ _
        have HO2 := Lib.hid hown2
        have HG2 := Lib.hid hgrow
        clear hown2 hgrow
        go_wp2_with fail
        go_roundw
        case rel => exact ⟨k + 1, by omega, by go_num, by rw [HRG.out]; exact HO2.out, (HF.out.alloc _).grown HG2.out (fun k hk => .inr (rbase HO.out k hk).1)⟩
        case measure => simp [intOf]; omega
    · have hke : k = 4 := by omega
      subst hke
      obtain ⟨ga, cr', hv⟩ := row_some HO.out (by decide)
      simp only [Value.slice.injEq] at hv
      obtain ⟨rfl, _, rfl⟩ := hv
      have ho := HO.out
      have hb := (rbase ho ga rfl).1
      have hcr : 4 ≤ cr := by
        obtain ⟨_, h | ⟨g', cap, cur, he, _, _, hn, _⟩⟩ := ho
        · simp at h
        · simp only [Value.slice.injEq] at he; omega
      have hlt1 := ZFr.blk_lt T1.out
      have hgp := HGP.out
      have PT := Lib.hid (part4_walk IC W.heap.size gp ga 0 cr cp W.heap.size 0 (.slice none 0 0) [] wr (ZFr.blk_fr T1.out HF.out (fun h => h)) (HP.out.fr (F1.out.trans HF.out (fun _ h _ => h)) (fun h => h)) (row_cell ho 0 _ rfl) (row_cell ho 1 _ rfl) (row_cell ho 2 _ rfl) (row_cell ho 3 _ rfl) ⟨rfl, .inl ⟨rfl, rfl⟩⟩ (F1.out.trans HF.out (fun _ h _ => h)).size (by decide) hcr (by omega) (by omega) (by simp [Value.ownBlock]) (by simp [Value.ownBlock]) (by simp [Value.ownBlock]))
      clear ho hb hcr
      go_wp2_with (go_at_call 70; have hc_ := PT.out; (with_reducible refine hc_.mono ?_); clear hc_; rintro e w5 ⟨rfl, f5, v5, hb5, hr5⟩; have F5 := Lib.hid f5; have R5 := Lib.hid hr5; have c0 := ZFr.blk_cell hb5 0; have c1 := ZFr.blk_cell hb5 1; clear f5 hr5 hb5)
      go_ret2
      refine ⟨v5, rfl, R5.out, (F1.out.trans HF.out (fun _ h _ => h)).trans F5.out (fun k h hlt => ?_)⟩
      rcases h with h | h
      · omega
      · simp [Value.ownBlock] at h
theorem Fill_yes (IC : ICz) (gp cp : Nat) (W : World) (hp : Pts4 W gp) : Calls Try.prog 17 #[.slice (some ⟨gp, 0, none⟩) 4 cp] W fun e w' => ∃ v', e = .returned (.tuple #[v', .bool true]) ∧ w'.ownsRow W.heap.size 60 3 v' 2 [.int .i64 0, .int .i64 1, .int .i64 3, .int .i64 1, .int .i64 2, .int .i64 3] ∧ Fr (fun _ => False) W w' := by
  have H := Lib.hid (fill_yes IC gp cp W hp)
  clear hp
  go_enter Try.func17, Try.ntmps17
  go_wp2_with (go_at_call 39; have hc_ := H.out; (with_reducible refine hc_.mono ?_); clear hc_; rintro e w2 ⟨v2, rfl, r2, f2⟩; have R2 := Lib.hid r2; have F2 := Lib.hid f2; clear r2 f2)
  go_ret2
  exact ⟨v2, rfl, R2.out, F2.out⟩
end Go.Proofs.Ytngmkjgklonfmaa.Wd


/- What is used of HoH. -/
namespace Go.Proofs.Ytngmkjgklonfmaa.Wd
open Go.RowKit Go.Proofs.ZFr Go.Proofs.Ytngmkjgklonfmaa.PNearNearest Go.Proofs.Ytngmkjgklonfmaa.Big Go.Proofs.YtngmkjgklonfmaaW.PrintWords
theorem eqA60 (d : Nat) (w : World) (x0 x1 x2 y0 y1 y2 : Int) : (Op.equalIn (d + 2) 60 (.agg #[.int .i64 x0, .int .i64 x1, .int .i64 x2]) (.agg #[.int .i64 y0, .int .i64 y1, .int .i64 y2])).run Try.prog w = .ok (x0 == y0 && (x1 == y1 && (x2 == y2 && true))) w := by
  obtain ⟨i0, hi0, _⟩ := info_parts pinfo3
  rw [Go.run_equalIn_array w (d + 1) _ _ Try.underlying60 hi0, show Try.prog.cellsOf 3 = 1 from by kernel_rfl, show List.range 3 = [0, 1, 2] from rfl]
  refine eqi_cons (by go_simp; rfl) (by go_simp; rfl) (by go_simp) ?_
  refine eqi_cons (by go_simp; rfl) (by go_simp; rfl) (by go_simp) ?_
  refine eqi_cons (by go_simp; rfl) (by go_simp; rfl) (by go_simp) ?_
  simp [Op.eqItems]
attribute [local go_sem high] eqA60
def Six (w : World) (g : Nat) : Prop := w.cell? ⟨g, 0, none⟩ = some (.int .i64 0) ∧ w.cell? ⟨g, 1, none⟩ = some (.int .i64 1) ∧ w.cell? ⟨g, 2, none⟩ = some (.int .i64 3) ∧ w.cell? ⟨g, 3, none⟩ = some (.int .i64 1) ∧ w.cell? ⟨g, 4, none⟩ = some (.int .i64 2) ∧ w.cell? ⟨g, 5, none⟩ = some (.int .i64 3)
theorem Six.fr {w w' : World} {g : Nat} (h : Six w g) (hf : Fr (fun _ => False) w w') : Six w' g := by
  obtain ⟨h0, h1, h2, h3, h4, h5⟩ := h
  exact ⟨fr_cell h0 hf, fr_cell h1 hf, fr_cell h2 hf, fr_cell h3 hf, fr_cell h4 hf, fr_cell h5 hf⟩
set_option maxRecDepth 100000 in
set_option maxHeartbeats 4000000 in
theorem same13_walk (ga gb c d : Nat) (W : World) (ha : Six W ga) (hb : Six W gb) : Calls Try.prog 19 #[.slice (some ⟨ga, 0, none⟩) 2 c, .slice (some ⟨gb, 0, none⟩) 2 d] W fun e w' => e = .returned (.bool true) ∧ Fr (fun _ => False) W w' := by
  have HA := Lib.hid ha
  have HB := Lib.hid hb
  clear ha hb
  go_enter Try.func19, Try.ntmps19
  go_wp2_with fail
  go_loopw [5] (fun i wr => ∃ k : Nat, k ≤ 2 ∧ i = .int .i64 (k : Int) ∧ Fr (fun _ => False) W wr) (fun i _ => (2 - intOf i).toNat)
  case atStart => exact ⟨0, by omega, rfl, Fr.refl _ _⟩
  case round =>
    obtain ⟨k, hk, rfl, hf⟩ := hrel
    have HF := Lib.hid hf
    obtain ⟨a0, a1, a2, a3, a4, a5⟩ := HA.out.fr hf
    obtain ⟨b0, b1, b2, b3, b4, b5⟩ := HB.out.fr hf
    clear hf
    have hkk : k = 0 ∨ k = 1 ∨ k = 2 := by omega
    rcases hkk with rfl | rfl | rfl
    · go_wp2_with fail
      go_quiet (fail)
      go_wp2_with fail
      go_roundw
      case rel => exact ⟨1, by omega, rfl, HF.out.drewN _⟩
      case measure => simp [intOf]
    · go_wp2_with fail
      go_quiet (fail)
      go_wp2_with fail
      go_roundw
      case rel => exact ⟨2, by omega, rfl, HF.out.drewN _⟩
      case measure => simp [intOf]
    · go_wp2_with fail
      go_ret
      exact ⟨rfl, HF.out⟩
set_option maxRecDepth 100000 in
set_option maxHeartbeats 4000000 in
theorem lives13 (IC : ICz) (W : World) : Calls Try.prog 20 #[] W fun e w' => e = .returned (.bool true) ∧ Fr (fun _ => False) W w' := by
  have T1 := Lib.hid (heap_alloc_new W (Obj.cells #[.int .i64 0, .int .i64 0, .int .i64 2, .int .i64 0, .int .i64 2, .int .i64 2, .int .i64 0, .int .i64 2] 24))
  have F1 := Lib.hid ((Fr.refl (fun _ => False) W).alloc (Obj.cells #[.int .i64 0, .int .i64 0, .int .i64 2, .int .i64 0, .int .i64 2, .int .i64 2, .int .i64 0, .int .i64 2] 24))
  have FY := Lib.hid (Fill_yes IC W.heap.size 4 (W.alloc (Obj.cells #[.int .i64 0, .int .i64 0, .int .i64 2, .int .i64 0, .int .i64 2, .int .i64 2, .int .i64 0, .int .i64 2] 24)) ⟨ZFr.blk_cell T1.out 0, ZFr.blk_cell T1.out 1, ZFr.blk_cell T1.out 2, ZFr.blk_cell T1.out 3, ZFr.blk_cell T1.out 4, ZFr.blk_cell T1.out 5, ZFr.blk_cell T1.out 6, ZFr.blk_cell T1.out 7⟩)
  go_enter Try.func20, Try.ntmps20
  go_wp2_with (first
    | (go_at_call 19; have hc_ := SM.out; (with_reducible refine hc_.mono ?_); clear hc_; rintro e w5 ⟨rfl, f5⟩; have F5 := Lib.hid f5; clear f5)
    | (go_at_call 17; have hc_ := FY.out; (with_reducible refine hc_.mono ?_); clear hc_; rintro e w3 ⟨v3, rfl, r3, f3⟩; obtain ⟨g3, c3, rfl⟩ := row_some r3 (by decide); have F3 := Lib.hid (F1.out.trans f3 (fun _ h _ => h)); have SM := Lib.hid (same13_walk g3 w3.heap.size c3 2 (w3.alloc (Obj.cells #[.int .i64 0, .int .i64 1, .int .i64 3, .int .i64 1, .int .i64 2, .int .i64 3] 60)) (Six.fr ⟨row_cell r3 0 _ rfl, row_cell r3 1 _ rfl, row_cell r3 2 _ rfl, row_cell r3 3 _ rfl, row_cell r3 4 _ rfl, row_cell r3 5 _ rfl⟩ ((Fr.refl _ w3).alloc _)) ⟨ZFr.blk_cell (heap_alloc_new w3 _) 0, ZFr.blk_cell (heap_alloc_new w3 _) 1, ZFr.blk_cell (heap_alloc_new w3 _) 2, ZFr.blk_cell (heap_alloc_new w3 _) 3, ZFr.blk_cell (heap_alloc_new w3 _) 4, ZFr.blk_cell (heap_alloc_new w3 _) 5⟩); clear r3 f3))
  go_ret
  exact ⟨rfl, (F3.out.alloc _).trans F5.out (fun _ h _ => h)⟩
end Go.Proofs.Ytngmkjgklonfmaa.Wd


/- What is used of HoL. -/
namespace Go.Proofs.Ytngmkjgklonfmaa.Wd
open Go.RowKit Go.Proofs.ZFr Go.Proofs.Ytngmkjgklonfmaa.PNearNearest Go.Proofs.Ytngmkjgklonfmaa.Big Go.Proofs.YtngmkjgklonfmaaW.PrintWords
set_option maxRecDepth 100000 in
set_option maxHeartbeats 4000000 in
theorem law_long (IC : ICz) (n x y : Int) (hn : 0 ≤ n ∧ n < 65536) (W : World) : Calls Try.prog 5 #[.int .u16 n, .agg #[.int .i64 x, .int .i64 y]] W fun e w' => e = .returned (.bool true) ∧ Fr (fun _ => False) W w' := by
  have LV := Lib.hid (lives13 IC)
  have T1 := Lib.hid (heap_alloc_new W (Obj.cells #[.int .i64 x, .int .i64 y] 24))
  have F1 := Lib.hid ((Fr.refl (fun _ => False) W).alloc (Obj.cells #[.int .i64 x, .int .i64 y] 24))
  obtain ⟨m, hm, hm1, hm2⟩ : ∃ m : Nat, 501 + n % 500 = (m : Int) ∧ 500 < m ∧ m ≤ 1000 := ⟨(501 + n % 500).toNat, by omega, by omega, by omega⟩
  obtain ⟨i0, hi0, hz0, hz1, hz2⟩ := info_parts pinfo24
  have MK := Lib.hid (fun w : World => (show (Instr.makeSlice 44 (.int .i64 (m : Int)) (.int .i64 (m : Int))).run Try.prog w = .ok (.slice (some ⟨w.heap.size, 0, none⟩) m m) (w.alloc (.cells (madeCells (Value.agg #[.int .i64 0, .int .i64 0]).cells (m * i0.size)) 24)) from by
    have h := run_makeSlice (P := Try.prog) w 44 24 i0 _ Try.underlying44 hi0 hz0 .i64 .i64 (m : Int) (m : Int) (by omega) (by omega) (by rw [hz1, Int.toNat_natCast]; omega) (by rw [hz2]; omega) (by omega)
    rw [Int.toNat_natCast] at h
    exact h))
  have N1 := Lib.hid (fun A w => Fill_no A m m (.inr hm1) (by omega) w)
  have N2 := Lib.hid (fun A w => Fill_no A 2 2 (.inl (by decide)) (by decide) w)
  clear hm1 hm2
  go_enter Try.func5, Try.ntmps5
  go_upto_region 2 with fail
  generalize W.alloc (Obj.cells #[.int .i64 x, .int .i64 y] 24) = w1 at T1 F1 ⊢
  have mk := MK.out w1
  generalize madeCells (Value.agg #[.int .i64 0, .int .i64 0]).cells (m * i0.size) = zs at mk
  go_upto_region 3 with (go_at_call 17; have hc_ := N1.out (some ⟨w1.heap.size, 0, none⟩) (w1.alloc (.cells zs 24)); (with_reducible refine hc_.mono ?_); clear hc_; rintro e w2 ⟨rfl, f2⟩; have F2 := Lib.hid (F1.out.trans (((Fr.refl (fun _ => False) w1).alloc (.cells zs 24)).trans f2 (fun _ h _ => h)) (fun _ h _ => h)); have T2 := Lib.hid (ZFr.blk_fr (ZFr.blk_alloc T1.out (.cells zs 24)) f2 (fun h => h)); clear f2)
  obtain ⟨p1, p2⟩ := point_cells T2.out
  clear mk
  go_upto_region 4 with (go_at_call 17; have hc_ := N2.out (some ⟨w2.heap.size, 0, none⟩) (w2.alloc (Obj.cells #[.int .i64 x, .int .i64 y, .int .i64 x, .int .i64 y] 24)); (with_reducible refine hc_.mono ?_); clear hc_; rintro e w3 ⟨rfl, f3⟩; have F3 := Lib.hid (F2.out.trans (((Fr.refl (fun _ => False) w2).alloc (Obj.cells #[.int .i64 x, .int .i64 y, .int .i64 x, .int .i64 y] 24)).trans f3 (fun _ h _ => h)) (fun _ h _ => h)); clear f3)
  go_wp2_with (go_at_call 20; have hc_ := LV.out w3; (with_reducible refine hc_.mono ?_); clear hc_; rintro e w4 ⟨rfl, f4⟩; have F4 := Lib.hid (F3.out.trans f4 (fun _ h _ => h)); clear f4)
  go_ret
  exact ⟨rfl, F4.out⟩
end Go.Proofs.Ytngmkjgklonfmaa.Wd

