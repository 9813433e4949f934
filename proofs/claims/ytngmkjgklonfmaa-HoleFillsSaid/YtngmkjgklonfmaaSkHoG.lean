/- What is used of HoG. -/
import Derived.Test.YtngmkjgklonfmaaSkHoF
namespace Go.Proofs.Ytngmkjgklonfmaa.Wd
open Go.RowKit Go.Proofs.ZFr Go.Proofs.Ytngmkjgklonfmaa.PNearNearest Go.Proofs.Ytngmkjgklonfmaa.Big Go.Proofs.YtngmkjgklonfmaaW.PrintWords
set_option maxRecDepth 100000 in
theorem fill_no (A : Option Addr) (n c : Nat) (hn : n < 3 ∨ 500 < n) (h1 : n ≤ 5000) (W : World) : Calls Try.prog 39 #[.slice A n c] W fun e w' => e = .returned (.tuple #[.slice none 0 0, .bool false]) ∧ Fr (fun _ => False) W w' := by
  by_cases h3 : n < 3
  · have a1 : (n : Int) < 3 := by omega
    go_enter Try.func39, Try.ntmps39
    go_wp2_with fail
    go_ret2
    exact ⟨rfl, Fr.refl _ _⟩
  · have a1 : ¬ (n : Int) < 3 := by omega
    have a2 : (500 : Int) < n := by omega
    go_enter Try.func39, Try.ntmps39
    go_wp2_with fail
    go_ret2
    exact ⟨rfl, Fr.refl _ _⟩
set_option maxRecDepth 100000 in
set_option maxHeartbeats 4000000 in
theorem fill_yes (IC : ICz) (gp cp : Nat) (W : World) (hp : Pts4 W gp) : Calls Try.prog 39 #[.slice (some ⟨gp, 0, none⟩) 4 cp] W fun e w' => ∃ v', e = .returned (.tuple #[v', .bool true]) ∧ w'.ownsRow W.heap.size 60 3 v' 2 [.int .i64 0, .int .i64 1, .int .i64 3, .int .i64 1, .int .i64 2, .int .i64 3] ∧ Fr (fun _ => False) W w' := by
  have HP := Lib.hid hp
  have HGP := Lib.hid (World.block_lt_of_cell? W _ hp.1)
  have T1 := Lib.hid (heap_alloc_new W (Obj.cells #[.slice (some ⟨gp, 0, none⟩) 4 cp, .slice none 0 0] 117))
  have F1 := Lib.hid ((Fr.refl (fun _ => False) W).alloc (Obj.cells #[.slice (some ⟨gp, 0, none⟩) 4 cp, .slice none 0 0] 117))
  clear hp
  go_enter Try.func39, Try.ntmps39
  go_wp2_with fail
  generalize W.alloc (Obj.cells #[.slice (some ⟨gp, 0, none⟩) 4 cp, .slice none 0 0] 117) = w1 at T1 F1 ⊢
  go_loopw [5, 20] (fun s i wr => ∃ k : Nat, k ≤ 4 ∧ i = .int .i64 (k : Int) ∧ wr.ownsRow w1.heap.size 3 1 s k ((List.range k).map fun j : Nat => Value.int .i64 (j : Int)) ∧ Fr (fun _ => False) w1 wr) (fun _ i _ => (4 - intOf i).toNat)
  case atStart => exact ⟨0, by omega, rfl, ⟨rfl, .inl ⟨rfl, rfl⟩⟩, Fr.refl _ _⟩
  case round =>
    obtain ⟨k, hk, rfl, ho, hf⟩ := hrel
    obtain ⟨pr, cr, rfl⟩ := row_slice ho
    have HO := Lib.hid ho
    have HF := Lib.hid hf
    clear ho hf
    by_cases hk4 : k < 4
    · have hkd : (k : Int) < 4 := by omega
      obtain ⟨i0, hi0, hz0, hz1, hz2⟩ := info_parts pinfo3
      have HRG := Lib.hid (show ((List.range (k + 1)).map fun j : Nat => Value.int .i64 (j : Int)) = ((List.range k).map fun j : Nat => Value.int .i64 (j : Int)) ++ [.int .i64 (k : Int)] from by rw [List.range_succ, List.map_append]; rfl)
      generalize ((List.range k).map fun j : Nat => Value.int .i64 (j : Int)) = xs at HO HRG
      go_wp2_with (at_builtin; refine wpList_append_own_at _ rfl (.tmp 23) (.tmp 25) 37 rfl w1.heap.size 3 i0 _ 1 8 Try.underlying37 hi0 hz0 hz1 hz2 rfl (by decide) (.slice pr k cr) k xs rfl (HO.out.alloc _) ⟨wr.heap.size, 0, none⟩ 1 1 [.int .i64 (k : Int)] rfl rfl ?d1 ?d2 ?d3 ?d4 ?d5 ?more)
      case d1 => exact cell_one_new _ _ _
      case d2 => intro u hu; simp at hu; subst hu; rfl
      case d3 => unfold maxLen; omega
      case d4 => omega
      case d5 => have e1 := HF.out.size; simp; omega
      case more =>
        intro v2 w2 hown2 hgrow _ _
        have HO2 := Lib.hid hown2
        have HG2 := Lib.hid hgrow
        clear hown2 hgrow
        go_wp2_with fail
        go_roundw
        case rel => exact ⟨k + 1, by omega, by go_num, by rw [HRG.out]; exact HO2.out, (HF.out.alloc _).grown HG2.out (fun k hk => .inr (rbase HO.out k hk).1)⟩
        case measure => simp [intOf]; omega
    · have hke : k = 4 := by omega
      subst hke
      obtain ⟨ga, cr', hv⟩ := row_some HO.out (by decide)
      simp only [Value.slice.injEq] at hv
      obtain ⟨rfl, _, rfl⟩ := hv
      have ho := HO.out
      have hb := (rbase ho ga rfl).1
      have hcr : 4 ≤ cr := by
        obtain ⟨_, h | ⟨g', cap, cur, he, _, _, hn, _⟩⟩ := ho
        · simp at h
        · simp only [Value.slice.injEq] at he; omega
      have hlt1 := ZFr.blk_lt T1.out
      have hgp := HGP.out
      have PT := Lib.hid (part4_walk IC W.heap.size gp ga 0 cr cp W.heap.size 0 (.slice none 0 0) [] wr (ZFr.blk_fr T1.out HF.out (fun h => h)) (HP.out.fr (F1.out.trans HF.out (fun _ h _ => h)) (fun h => h)) (row_cell ho 0 _ rfl) (row_cell ho 1 _ rfl) (row_cell ho 2 _ rfl) (row_cell ho 3 _ rfl) ⟨rfl, .inl ⟨rfl, rfl⟩⟩ (F1.out.trans HF.out (fun _ h _ => h)).size (by decide) hcr (by omega) (by omega) (by simp [Value.ownBlock]) (by simp [Value.ownBlock]) (by simp [Value.ownBlock]))
      clear ho hb hcr
      go_wp2_with (go_at_call 70; have hc_ := PT.out; (with_reducible refine hc_.mono ?_); clear hc_; rintro e w5 ⟨rfl, f5, v5, hb5, hr5⟩; have F5 := Lib.hid f5; have R5 := Lib.hid hr5; have c0 := ZFr.blk_cell hb5 0; have c1 := ZFr.blk_cell hb5 1; clear f5 hr5 hb5)
      go_ret2
      refine ⟨v5, rfl, R5.out, (F1.out.trans HF.out (fun _ h _ => h)).trans F5.out (fun k h hlt => ?_)⟩
      rcases h with h | h
      · omega
      · simp [Value.ownBlock] at h
theorem Fill_yes (IC : ICz) (gp cp : Nat) (W : World) (hp : Pts4 W gp) : Calls Try.prog 17 #[.slice (some ⟨gp, 0, none⟩) 4 cp] W fun e w' => ∃ v', e = .returned (.tuple #[v', .bool true]) ∧ w'.ownsRow W.heap.size 60 3 v' 2 [.int .i64 0, .int .i64 1, .int .i64 3, .int .i64 1, .int .i64 2, .int .i64 3] ∧ Fr (fun _ => False) W w' := by
  have H := Lib.hid (fill_yes IC gp cp W hp)
  clear hp
  go_enter Try.func17, Try.ntmps17
  go_wp2_with (go_at_call 39; have hc_ := H.out; (with_reducible refine hc_.mono ?_); clear hc_; rintro e w2 ⟨v2, rfl, r2, f2⟩; have R2 := Lib.hid r2; have F2 := Lib.hid f2; clear r2 f2)
  go_ret2
  exact ⟨v2, rfl, R2.out, F2.out⟩
end Go.Proofs.Ytngmkjgklonfmaa.Wd

