/- What is used of HfJ. -/
import Derived.Test.YtngmkjgklonfmaaSkHfH
import Derived.Test.YtngmkjgklonfmaaSkHoG
namespace Go.Proofs.Ytngmkjgklonfmaa.Wd
open Go.RowKit Go.Proofs.ZFr Go.Proofs.Ytngmkjgklonfmaa.PNearNearest Go.Proofs.Ytngmkjgklonfmaa.Big Go.Proofs.YtngmkjgklonfmaaW.PrintWords
theorem part_all (l : List Hf.P) (hl : l.length ≤ 500) : ∀ f, PartC l f
  | 0 => by intro p bf ga oa c cp n B A v xs W hpf; exact absurd hpf (Nat.not_lt_zero _)
  | f + 1 => part_step l hl f (part_all l hl f)
/-- What Fill leaves behind. -/
def FillQ (W : World) (o : Option (List Hf.Tr)) (e : Ending) (w' : World) : Prop :=
  ∃ v', e = .returned (.tuple #[v', .bool o.isSome]) ∧ w'.ownsRow W.heap.size 60 3 v' (o.getD []).length (flatT (o.getD [])) ∧ Fr (fun _ => False) W w'
/-- How a hole is filled. -/
noncomputable def fillO (l : List Hf.P) : Option (List Hf.Tr) := if l.length < 3 ∨ 500 < l.length then none else Hf.fl l (List.range l.length)
theorem row_nil (W : World) (B : Nat) : W.ownsRow B 60 3 (.slice none 0 0) 0 (flatT []) := ⟨rfl, .inl ⟨rfl, rfl⟩⟩
set_option maxRecDepth 100000 in
set_option maxHeartbeats 4000000 in
theorem fill_c (l : List Hf.P) (A : Option Addr) (cp : Nat) (W : World) (hl : l.length ≤ 5000) (hp : Pts W A l) : Calls Try.prog 39 #[.slice A l.length cp] W fun e w' => FillQ W (fillO l) e w' := by
  unfold fillO
  split
  · rename_i h
    refine (fill_no A l.length cp h hl W).mono ?_
    rintro e w' ⟨rfl, f⟩
    exact ⟨_, rfl, row_nil _ _, f⟩
  · rename_i hno
    have h3 : 3 ≤ l.length := by omega
    have h500 : l.length ≤ 500 := by omega
    have hA : ∀ a, A = some a → a.block < W.heap.size := fun a ha => by
      obtain ⟨ad', e, h1, _⟩ := hp 0 (by omega)
      rw [ha] at e
      cases e
      have h2 := World.block_lt_of_cell? W _ h1
      have h3 : (a.add (0 * 2)).block = a.block := by unfold Addr.add; split <;> rfl
      omega
    have HA := Lib.hid hA
    have HP := Lib.hid hp
    have H5 := Lib.hid h500
    have H3 := Lib.hid h3
    have a1 : ¬ (l.length : Int) < 3 := by omega
    have a2 : ¬ (500 : Int) < (l.length : Int) := by omega
    have T1 := Lib.hid (heap_alloc_new W (Obj.cells #[.slice A l.length cp, .slice none 0 0] 117))
    have F1 := Lib.hid ((Fr.refl (fun _ => False) W).alloc (Obj.cells #[.slice A l.length cp, .slice none 0 0] 117))
    clear hp hA h3 h500 hl hno
    go_enter Try.func39, Try.ntmps39
    go_wp2_with fail
    generalize W.alloc (Obj.cells #[.slice A l.length cp, .slice none 0 0] 117) = w1 at T1 F1 ⊢
    go_loopw [5, 20] (fun s i wr => ∃ k : Nat, k ≤ l.length ∧ i = .int .i64 (k : Int) ∧ wr.ownsRow w1.heap.size 3 1 s k (flatI (List.range k)) ∧ Fr (fun _ => False) w1 wr) (fun _ i _ => (l.length - intOf i).toNat)
    case atStart => exact ⟨0, by omega, rfl, ⟨rfl, .inl ⟨rfl, rfl⟩⟩, Fr.refl _ _⟩
    case round =>
      obtain ⟨k, hk, rfl, ho, hf⟩ := hrel
      obtain ⟨pr, cr, rfl⟩ := row_slice ho
      have HO := Lib.hid ho
      have HF := Lib.hid hf
      clear ho hf
      by_cases hk4 : k < l.length
      · have hkd : (k : Int) < (l.length : Int) := by omega
        have hk5 : (k : Int) < 500 := by have := H5.out; omega
        obtain ⟨i0, hi0, hz0, hz1, hz2⟩ := info_parts pinfo3
        have HRG := Lib.hid (show flatI (List.range (k + 1)) = flatI (List.range k) ++ [.int .i64 (k : Int)] from by unfold flatI; rw [List.range_succ, List.map_append]; rfl)
        generalize flatI (List.range k) = xs at HO HRG
        go_wp2_with (at_builtin; refine wpList_append_own_at _ rfl (.tmp 23) (.tmp 25) 37 rfl w1.heap.size 3 i0 _ 1 8 Try.underlying37 hi0 hz0 hz1 hz2 rfl (by decide) (.slice pr k cr) k xs rfl (HO.out.alloc _) ⟨wr.heap.size, 0, none⟩ 1 1 [.int .i64 (k : Int)] rfl rfl ?d1 ?d2 ?d3 ?d4 ?d5 ?more)
        case d1 => exact cell_one_new _ _ _
        case d2 => intro u hu; simp at hu; subst hu; rfl
        case d3 => unfold maxLen; omega
        case d4 => omega
        case d5 => have e1 := HF.out.size; simp; omega
        case more =>
          intro v2 w2 hown2 hgrow _ _
          have HO2 := Lib.hid hown2
          have HG2 := Lib.hid hgrow
          clear hown2 hgrow
          go_wp2_with fail
          go_roundw
          case rel => exact ⟨k + 1, by omega, by go_num, by rw [HRG.out]; exact HO2.out, (HF.out.alloc _).grown HG2.out (fun k hk => .inr (rbase HO.out k hk).1)⟩
          case measure => simp [intOf]; omega
      · have hke : k = l.length := by omega
        subst hke
        obtain ⟨ga, cr', hv⟩ := row_some HO.out (by have := H3.out; omega)
        simp only [Value.slice.injEq] at hv
        obtain ⟨rfl, _, rfl⟩ := hv
        have ho := HO.out
        have hb := (rbase ho ga rfl).1
        have hlt1 := ZFr.blk_lt T1.out
        have hF := F1.out.trans HF.out (fun _ h _ => h)
        have PT := Lib.hid (by
          have h := part_all l H5.out (l.length + 1) (List.range l.length) W.heap.size ga 0 cr cp 0 W.heap.size A (.slice none 0 0) [] wr (by simp) (by simp) (ZFr.blk_fr T1.out HF.out (fun h => h)) (HP.out.fr hF) (its_row ho) ⟨rfl, .inl ⟨rfl, rfl⟩⟩ hF.size (by simp; have := H5.out; omega) (by rw [List.length_range]; exact row_cap ho) (by omega) (by simp [Value.ownBlock]) (by simp [Value.ownBlock]) (fun a ha => ⟨by have := HA.out a ha; omega, by simp [Value.ownBlock]⟩)
          rw [List.length_range] at h
          exact h)
        clear ho hb hF
        cases hfl : Hf.fl l (List.range l.length) with
        | none =>
          rw [hfl] at PT
          go_wp2_with (go_at_call 70; have hc_ := PT.out; (with_reducible refine hc_.mono ?_); clear hc_; rintro e w5 ⟨rfl, q5⟩; have Q5 := Lib.hid q5; clear q5)
          go_ret2
          rw [hfl]
          refine ⟨_, rfl, row_nil _ _, (F1.out.trans HF.out (fun _ h _ => h)).trans Q5.out.1 (fun k h hlt => ?_)⟩
          rcases h with h | h
          · omega
          · simp [Value.ownBlock] at h
        | some o =>
          rw [hfl] at PT
          go_wp2_with (go_at_call 70; have hc_ := PT.out; (with_reducible refine hc_.mono ?_); clear hc_; rintro e w5 ⟨rfl, q5⟩; obtain ⟨f5, hx⟩ := q5; obtain ⟨v5, hb5, hr5, _⟩ := hx o rfl; have F5 := Lib.hid f5; have R5 := Lib.hid hr5; have c0 := ZFr.blk_cell hb5 0; have c1 := ZFr.blk_cell hb5 1; clear f5 hr5 hb5 hx)
          go_ret2
          rw [hfl]
          refine ⟨v5, rfl, ?_, (F1.out.trans HF.out (fun _ h _ => h)).trans F5.out (fun k h hlt => ?_)⟩
          · have h := R5.out
            rw [Nat.zero_add, List.nil_append] at h
            exact h
          · rcases h with h | h
            · omega
            · simp [Value.ownBlock] at h
theorem Fill_c (l : List Hf.P) (A : Option Addr) (cp : Nat) (W : World) (hl : l.length ≤ 5000) (hp : Pts W A l) : Calls Try.prog 17 #[.slice A l.length cp] W fun e w' => FillQ W (fillO l) e w' := by
  have H := Lib.hid (fill_c l A cp W hl hp)
  clear hp
  go_enter Try.func17, Try.ntmps17
  go_wp2_with (go_at_call 39; have hc_ := H.out; (with_reducible refine hc_.mono ?_); clear hc_; rintro e w2 ⟨v2, rfl, r2, f2⟩; have R2 := Lib.hid r2; have F2 := Lib.hid f2; clear r2 f2)
  go_ret2
  exact ⟨v2, rfl, R2.out, F2.out⟩
end Go.Proofs.Ytngmkjgklonfmaa.Wd

