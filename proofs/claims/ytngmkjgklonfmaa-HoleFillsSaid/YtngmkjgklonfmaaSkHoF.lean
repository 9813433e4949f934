/- What is used of HoF. -/
import Derived.Test.YtngmkjgklonfmaaSkHoE
namespace Go.Proofs.Ytngmkjgklonfmaa.Wd
open Go.RowKit Go.Proofs.ZFr Go.Proofs.Ytngmkjgklonfmaa.PNearNearest Go.Proofs.Ytngmkjgklonfmaa.Big Go.Proofs.YtngmkjgklonfmaaW.PrintWords
attribute [local go_sem ↓] Go.wp_at_zero Go.wp_at_succ
set_option maxRecDepth 100000 in
set_option maxHeartbeats 8000000 in
theorem part4_walk (IC : ICz) (bf gp ga oa c cp B n : Nat) (v : Value) (xs : List Value) (W : World) (hb : W.heap[bf]? = some (.cells #[.slice (some ⟨gp, 0, none⟩) 4 cp, v] 117 (0, 0))) (hp : Pts4 W gp) (h1 : W.cell? ⟨ga, oa, none⟩ = some (.int .i64 0)) (h2 : W.cell? ⟨ga, oa + 1, none⟩ = some (.int .i64 1)) (h3 : W.cell? ⟨ga, oa + 2, none⟩ = some (.int .i64 2)) (h4 : W.cell? ⟨ga, oa + 3, none⟩ = some (.int .i64 3)) (hr : W.ownsRow B 60 3 v n xs) (hB : B ≤ W.heap.size) (hn : n ≤ 5) (hc : 4 ≤ c) (n1 : ga ≠ bf) (n2 : gp ≠ bf) (n3 : v.ownBlock ≠ some ga) (n4 : v.ownBlock ≠ some gp) (n5 : v.ownBlock ≠ some bf) : Calls Try.prog 70 #[.pointer (some ⟨bf, 0, none⟩), .slice (some ⟨ga, oa, none⟩) 4 c] W fun e w' => e = .returned (.bool true) ∧ Fr (fun k => k = bf ∨ v.ownBlock = some k) W w' ∧ ∃ v', w'.heap[bf]? = some (.cells #[.slice (some ⟨gp, 0, none⟩) 4 cp, v'] 117 (0, 0)) ∧ w'.ownsRow B 60 3 v' (n + 1 + 1) (xs ++ [.int .i64 0, .int .i64 1, .int .i64 3] ++ [.int .i64 1, .int .i64 2, .int .i64 3]) := by
  have HB := Lib.hid hb
  have HP := Lib.hid hp
  have H1 := Lib.hid h1
  have H2 := Lib.hid h2
  have H3 := Lib.hid h3
  have H4 := Lib.hid h4
  have HR := Lib.hid hr
  have HBB := Lib.hid hB
  have HN := Lib.hid hn
  have HCC := Lib.hid hc
  have N5 := Lib.hid n5
  have N34 := Lib.hid (And.intro n3 n4)
  have N12 := Lib.hid (And.intro n1 n2)
  have hc3 : (4 : Int) ≤ (c : Int) := by omega
  have hc33 : (3 : Int) ≤ (c : Int) := by omega
  have hc2 : (2 : Int) ≤ (c : Int) := by omega
  have hc0 : ¬ c = 2 := by omega
  clear hb hp h1 h2 h3 h4 hr hB hn hc n1 n2 n3 n4 n5
  -- what stands in memory behind a call that leaves all as it was
  have MW := Lib.hid (fun w (hf : Fr (fun _ => False) W w) => And.intro (ZFr.blk_fr HB.out hf (fun h => h)) (And.intro (Pts4.fr HP.out hf (fun h => h)) (And.intro (fr_cell H1.out hf) (And.intro (fr_cell H2.out hf) (And.intro (fr_cell H3.out hf) (fr_cell H4.out hf))))))
  have fcell : ∀ w : World, w.heap[bf]? = some (.cells #[.slice (some ⟨gp, 0, none⟩) 4 cp, v] 117 (0, 0)) → w.cell? ⟨bf, 0, none⟩ = some (.slice (some ⟨gp, 0, none⟩) 4 cp) ∧ w.cell? ⟨bf, 1, none⟩ = some v := fun w h => ⟨ZFr.blk_cell h 0, ZFr.blk_cell h 1⟩
  have FCL := Lib.hid fcell
  clear fcell
  go_enter Try.func70, Try.ntmps70
  go_wp2_with fail
  go_loopw [5, 15] (fun s i wr => ∃ k : Nat, k ≤ 2 ∧ i = .int .i64 (k : Int) ∧ wr.ownsRow W.heap.size 24 2 s k (if k = 0 then [] else if k = 1 then [.int .i64 2, .int .i64 2] else [.int .i64 2, .int .i64 2, .int .i64 0, .int .i64 2]) ∧ Fr (fun _ => False) W wr) (fun _ i _ => (2 - intOf i).toNat)
  case atStart => exact ⟨0, by omega, rfl, ⟨rfl, .inl ⟨rfl, rfl⟩⟩, Fr.refl _ _⟩
  case round =>
    obtain ⟨k, hk, rfl, ho, hf⟩ := hrel
    obtain ⟨pr, cr, rfl⟩ := row_slice ho
    have HO := Lib.hid ho
    have HF := Lib.hid hf
    clear ho hf
    have hkk : k = 0 ∨ k = 1 ∨ k = 2 := by omega
    rcases hkk with rfl | rfl | rfl
    · obtain ⟨e0, ⟨q0, q1, q2, q3, q4, q5, q6, q7⟩, e1, e2, e3, e9⟩ := MW.out wr HF.out
      obtain ⟨e4, e5⟩ := FCL.out wr e0
      obtain ⟨i0, hi0, hz0, hz1, hz2⟩ := info_parts pinfo24
      go_wp2_with (at_builtin; refine wpList_append_own_at _ rfl (.tmp 19) (.tmp 27) 44 rfl W.heap.size 24 i0 _ 2 16 Try.underlying44 hi0 hz0 hz1 hz2 rfl (by decide) (.slice pr 0 cr) 0 [] rfl (HO.out.alloc _) ⟨wr.heap.size, 0, none⟩ 1 1 [.int .i64 2, .int .i64 2] rfl rfl ?d1 ?d2 ?d3 ?d4 ?d5 ?more)
      case d2 => first | exact ⟨rfl, rfl⟩ | rfl
      case d3 => decide
      case d5 => have e1 := HF.out.size; simp; omega
      case more =>
        intro v2 w2 hown2 hgrow _ _
        have HO2 := Lib.hid hown2
        have HG2 := Lib.hid hgrow
        clear hown2 hgrow
        go_wp2_with fail
        go_roundw
        case rel => exact ⟨1, by omega, rfl, HO2.out, (HF.out.alloc _).grown HG2.out (fun k hk => .inr (rbase HO.out k hk).1)⟩
        case measure => simp [intOf]
    · obtain ⟨e0, ⟨q0, q1, q2, q3, q4, q5, q6, q7⟩, e1, e2, e3, e9⟩ := MW.out wr HF.out
      obtain ⟨e4, e5⟩ := FCL.out wr e0
      obtain ⟨i0, hi0, hz0, hz1, hz2⟩ := info_parts pinfo24
      have HO := Lib.hid (show wr.ownsRow W.heap.size 24 2 (.slice pr 1 cr) 1 [.int .i64 2, .int .i64 2] from HO.out)
      go_wp2_with (at_builtin; refine wpList_append_own_at _ rfl (.tmp 19) (.tmp 27) 44 rfl W.heap.size 24 i0 _ 2 16 Try.underlying44 hi0 hz0 hz1 hz2 rfl (by decide) (.slice pr 1 cr) 1 [.int .i64 2, .int .i64 2] rfl (HO.out.alloc _) ⟨wr.heap.size, 0, none⟩ 1 1 [.int .i64 0, .int .i64 2] rfl rfl ?gd1 ?gd2 ?gd3 ?gd4 ?gd5 ?gmore)
      case gd2 => first | exact ⟨rfl, rfl⟩ | rfl
      case gd3 => decide
      case gd5 => have e1 := HF.out.size; simp; omega
      case gmore =>
        intro v2 w2 hown2 hgrow _ _
        have HO2 := Lib.hid hown2
        have HG2 := Lib.hid hgrow
        clear hown2 hgrow
        go_wp2_with fail
        go_roundw
        case rel => exact ⟨2, by omega, rfl, HO2.out, (HF.out.alloc _).grown HG2.out (fun k hk => .inr (rbase HO.out k hk).1)⟩
        case measure => simp [intOf]
    · obtain ⟨gr, cr', hv⟩ := row_some HO.out (by decide)
      simp only [Value.slice.injEq] at hv
      obtain ⟨rfl, _, rfl⟩ := hv
      have ho := HO.out
      have BST := Lib.hid (fun w (hf : Fr (fun _ => False) wr w) => best4_walk IC gr cr w ⟨fr_cell (row_cell ho 0 _ rfl) hf, fr_cell (row_cell ho 1 _ rfl) hf, fr_cell (row_cell ho 2 _ rfl) hf, fr_cell (row_cell ho 3 _ rfl) hf⟩)
      unfold pt at BST
      clear ho HO
      have MR := Lib.hid (fun w (hf : Fr (fun _ => False) wr w) => MW.out w (HF.out.trans hf (fun _ h _ => h)))
      go_upto_region 9 with fail
      obtain ⟨e0, ⟨q0, q1, q2, q3, q4, q5, q6, q7⟩, e1, e2, e3, e9⟩ := MR.out wr.drew (Fr.refl _ wr).drew
      obtain ⟨e4, e5⟩ := FCL.out wr.drew e0
      go_region_held3 (fun w' => w'.cell? ⟨bf, 0, none⟩ = some (.slice (some ⟨gp, 0, none⟩) 4 cp) ∧ w'.cell? ⟨ga, oa, none⟩ = some (.int .i64 0) ∧ w'.cell? ⟨ga, oa + 1, none⟩ = some (.int .i64 1) ∧ w'.cell? ⟨gp, 0, none⟩ = some (.int .i64 0) ∧ w'.cell? ⟨gp, 1, none⟩ = some (.int .i64 0) ∧ w'.cell? ⟨gp, 2, none⟩ = some (.int .i64 2) ∧ w'.cell? ⟨gp, 3, none⟩ = some (.int .i64 0))
        (refine ⟨?_, ?_, ?_, ?_, ?_, ?_, ?_⟩ <;> with_reducible assumption)
        ((go_at_call 93; have hc_ := BST.out wr.drew (Fr.refl _ wr).drew; (with_reducible refine hc_.mono ?_); clear hc_; rintro e w5 ⟨rfl, f5⟩; have E5 := Lib.hid ((Fr.refl (fun _ => False) wr).drew.trans f5 (fun _ h _ => h)); obtain ⟨e60, ⟨y0, y1, y2, y3, y4, y5, y6, y7⟩, e61, e62, e63, e69⟩ := MR.out w5 E5.out; obtain ⟨e64, e65⟩ := FCL.out w5 e60; clear f5))
      all_goals
        clear e0 q0 q1 q2 q3 q4 q5 q6 q7 e1 e2 e3 e9 e4 e5 e60 y0 y1 y2 y3 y4 y5 y6 y7 e61 e62 e63 e69 e64 e65
        go_upto_region 12 with fail
        have M5 := Lib.hid (fun w (hf : Fr (fun _ => False) w5 w) => MR.out w (E5.out.trans hf (fun _ h _ => h)))
        have F5 := Lib.hid (HF.out.trans E5.out (fun _ h _ => h))
        have R5 := Lib.hid (row_fr HR.out F5.out (fun _ _ h => h))
        clear MR MW BST E5 HF
        go_cut [] (fun wx => ∃ gg cap, wx.heap[bf]? = some (.cells #[.slice (some ⟨gp, 0, none⟩) 4 cp, .slice (some ⟨gg, 0, none⟩) (n + 1) cap] 117 (0, 0)) ∧ wx.ownsRow B 60 3 (.slice (some ⟨gg, 0, none⟩) (n + 1) cap) (n + 1) (xs ++ [.int .i64 0, .int .i64 1, .int .i64 3]) ∧ gg ≠ ga ∧ gg ≠ gp ∧ gg ≠ bf ∧ (∀ k, (Value.slice (some ⟨gg, 0, none⟩) (n + 1) cap).ownBlock = some k → k < W.heap.size → v.ownBlock = some k) ∧ Fr (fun k => k = bf ∨ v.ownBlock = some k) W wx)
        case first =>
          obtain ⟨i0, hi0, hz0, hz1, hz2⟩ := info_parts pinfo60
          obtain ⟨e0, ⟨q0, q1, q2, q3, q4, q5, q6, q7⟩, e1, e2, e3, e9⟩ := M5.out w5 (Fr.refl _ w5)
          obtain ⟨e4, e5⟩ := FCL.out w5 e0
          have z5 := ZFr.blk_free e0 1
          have SZ := Lib.hid (Nat.le_trans HBB.out F5.out.size)
          have hw2 : IntKind.i64.wrap 3 = 3 := by decide
          have x50 : (w5.alloc (Obj.cells #[.int .i64 0, .int .i64 1, .int .i64 3] 60)).drew.cell? ⟨bf, 1, none⟩ = some v := ZFr.blk_cell (ZFr.blk_alloc e0 _) 1
          go_region_law ((first
            | ((refine step_append_lies _ (by rfl) _ _ _ (by rfl) B 60 i0 _ 3 24 Try.underlying45 hi0 hz0 hz1 hz2 rfl (by decide) v n xs (by rfl) (R5.out.drew.alloc _) ⟨w5.heap.size, 0, none⟩ 1 1 [.int .i64 0, .int .i64 1, .int .i64 3] (by rfl) (by rfl) (World.news_of_block (cs := #[.int .i64 0, .int .i64 1, .int .i64 3]) (t := 60) (fr := (0, 0)) (heap_alloc_new w5.drew _)) (by simp [Value.oneCell']) (by decide) (by have h1 := HN.out; unfold maxLen; omega) (by have h1 := HN.out; omega) (by simp; exact Nat.le_succ_of_le SZ.out) (w5.heap.size + 1) (by simp) ?_; intro gg cap w7 hown7 hgrow hat hlt7; have b7 := ZFr.blk_grown (ZFr.blk_alloc (show w5.drew.heap[bf]? = some (.cells #[.slice (some ⟨gp, 0, none⟩) 4 cp, v] 117 (0, 0)) from e0) (Obj.cells #[.int .i64 0, .int .i64 1, .int .i64 3] 60)) hgrow N5.out; have x5 : w7.cell? ⟨bf, 1, none⟩ = some v := ZFr.blk_cell b7 1; have z7 := ZFr.blk_free b7 1; have B7 := Lib.hid b7; clear b7))))
          all_goals
            have HAT := Lib.hid hat
            clear e0 q0 q1 q2 q3 q4 q5 q6 q7 e1 e2 e3 e4 e5 z5 x5 z7 hw2 hat x50
            have HO7 := Lib.hid hown7
            have HG7 := Lib.hid hgrow
            clear hown7 hgrow
            go_wp2_with fail
            go_meet
            have hga := World.block_lt_of_cell? W _ H1.out
            have hgp := World.block_lt_of_cell? W _ HP.out.1
            have hsz := F5.out.size
            refine ⟨gg, cap, ZFr.blk_set B7.out 1 _, ?_, ?_, ?_, ?_, ?_, ?_⟩
            · exact ownsRow_setCell_other (a := ⟨bf, 1, none⟩) HO7.out (ZFr.row_ne HO7.out B7.out (by decide)) _
            · intro e; subst e; rcases HAT.out with h | h
              · exact N34.out.1 h
              · dsimp only at hga; omega
            · intro e; subst e; rcases HAT.out with h | h
              · exact N34.out.2 h
              · dsimp only at hgp; omega
            · intro e; subst e; exact ZFr.row_ne HO7.out B7.out (by decide) rfl
            · intro k hk hlt
              simp only [Value.ownBlock, Option.some.injEq] at hk
              subst hk
              rcases HAT.out with h | h
              · exact h
              · omega
            · exact (((((F5.out.drew.alloc (Obj.cells #[.int .i64 0, .int .i64 1, .int .i64 3] 60)).mono (fun _ h => h.elim) : Fr (fun k => k = bf ∨ v.ownBlock = some k) W _)).grown HG7.out (fun k hk => .inl (.inr hk))).set _ _ (.inl (.inl rfl)))
        case rest =>
          obtain ⟨gg, cap, hb9, hr9, g1, g2, g3, g4, hf9⟩ := hcut
          have GOLD := Lib.hid g4
          clear g4
          have B9 := Lib.hid hb9
          have R9 := Lib.hid hr9
          have F9 := Lib.hid hf9
          have hn3 := N34.out.1
          have hga := N12.out.1
          have gns : ¬ (ga = bf ∨ v.ownBlock = some ga) := fun h => h.elim hga hn3
          have c1 := cell_frS H1.out F9.out gns
          have c2 := cell_frS H2.out F9.out gns
          have c3 := cell_frS H3.out F9.out gns
          have c4 := cell_frS H4.out F9.out gns
          have gps : ¬ (gp = bf ∨ v.ownBlock = some gp) := fun h => h.elim N12.out.2 N34.out.2
          have P9 := Lib.hid (Pts4.fr HP.out F9.out gps)
          have GNS := Lib.hid gns
          clear hb9 hr9 hf9 hn3 hga gns M5 F5 R5
          have hw3 : IntKind.i64.wrap 3 = 3 := by decide
          have hw4 : IntKind.i64.wrap 4 = 4 := by decide
          have hc01 : ¬ c = 1 := by have := HCC.out; omega
          have hc03 : ¬ c = 3 := by have := HCC.out; omega
          obtain ⟨i0, hi0, hz0, hz1, hz2⟩ := info_parts pinfo3
          have P1 := Lib.hid (part3_walk bf gp ga (oa + 1) (c - 1) cp B (n + 1) (.slice (some ⟨gg, 0, none⟩) (n + 1) cap) (xs ++ [.int .i64 0, .int .i64 1, .int .i64 3]) wc.drew B9.out P9.out c2 c3 c4 R9.out.drew (Nat.le_trans HBB.out F9.out.size) (by have := HN.out; omega) (by have := HCC.out; omega) N12.out.1 N12.out.2 (by simp only [Value.ownBlock, ne_eq, Option.some.injEq]; exact g1) (by simp only [Value.ownBlock, ne_eq, Option.some.injEq]; exact g2) (by simp only [Value.ownBlock, ne_eq, Option.some.injEq]; exact g3))
          have CG0 := Lib.hid (And.intro c1 c4)
          have NG := Lib.hid (show ¬ (ga = bf ∨ (Value.slice (some ⟨gg, 0, none⟩) (n + 1) cap).ownBlock = some ga) from fun h => h.elim N12.out.1 (fun h => g1 (by simpa [Value.ownBlock] using h)))
          clear c2 c4 g1 g2 g3
          clear c3
          have c10 : wc.drew.cell? ⟨ga, oa, none⟩ = some (.int .i64 0) := c1
          go_upto_region 13 with fail
          go_region_held3 (fun w' => w'.cell? ⟨ga, oa, none⟩ = some (.int .i64 0))
            (first | with_reducible assumption | exact fr_cell (by with_reducible assumption) ((Fr.refl (fun _ => False) _).alloc _))
            (first
              | ((go_at_call 70; have hc_ := part_small (.pointer (some ⟨bf, 0, none⟩)) (some ⟨ga2, 0, none⟩) 2 cap2 (by decide) w16; (with_reducible refine hc_.mono ?_); clear hc_; rintro e w17 ⟨rfl, f17⟩; have E17 := Lib.hid (E16.out.trans f17 (fun _ h _ => h)); have c17 := (CG14.out w17 E17.out).1; clear f17))
              | ((refine step_append_g (by rfl) _ _ _ (by rfl) w14.heap.size 3 i0 _ 1 8 Try.underlying37 hi0 hz0 hz1 hz2 rfl (by decide) (.slice p15 1 d15) 1 [.int .i64 3] (by rfl) (R15.out.alloc _) ⟨w15.heap.size, 0, none⟩ 1 1 [.int .i64 0] (by rfl) (by rfl) (World.news_of_block (cs := #[.int .i64 0]) (t := 3) (fr := (0, 0)) (heap_alloc_new w15 _)) (by simp [Value.oneCell']) (by decide) (by decide) (by decide) (by simp; exact Nat.le_succ_of_le K15.out) (w15.heap.size + 1) (by simp) ?_; intro ga2 cap2 w16 hown16 hgrow16 hat16 hlt16; have E16 := Lib.hid ((E15.out.alloc _).grown hgrow16 (fun k hk => .inr (rbase R15.out k hk).1)); have c16 := (CG14.out w16 E16.out).1))
              | ((refine step_append_g (by rfl) _ _ _ (by rfl) w14.heap.size 3 i0 _ 1 8 Try.underlying37 hi0 hz0 hz1 hz2 rfl (by decide) (.slice p15 1 d15) 1 [.int .i64 3] (by rfl) R15.out ⟨w14.heap.size, 0, none⟩ 1 1 [.int .i64 0] (by rfl) (by rfl) (World.news_of_block (cs := #[.int .i64 0]) (t := 3) (fr := (0, 0)) N15.out) (by simp [Value.oneCell']) (by decide) (by decide) (by decide) K15.out w15.heap.size rfl ?_; intro ga2 cap2 w16 hown16 hgrow16 hat16 hlt16; have E16 := Lib.hid (E15.out.grown hgrow16 (fun k hk => .inr (rbase R15.out k hk).1)); have c16 := (CG14.out w16 E16.out).1))
              | ((go_at_call 94; have hc_ := CLN.out w14 (Fr.refl _ w14); (with_reducible refine hc_.mono ?_); clear hc_; rintro e w15 ⟨v15, rfl, r15, _, b15⟩; obtain ⟨p15, d15, rfl⟩ := row_slice r15; have R15 := Lib.hid r15; have K15 := Lib.hid (Fr.of_below b15).size; have E15 := Lib.hid ((Fr.refl (fun _ => False) w14).trans (Fr.of_below b15) (fun _ h _ => h)); have c15 := (CG14.out w15 E15.out).1; clear r15 b15))
              | ((go_at_call 94; have hc_ := CLN.out (w14.alloc (Obj.cells #[.int .i64 0] 3)) ((Fr.refl _ w14).alloc _); (with_reducible refine hc_.mono ?_); clear hc_; rintro e w15 ⟨v15, rfl, r15, _, b15⟩; obtain ⟨p15, d15, rfl⟩ := row_slice r15; have R15 := Lib.hid (ZFr.row_low (b' := w14.heap.size) r15 (by simp)); have N15 := Lib.hid (ZFr.blk_fr (heap_alloc_new w14 (Obj.cells #[.int .i64 0] 3)) (Fr.of_below b15) (fun h => h)); have K15 := Lib.hid (((Fr.refl (fun _ => False) w14).alloc (Obj.cells #[.int .i64 0] 3)).trans (Fr.of_below b15) (fun _ h _ => h)).size; have E15 := Lib.hid (((Fr.refl (fun _ => False) w14).alloc (Obj.cells #[.int .i64 0] 3)).trans (Fr.of_below b15) (fun _ h _ => h)); have c15 := (CG14.out w15 E15.out).1; clear r15 b15))
              | ((go_at_call 70; have hc_ := P1.out; (with_reducible refine hc_.mono ?_); clear hc_; rintro e w14 ⟨rfl, f14, v14, hb14, hr14⟩; have F14 := Lib.hid f14; have B14 := Lib.hid hb14; have R14 := Lib.hid hr14; have CG14 := Lib.hid (fun w (hf : Fr (fun _ => False) w14 w) => And.intro (fr_cell (cell_frS (show wc.drew.cell? _ = _ from CG0.out.1) f14 NG.out) hf) (fr_cell (cell_frS (show wc.drew.cell? _ = _ from CG0.out.2) f14 NG.out) hf)); have c14 := (CG14.out w14 (Fr.refl _ w14)).1; have CLN := Lib.hid (fun w (hf : Fr (fun _ => False) w14 w) => (show Calls Try.prog 94 #[.slice (some ⟨ga, oa + 3, none⟩) 1 (c - 3)] w (fun e w' => ∃ v', e = .returned v' ∧ w'.ownsRow w.heap.size 3 1 v' 1 [.int .i64 3] ∧ v' ≠ .slice none 0 0 ∧ Below w.heap.size w w') from Try.slices_Clone_int ga (oa + 3) 1 (c - 3) [3] w (by decide) (by decide) (fun j hj => by have hj0 : j = 0 := by { simp at hj; exact hj }; subst hj0; exact (CG14.out w hf).2))); clear f14 hb14 hr14)))
          all_goals
            go_wp2_with fail
            go_ret
            refine ⟨rfl, ?_, _, ZFr.blk_fr B14.out E17.out (fun h => h), row_fr R14.out E17.out (fun _ _ h => h)⟩
            refine (F9.out.drew.trans (F14.out.trans E17.out (fun _ h _ => h.elim)) (fun k h hlt => ?_))
            rcases h with h | h
            · exact .inl h
            · exact .inr (GOLD.out k h hlt)
end Go.Proofs.Ytngmkjgklonfmaa.Wd

