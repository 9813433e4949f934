/- What is used of HoE. -/
import Derived.Test.YtngmkjgklonfmaaJI
import Derived.Test.YtngmkjgklonfmaaSkWCl
import Derived.Deep.DeepCutAuto
import Derived.Deep.AppendLies
import Derived.Deep.RegionLaw
namespace Go.Proofs.Ytngmkjgklonfmaa.Wd
open Go.RowKit Go.Proofs.ZFr Go.Proofs.Ytngmkjgklonfmaa.PNearNearest Go.Proofs.Ytngmkjgklonfmaa.Big Go.Proofs.YtngmkjgklonfmaaW.PrintWords
attribute [local go_sem ↓] Go.wp_at_zero Go.wp_at_succ
theorem pinfo24 : (Try.prog.info? 24).map (fun i => (i.zero, i.size, i.bytes)) = some (some (.agg #[.int .i64 0, .int .i64 0]), 2, 16) := by kernel_rfl
theorem pinfo60 : (Try.prog.info? 60).map (fun i => (i.zero, i.size, i.bytes)) = some (some (.agg #[.int .i64 0, .int .i64 0, .int .i64 0]), 3, 24) := by kernel_rfl
theorem pinfo3 : (Try.prog.info? 3).map (fun i => (i.zero, i.size, i.bytes)) = some (some (.int .i64 0), 1, 8) := by kernel_rfl
/-- 'append' of one's own row at a step of a region that draws, behind a guard that lets it. -/
theorem step_append_g {P : Program} {w : World} {ops : Array Oper} {o : Oper} {a : Act} {K : Act → World → Prop} {Q : Exit → Act → World → Prop} {E : Prop} (hgd : Region.wanted o (yielded ops a.tmps) = true) (s x : Operand) (t : TypeId)
    (ho : o.op = .call { callee := .builtin .append, args := #[s, x], argTypes := #[t, t] })
    (base : Nat) (e : TypeId) (i : TypeInfo) (z : Value) (size bytes : Nat) (ht : P.underlying t = some (.slice e)) (hi : P.info? e = some i) (hz : i.zero = some z)
    (hsize : i.size = size) (hby : i.bytes = bytes) (hzs : z.cells.size = size) (hsz : 0 < size)
    (v : Value) (n : Nat) (xs : List Value) (hs : a.eval s = v) (hown : w.ownsRow base e size v n xs)
    (ad : Addr) (m c : Nat) (news : List Value) (hx : a.eval x = .slice (some ad) m c) (hl : news.length = m * size) (hnews : ∀ j u, news[j]? = some u → w.cell? (ad.add j) = some u) (h1 : ∀ u ∈ news, u.oneCell' = true)
    (hm : 0 < m) (h63 : n + m ≤ maxLen) (hbytes : (n + m) * bytes ≤ 140737488355328) (hbase : base ≤ w.heap.size) (H : Nat) (hH : w.heap.size = H)
    (h : ∀ g cap w', w'.ownsRow base e size (.slice (some ⟨g, 0, none⟩) (n + m) cap) (n + m) (xs ++ news) → w.grownBy w' v.ownBlock → (v.ownBlock = some g ∨ g = H) → g < w'.heap.size → K (a.put o.dst (.slice (some ⟨g, 0, none⟩) (n + m) cap)) w') :
    if Region.wanted o (yielded ops a.tmps) = true then Oper.wp P o a w K Q else E := by
  rw [if_pos hgd]
  exact wp_append_lies w s x t ho base e i z size bytes ht hi hz hsize hby hzs hsz v n xs hs hown ad m c news hx hl hnews h1 hm h63 hbytes hbase H hH h
/-- The four corners in memory. -/
def Pts4 (w : World) (gp : Nat) : Prop := w.cell? ⟨gp, 0, none⟩ = some (.int .i64 0) ∧ w.cell? ⟨gp, 1, none⟩ = some (.int .i64 0) ∧ w.cell? ⟨gp, 2, none⟩ = some (.int .i64 2) ∧ w.cell? ⟨gp, 3, none⟩ = some (.int .i64 0) ∧ w.cell? ⟨gp, 4, none⟩ = some (.int .i64 2) ∧ w.cell? ⟨gp, 5, none⟩ = some (.int .i64 2) ∧ w.cell? ⟨gp, 6, none⟩ = some (.int .i64 0) ∧ w.cell? ⟨gp, 7, none⟩ = some (.int .i64 2)
theorem cell_frS {w w' : World} {a : Addr} {v : Value} {S : Nat → Prop} (h : w.cell? a = some v) (hf : Fr S w w') (hs : ¬ S a.block) : w'.cell? a = some v := by
  have hb := World.block_lt_of_cell? w a h
  have := hf.block a.block hb hs
  unfold World.cell? at *
  rw [this]; exact h
theorem Pts4.fr {w w' : World} {gp : Nat} {S : Nat → Prop} (h : Pts4 w gp) (hf : Fr S w w') (hs : ¬ S gp) : Pts4 w' gp := by
  obtain ⟨h0, h1, h2, h3, h4, h5, h6, h7⟩ := h
  exact ⟨cell_frS h0 hf hs, cell_frS h1 hf hs, cell_frS h2 hf hs, cell_frS h3 hf hs, cell_frS h4 hf hs, cell_frS h5 hf hs, cell_frS h6 hf hs, cell_frS h7 hf hs⟩
theorem rbase {w : World} {base : Nat} {e : TypeId} {size : Nat} {v : Value} {n : Nat} {xs : List Value} (h : w.ownsRow base e size v n xs) : ∀ k, v.ownBlock = some k → base ≤ k ∧ k < w.heap.size := by
  intro k hk
  rcases h.2 with ⟨rfl, rfl⟩ | ⟨g, cap, cur, rfl, hb, hg, _⟩
  · simp [Value.ownBlock] at hk
  · simp only [Value.ownBlock, Option.some.injEq] at hk
    subst hk
    exact ⟨hb, ZFr.blk_lt hg⟩
theorem row_cell {w : World} {B g c n size : Nat} {e : TypeId} {xs : List Value} (h : w.ownsRow B e size (.slice (some ⟨g, 0, none⟩) n c) n xs) (j : Nat) (u : Value) (hj : xs[j]? = some u) : w.cell? ⟨g, j, none⟩ = some u := by
  obtain ⟨_, h | ⟨g', cap, cur, he, _, hg, _, _, _, ht⟩⟩ := h
  · simp at h
  · simp only [Value.slice.injEq, Option.some.injEq, Addr.mk.injEq, and_true, true_and] at he
    obtain ⟨rfl, rfl⟩ := he
    rw [ZFr.blk_cell hg j]
    rw [← ht, List.getElem?_take] at hj
    split at hj
    · rw [Array.getElem?_toList] at hj; exact hj
    · cases hj
set_option maxRecDepth 100000 in
theorem part_small (p : Value) (A : Option Addr) (n c : Nat) (hn : n < 3) (W : World) : Calls Try.prog 70 #[p, .slice A n c] W fun e w' => e = .returned (.bool true) ∧ Fr (fun _ => False) W w' := by
  have h1 : (n : Int) < 3 := by omega
  go_enter Try.func70, Try.ntmps70
  go_wp2_with fail
  go_ret
  exact ⟨rfl, Fr.refl _ _⟩
set_option maxRecDepth 100000 in
set_option maxHeartbeats 8000000 in
theorem part3_walk (bf gp ga oa c cp B n : Nat) (v : Value) (xs : List Value) (W : World) (hb : W.heap[bf]? = some (.cells #[.slice (some ⟨gp, 0, none⟩) 4 cp, v] 117 (0, 0))) (hp : Pts4 W gp) (h1 : W.cell? ⟨ga, oa, none⟩ = some (.int .i64 1)) (h2 : W.cell? ⟨ga, oa + 1, none⟩ = some (.int .i64 2)) (h3 : W.cell? ⟨ga, oa + 2, none⟩ = some (.int .i64 3)) (hr : W.ownsRow B 60 3 v n xs) (hB : B ≤ W.heap.size) (hn : n ≤ 10) (hc : 3 ≤ c) (n1 : ga ≠ bf) (n2 : gp ≠ bf) (n3 : v.ownBlock ≠ some ga) (n4 : v.ownBlock ≠ some gp) (n5 : v.ownBlock ≠ some bf) : Calls Try.prog 70 #[.pointer (some ⟨bf, 0, none⟩), .slice (some ⟨ga, oa, none⟩) 3 c] W fun e w' => e = .returned (.bool true) ∧ Fr (fun k => k = bf ∨ v.ownBlock = some k) W w' ∧ ∃ v', w'.heap[bf]? = some (.cells #[.slice (some ⟨gp, 0, none⟩) 4 cp, v'] 117 (0, 0)) ∧ w'.ownsRow B 60 3 v' (n + 1) (xs ++ [.int .i64 1, .int .i64 2, .int .i64 3]) := by
  have HB := Lib.hid hb
  have HP := Lib.hid hp
  have H1 := Lib.hid h1
  have H2 := Lib.hid h2
  have H3 := Lib.hid h3
  have HR := Lib.hid hr
  have HBB := Lib.hid hB
  have HN := Lib.hid hn
  have HCC := Lib.hid hc
  have N5 := Lib.hid n5
  have N34 := Lib.hid (And.intro n3 n4)
  have N12 := Lib.hid (And.intro n1 n2)
  have hc3 : (3 : Int) ≤ (c : Int) := by omega
  have hc2 : (2 : Int) ≤ (c : Int) := by omega
  have hc0 : ¬ c = 2 := by omega
  clear hb hp h1 h2 h3 hr hB hn hc n1 n2 n3 n4 n5
  -- what stands in memory behind a call that leaves all as it was
  have MW := Lib.hid (fun w (hf : Fr (fun _ => False) W w) => And.intro (ZFr.blk_fr HB.out hf (fun h => h)) (And.intro (Pts4.fr HP.out hf (fun h => h)) (And.intro (fr_cell H1.out hf) (And.intro (fr_cell H2.out hf) (fr_cell H3.out hf)))))
  have fcell : ∀ w : World, w.heap[bf]? = some (.cells #[.slice (some ⟨gp, 0, none⟩) 4 cp, v] 117 (0, 0)) → w.cell? ⟨bf, 0, none⟩ = some (.slice (some ⟨gp, 0, none⟩) 4 cp) ∧ w.cell? ⟨bf, 1, none⟩ = some v := fun w h => ⟨ZFr.blk_cell h 0, ZFr.blk_cell h 1⟩
  have FCL := Lib.hid fcell
  clear fcell
  go_enter Try.func70, Try.ntmps70
  go_wp2_with fail
  go_loopw [5, 15] (fun s i wr => ∃ k : Nat, k ≤ 1 ∧ i = .int .i64 (k : Int) ∧ wr.ownsRow W.heap.size 24 2 s k (if k = 0 then [] else [.int .i64 0, .int .i64 2]) ∧ Fr (fun _ => False) W wr) (fun _ i _ => (1 - intOf i).toNat)
  case atStart => exact ⟨0, by omega, rfl, ⟨rfl, .inl ⟨rfl, rfl⟩⟩, Fr.refl _ _⟩
  case round =>
    obtain ⟨k, hk, rfl, ho, hf⟩ := hrel
    obtain ⟨pr, cr, rfl⟩ := row_slice ho
    have HO := Lib.hid ho
    have HF := Lib.hid hf
    clear ho hf
    have hkk : k = 0 ∨ k = 1 := by omega
    rcases hkk with rfl | rfl
    · obtain ⟨e0, ⟨q0, q1, q2, q3, q4, q5, q6, q7⟩, e1, e2, e3⟩ := MW.out wr HF.out
      obtain ⟨e4, e5⟩ := FCL.out wr e0
      obtain ⟨i0, hi0, hz0, hz1, hz2⟩ := info_parts pinfo24
      go_wp2_with (at_builtin; refine wpList_append_own_at _ rfl (.tmp 19) (.tmp 27) 44 rfl W.heap.size 24 i0 _ 2 16 Try.underlying44 hi0 hz0 hz1 hz2 rfl (by decide) (.slice pr 0 cr) 0 [] rfl (HO.out.alloc _) ⟨wr.heap.size, 0, none⟩ 1 1 [.int .i64 0, .int .i64 2] rfl rfl ?d1 ?d2 ?d3 ?d4 ?d5 ?more)
      case d2 => exact ⟨rfl, rfl⟩
      case d3 => decide
      case d5 => have e1 := HF.out.size; simp; omega
      case more =>
        intro v2 w2 hown2 hgrow _ _
        have HO2 := Lib.hid hown2
        have HG2 := Lib.hid hgrow
        clear hown2 hgrow
        go_wp2_with fail
        go_roundw
        case rel => exact ⟨1, by omega, rfl, HO2.out, (HF.out.alloc _).grown HG2.out (fun k hk => .inr (rbase HO.out k hk).1)⟩
        case measure => simp [intOf]
    · obtain ⟨gr, cr', hv⟩ := row_some HO.out (by decide)
      simp only [Value.slice.injEq] at hv
      obtain ⟨rfl, _, rfl⟩ := hv
      have ho := HO.out
      have BST := Lib.hid (fun w (hf : Fr (fun _ => False) wr w) => best3_walk gr cr w ⟨fr_cell (row_cell ho 0 _ rfl) hf, fr_cell (row_cell ho 1 _ rfl) hf⟩)
      unfold pt at BST
      clear ho HO
      have MR := Lib.hid (fun w (hf : Fr (fun _ => False) wr w) => MW.out w (HF.out.trans hf (fun _ h _ => h)))
      go_upto_region 9 with fail
      obtain ⟨e0, ⟨q0, q1, q2, q3, q4, q5, q6, q7⟩, e1, e2, e3⟩ := MR.out wr.drew (Fr.refl _ wr).drew
      obtain ⟨e4, e5⟩ := FCL.out wr.drew e0
      go_region_held3 (fun w' => w'.cell? ⟨bf, 0, none⟩ = some (.slice (some ⟨gp, 0, none⟩) 4 cp) ∧ w'.cell? ⟨ga, oa, none⟩ = some (.int .i64 1) ∧ w'.cell? ⟨ga, oa + 1, none⟩ = some (.int .i64 2) ∧ w'.cell? ⟨gp, 2, none⟩ = some (.int .i64 2) ∧ w'.cell? ⟨gp, 3, none⟩ = some (.int .i64 0) ∧ w'.cell? ⟨gp, 4, none⟩ = some (.int .i64 2) ∧ w'.cell? ⟨gp, 5, none⟩ = some (.int .i64 2))
        (refine ⟨?_, ?_, ?_, ?_, ?_, ?_, ?_⟩ <;> with_reducible assumption)
        ((go_at_call 93; have hc_ := BST.out wr.drew (Fr.refl _ wr).drew; (with_reducible refine hc_.mono ?_); clear hc_; rintro e w5 ⟨rfl, f5⟩; have E5 := Lib.hid ((Fr.refl (fun _ => False) wr).drew.trans f5 (fun _ h _ => h)); obtain ⟨e60, ⟨y0, y1, y2, y3, y4, y5, y6, y7⟩, e61, e62, e63⟩ := MR.out w5 E5.out; obtain ⟨e64, e65⟩ := FCL.out w5 e60; clear f5))
      all_goals
        clear e0 q0 q1 q2 q3 q4 q5 q6 q7 e1 e2 e3 e4 e5 e60 y0 y1 y2 y3 y4 y5 y6 y7 e61 e62 e63 e64 e65
        go_upto_region 12 with fail
        have M5 := Lib.hid (fun w (hf : Fr (fun _ => False) w5 w) => MR.out w (E5.out.trans hf (fun _ h _ => h)))
        have F5 := Lib.hid (HF.out.trans E5.out (fun _ h _ => h))
        have R5 := Lib.hid (row_fr HR.out F5.out (fun _ _ h => h))
        clear MR MW BST E5 HF
        go_cut [] (fun wx => ∃ gg cap, wx.heap[bf]? = some (.cells #[.slice (some ⟨gp, 0, none⟩) 4 cp, .slice (some ⟨gg, 0, none⟩) (n + 1) cap] 117 (0, 0)) ∧ wx.ownsRow B 60 3 (.slice (some ⟨gg, 0, none⟩) (n + 1) cap) (n + 1) (xs ++ [.int .i64 1, .int .i64 2, .int .i64 3]) ∧ Fr (fun k => k = bf ∨ v.ownBlock = some k) W wx)
        case first =>
          obtain ⟨i0, hi0, hz0, hz1, hz2⟩ := info_parts pinfo60
          obtain ⟨e0, ⟨q0, q1, q2, q3, q4, q5, q6, q7⟩, e1, e2, e3⟩ := M5.out w5 (Fr.refl _ w5)
          obtain ⟨e4, e5⟩ := FCL.out w5 e0
          have z5 := ZFr.blk_free e0 1
          have SZ := Lib.hid (Nat.le_trans HBB.out F5.out.size)
          have hw2 : IntKind.i64.wrap 2 = 2 := by decide
          have x50 : (w5.alloc (Obj.cells #[.int .i64 1, .int .i64 2, .int .i64 3] 60)).drew.cell? ⟨bf, 1, none⟩ = some v := ZFr.blk_cell (ZFr.blk_alloc e0 _) 1
          go_region_law ((first
            | ((refine step_append_lies _ (by rfl) _ _ _ (by rfl) B 60 i0 _ 3 24 Try.underlying45 hi0 hz0 hz1 hz2 rfl (by decide) v n xs (by rfl) (R5.out.drew.alloc _) ⟨w5.heap.size, 0, none⟩ 1 1 [.int .i64 1, .int .i64 2, .int .i64 3] (by rfl) (by rfl) (World.news_of_block (cs := #[.int .i64 1, .int .i64 2, .int .i64 3]) (t := 60) (fr := (0, 0)) (heap_alloc_new w5.drew _)) (by simp [Value.oneCell']) (by decide) (by have h1 := HN.out; unfold maxLen; omega) (by have h1 := HN.out; omega) (by simp; exact Nat.le_succ_of_le SZ.out) (w5.heap.size + 1) (by simp) ?_; intro gg cap w7 hown7 hgrow hat hlt7; have b7 := ZFr.blk_grown (ZFr.blk_alloc (show w5.drew.heap[bf]? = some (.cells #[.slice (some ⟨gp, 0, none⟩) 4 cp, v] 117 (0, 0)) from e0) (Obj.cells #[.int .i64 1, .int .i64 2, .int .i64 3] 60)) hgrow N5.out; have x5 : w7.cell? ⟨bf, 1, none⟩ = some v := ZFr.blk_cell b7 1; have z7 := ZFr.blk_free b7 1; have B7 := Lib.hid b7; clear b7))))
          all_goals
            clear e0 q0 q1 q2 q3 q4 q5 q6 q7 e1 e2 e3 e4 e5 z5 x5 z7 hw2 hat x50
            have HO7 := Lib.hid hown7
            have HG7 := Lib.hid hgrow
            clear hown7 hgrow
            go_wp2_with fail
            go_meet
            refine ⟨gg, cap, ZFr.blk_set B7.out 1 _, ?_, ?_⟩
            · exact ownsRow_setCell_other (a := ⟨bf, 1, none⟩) HO7.out (ZFr.row_ne HO7.out B7.out (by decide)) _
            · exact (((((F5.out.drew.alloc (Obj.cells #[.int .i64 1, .int .i64 2, .int .i64 3] 60)).mono (fun _ h => h.elim) : Fr (fun k => k = bf ∨ v.ownBlock = some k) W _)).grown HG7.out (fun k hk => .inl (.inr hk))).set _ _ (.inl (.inl rfl)))
        case rest =>
          obtain ⟨gg, cap, hb9, hr9, hf9⟩ := hcut
          have B9 := Lib.hid hb9
          have R9 := Lib.hid hr9
          have F9 := Lib.hid hf9
          have hn3 := N34.out.1
          have hga := N12.out.1
          have gns : ¬ (ga = bf ∨ v.ownBlock = some ga) := fun h => h.elim hga hn3
          have c1 := cell_frS H1.out F9.out gns
          have c3 := cell_frS H3.out F9.out gns
          have GNS := Lib.hid gns
          clear hb9 hr9 hf9 hn3 hga gns M5 F5 R5
          have hw3 : IntKind.i64.wrap 3 = 3 := by decide
          have hw2 : IntKind.i64.wrap 2 = 2 := by decide
          have hc01 : ¬ c = 1 := by have := HCC.out; omega
          obtain ⟨i0, hi0, hz0, hz1, hz2⟩ := info_parts pinfo3
          have P1 := Lib.hid (fun w => part_small (.pointer (some ⟨bf, 0, none⟩)) (some ⟨ga, oa + 1, none⟩) 2 (c - 1) (by decide) w)
          have CG := Lib.hid (fun w (hf : Fr (fun _ => False) wc w) => And.intro (fr_cell c1 hf) (fr_cell c3 hf))
          have CLN := Lib.hid (fun w (hf : Fr (fun _ => False) wc w) => (show Calls Try.prog 94 #[.slice (some ⟨ga, oa + 2, none⟩) 1 (c - 2)] w (fun e w' => ∃ v', e = .returned v' ∧ w'.ownsRow w.heap.size 3 1 v' 1 [.int .i64 3] ∧ v' ≠ .slice none 0 0 ∧ Below w.heap.size w w') from Try.slices_Clone_int ga (oa + 2) 1 (c - 2) [3] w (by decide) (by decide) (fun j hj => by
            have hj0 : j = 0 := by simp at hj; exact hj
            subst hj0
            exact (CG.out w hf).2)))
          clear c3
          have c10 : wc.drew.cell? ⟨ga, oa, none⟩ = some (.int .i64 1) := c1
          go_upto_region 13 with fail
          go_region_held3 (fun w' => w'.cell? ⟨ga, oa, none⟩ = some (.int .i64 1))
            (first | with_reducible assumption | exact fr_cell (by with_reducible assumption) ((Fr.refl (fun _ => False) _).alloc _))
            (first
              | ((go_at_call 70; have hc_ := part_small (.pointer (some ⟨bf, 0, none⟩)) (some ⟨ga2, 0, none⟩) 2 cap2 (by decide) w16; (with_reducible refine hc_.mono ?_); clear hc_; rintro e w17 ⟨rfl, f17⟩; have E17 := Lib.hid (E16.out.trans f17 (fun _ h _ => h)); have c17 := (CG.out w17 E17.out).1; clear f17))
              | ((refine step_append_g (by rfl) _ _ _ (by rfl) w14.heap.size 3 i0 _ 1 8 Try.underlying37 hi0 hz0 hz1 hz2 rfl (by decide) (.slice p15 1 d15) 1 [.int .i64 3] (by rfl) (R15.out.alloc _) ⟨w15.heap.size, 0, none⟩ 1 1 [.int .i64 1] (by rfl) (by rfl) (World.news_of_block (cs := #[.int .i64 1]) (t := 3) (fr := (0, 0)) (heap_alloc_new w15 _)) (by simp [Value.oneCell']) (by decide) (by decide) (by decide) (by simp; exact Nat.le_succ_of_le K15.out) (w15.heap.size + 1) (by simp) ?_; intro ga2 cap2 w16 hown16 hgrow16 hat16 hlt16; have E16 := Lib.hid ((E15.out.alloc _).grown hgrow16 (fun k hk => .inr (Nat.le_trans E14.out.size (rbase R15.out k hk).1))); have c16 := (CG.out w16 E16.out).1))
              | ((refine step_append_g (by rfl) _ _ _ (by rfl) w14.heap.size 3 i0 _ 1 8 Try.underlying37 hi0 hz0 hz1 hz2 rfl (by decide) (.slice p15 1 d15) 1 [.int .i64 3] (by rfl) R15.out ⟨w14.heap.size, 0, none⟩ 1 1 [.int .i64 1] (by rfl) (by rfl) (World.news_of_block (cs := #[.int .i64 1]) (t := 3) (fr := (0, 0)) N15.out) (by simp [Value.oneCell']) (by decide) (by decide) (by decide) K15.out w15.heap.size rfl ?_; intro ga2 cap2 w16 hown16 hgrow16 hat16 hlt16; have E16 := Lib.hid (E15.out.grown hgrow16 (fun k hk => .inr (Nat.le_trans E14.out.size (rbase R15.out k hk).1))); have c16 := (CG.out w16 E16.out).1))
              | ((go_at_call 94; have hc_ := CLN.out w14 E14.out; (with_reducible refine hc_.mono ?_); clear hc_; rintro e w15 ⟨v15, rfl, r15, _, b15⟩; obtain ⟨p15, d15, rfl⟩ := row_slice r15; have R15 := Lib.hid r15; have K15 := Lib.hid (Fr.of_below b15).size; have E15 := Lib.hid (E14.out.trans (Fr.of_below b15) (fun _ h _ => h)); have c15 := (CG.out w15 E15.out).1; clear r15 b15))
              | ((go_at_call 94; have hc_ := CLN.out (w14.alloc (Obj.cells #[.int .i64 1] 3)) (E14.out.alloc _); (with_reducible refine hc_.mono ?_); clear hc_; rintro e w15 ⟨v15, rfl, r15, _, b15⟩; obtain ⟨p15, d15, rfl⟩ := row_slice r15; have R15 := Lib.hid (ZFr.row_low (b' := w14.heap.size) r15 (by simp)); have N15 := Lib.hid (ZFr.blk_fr (heap_alloc_new w14 (Obj.cells #[.int .i64 1] 3)) (Fr.of_below b15) (fun h => h)); have K15 := Lib.hid (((Fr.refl (fun _ => False) w14).alloc (Obj.cells #[.int .i64 1] 3)).trans (Fr.of_below b15) (fun _ h _ => h)).size; have E15 := Lib.hid ((E14.out.alloc (Obj.cells #[.int .i64 1] 3)).trans (Fr.of_below b15) (fun _ h _ => h)); have c15 := (CG.out w15 E15.out).1; clear r15 b15))
              | ((go_at_call 70; have hc_ := P1.out wc.drew; (with_reducible refine hc_.mono ?_); clear hc_; rintro e w14 ⟨rfl, f14⟩; have E14 := Lib.hid ((Fr.refl (fun _ => False) wc).drew.trans f14 (fun _ h _ => h)); have c14 := (CG.out w14 E14.out).1; clear f14)))
          all_goals
            go_wp2_with fail
            go_ret
            exact ⟨rfl, F9.out.trans E17.out (fun _ h _ => h.elim), _, ZFr.blk_fr B9.out E17.out (fun h => h), row_fr R9.out E17.out (fun _ _ h => h)⟩
end Go.Proofs.Ytngmkjgklonfmaa.Wd

