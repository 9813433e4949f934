/- The walks of the reference of arena. -/
import Derived.Test.YtkhdnkmocbceeaaRefP
import Derived.Maps.AppendAt
import Derived.Lib.SmallJoins
namespace Go.Proofs.Ytkhdnkmocbceeaa.Arena
open Go.RowKit Go.Proofs.ZFr
open Go.Joins (below_alloc1 below_draws)

/-- The reference's arena in memory: its two lists in rows of their own. -/
structure Rf (w : World) (B rb : Nat) (u1 u2 : Value) (Lent Back : List Int) (top : Nat) : Prop where
  blk : w.heap[rb]? = some (.cells #[u1, u2, .int .i64 top] 51 (0, 0))
  row1 : w.ownsRow B 3 1 u1 Lent.length (Lent.map (Value.int .i64))
  row2 : w.ownsRow B 3 1 u2 Back.length (Back.map (Value.int .i64))
  ne : ∀ k, u1.ownBlock = some k → u2.ownBlock ≠ some k
  low : B ≤ rb
def OwnR (rb : Nat) (u1 u2 : Value) (k : Nat) : Prop := k = rb ∨ u1.ownBlock = some k ∨ u2.ownBlock = some k
theorem Rf.fr {S : Nat → Prop} {w w' : World} {B rb : Nat} {u1 u2 : Value} {Lent Back : List Int} {top : Nat} (h : Rf w B rb u1 u2 Lent Back top) (hg : Fr S w w') (hS : ∀ k, OwnR rb u1 u2 k → ¬ S k) : Rf w' B rb u1 u2 Lent Back top :=
  ⟨blk_fr h.blk hg (hS rb (.inl rfl)), row_fr h.row1 hg (fun k hk => hS k (.inr (.inl hk))), row_fr h.row2 hg (fun k hk => hS k (.inr (.inr hk))), h.ne, h.low⟩
theorem Rf.own_lt {w : World} {B rb : Nat} {u1 u2 : Value} {Lent Back : List Int} {top : Nat} (h : Rf w B rb u1 u2 Lent Back top) : ∀ k, OwnR rb u1 u2 k → B ≤ k ∧ k < w.heap.size := by
  intro k hk
  rcases hk with rfl | hk | hk
  · exact ⟨h.low, blk_lt h.blk⟩
  · exact h.row1.lt k hk
  · exact h.row2.lt k hk

theorem row_low {w : World} {b b' : Nat} {e : TypeId} {size : Nat} {v : Value} {n : Nat} {xs : List Value} (h : w.ownsRow b e size v n xs) (hb : b' ≤ b) : w.ownsRow b' e size v n xs := by
  refine ⟨h.1, ?_⟩
  rcases h.2 with hn | ⟨g, cap, cur, rfl, hbg, rest⟩
  · exact .inl hn
  · exact .inr ⟨g, cap, cur, rfl, by omega, rest⟩

set_option maxHeartbeats 400000 in
theorem rlive_any (w : World) (B rb : Nat) (u1 u2 : Value) (Lent Back : List Int) (top : Nat) (n : Int) (h : Rf w B rb u1 u2 Lent Back top) (hl : Lent.length ≤ 1000000) :
    Calls Try.prog 34 #[.pointer (some ⟨rb, 0, none⟩), .int .i64 n] w fun e w' => e = .returned (.bool (decide (n ∈ Lent))) ∧ ∃ n, w' = w.drewN n := by
  have h0 := blk_cell h.blk 0
  simp at h0
  obtain ⟨p, c, rfl⟩ := row_slice h.row1
  have HI := Lib.hid (in_any w B p c Lent n h.row1 hl)
  clear h
  go_enter Try.func34, Try.ntmps34
  go_wp2_with fail
  refine HI.out.mono ?_
  rintro e w' ⟨rfl, k, rfl⟩
  go_wp2_with fail
  go_ret
  exact ⟨rfl, k, rfl⟩

set_option maxRecDepth 100000 in
set_option maxHeartbeats 800000 in
theorem rtake_more (w : World) (B rb : Nat) (u1 u2 : Value) (Lent : List Int) (top : Nat) (h : Rf w B rb u1 u2 Lent [] top) (hl : Lent.length ≤ 100000) (ht : top ≤ 100000) :
    Calls Try.prog 32 #[.pointer (some ⟨rb, 0, none⟩)] w fun e w' => e = .returned (.int .i64 top) ∧ ∃ u1', Rf w' B rb u1' u2 (Lent ++ [(top : Int)]) [] (top + 1) ∧ Fr (OwnR rb u1 u2) w w' := by
  have h0 := blk_cell h.blk 0
  have h1 := blk_cell h.blk 1
  have h2 := blk_cell h.blk 2
  have f0 := blk_free h.blk 0
  have f1 := blk_free h.blk 1
  have f2 := blk_free h.blk 2
  simp at h0 h1 h2
  obtain ⟨p, c, rfl⟩ := row_slice h.row1
  obtain ⟨p2, c2, rfl⟩ := row_slice h.row2
  have hne := row_ne h.row1 h.blk (by decide)
  have hlow := h.low
  have hlt := blk_lt h.blk
  have hown1 := ownsRow_setCell_other (a := ⟨rb, 2, none⟩) h.row1 hne (.int .i64 ((top : Int) + 1))
  have H := Lib.hid h
  have HN := Lib.hid hne
  clear h hne
  obtain ⟨i0, hi, hz0, hz1, hz2⟩ := info_parts info3
  go_enter Try.func32, Try.ntmps32
  go_wp2_with (at_builtin; refine wpList_append_own_at _ rfl (.tmp 47) (.tmp 49) 42 rfl B 3 i0 (.int .i64 0) 1 8 Try.underlying42 hi hz0 hz1 hz2 rfl (by decide) (.slice p Lent.length c) Lent.length (Lent.map (Value.int .i64)) rfl (hown1.alloc _) ⟨w.heap.size, 0, none⟩ 1 1 [.int .i64 top] rfl rfl ?c1 ?c2 ?c3 ?c4 ?c5 ?more)
  case c1 => intro j u hj; match j, hj with | 0, hj => simp at hj; subst hj; exact new_cell _ _ _ _ (size_set _ _ _).symm 0
  case c2 => intro u hu; simp at hu; subst hu; rfl
  case c3 => unfold maxLen; omega
  case c4 => omega
  case c5 => simp; omega
  case more =>
    intro v' w1 hown' hgrow _ hat
    obtain ⟨g, c', hv⟩ := row_some hown' (by omega)
    subst hv
    have hb2 := blk_grown (blk_alloc (blk_set H.out.blk 2 (.int .i64 ((top : Int) + 1))) _) hgrow HN.out
    have k0 := blk_cell hb2 0
    have e0 := blk_free hb2 0
    simp at k0
    have HB2 := Lib.hid hb2
    have HO := Lib.hid hown'
    have HG := Lib.hid hgrow
    have HAT := Lib.hid hat
    clear hb2 hown' h0 h1 h2 f0 f1 f2 hgrow hat hown1
    go_wp2
    go_ret
    have hfr : Fr (OwnR rb (.slice p Lent.length c) (.slice p2 0 c2)) w (w1.setCell ⟨rb, 0, none⟩ (.slice (some ⟨g, 0, none⟩) (Lent.length + 1) c')) :=
      (((Fr.refl _ w).set _ _ (.inl (.inl rfl))).alloc _ |>.grown HG.out (fun k hk => .inl (.inr (.inl hk)))).set _ _ (.inl (.inl rfl))
    have hrow2 : w1.ownsRow B 3 1 (.slice p2 0 c2) 0 [] := by
      have hr := (ownsRow_setCell_other (a := ⟨rb, 2, none⟩) H.out.row2 (row_ne H.out.row2 H.out.blk (by decide)) (.int .i64 ((top : Int) + 1))).alloc (.cells #[.int .i64 top] 3)
      refine hr.kept HG.out ?_
      rcases hv : (Value.slice p2 0 c2).ownBlock with _ | k
      · exact .inl rfl
      · refine .inr (fun e => H.out.ne k e.symm hv)
    refine ⟨by simp, .slice (some ⟨g, 0, none⟩) (Lent.length + 1) c', ⟨?_, ?_, ?_, ?_, hlow⟩, hfr⟩
    · have := blk_set HB2.out 0 (.slice (some ⟨g, 0, none⟩) (Lent.length + 1) c')
      simpa using this
    · have := ownsRow_setCell_other (a := ⟨rb, 0, none⟩) HO.out (row_ne HO.out HB2.out (by decide)) (.slice (some ⟨g, 0, none⟩) (Lent.length + 1) c')
      simpa using this
    · have := ownsRow_setCell_other (a := ⟨rb, 0, none⟩) hrow2 (row_ne hrow2 HB2.out (by decide)) (.slice (some ⟨g, 0, none⟩) (Lent.length + 1) c')
      simpa using this
    · intro k hk hk2
      rcases HAT.out with hat | hat
      · exact H.out.ne k (by rw [← hat]; exact hk) hk2
      · rw [hk] at hat
        have := (H.out.row2.lt k hk2).2
        simp at hat
        omega

set_option maxRecDepth 100000 in
set_option maxHeartbeats 800000 in
theorem rtake_back (w : World) (B rb : Nat) (u1 u2 : Value) (Lent Back : List Int) (x : Int) (top : Nat) (h : Rf w B rb u1 u2 Lent (Back ++ [x]) top) (hl : Lent.length ≤ 100000) (ht : Back.length ≤ 100000) :
    Calls Try.prog 32 #[.pointer (some ⟨rb, 0, none⟩)] w fun e w' => e = .returned (.int .i64 x) ∧ ∃ u1' u2', Rf w' B rb u1' u2' (Lent ++ [x]) Back top ∧ Fr (OwnR rb u1 u2) w w' := by
  have h0 := blk_cell h.blk 0
  have h1 := blk_cell h.blk 1
  have h2 := blk_cell h.blk 2
  have f0 := blk_free h.blk 0
  have f1 := blk_free h.blk 1
  have f2 := blk_free h.blk 2
  simp at h0 h1 h2
  obtain ⟨p, c, rfl⟩ := row_slice h.row1
  obtain ⟨g2, c2, rfl⟩ := row_some h.row2 (by simp)
  have hcl : (Back ++ [x]).length = Back.length + 1 := by simp
  rw [hcl] at h1
  have hx := h.row2.cellAt Back.length (by simp)
  simp at hx
  have hcap : Back.length + 1 ≤ c2 := by
    have := (reads_row h.row2).2; simpa using this
  have hlow := h.low
  have hlt := blk_lt h.blk
  have H := Lib.hid h
  clear h hcl
  obtain ⟨i0, hi, hz0, hz1, hz2⟩ := info_parts info3
  go_enter Try.func32, Try.ntmps32
  have hownE : (w.alloc (.cells #[] 3)).ownsRow B 3 1 (.slice (some ⟨w.heap.size, 0, none⟩) 0 0) 0 [] := World.ownsRow_lit w #[] 0 (by omega) (by unfold maxLen; omega) rfl
  go_wp2_with (at_builtin; refine wpList_append_own_at _ rfl (.tmp 25) (.tmp 32) 42 rfl B 3 i0 (.int .i64 0) 1 8 Try.underlying42 hi hz0 hz1 hz2 rfl (by decide) (.slice (some ⟨w.heap.size, 0, none⟩) 0 0) 0 [] rfl hownE ⟨g2, 0, none⟩ Back.length c2 (Back.map (Value.int .i64)) rfl (by simp) ?c1 ?c2 ?c3 ?c4 ?c5 ?more)
  case c1 =>
    intro j u hj
    refine (H.out.row2.alloc (.cells #[] 3)).cells rfl j u ?_
    rw [List.map_append, List.getElem?_append_left (List.getElem?_eq_some_iff.1 hj).1]
    exact hj
  case c2 => intro u hu; obtain ⟨y, _, rfl⟩ := List.mem_map.1 hu; rfl
  case c3 => unfold maxLen; omega
  case c4 => omega
  case c5 => simp; omega
  case more =>
    intro v' w1 hown' hgrow hnil hat
    have hsz := hgrow.size
    simp at hsz
    obtain ⟨g, c', hv⟩ : ∃ g c', v' = .slice (some ⟨g, 0, none⟩) Back.length c' := by
      rcases hown'.2 with ⟨hv, _⟩ | ⟨g, cap, cur, hv, _⟩
      · exact (hnil hv).elim
      · exact ⟨g, cap, by simpa using hv⟩
    subst hv
    have hrb : rb ≠ w.heap.size := by omega
    have hb2 := blk_grown (blk_alloc H.out.blk (.cells #[] 3)) hgrow (by simp [Value.ownBlock]; omega)
    have hr1 : w1.ownsRow B 3 1 (.slice p Lent.length c) Lent.length (Lent.map (Value.int .i64)) := (H.out.row1.alloc (.cells #[] 3)).kept hgrow (by
      rcases hv : (Value.slice p Lent.length c).ownBlock with _ | k
      · exact .inl rfl
      · refine .inr (fun e => ?_)
        have := (H.out.row1.lt k hv).2
        simp [Value.ownBlock] at e; omega)
    have hgb : g = w.heap.size ∨ g = w.heap.size + 1 := by
      rcases hat with hat | hat
      · left; simpa [Value.ownBlock] using hat
      · right; simpa [Value.ownBlock] using hat
    have k0 := blk_cell hb2 0
    have k1 := blk_cell hb2 1
    have e0 := blk_free hb2 0
    have e1 := blk_free hb2 1
    simp at k0 k1
    have hne1 : (Value.slice p Lent.length c).ownBlock ≠ some rb := row_ne hr1 hb2 (by decide)
    have hr2 := ownsRow_setCell_other (a := ⟨rb, 1, none⟩) hr1 hne1 (.slice (some ⟨g, 0, none⟩) Back.length c')
    have HB2 := Lib.hid hb2
    have HO := Lib.hid hown'
    have HG := Lib.hid hgrow
    have HR1 := Lib.hid hr1
    have HN1 := Lib.hid hne1
    have HGB := Lib.hid hgb
    have hlt1 : w.heap.size < w1.heap.size := hsz
    clear hb2 hown' h0 h1 h2 f0 f1 f2 hgrow hat hnil hr1 hne1 hownE hx hgb hsz
    go_wp2_with (at_builtin; refine wpList_append_own_at _ rfl (.tmp 47) (.tmp 49) 42 rfl B 3 i0 (.int .i64 0) 1 8 Try.underlying42 hi hz0 hz1 hz2 rfl (by decide) (.slice p Lent.length c) Lent.length (Lent.map (Value.int .i64)) rfl (hr2.alloc _) ⟨w1.heap.size, 0, none⟩ 1 1 [.int .i64 x] rfl rfl ?d1 ?d2 ?d3 ?d4 ?d5 ?more)
    case d1 => intro j u hj; match j, hj with | 0, hj => simp at hj; subst hj; exact new_cell _ _ _ _ (size_set _ _ _).symm 0
    case d2 => intro u hu; simp at hu; subst hu; rfl
    case d3 => unfold maxLen; omega
    case d4 => omega
    case d5 => simp; omega
    case more =>
      intro v'' w2 hown'' hgrow2 _ hat2
      obtain ⟨g', c'', hv⟩ := row_some hown'' (by omega)
      subst hv
      have hb3 := blk_grown (blk_alloc (blk_set HB2.out 1 (.slice (some ⟨g, 0, none⟩) Back.length c')) _) hgrow2 HN1.out
      have k0 := blk_cell hb3 0
      have e0 := blk_free hb3 0
      simp at k0
      have HB3 := Lib.hid hb3
      have HO2 := Lib.hid hown''
      have HG2 := Lib.hid hgrow2
      have HAT2 := Lib.hid hat2
      clear hb3 hown'' hgrow2 hat2 hr2
      go_wp2
      go_ret
      have hrow2 : w2.ownsRow B 3 1 (.slice (some ⟨g, 0, none⟩) Back.length c') Back.length (Back.map (Value.int .i64)) := by
        have h0 : w1.ownsRow B 3 1 (.slice (some ⟨g, 0, none⟩) Back.length c') Back.length (Back.map (Value.int .i64)) := by simpa using HO.out
        have hr := (ownsRow_setCell_other (a := ⟨rb, 1, none⟩) h0 (row_ne h0 HB2.out (by decide)) (.slice (some ⟨g, 0, none⟩) Back.length c')).alloc (.cells #[.int .i64 x] 3)
        refine hr.kept HG2.out (.inr (fun e => ?_))
        have := (H.out.row1.lt g e.symm).2
        rcases HGB.out with h | h <;> omega
      refine ⟨rfl, .slice (some ⟨g', 0, none⟩) (Lent.length + 1) c'', .slice (some ⟨g, 0, none⟩) Back.length c', ⟨?_, ?_, ?_, ?_, hlow⟩, ?_⟩
      · have := blk_set HB3.out 0 (.slice (some ⟨g', 0, none⟩) (Lent.length + 1) c'')
        simpa using this
      · have := ownsRow_setCell_other (a := ⟨rb, 0, none⟩) HO2.out (row_ne HO2.out HB3.out (by decide)) (.slice (some ⟨g', 0, none⟩) (Lent.length + 1) c'')
        simpa using this
      · exact ownsRow_setCell_other (a := ⟨rb, 0, none⟩) hrow2 (row_ne hrow2 HB3.out (by decide)) _
      · intro k hk hk2
        have hgk : g = k := by simpa [Value.ownBlock] using hk2
        subst hgk
        rcases HAT2.out with h2 | h2
        · have h3 : (Value.slice p Lent.length c).ownBlock = some g := by rw [← h2]; exact hk
          have := (H.out.row1.lt g h3).2
          rcases HGB.out with h | h <;> omega
        · rw [hk] at h2
          have h4 := (HO.out.lt g rfl).2
          simp at h2
          omega
      · exact (((((Fr.refl _ w).alloc _).grown HG.out (fun k hk => .inr (by simp [Value.ownBlock] at hk; omega))).set _ _ (.inl (.inl rfl))).alloc _ |>.grown HG2.out (fun k hk => .inl (.inr (.inl hk)))).set _ _ (.inl (.inl rfl))

set_option maxRecDepth 100000 in
set_option maxHeartbeats 800000 in
theorem rfree_no (w : World) (B rb : Nat) (u1 u2 : Value) (Lent Back : List Int) (top : Nat) (n : Int) (h : Rf w B rb u1 u2 Lent Back top) (hl : Lent.length ≤ 100000) (hn : ¬ n ∈ Lent) :
    Calls Try.prog 35 #[.pointer (some ⟨rb, 0, none⟩), .int .i64 n] w fun e w' => e = .returned (.bool false) ∧ ∃ n, w' = w.drewN n := by
  have h0 := blk_cell h.blk 0
  simp at h0
  obtain ⟨p, c, rfl⟩ := row_slice h.row1
  have hi := in_any w B p c Lent n h.row1 (by omega)
  rw [decide_eq_false hn] at hi
  have HI := Lib.hid hi
  clear h hi
  go_enter Try.func35, Try.ntmps35
  go_wp2_with fail
  refine HI.out.mono ?_
  rintro e w' ⟨rfl, k, rfl⟩
  go_wp2_with fail
  go_ret
  exact ⟨rfl, k, rfl⟩

set_option maxRecDepth 100000 in
set_option maxHeartbeats 800000 in
theorem rfree_yes (w : World) (B rb : Nat) (u1 u2 : Value) (Lent Back : List Int) (top : Nat) (n : Int) (h : Rf w B rb u1 u2 Lent Back top) (hl : Lent.length ≤ 100000) (ht : Back.length ≤ 100000) (hn : n ∈ Lent) :
    Calls Try.prog 35 #[.pointer (some ⟨rb, 0, none⟩), .int .i64 n] w fun e w' => e = .returned (.bool true) ∧ ∃ u1' u2', Rf w' B rb u1' u2' (Lent.filter (fun y => decide (y ≠ n))) (Back ++ [n]) top ∧ Fr (OwnR rb u1 u2) w w' := by
  have h0 := blk_cell h.blk 0
  simp at h0
  obtain ⟨p, c, rfl⟩ := row_slice h.row1
  have hi := in_any w B p c Lent n h.row1 (by omega)
  rw [decide_eq_true hn] at hi
  have HI := Lib.hid hi
  have H := Lib.hid h
  clear h hi
  go_enter Try.func35, Try.ntmps35
  go_wp2_with fail
  refine HI.out.mono ?_
  rintro e w1 ⟨rfl, k, rfl⟩
  go_wp2_with fail
  have hrd : (w.drewN k).ownsRow B 3 1 (.slice p Lent.length c) Lent.length (Lent.map (Value.int .i64)) := row_fr H.out.row1 ((Fr.refl (fun _ => False) w).drewN k) (fun _ _ h => h)
  refine (without_any (w.drewN k) B p c Lent n hrd (by omega)).mono ?_
  rintro e w2 ⟨p', c', rfl, ho, hbel⟩
  have hF : Fr (fun _ => False) w w2 := ((Fr.refl (fun _ => False) w).drewN k).trans (Fr.of_below hbel) (fun _ h _ => h)
  obtain ⟨p2, c2, rfl⟩ := row_slice H.out.row2
  have hb2 := blk_fr H.out.blk hF (fun h => h)
  have hr2 : w2.ownsRow B 3 1 (.slice p2 Back.length c2) Back.length (Back.map (Value.int .i64)) := row_fr H.out.row2 hF (fun _ _ h => h)
  have hlt := blk_lt H.out.blk
  have hlow := H.out.low
  have hsz := hF.size
  have k0 := blk_cell hb2 0
  have k1 := blk_cell hb2 1
  have e0 := blk_free hb2 0
  have e1 := blk_free hb2 1
  simp at k0 k1
  have hr2' := ownsRow_setCell_other (a := ⟨rb, 0, none⟩) hr2 (row_ne hr2 hb2 (by decide)) (.slice p' (Lent.filter (fun y => decide (y ≠ n))).length c')
  have hlen : (Lent.filter (fun y => decide (y ≠ n))).length ≤ Lent.length := List.length_filter_le _ _
  have HFl := Lib.hid ho
  have HB2 := Lib.hid hb2
  have HR2 := Lib.hid hr2
  have HF := Lib.hid hF
  clear ho hbel hF hb2 hr2 hrd h0
  generalize hfe : (Lent.filter (fun y => decide (y ≠ n))) = F at *
  have HFE := Lib.hid hfe
  clear hfe
  obtain ⟨i0, hi, hz0, hz1, hz2⟩ := info_parts info3
  go_wp2_with (at_builtin; refine wpList_append_own_at _ rfl (.tmp 25) (.tmp 27) 42 rfl B 3 i0 (.int .i64 0) 1 8 Try.underlying42 hi hz0 hz1 hz2 rfl (by decide) (.slice p2 Back.length c2) Back.length (Back.map (Value.int .i64)) rfl (hr2'.alloc _) ⟨w2.heap.size, 0, none⟩ 1 1 [.int .i64 n] rfl rfl ?d1 ?d2 ?d3 ?d4 ?d5 ?more)
  case d1 => intro j u hj; match j, hj with | 0, hj => simp at hj; subst hj; exact new_cell _ _ _ _ (size_set _ _ _).symm 0
  case d2 => intro u hu; simp at hu; subst hu; rfl
  case d3 => unfold maxLen; omega
  case d4 => omega
  case d5 => simp; omega
  case more =>
    intro v' w3 hown hgrow _ hat
    obtain ⟨g, c'', hv⟩ := row_some hown (by omega)
    subst hv
    have hne2 : (Value.slice p2 Back.length c2).ownBlock ≠ some rb := row_ne HR2.out HB2.out (by decide)
    have hb3 := blk_grown (blk_alloc (blk_set HB2.out 0 (.slice p' F.length c')) _) hgrow hne2
    have k1 := blk_cell hb3 1
    have e1 := blk_free hb3 1
    simp at k1
    have HB3 := Lib.hid hb3
    have HO := Lib.hid hown
    have HG := Lib.hid hgrow
    have HAT := Lib.hid hat
    clear hb3 hown hgrow hat hr2'
    go_wp2
    go_ret
    have hlow1 : ∀ j, (Value.slice p' F.length c').ownBlock = some j → w.heap.size ≤ j := fun j hj => (HFl.out.lt j hj).1
    have hFr3 : w3.ownsRow B 3 1 (.slice p' F.length c') F.length (F.map (Value.int .i64)) := by
      have hf : w2.ownsRow B 3 1 (.slice p' F.length c') F.length (F.map (Value.int .i64)) := row_low HFl.out (by show B ≤ w.heap.size; omega)
      have hr := (ownsRow_setCell_other (a := ⟨rb, 0, none⟩) hf (row_ne hf HB2.out (by decide)) (.slice p' F.length c')).alloc (.cells #[.int .i64 n] 3)
      refine hr.kept HG.out ?_
      rcases hv : (Value.slice p' F.length c').ownBlock with _ | j
      · exact .inl rfl
      · refine .inr (fun e => ?_)
        have := hlow1 j hv
        have := (H.out.row2.lt j e.symm).2
        omega
    rw [HFE.out]
    refine ⟨rfl, .slice p' F.length c', .slice (some ⟨g, 0, none⟩) (Back.length + 1) c'', ⟨?_, ?_, ?_, ?_, hlow⟩, ?_⟩
    · have := blk_set HB3.out 1 (.slice (some ⟨g, 0, none⟩) (Back.length + 1) c'')
      simpa using this
    · exact ownsRow_setCell_other (a := ⟨rb, 1, none⟩) hFr3 (row_ne hFr3 HB3.out (by decide)) _
    · have := ownsRow_setCell_other (a := ⟨rb, 1, none⟩) HO.out (row_ne HO.out HB3.out (by decide)) (.slice (some ⟨g, 0, none⟩) (Back.length + 1) c'')
      simpa using this
    · intro j hj hj2
      have h1 := hlow1 j hj
      rcases HAT.out with h2 | h2
      · rw [h2] at hj2
        have := (H.out.row2.lt j hj2).2
        omega
      · rw [hj2] at h2
        have := (HFl.out.lt j hj).2
        simp at h2
        omega
    · exact ((((HF.out.mono (fun _ h => h.elim)).set _ _ (.inl (.inl rfl))).alloc _).grown HG.out (fun j hj => .inl (.inr (.inr hj)))).set _ _ (.inl (.inl rfl))

/-- The numbers below k that are lent, rising, as the reference tells them. -/
def ralls (Lent : List Int) : Nat → List Int
  | 0 => []
  | k + 1 => ralls Lent k ++ if decide ((k : Int) ∈ Lent) = true then [(k : Int)] else []
theorem ralls_len (Lent : List Int) : ∀ k, (ralls Lent k).length ≤ k := by
  intro k
  induction k with
  | zero => simp [ralls]
  | succ k ih => simp only [ralls, List.length_append]; split <;> simp <;> omega

set_option maxRecDepth 100000 in
set_option maxHeartbeats 1600000 in
theorem rall_any (w : World) (B rb : Nat) (u1 u2 : Value) (Lent Back : List Int) (top : Nat) (h : Rf w B rb u1 u2 Lent Back top) (hl : Lent.length ≤ 100000) (ht : top ≤ 100000) :
    Calls Try.prog 37 #[.pointer (some ⟨rb, 0, none⟩)] w fun e w' => ∃ p c, e = .returned (.slice p (ralls Lent top).length c) ∧ w'.ownsRow w.heap.size 3 1 (.slice p (ralls Lent top).length c) (ralls Lent top).length ((ralls Lent top).map (Value.int .i64)) ∧ Below w.heap.size w w' := by
  obtain ⟨p, c, rfl⟩ := row_slice h.row1
  have H := Lib.hid h
  have hlt := blk_lt h.blk
  clear h
  obtain ⟨i0, hi, hz0, hz1, hz2⟩ := info_parts info3
  go_enter Try.func37, Try.ntmps37
  go_wp2
  have hownE : (w.alloc (.cells #[] 3)).ownsRow w.heap.size 3 1 (.slice (some ⟨w.heap.size, 0, none⟩) 0 0) 0 [] := World.ownsRow_lit w #[] 0 (Nat.le_refl _) (by unfold maxLen; omega) rfl
  have HE := Lib.hid hownE
  clear hownE
  go_loopw [3, 4] (fun o i wr => ∃ k : Nat, k ≤ top ∧ i = .int .i64 k ∧ wr.ownsRow w.heap.size 3 1 o (ralls Lent k).length ((ralls Lent k).map (Value.int .i64)) ∧ Below w.heap.size w wr) (fun _ i _ => top - (intOf i).toNat)
  case atStart => exact ⟨0, Nat.zero_le _, rfl, HE.out, below_alloc1 w _⟩
  case round =>
    obtain ⟨k, hk, rfl, hown, hbel⟩ := hrel
    have hR : Rf wr B rb (.slice p Lent.length c) u2 Lent Back top := H.out.fr (Fr.of_below hbel) (fun _ _ h => h)
    have k0 := blk_cell hR.blk 0
    have k2 := blk_cell hR.blk 2
    simp at k0 k2
    have hii := in_any wr B p c Lent (k : Int) hR.row1 (by omega)
    have Hown := Lib.hid hown
    have Hbel := Lib.hid hbel
    have hln := ralls_len Lent k
    have hsz := hbel.size
    clear hR hbel
    by_cases hlt' : k < top
    · by_cases hlv : (k : Int) ∈ Lent
      · rw [decide_eq_true hlv] at hii
        have HI := Lib.hid hii
        have hsn : ralls Lent (k + 1) = ralls Lent k ++ [(k : Int)] := by simp only [ralls]; rw [decide_eq_true hlv]; rfl
        have HSN := Lib.hid hsn
        clear hii hsn hlv hown
        go_wp2_with fail
        refine HI.out.mono ?_
        rintro e w' ⟨rfl, m, rfl⟩
        have hown : (wr.drewN m).ownsRow w.heap.size 3 1 _ (ralls Lent k).length ((ralls Lent k).map (Value.int .i64)) := row_fr Hown.out ((Fr.refl (fun _ => False) wr).drewN m) (fun _ _ h => h)
        go_wp2_with (at_builtin; refine wpList_append_own _ rfl (.tmp 20) (.tmp 22) 42 rfl w.heap.size 3 i0 (.int .i64 0) 1 8 Try.underlying42 hi hz0 hz1 hz2 rfl (by decide) _ _ _ rfl (hown.alloc _) ⟨wr.heap.size, 0, none⟩ 1 1 [.int .i64 k] rfl rfl ?c1 ?c2 ?c3 ?c4 ?c5 ?_)
        case c1 => intro j u hj; match j, hj with | 0, hj => simp at hj; subst hj; exact new_cell _ _ _ _ rfl 0
        case c2 => intro u hu; simp at hu; subst hu; rfl
        case c3 => unfold maxLen; omega
        case c4 => omega
        case c5 => simp; omega
        · intro v' w1 hown' hgrow _
          have Hown' := Lib.hid hown'
          have Hgrow := Lib.hid hgrow
          clear hown' hgrow hown
          go_wp2
          go_roundw
          case rel =>
            refine ⟨k + 1, by omega, by go_num, ?_, ?_⟩
            · rw [HSN.out]
              simpa using Hown'.out
            · exact (((Hbel.out.trans (below_draws _ wr m)).alloc (by simp; omega) _).grown Hgrow.out (by simp; omega) (fun j hj => (Hown.out.lt j hj).1))
          case measure => simp [intOf]; omega
      · rw [decide_eq_false hlv] at hii
        have HI := Lib.hid hii
        have hsn : ralls Lent (k + 1) = ralls Lent k := by simp only [ralls]; rw [decide_eq_false hlv]; simp
        have HSN := Lib.hid hsn
        clear hii hsn hlv hown
        go_wp2_with fail
        refine HI.out.mono ?_
        rintro e w' ⟨rfl, m, rfl⟩
        go_wp2_with fail
        go_roundw
        case rel =>
          refine ⟨k + 1, by omega, by go_num, ?_, ?_⟩
          · rw [HSN.out]
            exact row_fr Hown.out ((Fr.refl (fun _ => False) wr).drewN m) (fun _ _ h => h)
          · exact Hbel.out.trans (below_draws _ wr m)
        case measure => simp [intOf]; omega
    · have hkl : k = top := by omega
      obtain ⟨p', c', rfl⟩ := row_slice hown
      have HKL := Lib.hid hkl
      clear hkl hown
      go_wp2_with fail
      go_ret
      exact ⟨p', c', by rw [← HKL.out]; rfl, by rw [← HKL.out]; exact Hown.out, Hbel.out⟩

end Go.Proofs.Ytkhdnkmocbceeaa.Arena
