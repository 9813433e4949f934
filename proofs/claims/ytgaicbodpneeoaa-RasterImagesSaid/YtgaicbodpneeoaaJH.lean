/- Joined texts. -/
import Derived.Test.YtgaicbodpneeoaaJG
import Derived.Test.YtgaicbodpneeoaaJF
import Derived.Shelf.SlSortCmp.WholeK
import Derived.Deep.RegionLaw
import Derived.BigQuiet
import Derived.BigRegion
import Derived.Deep.QuietTactic
import Derived.Deep.RegionHeld3
/- What is used of RsD. -/
namespace Go.Proofs.Ytgaicbodpneeoaa.Rs
open Go.Shelf Go.RowKit Go.Lib Go.Sort Go.Proofs.ZFr Go.Proofs.Ytgaicbodpneeoaa.PRasterImages Go.Proofs.Ytgaicbodpneeoaa.Wd Go.Proofs.YtgaicbodpneeoaaW.PrintWords
theorem cmpx_walk (a b : Int) (W : World) : Calls Try.prog 29 #[encW a, encW b] W fun e w' => e = .returned (.int .i64 (cmpW a b)) ∧ ∃ os, w' = grow W os := by
  rw [cmpW_eq]
  unfold encW
  generalize hiW a = x
  generalize loW a = u
  generalize hiW b = y
  generalize loW b = v
  have fin : ∀ o o', ∃ os, (W.alloc o).alloc o' = grow W os := fun o o' => ⟨_, by rw [alloc_eq_grow, alloc_eq_grow, grow_grow]⟩
  by_cases h1 : x = y
  · subst h1
    by_cases h2 : u = v
    · subst h2
      go_enter Try.func29, Try.ntmps29
      go_wp2_with fail
      go_ret
      exact ⟨by simp [cmp2], fin _ _⟩
    · by_cases h3 : u < v
      · go_enter Try.func29, Try.ntmps29
        go_wp2_with fail
        go_ret
        exact ⟨by simp [cmp2, h2, h3], fin _ _⟩
      · go_enter Try.func29, Try.ntmps29
        go_wp2_with fail
        go_ret
        exact ⟨by simp [cmp2, h2, h3], fin _ _⟩
  · by_cases h3 : x < y
    · go_enter Try.func29, Try.ntmps29
      go_wp2_with fail
      go_ret
      exact ⟨by simp [cmp2, h1, h3], fin _ _⟩
    · go_enter Try.func29, Try.ntmps29
      go_wp2_with fail
      go_ret
      exact ⟨by simp [cmp2, h1, h3], fin _ _⟩
theorem nan_i (x : Int) (W : World) : Calls Try.prog 55 #[.int .i64 x] W fun e w' => e = .returned (.bool false) ∧ w' = W := by
  go_enter Try.func55, Try.ntmps55
  go_wp2_with fail
  all_goals go_ret
  all_goals simp
theorem cmp_i (x y : Int) (W : World) : Calls Try.prog 40 #[.int .i64 x, .int .i64 y] W fun e w' => e = .returned (.int .i64 (cmp3 x y)) ∧ w' = W := by
  go_enter Try.func40, Try.ntmps40
  go_wp2_with (go_at_call 55; refine (nan_i _ _).mono ?_; rintro e w' ⟨rfl, rfl⟩)
  all_goals go_ret
  all_goals simp_all [cmp3]
  all_goals omega
theorem nan_l (x : Int) (W : World) : Calls Try.prog 54 #[.int .i64 x] W fun e w' => e = .returned (.bool false) ∧ w' = W := by
  go_enter Try.func54, Try.ntmps54
  go_wp2_with fail
  all_goals go_ret
  all_goals simp
theorem cmp_l (x y : Int) (W : World) : Calls Try.prog 39 #[.int .i64 x, .int .i64 y] W fun e w' => e = .returned (.int .i64 (cmp3 x y)) ∧ w' = W := by
  go_enter Try.func39, Try.ntmps39
  go_wp2_with (go_at_call 54; refine (nan_l _ _).mono ?_; rintro e w' ⟨rfl, rfl⟩)
  all_goals go_ret
  all_goals simp_all [cmp3]
  all_goals omega
theorem or3_walk (c0 c1 c2 : Int) (b : Nat) (W : World) (h0 : W.cell? ⟨b, 0, none⟩ = some (.int .i64 c0)) (h1 : W.cell? ⟨b, 1, none⟩ = some (.int .i64 c1)) (h2 : W.cell? ⟨b, 2, none⟩ = some (.int .i64 c2)) :
    Calls Try.prog 38 #[.slice (some ⟨b, 0, none⟩) 3 3] W fun e w' => e = .returned (.int .i64 (or2 c0 (or2 c1 c2))) ∧ ∃ q, w' = W.drewN q := by
  go_enter Try.func38, Try.ntmps38
  go_wp2
  go_loopw [8] (fun v8 w' => ∃ k : Nat, k ≤ 3 ∧ v8 = .int .i64 k ∧ w' = W ∧ (1 ≤ k → c0 = 0) ∧ (2 ≤ k → c1 = 0) ∧ (3 ≤ k → c2 = 0)) (fun v8 _ => (5 - intOf v8).toNat)
  case atStart => exact ⟨0, by omega, rfl, rfl, by omega, by omega, by omega⟩
  case round =>
    obtain ⟨k, hk, rfl, rfl, e0, e1, e2⟩ := hrel
    obtain rfl | rfl | rfl | rfl : k = 0 ∨ k = 1 ∨ k = 2 ∨ k = 3 := by omega
    · by_cases hz : c0 = 0
      · subst hz
        go_wp2_with fail
        go_roundw
        case rel => exact ⟨1, by simp⟩
        case measure => simp [intOf]
      · have hzb : (c0 == 0) = false := by simpa using hz
        go_wp2_with fail
        go_ret
        exact ⟨by simp [or2, hz], 0, rfl⟩
    · obtain rfl := e0 (by omega)
      by_cases hz : c1 = 0
      · subst hz
        go_wp2_with fail
        go_roundw
        case rel => exact ⟨2, by simp⟩
        case measure => simp [intOf]
      · have hzb : (c1 == 0) = false := by simpa using hz
        go_wp2_with fail
        go_ret
        exact ⟨by simp [or2, hz], 0, rfl⟩
    · obtain rfl := e0 (by omega)
      obtain rfl := e1 (by omega)
      by_cases hz : c2 = 0
      · subst hz
        go_wp2_with fail
        go_roundw
        case rel => exact ⟨3, by simp⟩
        case measure => simp [intOf]
      · have hzb : (c2 == 0) = false := by simpa using hz
        go_wp2_with fail
        go_ret
        exact ⟨by simp [or2], 0, rfl⟩
    · obtain rfl := e0 (by omega)
      obtain rfl := e1 (by omega)
      obtain rfl := e2 (by omega)
      go_wp2_with fail
      go_ret
      exact ⟨by simp [or2], 0, rfl⟩
end Go.Proofs.Ytgaicbodpneeoaa.Rs


/- What is used of RsE. -/
namespace Go.Proofs.Ytgaicbodpneeoaa.Rs
open Go.Shelf Go.RowKit Go.Lib Go.Sort Go.Proofs.ZFr Go.Proofs.Ytgaicbodpneeoaa.PRasterImages Go.Proofs.Ytgaicbodpneeoaa.Wd Go.Proofs.YtgaicbodpneeoaaW.PrintWords
/-- w is W with draws behind it and things laid behind all. -/
def Gw (W w : World) : Prop := ∃ q os, w = grow (W.drewN q) os
theorem Gw.refl (W : World) : Gw W W := ⟨0, #[], by simp [grow, World.drewN]⟩
theorem Gw.alloc {W w : World} (h : Gw W w) (o : Obj) : Gw W (w.alloc o) := by
  obtain ⟨q, os, rfl⟩ := h
  exact ⟨q, os ++ #[o], by rw [alloc_eq_grow, grow_grow]⟩
theorem Gw.grow {W w w' : World} (h : Gw W w) (k : ∃ os, w' = Go.Sort.grow w os) : Gw W w' := by
  obtain ⟨q, os, rfl⟩ := h
  obtain ⟨os', rfl⟩ := k
  exact ⟨q, os ++ os', by rw [grow_grow]⟩
theorem Gw.drew {W w : World} (h : Gw W w) : Gw W w.drew := by
  obtain ⟨q, os, rfl⟩ := h
  exact ⟨q + 1, os, rfl⟩
theorem Gw.fr {W w : World} (h : Gw W w) : Fr (fun _ => False) W w := by
  obtain ⟨q, os, rfl⟩ := h
  refine ⟨rfl, rfl, rfl, by simp [Go.Sort.grow, World.drewN], fun k hk _ => ?_⟩
  show (W.heap ++ os)[k]? = _
  rw [Array.getElem?_append_left hk]
end Go.Proofs.Ytgaicbodpneeoaa.Rs


/- What is used of RsF. -/
namespace Go.Proofs.Ytgaicbodpneeoaa.Rs
open Go.Shelf Go.RowKit Go.Lib Go.Sort Go.Proofs.ZFr Go.Proofs.Ytgaicbodpneeoaa.PRasterImages Go.Proofs.Ytgaicbodpneeoaa.Wd Go.Proofs.YtgaicbodpneeoaaW.PrintWords
theorem Gw.drewN {W w : World} (h : Gw W w) (n : Nat) : Gw W (w.drewN n) := by
  obtain ⟨q, os, rfl⟩ := h
  exact ⟨q + n, os, by simp [Go.Sort.grow, World.drewN, Nat.add_assoc]⟩
theorem cell_dn {w : World} {a : Addr} {v : Value} (q : Nat) (h : w.cell? a = some v) : (w.drewN q).cell? a = some v := h
theorem cell_al {w : World} {a : Addr} {v : Value} (o : Obj) (h : w.cell? a = some v) : (w.alloc o).cell? a = some v := by
  have hb := World.block_lt_of_cell? w a h
  have := Below.heap_alloc w o a.block hb
  unfold World.cell? at *
  rw [this]; exact h
set_option maxRecDepth 100000 in
set_option maxHeartbeats 4000000 in
theorem cfC_walk (a b : Cone) (W : World) : Calls Try.prog 37 #[encC a, encC b] W fun e w' => e = .returned (.int .i64 (cfC a b)) ∧ Gw W w' := by
  have H0 := Lib.hid (fun w => cmp_l a.x b.x w)
  have H1 := Lib.hid (fun w => cmpx_walk a.d b.d w)
  have H2 := Lib.hid (fun w => cmp_i a.id b.id w)
  have hc : cfC a b = or2 (cmp3 a.x b.x) (or2 (cmpW a.d b.d) (cmp3 a.id b.id)) := by unfold cfC cmpW cmp3 or2; repeat' split <;> omega
  rw [hc]
  clear hc
  obtain ⟨ax, ad, ai⟩ := a
  obtain ⟨bx, bd, bi⟩ := b
  unfold encC
  simp only at H0 H1 H2 ⊢
  unfold encW at H1
  generalize hiW ad = a1 at H1 ⊢
  generalize loW ad = a2 at H1 ⊢
  generalize hiW bd = b1 at H1 ⊢
  generalize loW bd = b2 at H1 ⊢
  generalize cmp3 ax bx = c0 at H0 ⊢
  generalize cmpW ad bd = c1 at H1 ⊢
  generalize cmp3 ai bi = c2 at H2 ⊢
  have t1 := ZFr.blk_alloc (heap_alloc_new W (Obj.cells #[Value.int IntKind.i64 ax, Value.int IntKind.i64 a1, Value.int IntKind.u64 a2, Value.int IntKind.i64 ai] 72)) (Obj.cells #[Value.int IntKind.i64 bx, Value.int IntKind.i64 b1, Value.int IntKind.u64 b2, Value.int IntKind.i64 bi] 72)
  have t2 := second W (Obj.cells #[Value.int IntKind.i64 ax, Value.int IntKind.i64 a1, Value.int IntKind.u64 a2, Value.int IntKind.i64 ai] 72) (Obj.cells #[Value.int IntKind.i64 bx, Value.int IntKind.i64 b1, Value.int IntKind.u64 b2, Value.int IntKind.i64 bi] 72)
  have g2 := ((Gw.refl W).alloc (Obj.cells #[Value.int IntKind.i64 ax, Value.int IntKind.i64 a1, Value.int IntKind.u64 a2, Value.int IntKind.i64 ai] 72)).alloc (Obj.cells #[Value.int IntKind.i64 bx, Value.int IntKind.i64 b1, Value.int IntKind.u64 b2, Value.int IntKind.i64 bi] 72)
  go_enter Try.func37, Try.ntmps37
  go_wp2_with fail
  generalize (W.alloc (Obj.cells #[Value.int IntKind.i64 ax, Value.int IntKind.i64 a1, Value.int IntKind.u64 a2, Value.int IntKind.i64 ai] 72)).alloc (Obj.cells #[Value.int IntKind.i64 bx, Value.int IntKind.i64 b1, Value.int IntKind.u64 b2, Value.int IntKind.i64 bi] 72) = w2 at t1 t2 g2 ⊢
  have T1 := Lib.hid t1
  have T2 := Lib.hid t2
  have G2 := Lib.hid g2
  obtain ⟨p1, p2, p3, p4⟩ := cone_cells (w := w2.drew) t1
  obtain ⟨r1, r2, r3, r4⟩ := cone_cells (w := w2.drew) t2
  clear t1 t2 g2
  go_region_held3 (fun w' => w'.cell? ⟨W.heap.size, 0, none⟩ = some (.int .i64 ax) ∧ w'.cell? ⟨W.heap.size, 1, none⟩ = some (.int .i64 a1) ∧ w'.cell? ⟨W.heap.size, 2, none⟩ = some (.int .u64 a2) ∧ w'.cell? ⟨W.heap.size, 3, none⟩ = some (.int .i64 ai) ∧ w'.cell? ⟨W.heap.size + 1, 0, none⟩ = some (.int .i64 bx) ∧ w'.cell? ⟨W.heap.size + 1, 1, none⟩ = some (.int .i64 b1) ∧ w'.cell? ⟨W.heap.size + 1, 2, none⟩ = some (.int .u64 b2) ∧ w'.cell? ⟨W.heap.size + 1, 3, none⟩ = some (.int .i64 bi))
    (refine ⟨?_, ?_, ?_, ?_, ?_, ?_, ?_, ?_⟩ <;> (first | with_reducible assumption | (with_reducible refine cell_al _ ?_; with_reducible assumption) | (with_reducible refine cell_dn _ (cell_al _ ?_); with_reducible assumption)))
    (first
      | ((go_at_call 39; (with_reducible refine (H0.out _).mono ?_); rintro e w' ⟨rfl, rfl⟩))
      | ((go_at_call 29; (with_reducible refine (H1.out _).mono ?_); rintro e w3 ⟨rfl, g3⟩; have G3 := Lib.hid (G2.out.drew.grow g3); have f3 := ((Gw.refl w2.drew).grow g3).fr; have U3 := Lib.hid (ZFr.blk_fr (w := w2.drew) T1.out f3 (fun h => h)); have V3 := Lib.hid (ZFr.blk_fr (w := w2.drew) T2.out f3 (fun h => h)); obtain ⟨q1, q2, q3, q4⟩ := cone_cells U3.out; obtain ⟨s1, s2, s3, s4⟩ := cone_cells V3.out; clear g3 f3))
      | ((go_at_call 40; (with_reducible refine (H2.out _).mono ?_); rintro e w' ⟨rfl, rfl⟩))
      | ((go_at_call 38; have hc_ := or3_walk c0 c1 c2 w'.heap.size (w'.alloc (Obj.cells #[Value.int IntKind.i64 c0, Value.int IntKind.i64 c1, Value.int IntKind.i64 c2] 3)) (ZFr.blk_cell (heap_alloc_new w' _) 0) (ZFr.blk_cell (heap_alloc_new w' _) 1) (ZFr.blk_cell (heap_alloc_new w' _) 2); (with_reducible refine hc_.mono ?_); clear hc_; rintro e w9 ⟨rfl, q, rfl⟩; have G9 := Lib.hid ((G3.out.alloc (Obj.cells #[Value.int IntKind.i64 c0, Value.int IntKind.i64 c1, Value.int IntKind.i64 c2] 3)).drewN q))))
  all_goals go_wp2_with fail
  all_goals go_ret
  all_goals exact ⟨rfl, G9.out⟩
end Go.Proofs.Ytgaicbodpneeoaa.Rs

