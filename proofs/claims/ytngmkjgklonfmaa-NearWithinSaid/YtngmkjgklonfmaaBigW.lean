/- The document's whole numbers of any length: the program's walks. -/
import Derived.Test.YtngmkjgklonfmaaBigG
import Derived.Test.YtngmkjgklonfmaaZFr
import Derived.RowKit
import Derived.RowKit3
import Derived.WideLaws
import Derived.WalkLawsBesides
import Derived.WalkSpells
import Derived.Lib.Hide
import Derived.Outline
import Derived.WalkKit
import Derived.Test.YtngmkjgklonfmaaWAt
namespace Go.Proofs.Ytngmkjgklonfmaa.Big
open Go.RowKit Go.Proofs.ZFr Go.Proofs.Ytngmkjgklonfmaa.PNearNearest Go.Proofs.YtngmkjgklonfmaaW.PrintWords

/-- Digits of a number in memory, off the blocks of S. -/
def Dgs (w : World) (S : Nat → Prop) (v : Value) (n : Nat) : Prop :=
  ∃ A c, v = .slice A (dg n).length c ∧ Kd.C (Kd.int .i64) w A (dg n).length (dg n) ∧ (dg n).length ≤ c ∧ ∀ ad, A = some ad → 0 < (dg n).length → ¬ S ad.block
theorem Dgs.fr {w w' : World} {S T : Nat → Prop} {v : Value} {n : Nat} (h : Dgs w S v n) (hf : Fr T w w') (hT : ∀ k, T k → S k) : Dgs w' S v n := by
  obtain ⟨A, c, rfl, hC, hc, hs⟩ := h
  exact ⟨A, c, rfl, Go.Proofs.YtngmkjgklonfmaaW.PrintWords.Kd.C_foot_neS (S := S) (fun h => h) hC hs w' ⟨hf.size, fun i hi hn => hf.block i hi (fun h => hn (hT i h))⟩, hc, hs⟩
theorem Dgs.mono {w : World} {S T : Nat → Prop} {v : Value} {n : Nat} (h : Dgs w S v n) (hT : ∀ k, T k → S k) : Dgs w T v n := by
  obtain ⟨A, c, rfl, hC, hc, hs⟩ := h
  exact ⟨A, c, rfl, hC, hc, fun ad he hl ht => hs ad he hl (hT _ ht)⟩
def Whole (w : World) (S : Nat → Prop) (v : Value) (n : Int) : Prop := ∃ s, v = .agg #[.int .i64 (sg n), s] ∧ Dgs w S s n.natAbs

/-- What S holds and what has been laid since. -/
def Up (S : Nat → Prop) (w w' : World) (k : Nat) : Prop := S k ∨ (w.heap.size ≤ k ∧ k < w'.heap.size)
theorem Up.lt {S : Nat → Prop} {w w' : World} (hS : ∀ k, S k → k < w.heap.size) (h : w.heap.size ≤ w'.heap.size) : ∀ k, Up S w w' k → k < w'.heap.size := fun k hk => by
  rcases hk with hk | hk
  · exact Nat.lt_of_lt_of_le (hS k hk) h
  · exact hk.2
theorem Dgs.up {w w' W : World} {S : Nat → Prop} {v : Value} {n : Nat} (h : Dgs w S v n) (hf : Fr (fun _ => False) w W) : Dgs W (Up S w w') v n := by
  refine Dgs.fr (S := Up S w w') ?_ hf (fun _ h => h.elim)
  obtain ⟨A, c, rfl, hC, hc, hs⟩ := h
  refine ⟨A, c, rfl, hC, hc, fun ad he hl hu => ?_⟩
  rcases hu with hu | hu
  · exact hs ad he hl hu
  · subst he
    have := Kd.C_lt hC hl (by decide)
    omega
theorem Dgs.slice {w : World} {S : Nat → Prop} {v : Value} {n : Nat} (h : Dgs w S v n) : ∃ A c, v = .slice A (dg n).length c := by
  obtain ⟨A, c, rfl, _⟩ := h
  exact ⟨A, c, rfl⟩
theorem Whole.fr {w w' : World} {S T : Nat → Prop} {v : Value} {n : Int} (h : Whole w S v n) (hf : Fr T w w') (hT : ∀ k, T k → S k) : Whole w' S v n := by
  obtain ⟨s, rfl, hd⟩ := h
  exact ⟨s, rfl, hd.fr hf hT⟩
theorem Whole.mono {w : World} {S T : Nat → Prop} {v : Value} {n : Int} (h : Whole w S v n) (hT : ∀ k, T k → S k) : Whole w T v n := by
  obtain ⟨s, rfl, hd⟩ := h
  exact ⟨s, rfl, hd.mono hT⟩
theorem sg_neg (n : Int) : wrap64 (-sg n) = sg (-n) := by
  have e : wrap64 0 = 0 ∧ wrap64 1 = 1 ∧ wrap64 (-1) = -1 := by unfold wrap64; omega
  unfold sg
  by_cases h : n = 0
  · subst h; exact e.1
  · by_cases h2 : n < 0
    · rw [if_neg h, if_pos h2, if_neg (by omega), if_neg (by omega)]; exact e.2.1
    · rw [if_neg h, if_neg h2, if_neg (by omega), if_pos (by omega)]; exact e.2.2
theorem second (W : World) (o o' : Obj) : ((W.alloc o).alloc o').heap[W.heap.size + 1]? = some o' := by
  have h := heap_alloc_new (W.alloc o) o'
  rw [show (W.alloc o).heap.size = W.heap.size + 1 from Array.size_push ..] at h
  exact h
set_option maxRecDepth 100000 in
theorem neg_walk (a : Int) (v : Value) (S : Nat → Prop) (w : World) (hv : Whole w S v a) : Calls Try.prog 61 #[v] w fun e w' => ∃ v', e = .returned v' ∧ Whole w' S v' (-a) ∧ Fr (fun _ => False) w w' := by
  obtain ⟨s, rfl, hd⟩ := hv
  obtain ⟨A, c, rfl⟩ := hd.slice
  have hH := Lib.hid hd
  have hs := sg_neg a
  clear hd
  go_enter Try.func61, Try.ntmps61
  go_wp2_with fail
  have f := ((Fr.refl (fun _ => False) w).alloc (Obj.cells #[Value.int IntKind.i64 (sg a), .slice A (dg a.natAbs).length c] 40)).alloc (Obj.cells #[Value.int IntKind.i64 (sg (-a)), .slice A (dg a.natAbs).length c] 40)
  refine bodyPost_ret (results_cell_row rfl _ _ (w.heap.size + 1) 40 #[.int .i64 (sg (-a)), .slice A (dg a.natAbs).length c] (0, 0) _ rfl (second _ _ _) Try.underlying40 rfl (by kernel_rfl)) rfl ?_
  exact ⟨_, rfl, ⟨_, rfl, by rw [Int.natAbs_neg]; exact hH.out.fr f (fun _ h => h.elim)⟩, f⟩
theorem dgs_of_R {w : World} {S : Nat → Prop} {ok : Nat → Prop} {base : Nat} {v : Value} {n : Nat} (h : Kd.R (Kd.int .i64) 3 w base ok v (dg n)) (hS : ∀ k, S k → k < base) : Dgs w S v n := by
  have ho := Kd.own_of_R h
  rcases ho.2 with ⟨rfl, h0⟩ | ⟨g, cap, cur, rfl, hb, _⟩
  · obtain ⟨h1, h2, h3⟩ := Kd.R_reads' h
    exact ⟨none, 0, by rw [← h1], h3, by omega, fun ad he => by cases he⟩
  · obtain ⟨h1, h2, h3⟩ := Kd.R_reads' h
    exact ⟨_, _, rfl, h3, h2, fun ad he hl hs => by cases he; have := hS _ hs; simp at this; omega⟩
theorem nadd_c (m n : Nat) (va vb : Value) (S : Nat → Prop) (w : World) (hS : ∀ k, S k → k < w.heap.size) (hm : (dg m).length < 900) (hn : (dg n).length < 900) (ha : Dgs w S va m) (hb : Dgs w S vb n) : Calls Try.prog 88 #[va, vb] w fun e w' => ∃ v', e = .returned v' ∧ Dgs w' S v' (m + n) ∧ Fr (fun _ => False) w w' := by
  obtain ⟨A, c, rfl, h1, h2, _⟩ := ha
  obtain ⟨A', c', rfl, h1', h2', _⟩ := hb
  refine (zelligeref03_Add.calls 4000 A c (dg m) A' c' (dg n) _ w h1 h2 h1' h2' (add_f 4000 m n (by omega) (by omega) (by omega))).mono ?_
  rintro e w' ⟨v, rfl, hR, hb⟩
  exact ⟨v, rfl, dgs_of_R hR hS, Fr.of_below hb⟩
theorem nsub_c (m n : Nat) (va vb : Value) (S : Nat → Prop) (w : World) (hS : ∀ k, S k → k < w.heap.size) (hm : (dg m).length < 900) (hle : n ≤ m) (ha : Dgs w S va m) (hb : Dgs w S vb n) : Calls Try.prog 90 #[va, vb] w fun e w' => ∃ v', e = .returned v' ∧ Dgs w' S v' (m - n) ∧ Fr (fun _ => False) w w' := by
  obtain ⟨A, c, rfl, h1, h2, _⟩ := ha
  obtain ⟨A', c', rfl, h1', h2', _⟩ := hb
  refine (zelligeref03_Sub.calls 4000 A c (dg m) A' c' (dg n) _ w h1 h2 h1' h2' (sub_f 4000 m n (by omega) hle (by omega))).mono ?_
  rintro e w' ⟨v, rfl, hR, hb⟩
  exact ⟨v, rfl, dgs_of_R hR hS, Fr.of_below hb⟩
theorem nmul_c (m n : Nat) (va vb : Value) (S : Nat → Prop) (w : World) (hS : ∀ k, S k → k < w.heap.size) (hm : (dg m).length < 900) (hn : (dg n).length < 900) (ha : Dgs w S va m) (hb : Dgs w S vb n) : Calls Try.prog 92 #[va, vb] w fun e w' => ∃ v', e = .returned v' ∧ Dgs w' S v' (m * n) ∧ Fr (fun _ => False) w w' := by
  obtain ⟨A, c, rfl, h1, h2, _⟩ := ha
  obtain ⟨A', c', rfl, h1', h2', _⟩ := hb
  refine (zelligeref03_Mul.calls 2000000 A c (dg m) A' c' (dg n) _ w h1 h2 h1' h2' (mul_f 2000000 m n (by omega) (by omega) (by omega))).mono ?_
  rintro e w' ⟨v, rfl, hR, hb⟩
  exact ⟨v, rfl, dgs_of_R hR hS, Fr.of_below hb⟩
theorem ncmp_c (m n : Nat) (va vb : Value) (S : Nat → Prop) (w : World) (hm : (dg m).length < 900) (ha : Dgs w S va m) (hb : Dgs w S vb n) : Calls Try.prog 89 #[va, vb] w fun e w' => e = .returned (.int .i64 (cmp3 m n)) ∧ Fr (fun _ => False) w w' := by
  obtain ⟨A, c, rfl, h1, h2, _⟩ := ha
  obtain ⟨A', c', rfl, h1', h2', _⟩ := hb
  refine (zelligeref03_Cmp.calls 4000 A c (dg m) A' c' (dg n) _ w h1 h2 h1' h2' (cmp_f 4000 m n (by omega) (by omega))).mono ?_
  rintro e w' ⟨rfl, nd, rfl⟩
  exact ⟨rfl, (Fr.refl _ w).drewN nd⟩
theorem dg_len_le : ∀ (k n : Nat), n < 65536 ^ k → (dg n).length ≤ k
  | 0, n, h => by
    have h' : n < 1 := h
    have : n = 0 := by omega
    rw [this, dg_zero]; simp
  | k + 1, n, h => by
    rw [dg]
    split
    · simp
    · have := dg_len_le k (n / 65536) (by rw [Nat.pow_succ] at h; omega)
      simp; exact this
theorem dg_short {n : Nat} (h : n < 13407807929942597099574024998205846127479365820592393377723561443721764030073546976801874298166903427690031858186486050853753882811946569946433649006084096) : (dg n).length < 900 := by
  have := dg_len_le 32 n (by simpa using h)
  omega
theorem long_c (n : Int) (h0 : -9223372036854775808 ≤ n) (h1 : n < 9223372036854775808) (S : Nat → Prop) (w : World) (hS : ∀ k, S k → k < w.heap.size) : Calls Try.prog 43 #[.int .i64 n] w fun e w' => ∃ v', e = .returned v' ∧ Whole w' S v' n ∧ Fr (fun _ => False) w w' := by
  refine (zelligeref04_Long.calls 10 n _ _ w (long_f 10 n h0 h1 (by omega))).mono ?_
  rintro e w' ⟨v, rfl, hR, hb⟩
  exact ⟨_, rfl, ⟨v, rfl, dgs_of_R hR hS⟩, Fr.of_below hb⟩
set_option maxRecDepth 100000 in
theorem make1_walk (a : Int) (n : Nat) (v : Value) (S : Nat → Prop) (w : World) (hd : Dgs w S v n) : Calls Try.prog 65 #[.int .i64 (sg a), v] w fun e w' => ∃ v', e = .returned v' ∧ (∀ b, b.natAbs = n → (n ≠ 0 → sg a = sg b) → Whole w' S v' b) ∧ Fr (fun _ => False) w w' := by
  obtain ⟨A, c, rfl⟩ := hd.slice
  have hH := Lib.hid hd
  clear hd
  by_cases h0 : n = 0
  · subst h0
    rw [dg_zero]
    go_enter Try.func65, Try.ntmps65
    go_wp2_with fail
    have f := (Fr.refl (fun _ => False) w).alloc (Obj.cells #[Value.int IntKind.i64 0, Value.slice none 0 0] 40)
    refine bodyPost_ret (results_cell_row rfl _ _ w.heap.size 40 #[.int .i64 0, .slice none 0 0] (0, 0) _ rfl (heap_alloc_new w _) Try.underlying40 rfl (by kernel_rfl)) rfl ?_
    refine ⟨_, rfl, fun b hb _ => ?_, f⟩
    obtain rfl : b = 0 := by omega
    exact ⟨_, rfl, none, 0, by rw [show (0 : Int).natAbs = 0 from rfl, dg_zero]; rfl, by rw [show (0 : Int).natAbs = 0 from rfl, dg_zero]; exact Kd.C_nil _ _, by rw [show (0 : Int).natAbs = 0 from rfl, dg_zero]; simp, fun _ h => by cases h⟩
  · have hl : ¬ ((dg n).length : Int) = 0 := fun h => h0 (dg_nil (by simpa using h))
    go_enter Try.func65, Try.ntmps65
    go_wp2_with fail
    have f : Fr (fun _ => False) w (w.alloc (Obj.cells #[Value.int IntKind.i64 (sg a), Value.slice A (dg n).length c] 40)) := (Fr.refl (fun _ => False) w).alloc _
    refine bodyPost_ret (results_cell_row rfl _ _ w.heap.size 40 #[.int .i64 (sg a), .slice A (dg n).length c] (0, 0) _ rfl (heap_alloc_new w _) Try.underlying40 rfl (by kernel_rfl)) rfl ?_
    refine ⟨_, rfl, fun b hb hs => ?_, f⟩
    exact ⟨_, by rw [hs h0], by rw [hb]; exact hH.out.fr f (fun _ h => h.elim)⟩
theorem tri (w : World) (o1 o2 o3 : Obj) : (((w.alloc o1).alloc o2).alloc o3).heap[w.heap.size]? = some o1 ∧ (((w.alloc o1).alloc o2).alloc o3).heap[w.heap.size + 1]? = some o2 ∧ (((w.alloc o1).alloc o2).alloc o3).heap[w.heap.size + 1 + 1]? = some o3 ∧ Fr (fun _ => False) w (((w.alloc o1).alloc o2).alloc o3) := by
  have h1 := heap_alloc_new w o1
  have h2 := second w o1 o2
  have h3 := second (w.alloc o1) o2 o3
  rw [show (w.alloc o1).heap.size = w.heap.size + 1 from Array.size_push ..] at h3
  exact ⟨ZFr.blk_alloc (ZFr.blk_alloc h1 _) _, ZFr.blk_alloc h2 _, h3, (((Fr.refl _ w).alloc _).alloc _).alloc _⟩
theorem sg0 {n : Int} (h : sg n = 0) : n = 0 := by unfold sg at h; split at h; assumption; split at h <;> omega
theorem whole_cells {w : World} {b : Nat} {s : Int} {v : Value} (h : w.heap[b]? = some (.cells #[.int .i64 s, v] 40 (0, 0))) : w.cell? ⟨b, 0, none⟩ = some (.int .i64 s) ∧ w.cell? ⟨b, 1, none⟩ = some v := ⟨ZFr.blk_cell h 0, ZFr.blk_cell h 1⟩
theorem cell_far {w : World} {p q : Addr} {u v : Value} (h : w.cell? q = some v) (hb : q.block ≠ p.block) : (w.setCell p u).cell? q = some v := by
  have := Below.heap_setCell w p u q.block hb
  unfold World.cell? at *
  rw [this]; exact h
theorem whole_store {w : World} {b : Nat} {s : Int} {v : Value} (h : w.heap[b]? = some (.cells #[.int .i64 s, v] 40 (0, 0))) : w.cell? ⟨b, 0, none⟩ = some (.int .i64 s) ∧ w.cell? ⟨b, 1, none⟩ = some v ∧ w.frozen? ⟨b, 0, none⟩ = false ∧ w.frozen? ⟨b, 1, none⟩ = false := ⟨ZFr.blk_cell h 0, ZFr.blk_cell h 1, ZFr.blk_free h 0, ZFr.blk_free h 1⟩
set_option maxRecDepth 100000 in
set_option maxHeartbeats 4000000 in
theorem add_same (a b : Int) (va vb : Value) (S : Nat → Prop) (w : World) (hd : sg a = 0 ∨ sg b = 0 ∨ sg a = sg b) (hS : ∀ k, S k → k < w.heap.size) (ha : Whole w S va a) (hb : Whole w S vb b) (la : (dg a.natAbs).length < 900) (lb : (dg b.natAbs).length < 900) : Calls Try.prog 60 #[va, vb] w fun e w' => ∃ v', e = .returned v' ∧ Whole w' S v' (a + b) ∧ Fr (fun _ => False) w w' := by
  obtain ⟨sa, rfl, hda⟩ := ha
  obtain ⟨A, c, rfl⟩ := hda.slice
  obtain ⟨sb, rfl, hdb⟩ := hb
  obtain ⟨A', c', rfl⟩ := hdb.slice
  have hA := Lib.hid hda
  have hB := Lib.hid hdb
  clear hda hdb
  by_cases h0 : sg a = 0
  · rw [show a + b = b from by have := sg0 h0; omega]
    have hs := h0
    generalize sg a = s at hs
    subst hs
    go_enter Try.func60, Try.ntmps60
    go_wp2_with fail
    obtain ⟨_, _, h3, f⟩ := tri w (Obj.cells #[Value.int IntKind.i64 0, Value.slice A (dg a.natAbs).length c] 40) (Obj.cells #[Value.int IntKind.i64 (sg b), Value.slice A' (dg b.natAbs).length c'] 40) (Obj.cells #[Value.int IntKind.i64 (sg b), Value.slice A' (dg b.natAbs).length c'] 40)
    refine bodyPost_ret (results_cell_row rfl _ _ (w.heap.size + 1 + 1) 40 #[.int .i64 (sg b), .slice A' (dg b.natAbs).length c'] (0, 0) _ rfl h3 Try.underlying40 rfl (by kernel_rfl)) rfl ?_
    exact ⟨_, rfl, ⟨_, rfl, hB.out.fr f (fun _ h => h.elim)⟩, f⟩
  · by_cases h1 : sg b = 0
    · rw [show a + b = a from by have := sg0 h1; omega]
      have hs := h1
      generalize sg b = s at hs
      subst hs
      go_enter Try.func60, Try.ntmps60
      go_wp2_with fail
      obtain ⟨_, _, h3, f⟩ := tri w (Obj.cells #[Value.int IntKind.i64 (sg a), Value.slice A (dg a.natAbs).length c] 40) (Obj.cells #[Value.int IntKind.i64 0, Value.slice A' (dg b.natAbs).length c'] 40) (Obj.cells #[Value.int IntKind.i64 (sg a), Value.slice A (dg a.natAbs).length c] 40)
      refine bodyPost_ret (results_cell_row rfl _ _ (w.heap.size + 1 + 1) 40 #[.int .i64 (sg a), .slice A (dg a.natAbs).length c] (0, 0) _ rfl h3 Try.underlying40 rfl (by kernel_rfl)) rfl ?_
      exact ⟨_, rfl, ⟨_, rfl, hA.out.fr f (fun _ h => h.elim)⟩, f⟩
    · by_cases h2 : sg a = sg b
      · have hs : sg (a + b) = sg b ∧ (a + b).natAbs = a.natAbs + b.natAbs := by
          revert h0 h1 h2
          unfold sg
          repeat' split
          all_goals (intros; first | omega | (constructor <;> omega))
        have h1' := h1
        revert hs
        generalize sg a = s at h2
        subst h2
        intro hs
        obtain ⟨t1, t2, t3, f⟩ := tri w (Obj.cells #[Value.int IntKind.i64 (sg b), Value.slice A (dg a.natAbs).length c] 40) (Obj.cells #[Value.int IntKind.i64 (sg b), Value.slice A' (dg b.natAbs).length c'] 40) (Obj.cells #[Value.int IntKind.i64 0, Value.slice none 0 0] 40)
        go_enter Try.func60, Try.ntmps60
        go_wp2_with fail
        generalize ((w.alloc (Obj.cells #[Value.int IntKind.i64 (sg b), Value.slice A (dg a.natAbs).length c] 40)).alloc (Obj.cells #[Value.int IntKind.i64 (sg b), Value.slice A' (dg b.natAbs).length c'] 40)).alloc (Obj.cells #[Value.int IntKind.i64 0, Value.slice none 0 0] 40) = w3 at *
        obtain ⟨c0, c1⟩ := whole_cells (w := w3.drew) t1
        obtain ⟨c2, c3⟩ := whole_cells (w := w3.drew) t2
        have F := Lib.hid f
        have T1 := Lib.hid t1
        have T2 := Lib.hid t2
        have T3 := Lib.hid t3
        clear t1 t2 t3 f
        go_region_held3 (fun w' => w'.cell? ⟨w.heap.size, 0, none⟩ = some (.int .i64 (sg b)) ∧ w'.cell? ⟨w.heap.size, 1, none⟩ = some (Value.slice A (dg a.natAbs).length c) ∧ w'.cell? ⟨w.heap.size + 1, 0, none⟩ = some (.int .i64 (sg b)) ∧ w'.cell? ⟨w.heap.size + 1, 1, none⟩ = some (Value.slice A' (dg b.natAbs).length c'))
          (exact ⟨by first | assumption | exact cell_far (by assumption) (by dsimp only; omega) | exact cell_far (cell_far (by assumption) (by dsimp only; omega)) (by dsimp only; omega), by first | assumption | exact cell_far (by assumption) (by dsimp only; omega) | exact cell_far (cell_far (by assumption) (by dsimp only; omega)) (by dsimp only; omega), by first | assumption | exact cell_far (by assumption) (by dsimp only; omega) | exact cell_far (cell_far (by assumption) (by dsimp only; omega)) (by dsimp only; omega), by first | assumption | exact cell_far (by assumption) (by dsimp only; omega) | exact cell_far (cell_far (by assumption) (by dsimp only; omega)) (by dsimp only; omega)⟩)
          ((go_at_call 88; refine (nadd_c a.natAbs b.natAbs _ _ (Up S w w3.drew) _ (Up.lt hS F.out.drew.size) la lb (hA.out.up F.out.drew) (hB.out.up F.out.drew)).mono ?_; rintro e w4 ⟨v4, rfl, h4, f4⟩; obtain ⟨A4, c4, rfl⟩ := h4.slice; obtain ⟨d0, d1⟩ := whole_cells (ZFr.blk_fr (w := w3.drew) T1.out f4 (fun h => h)); obtain ⟨d2, d3⟩ := whole_cells (ZFr.blk_fr (w := w3.drew) T2.out f4 (fun h => h)); obtain ⟨d4, d5, d6, d7⟩ := whole_store (ZFr.blk_fr (w := w3.drew) T3.out f4 (fun h => h)); have T4 := Lib.hid (ZFr.blk_fr (w := w3.drew) T3.out f4 (fun h => h)); have H4 := Lib.hid h4; have F4 := Lib.hid f4; clear h4 f4))
        all_goals
          go_wp2_with fail
          have f5 := (((F.out.drew.trans F4.out (fun _ h _ => h)).set ⟨w.heap.size + 1 + 1, 0, none⟩ (.int .i64 (sg b)) (.inr (by dsimp only; omega))).set ⟨w.heap.size + 1 + 1, 1, none⟩ (Value.slice A4 (dg (a.natAbs + b.natAbs)).length c4) (.inr (by dsimp only; omega)))
          refine bodyPost_ret (results_cell_row rfl _ _ (w.heap.size + 1 + 1) 40 #[.int .i64 (sg b), .slice A4 (dg (a.natAbs + b.natAbs)).length c4] (0, 0) _ rfl (ZFr.blk_set (ZFr.blk_set T4.out 0 _) 1 _) Try.underlying40 rfl (by kernel_rfl)) rfl ?_
          refine ⟨_, rfl, ⟨_, by rw [hs.1], ?_⟩, f5⟩
          rw [hs.2]
          have hup : Up S w w3.drew (w.heap.size + 1 + 1) := .inr ⟨by omega, ZFr.blk_lt (w := w3.drew) T3.out⟩
          exact (H4.out.fr (((Fr.refl (Up S w w3.drew) w4).set ⟨w.heap.size + 1 + 1, 0, none⟩ _ (.inl hup)).set ⟨w.heap.size + 1 + 1, 1, none⟩ _ (.inl hup)) (fun _ h => h)).mono (fun _ h => .inl h)
      · exact absurd hd (by rintro (h | h | h); exact h0 h; exact h1 h; exact h2 h)
end Go.Proofs.Ytngmkjgklonfmaa.Big
