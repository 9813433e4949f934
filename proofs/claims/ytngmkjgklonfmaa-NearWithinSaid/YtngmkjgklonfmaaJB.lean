/- Joined texts. -/
import Derived.Test.YtngmkjgklonfmaaJA
import Derived.Deep.RegionLaw
import Derived.Test.YtngmkjgklonfmaaBigP1
import Derived.Test.YtngmkjgklonfmaaProg
import Derived.Test.YtngmkjgklonfmaaZFr
import Derived.Laws.Externs
import Derived.Shelf.Spec.BitsCarry
import Derived.RowKit
import Derived.RowKit3
import Derived.WideLaws
import Derived.WalkLawsBesides
import Derived.WalkSpells
import Derived.Lib.Hide
import Derived.Outline
import Derived.WalkKit
/- The document's numbers of 256 bits: digits and words. -/
namespace Go.Proofs.Ytngmkjgklonfmaa.Big
open Go.RowKit Go.Proofs.ZFr Go.Proofs.Ytngmkjgklonfmaa.PNearNearest Go.Proofs.YtngmkjgklonfmaaW.PrintWords

def v8 : List Int → Int
  | [] => 0
  | d :: l => d + 256 * v8 l
def Byt (l : List Int) : Prop := ∀ d ∈ l, 0 ≤ d ∧ d < 256
def encU (qs : List Int) : Array Value := (qs.map (Value.int .u64)).toArray
theorem encU_set (qs : List Int) (j : Nat) (v : Int) : (encU qs).setIfInBounds j (.int .u64 v) = encU (qs.set j v) := by
  unfold encU
  rw [List.map_set, List.setIfInBounds_toArray]
theorem encU_get (qs : List Int) (j : Nat) (h : j < qs.length) : (encU qs)[j]? = some (.int .u64 (qs.getD j 0)) := by
  unfold encU
  simp [List.getElem?_eq_getElem h, List.getD]
/-- The words of digits from the place m on. -/
def wd (L : List Int) (m j : Nat) : Int := v8 ((L.drop (max m (8 * j))).take (8 * j + 8 - max m (8 * j)))
def wds (L : List Int) (m : Nat) : List Int := [wd L m 0, wd L m 1, wd L m 2, wd L m 3]
theorem wds_get (L : List Int) (m j : Nat) (h : j < 4) : (wds L m).getD j 0 = wd L m j := by
  match j, h with
  | 0, _ => rfl
  | 1, _ => rfl
  | 2, _ => rfl
  | 3, _ => rfl
theorem wd_step (L : List Int) (m : Nat) (hm : m < L.length) : wd L m (m / 8) = L.getD m 0 + 256 * wd L (m + 1) (m / 8) := by
  unfold wd
  rw [show max m (8 * (m / 8)) = m from by omega, show max (m + 1) (8 * (m / 8)) = m + 1 from by omega, List.drop_eq_getElem_cons hm, show 8 * (m / 8) + 8 - m = (8 * (m / 8) + 8 - (m + 1)) + 1 from by omega, List.take_succ_cons, v8, getD_get hm]
theorem wd_other (L : List Int) (m j : Nat) (hj : j ≠ m / 8) : wd L m j = wd L (m + 1) j := by
  unfold wd
  by_cases h : j < m / 8
  · rw [show 8 * j + 8 - max m (8 * j) = 0 from by omega, show 8 * j + 8 - max (m + 1) (8 * j) = 0 from by omega]; rfl
  · rw [show max m (8 * j) = 8 * j from by omega, show max (m + 1) (8 * j) = 8 * j from by omega]
theorem wds_set (L : List Int) (m : Nat) (hm : m < 32) (hl : L.length = 32) : (wds L (m + 1)).set (m / 8) (L.getD m 0 + 256 * wd L (m + 1) (m / 8)) = wds L m := by
  rw [← wd_step L m (by omega)]
  apply List.ext_getElem?
  intro j
  have hlen : (wds L (m + 1)).length = 4 := rfl
  have hlen2 : (wds L m).length = 4 := rfl
  by_cases hj : j < 4
  · by_cases hjm : m / 8 = j
    · subst hjm
      rw [List.getElem?_set_self (by omega), List.getElem?_eq_getElem (by omega)]
      have := wds_get L m (m / 8) hj
      rw [getD_get (by omega)] at this
      rw [this]
    · rw [List.getElem?_set_ne hjm, List.getElem?_eq_getElem (by omega), List.getElem?_eq_getElem (by omega)]
      have h1 := wds_get L m j hj
      have h2 := wds_get L (m + 1) j hj
      rw [getD_get (by omega)] at h1 h2
      rw [h1, h2, wd_other L m j (fun h => hjm h.symm)]
  · rw [List.getElem?_eq_none (by simp; omega), List.getElem?_eq_none (by omega)]
theorem v8_bound : ∀ {l : List Int}, Byt l → 0 ≤ v8 l ∧ v8 l < 256 ^ l.length
  | [], _ => by simp [v8]
  | d :: l, h => by
    have h1 := v8_bound (l := l) (fun x hx => h x (List.mem_cons_of_mem _ hx))
    have h2 := h d (List.mem_cons_self ..)
    simp only [v8, List.length_cons, Int.pow_succ]
    omega
theorem wd_bound {L : List Int} (hb : Byt L) (m j : Nat) (hm : 8 * j < m) : 0 ≤ wd L m j ∧ wd L m j < 72057594037927936 := by
  unfold wd
  have h1 := v8_bound (l := (L.drop (max m (8 * j))).take (8 * j + 8 - max m (8 * j))) (fun x hx => hb x (List.mem_of_mem_drop (List.mem_of_mem_take hx)))
  refine ⟨h1.1, Int.lt_of_lt_of_le h1.2 ?_⟩
  have hl : ((L.drop (max m (8 * j))).take (8 * j + 8 - max m (8 * j))).length ≤ 7 := by rw [List.length_take]; omega
  have h3 : (256 : Nat) ^ ((L.drop (max m (8 * j))).take (8 * j + 8 - max m (8 * j))).length ≤ 256 ^ 7 := Nat.pow_le_pow_right (by decide) hl
  have e : ((256 ^ ((L.drop (max m (8 * j))).take (8 * j + 8 - max m (8 * j))).length : Nat) : Int) = 256 ^ ((L.drop (max m (8 * j))).take (8 * j + 8 - max m (8 * j))).length := by rw [Int.natCast_pow]; rfl
  have e2 : (256 : Nat) ^ 7 = 72057594037927936 := by decide
  omega
theorem byt_get {L : List Int} (hb : Byt L) (m : Nat) : 0 ≤ L.getD m 0 ∧ L.getD m 0 < 256 := by
  by_cases h : m < L.length
  · rw [getD_get h]; exact hb _ (List.getElem_mem h)
  · rw [getD_none (by omega)]; omega
/-- A slice of whole numbers that is read. -/
def Rdx (w : World) (v : Value) (L : List Int) : Prop := ∃ A c, v = .slice A L.length c ∧ Kd.C (Kd.int .i64) w A L.length L ∧ L.length ≤ c
theorem Rdx.cell {w : World} {A : Option Addr} {l c i : Nat} {L : List Int} (h : Rdx w (.slice A l c) L) (hi : i < l) : ∃ ad, A = some ad ∧ w.cell? (ad.add i) = some (.int .i64 (L.getD i 0)) := by
  obtain ⟨A', c', he, hC, hc⟩ := h
  cases he
  obtain ⟨ad, cs, rfl, hl, hK, hx⟩ := Kd.C_get hC 0 (i : Int) (by omega) (by omega)
  refine ⟨ad, rfl, ?_⟩
  have hk : cs = [.int .i64 (L.getD ((i : Int).toNat) 0)] := hK
  subst hk
  have h1 := hx 0 _ rfl
  rw [show (i : Int).toNat * (Kd.int .i64).sz + 0 = i from Nat.mul_one _] at h1
  exact h1
theorem Rdx.fr {w w' : World} {v : Value} {L : List Int} (h : Rdx w v L) (hf : Fr (fun _ => False) w w') : Rdx w' v L := by
  obtain ⟨A, c, rfl, hC, hc⟩ := h
  exact ⟨A, c, rfl, Kd.C_below hC (hf.below _ (Nat.le_refl _) (fun _ h => h.elim)), hc⟩
set_option maxRecDepth 100000 in
set_option maxHeartbeats 4000000 in
theorem quad2_walk (L : List Int) (v : Value) (w : World) (hl : L.length = 32) (hb : Byt L) (hv : Rdx w v L) : Calls Try.prog 36 #[v] w fun e w' => e = .returned (.agg (encU (wds L 0))) ∧ Fr (fun _ => False) w w' := by
  obtain ⟨A, c, rfl, hC, hc⟩ := hv
  have HV := Lib.hid (show Rdx w (.slice A L.length c) L from ⟨A, c, rfl, hC, hc⟩)
  clear hC hc
  rw [hl] at HV
  rw [hl]
  have HB := Lib.hid hb
  have HL := Lib.hid hl
  clear hb hl
  have t2 := second w (Obj.cells #[Value.int IntKind.u64 0, Value.int IntKind.u64 0, Value.int IntKind.u64 0, Value.int IntKind.u64 0] 79) (Obj.cells #[Value.int IntKind.u64 0, Value.int IntKind.u64 0, Value.int IntKind.u64 0, Value.int IntKind.u64 0] 79)
  have f2 := ((Fr.refl (fun _ => False) w).alloc (Obj.cells #[Value.int IntKind.u64 0, Value.int IntKind.u64 0, Value.int IntKind.u64 0, Value.int IntKind.u64 0] 79)).alloc (Obj.cells #[Value.int IntKind.u64 0, Value.int IntKind.u64 0, Value.int IntKind.u64 0, Value.int IntKind.u64 0] 79)
  have t1 := ZFr.blk_alloc (heap_alloc_new w (Obj.cells #[Value.int IntKind.u64 0, Value.int IntKind.u64 0, Value.int IntKind.u64 0, Value.int IntKind.u64 0] 79)) (Obj.cells #[Value.int IntKind.u64 0, Value.int IntKind.u64 0, Value.int IntKind.u64 0, Value.int IntKind.u64 0] 79)
  have T1 := Lib.hid t1
  clear t1
  have T2 := Lib.hid t2
  have F2 := Lib.hid f2
  clear t2 f2
  go_enter Try.func36, Try.ntmps36
  go_wp2_with fail
  generalize (w.alloc (Obj.cells #[Value.int IntKind.u64 0, Value.int IntKind.u64 0, Value.int IntKind.u64 0, Value.int IntKind.u64 0] 79)).alloc (Obj.cells #[Value.int IntKind.u64 0, Value.int IntKind.u64 0, Value.int IntKind.u64 0, Value.int IntKind.u64 0] 79) = w2 at T1 T2 F2 ⊢
  go_loopw [4] (fun i wr => ∃ m : Nat, m ≤ 32 ∧ i = .int .i64 ((m : Int) - 1) ∧ wr.heap[w.heap.size + 1]? = some (.cells (encU (wds L m)) 79 (0, 0)) ∧ wr.heap[w.heap.size]? = some (Obj.cells #[Value.int IntKind.u64 0, Value.int IntKind.u64 0, Value.int IntKind.u64 0, Value.int IntKind.u64 0] 79) ∧ Fr (fun _ => False) w wr) (fun i _ => (intOf i + 1).toNat)
  case atStart => exact ⟨32, Nat.le_refl _, rfl, T2.out, T1.out, F2.out⟩
  case round =>
    obtain ⟨m, hm, rfl, hg, hz, hf⟩ := hrel
    have HZ := Lib.hid hz
    clear hz
    have HG := Lib.hid hg
    have HF := Lib.hid hf
    clear hg hf
    cases m with
    | zero =>
      have g0 : wr.cell? ⟨w.heap.size + 1, 0, none⟩ = some (.int .u64 (wd L 0 0)) := ZFr.blk_cell HG.out 0
      have g1 : wr.cell? ⟨w.heap.size + 1, 1, none⟩ = some (.int .u64 (wd L 0 1)) := ZFr.blk_cell HG.out 1
      have g2 : wr.cell? ⟨w.heap.size + 1, 2, none⟩ = some (.int .u64 (wd L 0 2)) := ZFr.blk_cell HG.out 2
      have g3 : wr.cell? ⟨w.heap.size + 1, 3, none⟩ = some (.int .u64 (wd L 0 3)) := ZFr.blk_cell HG.out 3
      have z0 : wr.cell? ⟨w.heap.size, 0, none⟩ = some (.int .u64 0) := ZFr.blk_cell HZ.out 0
      have zf0 := ZFr.blk_free HZ.out 0
      have z1 : wr.cell? ⟨w.heap.size, 1, none⟩ = some (.int .u64 0) := ZFr.blk_cell HZ.out 1
      have zf1 := ZFr.blk_free HZ.out 1
      have z2 : wr.cell? ⟨w.heap.size, 2, none⟩ = some (.int .u64 0) := ZFr.blk_cell HZ.out 2
      have zf2 := ZFr.blk_free HZ.out 2
      have z3 : wr.cell? ⟨w.heap.size, 3, none⟩ = some (.int .u64 0) := ZFr.blk_cell HZ.out 3
      have zf3 := ZFr.blk_free HZ.out 3
      go_wp2_with fail
      refine bodyPost_ret (results_cell_row rfl _ _ w.heap.size 79 (encU (wds L 0)) (0, 0) _ rfl (ZFr.blk_set (ZFr.blk_set (ZFr.blk_set (ZFr.blk_set HZ.out 0 (.int .u64 (wd L 0 0))) 1 (.int .u64 (wd L 0 1))) 2 (.int .u64 (wd L 0 2))) 3 (.int .u64 (wd L 0 3))) Try.underlying79 rfl (by kernel_rfl)) rfl ?_
      exact ⟨rfl, (((HF.out.set _ _ (.inr (Nat.le_refl _))).set _ _ (.inr (Nat.le_refl _))).set _ _ (.inr (Nat.le_refl _))).set _ _ (.inr (Nat.le_refl _))⟩
    | succ m =>
      rw [show ((m + 1 : Nat) : Int) - 1 = (m : Int) from by omega]
      have hq1 : Int.tdiv (m : Int) 8 = ((m / 8 : Nat) : Int) := by rw [Int.tdiv_eq_ediv_of_nonneg (by omega)]; omega
      obtain ⟨j, hj, hj4⟩ : ∃ j, m / 8 = j ∧ j < 4 := ⟨_, rfl, by omega⟩
      rw [hj] at hq1
      have hset := wds_set L m (by omega) HL.out
      have hwb := wd_bound HB.out (m + 1) (m / 8) (by omega)
      have hbb := byt_get HB.out m
      obtain ⟨ad, rfl, hc⟩ := Rdx.cell (i := m) (HV.out.fr HF.out) (by omega)
      have hcg := (ZFr.blk_cell HG.out j).trans (encU_get _ j hj4)
      have hcf := ZFr.blk_free HG.out j
      rw [wds_get L (m + 1) j hj4] at hcg
      rw [hj] at hset hwb
      generalize wd L (m + 1) j = o at hcg hset hwb
      generalize L.getD m 0 = d at hc hbb hset
      have e1 : IntKind.u64.wrap (o * 256) = o * 256 := by rw [show IntKind.u64.wrap (o * 256) = (o * 256) % 18446744073709551616 from rfl]; omega
      have e2 : IntKind.u64.wrap d = d := by rw [show IntKind.u64.wrap d = d % 18446744073709551616 from rfl]; omega
      have e3 : IntKind.u64.wrap (o * 256 + d) = d + 256 * o := by rw [show IntKind.u64.wrap (o * 256 + d) = (o * 256 + d) % 18446744073709551616 from rfl]; omega
      have e4 : IntKind.i64.wrap (j : Int) = j := by rw [Go.Proofs.YtngmkjgklonfmaaW.PrintLast.i64_w, w64 (by omega) (by omega)]
      have hm2 : (m : Int) < 32 := by omega
      have hj42 : (j : Int) < 4 := by omega
      have HSET := Lib.hid hset
      clear hset hwb hbb hj
      have c1 : wr.drew.cell? (ad.add m) = some (.int .i64 d) := hc
      have c2 : wr.drew.cell? ⟨w.heap.size + 1, j, none⟩ = some (.int .u64 o) := hcg
      have c3 : wr.drew.frozen? ⟨w.heap.size + 1, j, none⟩ = false := hcf
      clear hc hcg hcf
      go_wp2_with fail
      go_region_law (fail)
      all_goals
        go_wp2_with fail
        go_roundw
        case rel => exact ⟨m, by omega, rfl, by rw [← HSET.out, ← encU_set]; exact ZFr.blk_set HG.out j _, ZFr.blk_set_other HZ.out _ _ (by dsimp only; omega), (HF.out.set ⟨w.heap.size + 1, j, none⟩ (.int .u64 (d + 256 * o)) (.inr (by dsimp only; omega))).drew⟩
        case measure => simp [intOf]
end Go.Proofs.Ytngmkjgklonfmaa.Big

/- The document's numbers of 256 bits: words back to digits. -/
namespace Go.Proofs.Ytngmkjgklonfmaa.Big
open Go.RowKit Go.Proofs.ZFr Go.Proofs.Ytngmkjgklonfmaa.PNearNearest Go.Proofs.YtngmkjgklonfmaaW.PrintWords

def byteAt (os : List Int) (i : Nat) : Int := os.getD (i / 8) 0 / 2 ^ (8 * (i % 8)) % 256
def bys (os : List Int) (m : Nat) : List Int := (List.range 32).map (fun k => if k < m then byteAt os k else 0)
theorem bys_len (os : List Int) (m : Nat) : (bys os m).length = 32 := by simp [bys]
theorem bys_set (os : List Int) (m : Nat) : (bys os m).set m (byteAt os m) = bys os (m + 1) := by
  apply List.ext_getElem?
  intro j
  by_cases hj : j < 32
  · by_cases hjm : m = j
    · subst hjm
      rw [List.getElem?_set_self (by rw [bys_len]; omega), List.getElem?_eq_getElem (by rw [bys_len]; omega)]
      simp [bys]
    · rw [List.getElem?_set_ne hjm, List.getElem?_eq_getElem (by rw [bys_len]; omega), List.getElem?_eq_getElem (by rw [bys_len]; omega)]
      simp only [bys, List.getElem_map, List.getElem_range]
      congr 1
      by_cases h : j < m
      · rw [if_pos h, if_pos (by omega)]
      · rw [if_neg h, if_neg (by omega)]
  · rw [List.getElem?_eq_none (by simp [bys]; omega), List.getElem?_eq_none (by simp [bys]; omega)]
theorem bys_zero (os : List Int) : bys os 0 = List.replicate 32 0 := by
  apply List.ext_getElem
  · rw [bys_len, List.length_replicate]
  · intro i h1 h2
    rw [List.getElem_replicate]
    simp only [bys, List.getElem_map, List.getElem_range]
    rw [if_neg (by omega)]
theorem and255 (x : Int) (h0 : 0 ≤ x) (h1 : x < 18446744073709551616) : wrap64 (Go.bits .and .u64 x 255) = x % 256 := by
  have e : Go.bits .and .u64 x 255 = x % 256 := bits_mask .u64 64 (by decide) (fun n a b => by show n % 18446744073709551616 = n; exact Int.emod_eq_of_lt a (by simpa using b)) 8 (by decide) x h0 (by simpa using h1)
  rw [e, w64 (n := x % 256) (by omega) (by omega)]
theorem div_le_of {a : Int} (h0 : 0 ≤ a) (h1 : a < 18446744073709551616) (t : Nat) : 0 ≤ a / 2 ^ t ∧ a / 2 ^ t < 18446744073709551616 := by
  have hp : (0 : Int) < 2 ^ t := Int.pow_pos (by omega)
  exact ⟨Int.ediv_nonneg h0 (Int.le_of_lt hp), Int.lt_of_le_of_lt (Int.ediv_le_self _ h0) h1⟩
set_option maxRecDepth 100000 in
set_option maxHeartbeats 4000000 in
theorem of2_walk (os : List Int) (w : World) (hl : os.length = 4) (hb : ∀ d ∈ os, 0 ≤ d ∧ d < 18446744073709551616) : Calls Try.prog 62 #[.agg (encU os)] w fun e w' => ∃ v, e = .returned v ∧ Rdx w' v (bys os 32) ∧ Fr (fun _ => False) w w' := by
  obtain ⟨o0, o1, o2, o3, rfl⟩ : ∃ a b c d, os = [a, b, c, d] := by
    match os, hl with
    | [a, b, c, d], _ => exact ⟨a, b, c, d, rfl⟩
  obtain ⟨Z, hZ⟩ : ∃ Z, encI (List.replicate 32 0) = Z := ⟨_, rfl⟩
  have hZ2 : Z = encI (bys [o0, o1, o2, o3] 0) := by rw [← hZ, bys_zero]
  have hmk : ∀ W, (Instr.makeSlice 37 (.int .i64 32) (.int .i64 32)).run Try.prog W = .ok (.slice (some ⟨W.heap.size, 0, none⟩) 32 32) (W.alloc (.cells Z 3)) := fun W => by rw [← hZ]; exact make_ints 32 (by decide) W
  clear hZ
  have HB := Lib.hid hb
  clear hb hl
  show Calls Try.prog 62 #[.agg #[.int .u64 o0, .int .u64 o1, .int .u64 o2, .int .u64 o3]] w _
  go_enter Try.func62, Try.ntmps62
  go_wp2_with fail
  clear hmk
  subst hZ2
  have t1 := ZFr.blk_alloc (heap_alloc_new w (Obj.cells #[Value.int IntKind.u64 o0, Value.int IntKind.u64 o1, Value.int IntKind.u64 o2, Value.int IntKind.u64 o3] 79)) (Obj.cells (encI (bys [o0, o1, o2, o3] 0)) 3)
  have t2 := second w (Obj.cells #[Value.int IntKind.u64 o0, Value.int IntKind.u64 o1, Value.int IntKind.u64 o2, Value.int IntKind.u64 o3] 79) (Obj.cells (encI (bys [o0, o1, o2, o3] 0)) 3)
  have f2 := ((Fr.refl (fun _ => False) w).alloc (Obj.cells #[Value.int IntKind.u64 o0, Value.int IntKind.u64 o1, Value.int IntKind.u64 o2, Value.int IntKind.u64 o3] 79)).alloc (Obj.cells (encI (bys [o0, o1, o2, o3] 0)) 3)
  have T1 := Lib.hid t1
  have T2 := Lib.hid t2
  have F2 := Lib.hid f2
  clear t1 t2 f2
  generalize (w.alloc (Obj.cells #[Value.int IntKind.u64 o0, Value.int IntKind.u64 o1, Value.int IntKind.u64 o2, Value.int IntKind.u64 o3] 79)).alloc (Obj.cells (encI (bys [o0, o1, o2, o3] 0)) 3) = w2 at T1 T2 F2 ⊢
  go_loopw [4] (fun i wr => ∃ m : Nat, m ≤ 32 ∧ i = .int .i64 (m : Int) ∧ wr.heap[w.heap.size + 1]? = some (.cells (encI (bys [o0, o1, o2, o3] m)) 3 (0, 0)) ∧ wr.heap[w.heap.size]? = some (.cells (encU [o0, o1, o2, o3]) 79 (0, 0)) ∧ Fr (fun _ => False) w wr) (fun i _ => (32 - intOf i).toNat)
  case atStart => exact ⟨0, Nat.zero_le _, rfl, T2.out, T1.out, F2.out⟩
  case round =>
    obtain ⟨m, hm, rfl, hg, hz, hf⟩ := hrel
    have HG := Lib.hid hg
    have HZ := Lib.hid hz
    have HF := Lib.hid hf
    clear hg hf hz
    by_cases hlt : m < 32
    · have hq1 : Int.tdiv (m : Int) 8 = ((m / 8 : Nat) : Int) := by rw [Int.tdiv_eq_ediv_of_nonneg (by omega)]; omega
      have hr1 : Int.tmod (m : Int) 8 = ((m % 8 : Nat) : Int) := by rw [Int.tmod_eq_emod_of_nonneg (by omega)]; omega
      obtain ⟨j, hj, hj4⟩ : ∃ j, m / 8 = j ∧ j < 4 := ⟨_, rfl, by omega⟩
      obtain ⟨r, hr, hr8⟩ : ∃ r, m % 8 = r ∧ r < 8 := ⟨_, rfl, by omega⟩
      rw [hj] at hq1
      rw [hr] at hr1
      have hset := bys_set [o0, o1, o2, o3] m
      have hby : byteAt [o0, o1, o2, o3] m = [o0, o1, o2, o3].getD j 0 / 2 ^ (8 * r) % 256 := by unfold byteAt; rw [hj, hr]
      rw [hby] at hset
      have hc := (ZFr.blk_cell HZ.out j).trans (encU_get [o0, o1, o2, o3] j hj4)
      have hob : 0 ≤ [o0, o1, o2, o3].getD j 0 ∧ [o0, o1, o2, o3].getD j 0 < 18446744073709551616 := by
        rw [getD_get hj4]; exact HB.out _ (List.getElem_mem hj4)
      generalize [o0, o1, o2, o3].getD j 0 = a at hc hset hob
      obtain ⟨z1, z2⟩ := qs_cell (j := m) HG.out (by rw [bys_len]; omega)
      have e1 : IntKind.i64.wrap (8 * (r : Int)) = ((8 * r : Nat) : Int) := by rw [Go.Proofs.YtngmkjgklonfmaaW.PrintLast.i64_w, w64 (n := 8 * (r : Int)) (by omega) (by omega)]; omega
      have e4 : IntKind.i64.wrap (j : Int) = j := by rw [Go.Proofs.YtngmkjgklonfmaaW.PrintLast.i64_w, w64 (by omega) (by omega)]
      have hm2 : (m : Int) < 32 := by omega
      have hj42 : (j : Int) < 4 := by omega
      have HSET := Lib.hid hset
      clear hset hby hj hr
      have hand := and255 (a / 2 ^ (8 * r)) (div_le_of hob.1 hob.2 _).1 (div_le_of hob.1 hob.2 _).2
      have HAND := Lib.hid hand
      clear hand
      go_wp2_with fail
      rw [HAND.out]
      go_roundw
      case rel => exact ⟨m + 1, by omega, rfl, by rw [← HSET.out, ← encI_set]; exact ZFr.blk_set HG.out m _, ZFr.blk_set_other HZ.out _ _ (by dsimp only; omega), HF.out.set _ _ (.inr (by dsimp only; omega))⟩
      case measure => simp [intOf]; omega
    · obtain rfl : m = 32 := by omega
      go_wp2_with fail
      go_ret
      have ho := own_blk (base := 0) HG.out (Nat.zero_le _) (by rw [bys_len]; decide)
      have hR := Kd.R_of_own (ok := fun _ => True) (h1 := fun _ => rfl) ho (fun _ _ => trivial)
      obtain ⟨q1, q2, q3⟩ := Kd.R_reads' hR
      refine ⟨_, rfl, ⟨_, _, rfl, q3, ?_⟩, HF.out⟩
      rw [bys_len]; decide
end Go.Proofs.Ytngmkjgklonfmaa.Big

/- The document's numbers of 256 bits as whole numbers. -/
namespace Go.Proofs.Ytngmkjgklonfmaa.Big
open Go.RowKit Go.Proofs.ZFr Go.Proofs.Ytngmkjgklonfmaa.PNearNearest Go.Proofs.YtngmkjgklonfmaaW.PrintWords
theorem byte_of : ∀ (l : List Int) (r : Nat), Byt l → r < l.length → v8 l / 256 ^ r % 256 = l.getD r 0
  | [], r, _, h => by simp at h
  | d :: l, 0, hb, _ => by
    have := hb d (List.mem_cons_self ..)
    simp only [v8, Int.pow_zero, List.getD_cons_zero]; omega
  | d :: l, r + 1, hb, h => by
    have hd := hb d (List.mem_cons_self ..)
    have ih := byte_of l r (fun x hx => hb x (List.mem_cons_of_mem _ hx)) (by simpa using h)
    rw [List.getD_cons_succ, ← ih, v8, Int.pow_succ, Int.mul_comm (256 ^ r) 256, ← Int.ediv_ediv_of_nonneg (by omega)]
    congr 2
    omega
theorem bys_wds (L : List Int) (hl : L.length = 32) (hb : Byt L) : bys (wds L 0) 32 = L := by
  apply List.ext_getElem
  · rw [bys_len, hl]
  · intro i h1 h2
    simp only [bys, List.getElem_map, List.getElem_range]
    rw [if_pos (by omega)]
    unfold byteAt
    rw [wds_get L 0 (i / 8) (by omega)]
    unfold wd
    have hp : (2 : Int) ^ (8 * (i % 8)) = 256 ^ (i % 8) := by rw [Int.pow_mul]; rfl
    rw [hp, show max 0 (8 * (i / 8)) = 8 * (i / 8) from by omega, show 8 * (i / 8) + 8 - 8 * (i / 8) = 8 from by omega, byte_of _ _ (fun x hx => hb x (List.mem_of_mem_drop (List.mem_of_mem_take hx))) (by rw [List.length_take, List.length_drop]; omega), getD_get (by rw [List.length_take, List.length_drop]; omega), List.getElem_take, List.getElem_drop]
    congr 1
    omega
theorem four_of (os : List Int) (h : os.length = 4) : ∃ a b c d, os = [a, b, c, d] := by
  match os, h with
  | [a, b, c, d], _ => exact ⟨a, b, c, d, rfl⟩
theorem row_ge {w : World} {base : Nat} {e : TypeId} {size : Nat} {v : Value} {n k : Nat} {xs : List Value} (h : w.ownsRow base e size v n xs) (hk : v.ownBlock = some k) : base ≤ k := by
  rcases h.2 with ⟨rfl, rfl⟩ | ⟨g, cap, cur, rfl, hb, _⟩
  · simp [Value.ownBlock] at hk
  · simp [Value.ownBlock] at hk; omega
def pr (L : List Int) (m : Nat) : List Int := (List.range m).map (fun k => L.getD (2 * k) 0 + 256 * L.getD (2 * k + 1) 0)
theorem pr_len (L : List Int) (m : Nat) : (pr L m).length = m := by simp [pr]
theorem pr_snoc (L : List Int) (m : Nat) : pr L (m + 1) = pr L m ++ [L.getD (2 * m) 0 + 256 * L.getD (2 * m + 1) 0] := by
  unfold pr; rw [List.range_succ, List.map_append]; rfl
theorem pr_dig {L : List Int} (hb : Byt L) (m : Nat) : Dig (pr L m) := fun x hx => by
  obtain ⟨k, _, rfl⟩ := List.mem_map.1 hx
  have h1 := byt_get hb (2 * k)
  have h2 := byt_get hb (2 * k + 1)
  omega
theorem v8_snoc (l : List Int) (d : Int) : v8 (l ++ [d]) = v8 l + 256 ^ l.length * d := by
  induction l with
  | nil => simp [v8]
  | cons e l ih => simp only [List.cons_append, v8, ih, List.length_cons, Int.pow_succ]; rw [Int.mul_add, ← Int.mul_assoc, Int.mul_comm 256 (256 ^ _), Int.add_assoc]
theorem pr_val {L : List Int} : ∀ m, 2 * m ≤ L.length → val (pr L m) = v8 (L.take (2 * m))
  | 0, _ => rfl
  | m + 1, h => by
    have ih := pr_val (L := L) m (by omega)
    have h1 : 2 * m < L.length := by omega
    have h2 : 2 * m + 1 < L.length := by omega
    have h3 : (L.take (2 * m)).length = 2 * m := by rw [List.length_take]; omega
    rw [pr_snoc, val_snoc, ih, pr_len, show 2 * (m + 1) = 2 * m + 1 + 1 from by omega, List.take_succ_eq_append_getElem h2, List.take_succ_eq_append_getElem h1, v8_snoc, v8_snoc, List.length_append, h3, getD_get h1, getD_get h2]
    have e : (65536 : Int) ^ m = 256 ^ (2 * m) := by rw [Int.pow_mul]; rfl
    rw [e, List.length_singleton, Int.pow_succ, Int.mul_add, Int.mul_assoc, Int.add_assoc]
set_option maxRecDepth 100000 in
set_option maxHeartbeats 4000000 in
theorem quad4_walk (os : List Int) (S : Nat → Prop) (w : World) (hS : ∀ k, S k → k < w.heap.size) (hl : os.length = 4) (hb : ∀ d ∈ os, 0 ≤ d ∧ d < 18446744073709551616) (n : Int) (hn : n = v8 (bys os 32)) (hs : (bys os 32).getD 31 0 < 128) : Calls Try.prog 35 #[.agg (encU os)] w fun e w' => ∃ v, e = .returned v ∧ Whole w' S v n ∧ Fr (fun _ => False) w w' := by
  have OF := Lib.hid (fun W => of2_walk os W hl hb)
  have hby : Byt (bys os 32) := fun x hx => by
    obtain ⟨k, hk, rfl⟩ := List.mem_map.1 hx
    show 0 ≤ (if k < 32 then byteAt os k else 0) ∧ (if k < 32 then byteAt os k else 0) < 256
    split
    · exact ⟨Int.emod_nonneg _ (by decide), Int.emod_lt_of_pos _ (by decide)⟩
    · exact ⟨Int.le_refl _, by decide⟩
  obtain ⟨L, hL⟩ : ∃ L, bys os 32 = L := ⟨_, rfl⟩
  have hLl : L.length = 32 := by rw [← hL, bys_len]
  rw [hL] at hn hs hby OF
  have HBE := Lib.hid (show zelligeref01_Below.f L = some false from by
    unfold zelligeref01_Below.f
    have e : wrap64 (((32 : Nat) : Int) - 1) = 31 := w64 (n := 31) (by decide) (by decide)
    have e2 : rd L 31 = L.getD 31 0 := rfl
    rw [hLl, e, if_pos (show (0 : Int) ≤ 31 from by decide), if_pos (show (31 : Int) < ((32 : Nat) : Int) from by decide), e2, decide_eq_false (show ¬ L.getD 31 0 ≥ 128 from by omega)])
  have HBY := Lib.hid hby
  have HLL := Lib.hid hLl
  have HN := Lib.hid hn
  obtain ⟨o0, o1, o2, o3, rfl⟩ := four_of os hl
  clear hL hs hby hLl hn hb hl
  have f2 := ((Fr.refl (fun _ => False) w).alloc (Obj.cells #[Value.int IntKind.u64 o0, Value.int IntKind.u64 o1, Value.int IntKind.u64 o2, Value.int IntKind.u64 o3] 79)).alloc (Obj.cells #[Value.int IntKind.i64 0, Value.slice none 0 0] 40)
  have t2 := second w (Obj.cells #[Value.int IntKind.u64 o0, Value.int IntKind.u64 o1, Value.int IntKind.u64 o2, Value.int IntKind.u64 o3] 79) (Obj.cells #[Value.int IntKind.i64 0, Value.slice none 0 0] 40)
  have F2 := Lib.hid f2
  have T2 := Lib.hid t2
  clear f2 t2
  show Calls Try.prog 35 #[.agg #[.int .u64 o0, .int .u64 o1, .int .u64 o2, .int .u64 o3]] w _
  go_enter Try.func35, Try.ntmps35
  go_wp2_with fail
  generalize (w.alloc (Obj.cells #[Value.int IntKind.u64 o0, Value.int IntKind.u64 o1, Value.int IntKind.u64 o2, Value.int IntKind.u64 o3] 79)).alloc (Obj.cells #[Value.int IntKind.i64 0, Value.slice none 0 0] 40) = w2 at F2 T2 ⊢
  have hc_ := OF.out w2
  refine hc_.mono ?_
  clear hc_
  rintro e w3 ⟨v3, rfl, h3, f3⟩
  have h3' := h3
  obtain ⟨A3, c3, rfl, hC3, hc3⟩ := h3
  have H3 := Lib.hid h3'
  have hbe := zelligeref01_Below.calls A3 c3 L false w3 hC3 hc3 HBE.out
  rw [HLL.out] at hbe H3 ⊢
  have HBC := Lib.hid hbe
  have T3 := Lib.hid (ZFr.blk_fr T2.out f3 (fun h => h))
  have F3 := Lib.hid (F2.out.trans f3 (fun _ h _ => h))
  clear hbe h3' hC3 hc3 f3
  go_wp2_with ((go_at_call 63); refine HBC.out.mono ?_; rintro e w4 ⟨rfl, nd, rfl⟩)
  have F4 := Lib.hid (((Fr.refl (fun _ => False) w3).drewN nd).alloc (Obj.cells #[] 3))
  have O4 := Lib.hid (show ((w3.drewN nd).alloc (.cells #[] 3)).ownsRow w3.heap.size 3 1 (.slice (some ⟨w3.heap.size, 0, none⟩) 0 0) 0 [] from World.ownsRow_lit (w3.drewN nd) #[] 0 (Nat.le_refl _) (by unfold maxLen; omega) rfl)
  generalize (w3.drewN nd).alloc (Obj.cells #[] 3) = w4 at F4 O4 ⊢
  go_loopw [5, 6] (fun d i wr => ∃ m : Nat, m ≤ 16 ∧ i = .int .i64 ((2 * m : Nat) : Int) ∧ wr.ownsRow w3.heap.size 3 1 d m ((pr L m).map (Value.int .i64)) ∧ Fr (fun _ => False) w3 wr) (fun _ i _ => (32 - intOf i).toNat)
  case atStart => exact ⟨0, by omega, rfl, O4.out, F4.out⟩
  case round =>
    obtain ⟨m, hm, rfl, hown, hf⟩ := hrel
    have HF := Lib.hid hf
    have HR := Lib.hid (H3.out.fr hf)
    obtain ⟨p, c, rfl⟩ := row_slice hown
    have HO := Lib.hid hown
    clear hf hown
    by_cases hlt : m < 16
    · obtain ⟨ad, hA3, c1⟩ := Rdx.cell (i := 2 * m) HR.out (by omega)
      subst hA3
      obtain ⟨ad', hA3, c2⟩ := Rdx.cell (i := 2 * m + 1) HR.out (by omega)
      cases hA3
      have b1 := byt_get HBY.out (2 * m)
      have b2 := byt_get HBY.out (2 * m + 1)
      have hsn := pr_snoc L m
      generalize L.getD (2 * m) 0 = a at c1 b1 hsn
      generalize L.getD (2 * m + 1) 0 = b at c2 b2 hsn
      obtain ⟨I, hI, hI2⟩ : ∃ I, 2 * m = I ∧ I < 31 := ⟨_, rfl, by omega⟩
      obtain ⟨J, hJ⟩ : ∃ J, I + 1 = J := ⟨_, rfl⟩
      rw [hI] at c1 c2 ⊢
      rw [hJ] at c2
      have k1 : wr.drew.cell? (ad.add I) = some (.int .i64 a) := c1
      have k2 : wr.drew.cell? (ad.add J) = some (.int .i64 b) := c2
      have e1 : IntKind.i64.wrap ((I : Int) + 1) = (J : Int) := by rw [Go.Proofs.YtngmkjgklonfmaaW.PrintLast.i64_w, w64 (n := (I : Int) + 1) (by omega) (by omega)]; omega
      have e2 : IntKind.i64.wrap (256 * b) = 256 * b := by rw [Go.Proofs.YtngmkjgklonfmaaW.PrintLast.i64_w, w64 (n := 256 * b) (by omega) (by omega)]
      have e3 : IntKind.i64.wrap (a + 256 * b) = a + 256 * b := by rw [Go.Proofs.YtngmkjgklonfmaaW.PrintLast.i64_w, w64 (n := a + 256 * b) (by omega) (by omega)]
      have hi1 : (I : Int) < 32 := by omega
      have hi2 : (J : Int) < 32 := by omega
      have hmx : m ≤ 1000 := by omega
      have HSN := Lib.hid hsn
      have E1 := Lib.hid e1
      have HMX := Lib.hid hmx
      have HS9 := Lib.hid (show w3.heap.size ≤ wr.heap.size from HF.out.size)
      have HI := Lib.hid hI
      clear hI hJ hI2
      clear hmx c1 c2 hsn b1 b2
      obtain ⟨i0, hi0, hz0, hz1, hz2⟩ := info_parts info3
      go_wp2_with fail
      go_region_law
        ((refine step_append_lies _ (by rfl) _ _ _ (by rfl) w3.heap.size 3 i0 _ 1 8 Try.underlying37 hi0 hz0 hz1 hz2 rfl (by decide) (.slice p m c) m ((pr L m).map (Value.int .i64)) (by rfl) ((HO.out.drew).alloc _) ⟨wr.heap.size, 0, none⟩ 1 1 [.int .i64 (a + 256 * b)] (by rfl) (by rfl) (World.news_of_block (cs := #[.int .i64 (a + 256 * b)]) (t := 3) (fr := (0, 0)) (heap_alloc_new wr.drew _)) (by simp [Value.oneCell']) (by decide) (by unfold maxLen; exact Nat.le_trans (Nat.add_le_add_right HMX.out 1) (by decide)) (by exact Nat.le_trans (Nat.mul_le_mul_right 8 (Nat.add_le_add_right HMX.out 1)) (by decide)) (by simp; exact Nat.le_succ_of_le HS9.out) (wr.heap.size + 1) (by simp) ?_; intro gg cap w5 hown5 hgrow hat hlt5))
      all_goals
        have HO5 := Lib.hid hown5
        have HG5 := Lib.hid hgrow
        clear hown5 hgrow hat hlt5
        go_wp2_with fail
        clear e1 e2 e3 k1 k2
        go_roundw
        case rel =>
          refine ⟨m + 1, by omega, by have := HI.out; congr 1; omega, ?_, (HF.out.drew.alloc _).grown HG5.out (fun k hk => .inr (row_ge HO.out hk))⟩
          rw [HSN.out, List.map_append]
          exact HO5.out
        case measure => have := HI.out; simp [intOf]; omega
    · obtain rfl : m = 16 := by omega
      have hv16 : val (pr L 16) = ((n.natAbs : Nat) : Int) := by
        have := pr_val (L := L) 16 (by rw [HLL.out]; decide)
        rw [List.take_of_length_le (by rw [HLL.out]; decide), ← HN.out] at this
        rw [this]
        have := (v8_bound HBY.out).1
        rw [← HN.out] at this
        omega
      have hTR := zelligeref03_Trim.calls 2000 (fun k => w3.heap.size ≤ k) (.slice p 16 c) (pr L 16) _ w3 wr (HF.out.below _ (Nat.le_refl _) (fun _ h => h.elim)) (Kd.R_of_own (h1 := fun _ => rfl) (by rw [pr_len]; exact HO.out) (fun k hk => row_ge HO.out hk)) (trim_f 2000 (pr_dig HBY.out 16) (by rw [pr_len]; decide) (by rw [pr_len]; decide) hv16)
      have NSG := Lib.hid (show n.natAbs ≠ 0 → sg 1 = sg n from fun h => by
        have h0 := (v8_bound HBY.out).1
        rw [← HN.out] at h0
        unfold sg
        rw [if_neg (by decide), if_neg (by decide), if_neg (by omega), if_neg (by omega)])
      have HTR := Lib.hid hTR
      clear hTR hv16
      go_wp2_with (first
        | (go_at_call 66; (with_reducible refine HTR.out.mono ?_); rintro e w5 ⟨v5, rfl, h5, b5, k5⟩; have g5 := dgs_of_R (S := fun k => S k ∨ k < w3.heap.size) h5 (fun k hk => hk.elim (fun h => Nat.lt_of_lt_of_le (hS k h) F3.out.size) id); obtain ⟨A5, c5, rfl⟩ := g5.slice; have G5 := Lib.hid g5; have F5 := Lib.hid (show Fr (fun _ => False) w3 w5 from Fr.of_below b5); clear h5 b5 k5 g5)
        | (go_at_call 65; have hm6 := make1_walk 1 n.natAbs _ _ w5 G5.out; rw [show sg 1 = 1 from rfl] at hm6; (with_reducible refine hm6.mono ?_); clear hm6; rintro e w6 ⟨v6, rfl, h6, f6⟩; obtain ⟨s6, rfl, g6⟩ := h6 n rfl NSG.out; obtain ⟨A6, c6, rfl⟩ := g6.slice; have G6 := Lib.hid g6; have T6 := Lib.hid (ZFr.blk_fr (ZFr.blk_fr T3.out F5.out (fun h => h)) f6 (fun h => h)); obtain ⟨i1, i2, i3, i4⟩ := whole_store T6.out; have F6 := Lib.hid (((F3.out).trans F5.out (fun _ h _ => h)).trans f6 (fun _ h _ => h)); clear h6 g6 f6))
      have f9 := (F6.out.set ⟨w.heap.size + 1, 0, none⟩ (.int .i64 (sg n)) (.inr (by dsimp only; omega))).set ⟨w.heap.size + 1, 1, none⟩ (Value.slice A6 (dg n.natAbs).length c6) (.inr (by dsimp only; omega))
      refine bodyPost_ret (results_cell_row rfl _ _ (w.heap.size + 1) 40 #[.int .i64 (sg n), .slice A6 (dg n.natAbs).length c6] (0, 0) _ rfl (ZFr.blk_set (ZFr.blk_set T6.out 0 _) 1 _) Try.underlying40 rfl (by kernel_rfl)) rfl ?_
      refine ⟨_, rfl, Whole.mk ?_, f9⟩
      have hlt9 : w.heap.size + 1 < w3.heap.size := ZFr.blk_lt T3.out
      exact (G6.out.fr (((Fr.refl (fun k => S k ∨ k < w3.heap.size) w6).set ⟨w.heap.size + 1, 0, none⟩ _ (.inl (.inr hlt9))).set ⟨w.heap.size + 1, 1, none⟩ _ (.inl (.inr hlt9))) (fun _ h => h)).mono (fun _ h => .inl h)
end Go.Proofs.Ytngmkjgklonfmaa.Big

/- Whole numbers of 128 bits, as whole numbers. -/
namespace Go.Proofs.Ytngmkjgklonfmaa.Wd
open Go.RowKit Go.Proofs.ZFr

def hiW (n : Int) : Int := n / 18446744073709551616
def loW (n : Int) : Int := n % 18446744073709551616
def encW (n : Int) : Value := .agg #[.int .i64 (hiW n), .int .u64 (loW n)]

theorem of_walk (n : Int) (h0 : -9223372036854775808 ≤ n) (h1 : n < 9223372036854775808) (W : World) : Calls Try.prog 41 #[.int .i64 n] W fun e w' => e = .returned (encW n) ∧ Fr (fun _ => False) W w' := by
  have e1 : n / 9223372036854775808 = hiW n := by unfold hiW; omega
  have e2 : IntKind.u64.wrap n = loW n := by unfold loW; rfl
  go_enter Try.func41, Try.ntmps41
  go_wp2_with fail
  refine bodyPost_ret (results_cell_row rfl _ _ W.heap.size 28 #[.int .i64 (hiW n), .int .u64 (loW n)] (0, 0) _ rfl (heap_alloc_new W _) Try.underlying28 rfl (by kernel_rfl)) rfl ?_
  exact ⟨rfl, (Fr.refl _ W).alloc _⟩
theorem hi_lo (n : Int) : n = hiW n * 18446744073709551616 + loW n ∧ 0 ≤ loW n ∧ loW n < 18446744073709551616 := by unfold hiW loW; omega
def cmpW (a b : Int) : Int := if a = b then 0 else if a < b then -1 else 1
def cmp2 (x u y v : Int) : Int := if x = y ∧ u = v then 0 else if x < y ∨ (x = y ∧ u < v) then -1 else 1
theorem cmpW_eq (a b : Int) : cmpW a b = cmp2 (hiW a) (loW a) (hiW b) (loW b) := by
  obtain ⟨a1, a2, a3⟩ := hi_lo a
  obtain ⟨b1, b2, b3⟩ := hi_lo b
  unfold cmpW cmp2
  by_cases h1 : hiW a < hiW b
  · rw [if_neg (by omega), if_pos (by omega), if_neg (by omega), if_pos (by omega)]
  · by_cases h2 : hiW a = hiW b
    · by_cases h3 : loW a = loW b
      · rw [if_pos (by omega), if_pos (by omega)]
      · by_cases h4 : loW a < loW b
        · rw [if_neg (by omega), if_pos (by omega), if_neg (by omega), if_pos (by omega)]
        · rw [if_neg (by omega), if_neg (by omega), if_neg (by omega), if_neg (by omega)]
    · rw [if_neg (by omega), if_neg (by omega), if_neg (by omega), if_neg (by omega)]
theorem cmp_walk (a b : Int) (W : World) : Calls Try.prog 31 #[encW a, encW b] W fun e w' => e = .returned (.int .i64 (cmpW a b)) ∧ Fr (fun _ => False) W w' := by
  rw [cmpW_eq]
  unfold encW
  generalize hiW a = x
  generalize loW a = u
  generalize hiW b = y
  generalize loW b = v
  have fin : ∀ o o', Fr (fun _ => False) W ((W.alloc o).alloc o') := fun o o' => ((Fr.refl _ W).alloc _).alloc _
  by_cases h1 : x = y
  · subst h1
    by_cases h2 : u = v
    · subst h2
      go_enter Try.func31, Try.ntmps31
      go_wp2_with fail
      go_ret
      exact ⟨by simp [cmp2], fin _ _⟩
    · by_cases h3 : u < v
      · go_enter Try.func31, Try.ntmps31
        go_wp2_with fail
        go_ret
        exact ⟨by simp [cmp2, h2, h3], fin _ _⟩
      · go_enter Try.func31, Try.ntmps31
        go_wp2_with fail
        go_ret
        exact ⟨by simp [cmp2, h2, h3], fin _ _⟩
  · by_cases h3 : x < y
    · go_enter Try.func31, Try.ntmps31
      go_wp2_with fail
      go_ret
      exact ⟨by simp [cmp2, h1, h3], fin _ _⟩
    · go_enter Try.func31, Try.ntmps31
      go_wp2_with fail
      go_ret
      exact ⟨by simp [cmp2, h1, h3], fin _ _⟩
theorem add64 (x y c : Int) (hx : 0 ≤ x) (hy : 0 ≤ y) (hc0 : 0 ≤ c) (hc : c ≤ 1) (W : World) : (callFunc 146 #[.int .u64 x, .int .u64 y, .int .u64 c]).run Try.prog W = .ok (.value (.tuple #[.int .u64 ((x + y + c) % 18446744073709551616), .int .u64 ((x + y + c) / 18446744073709551616)])) W := by
  rw [run_callFunc_extern Try.func146 (by kernel_rfl) (by kernel_rfl) (by kernel_rfl) (e := add64Entry) (by kernel_rfl), run_add64 x y c hx hy hc0 hc]
  rfl
theorem third (W : World) (o o' o'' : Obj) : (((W.alloc o).alloc o').alloc o'').heap[W.heap.size + 1 + 1]? = some o'' := by
  have h := heap_alloc_new ((W.alloc o).alloc o') o''
  rw [show ((W.alloc o).alloc o').heap.size = W.heap.size + 1 + 1 from (Array.size_push ..).trans (congrArg (· + 1) (Array.size_push ..))] at h
  exact h
set_option maxRecDepth 100000 in
theorem add_walk (a b : Int) (h0 : -170141183460469231731687303715884105728 ≤ a + b) (h1 : a + b < 170141183460469231731687303715884105728) (W : World) : Calls Try.prog 139 #[encW a, encW b] W fun e w' => e = .returned (encW (a + b)) ∧ Fr (fun _ => False) W w' := by
  obtain ⟨a1, a2, a3⟩ := hi_lo a
  obtain ⟨b1, b2, b3⟩ := hi_lo b
  have e1 : ∀ W, _ := fun W => add64 (loW a) (loW b) 0 a2 b2 (by omega) (by omega) W
  have e2 : ∀ W, _ := fun W => add64 (IntKind.u64.wrap (hiW a)) (IntKind.u64.wrap (hiW b)) ((loW a + loW b) / 18446744073709551616) (by rw [show IntKind.u64.wrap (hiW a) = hiW a % 18446744073709551616 from rfl]; omega) (by rw [show IntKind.u64.wrap (hiW b) = hiW b % 18446744073709551616 from rfl]; omega) (by omega) (by omega) W
  have elo : (loW a + loW b) % 18446744073709551616 = loW (a + b) := by unfold loW; omega
  have ehi : wrap64 ((IntKind.u64.wrap (hiW a) + IntKind.u64.wrap (hiW b) + (loW a + loW b) / 18446744073709551616) % 18446744073709551616) = hiW (a + b) := by
    rw [show IntKind.u64.wrap (hiW a) = hiW a % 18446744073709551616 from rfl, show IntKind.u64.wrap (hiW b) = hiW b % 18446744073709551616 from rfl]
    unfold wrap64 hiW loW
    omega
  clear a1 b1
  unfold encW
  go_enter Try.func139, Try.ntmps139
  go_wp2_with fail
  refine bodyPost_ret (results_cell_row rfl _ _ (W.heap.size + 1 + 1) 28 #[.int .i64 (hiW (a + b)), .int .u64 (loW (a + b))] (0, 0) _ rfl ?_ Try.underlying28 rfl (by kernel_rfl)) rfl ?_
  · exact third _ _ _ _
  · exact ⟨rfl, (((Fr.refl _ W).alloc _).alloc _).alloc _⟩
theorem sub64 (x y c : Int) (hx : 0 ≤ x) (hx1 : x < 18446744073709551616) (hy : 0 ≤ y) (hy1 : y < 18446744073709551616) (hc0 : 0 ≤ c) (hc : c ≤ 1) (W : World) : (callFunc 162 #[.int .u64 x, .int .u64 y, .int .u64 c]).run Try.prog W = .ok (.value (.tuple #[.int .u64 ((x - y - c) % 18446744073709551616), .int .u64 (if x < y + c then 1 else 0)])) W := by
  obtain ⟨X, rfl⟩ := Int.eq_ofNat_of_zero_le hx
  obtain ⟨Y, rfl⟩ := Int.eq_ofNat_of_zero_le hy
  obtain ⟨C, rfl⟩ := Int.eq_ofNat_of_zero_le hc0
  rw [run_callFunc_extern Try.func162 (by kernel_rfl) (by kernel_rfl) (by kernel_rfl) (e := sub64Entry) (by kernel_rfl), run_sub64 X Y C (by omega)]
  simp only [Result.andThen]
  have e1 : (((X + 18446744073709551616 - Y - C) % 18446744073709551616 : Nat) : Int) = ((X : Int) - Y - C) % 18446744073709551616 := by omega
  have e2 : ((if X < Y + C then 1 else 0 : Nat) : Int) = if (X : Int) < Y + C then 1 else 0 := by split <;> split <;> omega
  rw [e1, e2]
set_option maxRecDepth 100000 in
theorem sub_walk (a b : Int) (h0 : -170141183460469231731687303715884105728 ≤ a - b) (h1 : a - b < 170141183460469231731687303715884105728) (W : World) : Calls Try.prog 160 #[encW a, encW b] W fun e w' => e = .returned (encW (a - b)) ∧ Fr (fun _ => False) W w' := by
  obtain ⟨a1, a2, a3⟩ := hi_lo a
  obtain ⟨b1, b2, b3⟩ := hi_lo b
  obtain ⟨c, hc, hc0, hc1⟩ : ∃ c : Int, (if loW a < loW b then (1 : Int) else 0) = c ∧ 0 ≤ c ∧ c ≤ 1 := ⟨_, rfl, by split <;> omega, by split <;> omega⟩
  have e1 : ∀ W, _ := fun W => sub64 (loW a) (loW b) 0 a2 a3 b2 b3 (by omega) (by omega) W
  have e2 : ∀ W, _ := fun W => sub64 (IntKind.u64.wrap (hiW a)) (IntKind.u64.wrap (hiW b)) c (by rw [show IntKind.u64.wrap (hiW a) = hiW a % 18446744073709551616 from rfl]; omega) (by rw [show IntKind.u64.wrap (hiW a) = hiW a % 18446744073709551616 from rfl]; omega) (by rw [show IntKind.u64.wrap (hiW b) = hiW b % 18446744073709551616 from rfl]; omega) (by rw [show IntKind.u64.wrap (hiW b) = hiW b % 18446744073709551616 from rfl]; omega) hc0 hc1 W
  rw [Int.sub_zero, Int.add_zero, hc] at e1
  generalize (if IntKind.u64.wrap (hiW a) < IntKind.u64.wrap (hiW b) + c then (1 : Int) else 0) = c2 at e2
  have elo : (loW a - loW b) % 18446744073709551616 = loW (a - b) := by unfold loW; omega
  have ehi : wrap64 ((IntKind.u64.wrap (hiW a) - IntKind.u64.wrap (hiW b) - c) % 18446744073709551616) = hiW (a - b) := by
    rw [show IntKind.u64.wrap (hiW a) = hiW a % 18446744073709551616 from rfl, show IntKind.u64.wrap (hiW b) = hiW b % 18446744073709551616 from rfl, ← hc]
    unfold wrap64 hiW loW
    split <;> omega
  clear a1 b1 hc
  unfold encW
  go_enter Try.func160, Try.ntmps160
  go_wp2_with fail
  refine bodyPost_ret (results_cell_row rfl _ _ (W.heap.size + 1 + 1) 28 #[.int .i64 (hiW (a - b)), .int .u64 (loW (a - b))] (0, 0) _ rfl ?_ Try.underlying28 rfl (by kernel_rfl)) rfl ?_
  · exact third _ _ _ _
  · exact ⟨rfl, (((Fr.refl _ W).alloc _).alloc _).alloc _⟩
end Go.Proofs.Ytngmkjgklonfmaa.Wd

/- The law's numbers of 128 bits as whole numbers. -/
namespace Go.Proofs.Ytngmkjgklonfmaa.Big
open Go.RowKit Go.Proofs.ZFr Go.Proofs.Ytngmkjgklonfmaa.PNearNearest Go.Proofs.YtngmkjgklonfmaaW.PrintWords
def by8 (x : Int) (i : Nat) : Int := x / 2 ^ (8 * i) % 256
theorem of1_step (k : Nat) (x : List Int) (i : Nat) (hi lo : Int) (hx : x.length = 16) (h8 : i < 8) (h1 : 0 ≤ hi ∧ hi < 18446744073709551616) (h2 : 0 ≤ lo ∧ lo < 18446744073709551616) :
    zelligeref01_Of.l0 (k + 1) x (i : Int) hi lo = zelligeref01_Of.l0 k ((x.set i (by8 lo i)).set (8 + i) (by8 hi i)) ((i + 1 : Nat) : Int) hi lo := by
  have w1 : wrap64 (8 * (i : Int)) = ((8 * i : Nat) : Int) := by rw [w64 (n := 8 * (i : Int)) (by omega) (by omega)]; omega
  have w2 : wrap64 (8 + (i : Int)) = ((8 + i : Nat) : Int) := by rw [w64 (n := 8 + (i : Int)) (by omega) (by omega)]; omega
  have w3 : wrap64 ((i : Int) + 1) = ((i + 1 : Nat) : Int) := wj (by omega) rfl
  have w4 : IntKind.u64.wrap ((8 * i : Nat) : Int) = ((8 * i : Nat) : Int) := by
    show ((8 * i : Nat) : Int) % 18446744073709551616 = _
    omega
  have w5 : IntKind.u64.wrap hi = hi := Int.emod_eq_of_lt h1.1 h1.2
  have s : ∀ y : Int, shr .u64 y ((8 * i : Nat) : Int) = y / 2 ^ (8 * i) := fun y => by
    unfold shr
    rw [Int.toNat_natCast, Nat.min_eq_left (show 8 * i ≤ IntKind.u64.bits from by show 8 * i ≤ 64; omega)]
  have b1 := and255 (lo / 2 ^ (8 * i)) (div_le_of h2.1 h2.2 _).1 (div_le_of h2.1 h2.2 _).2
  have b2 := and255 (hi / 2 ^ (8 * i)) (div_le_of h1.1 h1.2 _).1 (div_le_of h1.1 h1.2 _).2
  have c1 : (i : Int) < 8 := by omega
  have c2 : (0 : Int) ≤ ((8 * i : Nat) : Int) := by omega
  have c3 : (0 : Int) ≤ (i : Int) := by omega
  have c4 : (i : Int) < x.length := by omega
  have c5 : (0 : Int) ≤ ((8 + i : Nat) : Int) := by omega
  have c6 : ((8 + i : Nat) : Int) < x.length := by omega
  rw [zelligeref01_Of.l0, w1, w2, w3, w4, w5, s, s, b1, b2, if_pos c1, if_pos c2, if_pos c3, if_pos c4, if_pos c5, if_pos c6]
  rfl
def l16 (hi lo : Int) : List Int := [by8 lo 0, by8 lo 1, by8 lo 2, by8 lo 3, by8 lo 4, by8 lo 5, by8 lo 6, by8 lo 7, by8 hi 0, by8 hi 1, by8 hi 2, by8 hi 3, by8 hi 4, by8 hi 5, by8 hi 6, by8 hi 7]
theorem of1_f (k : Nat) (hi lo : Int) (h1 : 0 ≤ hi ∧ hi < 18446744073709551616) (h2 : 0 ≤ lo ∧ lo < 18446744073709551616) (hk : 9 ≤ k) : zelligeref01_Of.f k hi lo = some (l16 hi lo) := by
  obtain ⟨k, rfl⟩ : ∃ k', k = k' + 9 := ⟨k - 9, by omega⟩
  unfold zelligeref01_Of.f
  rw [if_pos (by decide)]
  have st := fun k x i hx h8 => of1_step k x i hi lo hx h8 h1 h2
  refine (st (k + 8) _ 0 (by simp) (by decide)).trans ?_
  refine (st (k + 7) _ 1 (by simp) (by decide)).trans ?_
  refine (st (k + 6) _ 2 (by simp) (by decide)).trans ?_
  refine (st (k + 5) _ 3 (by simp) (by decide)).trans ?_
  refine (st (k + 4) _ 4 (by simp) (by decide)).trans ?_
  refine (st (k + 3) _ 5 (by simp) (by decide)).trans ?_
  refine (st (k + 2) _ 6 (by simp) (by decide)).trans ?_
  refine (st (k + 1) _ 7 (by simp) (by decide)).trans ?_
  rw [zelligeref01_Of.l0, if_neg (by decide)]
  rfl
theorem v8_append (a b : List Int) : v8 (a ++ b) = v8 a + 256 ^ a.length * v8 b := by
  induction a with
  | nil => simp [v8]
  | cons e l ih => simp only [List.cons_append, v8, ih, List.length_cons, Int.pow_succ]; rw [Int.mul_add, ← Int.mul_assoc, Int.mul_comm 256 (256 ^ _), Int.add_assoc]
theorem v8_by8 (x : Int) (h : 0 ≤ x ∧ x < 18446744073709551616) : v8 [by8 x 0, by8 x 1, by8 x 2, by8 x 3, by8 x 4, by8 x 5, by8 x 6, by8 x 7] = x := by
  simp only [v8, by8]
  have p : (2 : Int) ^ (8 * 0) = 1 ∧ (2 : Int) ^ (8 * 1) = 256 ∧ (2 : Int) ^ (8 * 2) = 65536 ∧ (2 : Int) ^ (8 * 3) = 16777216 ∧ (2 : Int) ^ (8 * 4) = 4294967296 ∧ (2 : Int) ^ (8 * 5) = 1099511627776 ∧ (2 : Int) ^ (8 * 6) = 281474976710656 ∧ (2 : Int) ^ (8 * 7) = 72057594037927936 := by decide
  obtain ⟨p0, p1, p2, p3, p4, p5, p6, p7⟩ := p
  rw [p0, p1, p2, p3, p4, p5, p6, p7]
  omega
theorem l16_len (hi lo : Int) : (l16 hi lo).length = 16 := rfl
theorem l16_byt (hi lo : Int) : Byt (l16 hi lo) := fun x hx => by
  have b : ∀ x i, 0 ≤ by8 x i ∧ by8 x i < 256 := fun x i => ⟨Int.emod_nonneg _ (by decide), Int.emod_lt_of_pos _ (by decide)⟩
  simp only [l16, List.mem_cons, List.not_mem_nil, or_false] at hx
  rcases hx with h | h | h | h | h | h | h | h | h | h | h | h | h | h | h | h <;> (rw [h]; exact b _ _)
theorem long_go : ∀ n k (x : List Int), x.length + n = 32 → n < k → zelligeref02_Long.l0 k x 0 = some (x ++ List.replicate n 0)
  | 0, k, x, hx, hk => by
    obtain ⟨k, rfl⟩ : ∃ k', k = k' + 1 := ⟨k - 1, by omega⟩
    rw [zelligeref02_Long.l0, if_neg (by omega)]; simp
  | n + 1, k, x, hx, hk => by
    obtain ⟨k, rfl⟩ : ∃ k', k = k' + 1 := ⟨k - 1, by omega⟩
    rw [zelligeref02_Long.l0, if_pos (by omega), if_pos (by omega), long_go n k _ (by simp; omega) (by omega), List.replicate_succ, List.append_assoc]; rfl
def l32 (hi lo : Int) : List Int := l16 hi lo ++ List.replicate 16 0
theorem long2_f (hi lo : Int) (h1 : 0 ≤ hi ∧ hi < 9223372036854775808) (h2 : 0 ≤ lo ∧ lo < 18446744073709551616) : zelligeref02_Long.f 40 hi lo = some (l32 hi lo) := by
  unfold zelligeref02_Long.f
  rw [of1_f 40 hi lo ⟨h1.1, by omega⟩ h2 (by decide), Option.bind_some]
  have e : wrap64 (((16 : Nat) : Int) - 1) = 15 := w64 (n := 15) (by decide) (by decide)
  have hb : by8 hi 7 < 128 := by unfold by8; rw [show (2 : Int) ^ (8 * 7) = 72057594037927936 from by decide]; omega
  have e2 : zelligeref01_Below.f (l16 hi lo) = some false := by
    unfold zelligeref01_Below.f
    rw [l16_len, e, if_pos (by decide), if_pos (by decide), show rd (l16 hi lo) 15 = by8 hi 7 from rfl, decide_eq_false (by omega)]
  rw [e2, Option.bind_some, if_neg (by decide), zelligeref02_Long.j0, long_go 16 39 _ (by rw [l16_len]) (by decide)]
  rfl
theorem l32_facts (hi lo : Int) (h1 : 0 ≤ hi ∧ hi < 9223372036854775808) (h2 : 0 ≤ lo ∧ lo < 18446744073709551616) : (l32 hi lo).length = 32 ∧ Byt (l32 hi lo) ∧ v8 (l32 hi lo) = hi * 18446744073709551616 + lo ∧ (l32 hi lo).getD 31 0 < 128 := by
  refine ⟨rfl, fun x hx => ?_, ?_, show (0 : Int) < 128 from by decide⟩
  · rcases List.mem_append.1 hx with h | h
    · exact l16_byt hi lo x h
    · rw [(List.mem_replicate.1 h).2]; decide
  · have z : v8 (List.replicate 16 0) = 0 := by decide
    unfold l32
    rw [v8_append, z, Int.mul_zero, Int.add_zero, show l16 hi lo = [by8 lo 0, by8 lo 1, by8 lo 2, by8 lo 3, by8 lo 4, by8 lo 5, by8 lo 6, by8 lo 7] ++ [by8 hi 0, by8 hi 1, by8 hi 2, by8 hi 3, by8 hi 4, by8 hi 5, by8 hi 6, by8 hi 7] from rfl, v8_append, v8_by8 lo h2, v8_by8 hi ⟨h1.1, by omega⟩]
    simp only [List.length_cons, List.length_nil]
    rw [show (256 : Int) ^ (0 + 1 + 1 + 1 + 1 + 1 + 1 + 1 + 1) = 18446744073709551616 from by decide]
    omega
set_option maxRecDepth 100000 in
set_option maxHeartbeats 4000000 in
theorem lawwide_walk (n : Int) (S : Nat → Prop) (w : World) (hS : ∀ k, S k → k < w.heap.size) (h0 : 0 ≤ n) (h1 : n < 170141183460469231731687303715884105728) : Calls Try.prog 14 #[Wd.encW n] w fun e w' => ∃ v, e = .returned v ∧ Whole w' S v n ∧ Fr (fun _ => False) w w' := by
  obtain ⟨a1, a2, a3⟩ := Wd.hi_lo n
  have b1 : 0 ≤ Wd.hiW n ∧ Wd.hiW n < 9223372036854775808 := by unfold Wd.hiW; omega
  obtain ⟨l1, l2, l3, l4⟩ := l32_facts (Wd.hiW n) (Wd.loW n) b1 ⟨a2, a3⟩
  have hlf := long2_f (Wd.hiW n) (Wd.loW n) b1 ⟨a2, a3⟩
  rw [← a1] at l3
  unfold Wd.encW
  generalize l32 (Wd.hiW n) (Wd.loW n) = L at l1 l2 l3 l4 hlf
  generalize Wd.hiW n = x at hlf ⊢
  generalize Wd.loW n = y at hlf ⊢
  have HLF := Lib.hid hlf
  have L1 := Lib.hid l1
  have L2 := Lib.hid l2
  have hbw := bys_wds L l1 l2
  have L3 := Lib.hid (show n = v8 (bys (wds L 0) 32) from by rw [hbw]; exact l3.symm)
  have L4 := Lib.hid (show (bys (wds L 0) 32).getD 31 0 < 128 from by rw [hbw]; exact l4)
  have L5 := Lib.hid (show ∀ d ∈ wds L 0, 0 ≤ d ∧ d < 18446744073709551616 from fun d hd => by
    have wb : ∀ j, 0 ≤ wd L 0 j ∧ wd L 0 j < 18446744073709551616 := fun j => by
      unfold wd
      have h := v8_bound (l := (L.drop (max 0 (8 * j))).take (8 * j + 8 - max 0 (8 * j))) (fun x hx => l2 x (List.mem_of_mem_drop (List.mem_of_mem_take hx)))
      refine ⟨h.1, Int.lt_of_lt_of_le h.2 ?_⟩
      have hl : ((L.drop (max 0 (8 * j))).take (8 * j + 8 - max 0 (8 * j))).length ≤ 8 := by rw [List.length_take]; omega
      have h3 : (256 : Nat) ^ ((L.drop (max 0 (8 * j))).take (8 * j + 8 - max 0 (8 * j))).length ≤ 256 ^ 8 := Nat.pow_le_pow_right (by decide) hl
      have e : ((256 ^ ((L.drop (max 0 (8 * j))).take (8 * j + 8 - max 0 (8 * j))).length : Nat) : Int) = 256 ^ ((L.drop (max 0 (8 * j))).take (8 * j + 8 - max 0 (8 * j))).length := by rw [Int.natCast_pow]; rfl
      have e2 : (256 : Nat) ^ 8 = 18446744073709551616 := by decide
      omega
    simp only [wds, List.mem_cons, List.not_mem_nil, or_false] at hd
    rcases hd with h | h | h | h <;> (rw [h]; exact wb _))
  clear hlf l1 l2 l3 l4 a1 a2 a3 b1 hbw h0 h1
  have f2 := ((Fr.refl (fun _ => False) w).alloc (Obj.cells #[Value.int IntKind.i64 x, Value.int IntKind.u64 y] 28)).alloc (Obj.cells #[Value.int IntKind.i64 0, Value.slice none 0 0] 40)
  have t2 := second w (Obj.cells #[Value.int IntKind.i64 x, Value.int IntKind.u64 y] 28) (Obj.cells #[Value.int IntKind.i64 0, Value.slice none 0 0] 40)
  go_enter Try.func14, Try.ntmps14
  go_wp2_with fail
  generalize (w.alloc (Obj.cells #[Value.int IntKind.i64 x, Value.int IntKind.u64 y] 28)).alloc (Obj.cells #[Value.int IntKind.i64 0, Value.slice none 0 0] 40) = w2 at f2 t2 ⊢
  have F2 := Lib.hid f2
  have T2 := Lib.hid t2
  clear f2 t2
  go_wp2_with (first
    | (go_at_call 35; have hc_ := quad4_walk (wds L 0) (fun k => S k ∨ k < w2.heap.size) w4 (fun k hk => hk.elim (fun h => Nat.lt_of_lt_of_le (hS k h) (Nat.le_trans F2.out.size F4.out.size)) (fun h => Nat.lt_of_lt_of_le h F4.out.size)) rfl L5.out n L3.out L4.out; (with_reducible refine hc_.mono ?_); clear hc_; rintro e w5 ⟨v5, rfl, h5, f5⟩; obtain ⟨s5, rfl, g5⟩ := h5; obtain ⟨A5, c5, rfl⟩ := g5.slice; have G5 := Lib.hid g5; have F5 := Lib.hid (F4.out.trans f5 (fun _ h _ => h)); have T5 := Lib.hid (ZFr.blk_fr T2.out F5.out (fun h => h)); obtain ⟨i1, i2, i3, i4⟩ := whole_store T5.out; clear g5 f5)
    | (go_at_call 36; have hc_ := quad2_walk L _ w3 L1.out L2.out H3.out; (with_reducible refine hc_.mono ?_); clear hc_; rintro e w4 ⟨rfl, f4⟩; have F4 := Lib.hid (F3.out.trans f4 (fun _ h _ => h)); clear f4)
    | (go_at_call 37; have hc_ := zelligeref02_Long.calls 40 x y L w2 HLF.out; (with_reducible refine hc_.mono ?_); clear hc_; rintro e w3 ⟨v3, rfl, h3, b3⟩; obtain ⟨A3, c3, rfl⟩ := row_slice (Kd.own_of_R h3); have h3' := Kd.R_reads' h3; have H3 := Lib.hid (show Rdx w3 (.slice A3 L.length c3) L from ⟨A3, c3, rfl, h3'.2.2, by have := h3'.1; have := h3'.2.1; omega⟩); have F3 := Lib.hid (Fr.of_below b3); clear h3 h3' b3))
  have f9 := ((F2.out.trans F5.out (fun _ h _ => h)).set ⟨w.heap.size + 1, 0, none⟩ (.int .i64 (sg n)) (.inr (by dsimp only; omega))).set ⟨w.heap.size + 1, 1, none⟩ (Value.slice A5 (dg n.natAbs).length c5) (.inr (by dsimp only; omega))
  refine bodyPost_ret (results_cell_row rfl _ _ (w.heap.size + 1) 40 #[.int .i64 (sg n), .slice A5 (dg n.natAbs).length c5] (0, 0) _ rfl (ZFr.blk_set (ZFr.blk_set T5.out 0 _) 1 _) Try.underlying40 rfl (by kernel_rfl)) rfl ?_
  refine ⟨_, rfl, Whole.mk ?_, f9⟩
  have hlt9 : w.heap.size + 1 < w2.heap.size := ZFr.blk_lt T2.out
  exact (G5.out.fr (((Fr.refl (fun k => S k ∨ k < w2.heap.size) w5).set ⟨w.heap.size + 1, 0, none⟩ _ (.inl (.inr hlt9))).set ⟨w.heap.size + 1, 1, none⟩ _ (.inl (.inr hlt9))) (fun _ h => h)).mono (fun _ h => .inl h)
end Go.Proofs.Ytngmkjgklonfmaa.Big
