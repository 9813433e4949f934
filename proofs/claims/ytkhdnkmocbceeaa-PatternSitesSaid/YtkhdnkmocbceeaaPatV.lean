/- The walk of zelligelaw43.sites. -/
import Derived.Test.YtkhdnkmocbceeaaPatL
import Derived.Deep.LoopGhost
namespace Go.Proofs.Ytkhdnkmocbceeaa.Pat
open Go.RowKit Go.Proofs.ZFr Go.Proofs.ZMap
open Go.Joins (below_alloc1 below_alloc2 below_draws)

theorem flat_at : ∀ (l : List (Int × Int × Int)) (j i : Nat) (q : Int × Int × Int), l[j]? = some q → i < 3 → (flat l)[j * 3 + i]? = (cells3 q)[i]? := by
  intro l
  induction l with
  | nil => intro j i q h; simp at h
  | cons p l ih =>
    intro j i q h hi
    have e : flat (p :: l) = cells3 p ++ flat l := by simp [flat]
    have hl : (cells3 p).length = 3 := rfl
    rw [e]
    cases j with
    | zero =>
      simp at h; subst h
      rw [Nat.zero_mul, Nat.zero_add, List.getElem?_append_left (by omega)]
    | succ j =>
      simp at h
      rw [List.getElem?_append_right (by omega), hl, show (j + 1) * 3 + i - 3 = j * 3 + i from by omega]
      exact ih j i q h hi
theorem wid_get (l : List (Int × Int)) (i : Nat) (p : Int × Int) (h : l[i]? = some p) : (wid l)[i]? = some ((i : Int), p.1, p.2) := by
  simp [wid, List.getElem?_map, List.getElem?_zipIdx, h]

/-- Sites: all different, in the square. -/
structure Sites (n : Int) (l : List (Int × Int)) : Prop where
  nodup : l.Nodup
  range : ∀ p ∈ l, 0 ≤ p.1 ∧ p.1 < n ∧ 0 ≤ p.2 ∧ p.2 < n

theorem cells_of {w : World} {B g c : Nat} {l : List (Int × Int)} (h : w.ownsRow B 61 3 (.slice (some ⟨g, 0, none⟩) l.length c) l.length (flat (wid l))) (i : Nat) (p : Int × Int) (hp : l[i]? = some p) :
    w.cell? ⟨g, i * 3, none⟩ = some (.int .i64 (i : Int)) ∧ w.cell? ⟨g, i * 3 + 1, none⟩ = some (.int .i64 p.1) ∧ w.cell? ⟨g, i * 3 + 2, none⟩ = some (.int .i64 p.2) := by
  have hi := (List.getElem?_eq_some_iff.1 hp).1
  have hw := wid_get l i p hp
  refine ⟨?_, ?_, ?_⟩
  · have := h.cellAt (i * 3 + 0) (by omega)
    rw [flat_at _ i 0 _ hw (by decide)] at this
    simpa [cells3] using this
  · have := h.cellAt (i * 3 + 1) (by omega)
    rw [flat_at _ i 1 _ hw (by decide)] at this
    simpa [cells3] using this
  · have := h.cellAt (i * 3 + 2) (by omega)
    rw [flat_at _ i 2 _ hw (by decide)] at this
    simpa [cells3] using this

set_option maxRecDepth 100000 in
set_option maxHeartbeats 3200000 in
theorem sites_any (w : World) (B : Nat) (v : Value) (l : List (Int × Int)) (n : Int) (h : w.ownsRow B 61 3 v l.length (flat (wid l))) (hs : Sites n l) (hl : l.length ≤ 100000) :
    Calls Try.prog 40 #[v, .int .i64 n] w fun e w' => e = .returned (.bool true) ∧ Below w.heap.size w w' := by
  obtain ⟨P, c, rfl⟩ := row_slice h
  have H := Lib.hid h
  have HS := Lib.hid hs
  clear h hs
  go_enter Try.func40, Try.ntmps40
  go_wp2
  go_loopw [5, 6, 7] (fun i _ _ wr => ∃ k : Nat, k ≤ l.length ∧ i = .int .i64 (k : Int) ∧ Below w.heap.size w wr) (fun i _ _ _ => l.length - (intOf i).toNat)
  case atStart => exact ⟨0, Nat.zero_le _, rfl, Below.refl _ _⟩
  case round =>
    obtain ⟨k, hk, rfl, hbel⟩ := hrel
    have hrow : wr.ownsRow B 61 3 (.slice P l.length c) l.length (flat (wid l)) := row_fr H.out (Fr.of_below hbel) (fun _ _ h => h)
    have HR := Lib.hid hrow
    have HB := Lib.hid hbel
    have hsz := hbel.size
    clear hrow hbel
    by_cases hlt : k < l.length
    · obtain ⟨g, c', hv⟩ := row_some HR.out (by omega)
      simp only [Value.slice.injEq, true_and] at hv
      obtain ⟨hP, hc'⟩ := hv
      subst hP hc'
      obtain ⟨q, hq⟩ : ∃ q, l[k]? = some q := ⟨_, List.getElem?_eq_getElem hlt⟩
      obtain ⟨x, y⟩ := q
      obtain ⟨c0, c1, c2⟩ := cells_of HR.out k (x, y) hq
      have hgl := (HR.out.lt g rfl).2
      obtain ⟨r1, r2, r3, r4⟩ := HS.out.range (x, y) (List.mem_of_getElem? hq)
      dsimp only at c1 c2 r1 r2 r3 r4
      have HQ := Lib.hid hq
      clear hq
      go_wp2
      obtain ⟨wo, hwo⟩ : ∃ wo : World, wo = wr.alloc (.cells #[.int .i64 x, .int .i64 y] 29) := ⟨_, rfl⟩
      have hpb : wo.heap[wr.heap.size]? = some (.cells #[.int .i64 x, .int .i64 y] 29 (0, 0)) := by rw [hwo]; exact heap_alloc_new wr _
      have hwsz : wo.heap.size = wr.heap.size + 1 := by rw [hwo]; simp
      have hwrow : wo.ownsRow B 61 3 (.slice (some ⟨g, 0, none⟩) l.length c) l.length (flat (wid l)) := by rw [hwo]; exact HR.out.alloc _
      have hwb : Below w.heap.size w wo := by rw [hwo]; exact HB.out.alloc hsz _
      rw [← hwo]
      have HPB := Lib.hid hpb
      have HWS := Lib.hid hwsz
      have HWR := Lib.hid hwrow
      have HWB := Lib.hid hwb
      clear hwo hpb hwsz hwrow hwb c0 c1 c2
      go_loopw [7] (fun i ws => ∃ j : Nat, j ≤ k ∧ i = .int .i64 (j : Int) ∧ Below (wr.heap.size + 1) wo ws) (fun i _ => k - (intOf i).toNat)
      case atStart => exact ⟨0, Nat.zero_le _, rfl, Below.refl _ _⟩
      case round =>
        rename_i ws _
        obtain ⟨j, hj, rfl, hb2⟩ := hrel
        have hpb2 := blk_fr HPB.out (Fr.of_below (by rw [HWS.out]; exact hb2)) (fun h => h)
        have hrow2 : _ := row_fr HWR.out (Fr.of_below (by rw [HWS.out]; exact hb2)) (fun _ _ h => h)
        have p0 := blk_cell hpb2 0
        have p1 := blk_cell hpb2 1
        simp at p0 p1
        have HB2 := Lib.hid hb2
        by_cases hjk : j < k
        · obtain ⟨q, hq⟩ : ∃ q, l[j]? = some q := ⟨_, List.getElem?_eq_getElem (by omega)⟩
          obtain ⟨a, b⟩ := q
          obtain ⟨d0, d1, d2⟩ := cells_of hrow2 j (a, b) hq
          dsimp only at d1 d2
          have hne : ¬ (a = x ∧ b = y) := by
            rintro ⟨rfl, rfl⟩
            have h1 := List.getElem?_eq_some_iff.1 hq
            have h2 := List.getElem?_eq_some_iff.1 HQ.out
            have := (List.getElem_inj HS.out.nodup).1 (h1.2.trans h2.2.symm)
            omega
          have heq : ∀ W, (binOp .eql 29 (.agg #[.int .i64 a, .int .i64 b]) (.agg #[.int .i64 x, .int .i64 y])).run Try.prog W = .ok (.bool false) W := fun W => by
            have he := eqP W a b x y
            have hf : (a == x && b == y) = false := by
              rw [Bool.and_eq_false_iff, beq_eq_false_iff_ne, beq_eq_false_iff_ne]; omega
            rw [hf] at he
            simp [binOp, he, Result.andThen]
          have hjl : (j : Int) < (l.length : Int) := by omega
          have hj0 : (0 : Int) ≤ (j : Int) := by omega
          clear hb2 hpb2 hrow2 hq hne
          go_wp2
          go_quiet (fail)
          go_wp2
          go_roundw
          case rel => exact ⟨j + 1, by omega, by go_num, HB2.out.trans (below_draws _ _ _)⟩
          case measure => simp [intOf]; omega
        · clear hb2 hpb2 hrow2
          go_wp2
          go_roundw
          case rel => exact ⟨k + 1, by omega, by go_num, HWB.out.trans (HB2.out.mono (by omega))⟩
          case measure => simp [intOf]; omega
    · go_wp2
      go_ret
      exact ⟨rfl, HB.out⟩

end Go.Proofs.Ytkhdnkmocbceeaa.Pat
