/- The walks of package arena: what each method does to the arena in memory. -/
import Derived.Test.YtkhdnkmocbceeaaProg
import Derived.Test.YtkhdnkmocbceeaaZFr
import Derived.Deep.QuietTactic
import Derived.BigQuiet
import Derived.Deep.Draws
import Derived.RowKit
import Derived.RowKit3
import Derived.WideLaws
import Derived.WalkLawsBesides
import Derived.WalkSpells
import Derived.Lib.Hide
import Derived.Outline
namespace Go.Proofs.Ytkhdnkmocbceeaa.Arena
open Go.RowKit Go.Proofs.ZFr

/-- What a number's place holds. -/
def cellV (m : Int) : Value := .iface 3 (.int .i64 m)

/-- An arena in memory: its three fields in block ab, its places in a row of its own. -/
structure Ar (w : World) (B ab : Nat) (v : Value) (L : List Int) (free many : Int) : Prop where
  blk : w.heap[ab]? = some (.cells #[v, .int .i64 free, .int .i64 many] 69 (0, 0))
  row : w.ownsRow B 20 1 v L.length (L.map cellV)
  low : B ≤ ab

/-- The blocks that an arena holds. -/
def Own (ab : Nat) (v : Value) (k : Nat) : Prop := k = ab ∨ v.ownBlock = some k

theorem Ar.fr {S : Nat → Prop} {w w' : World} {B ab : Nat} {v : Value} {L : List Int} {free many : Int} (h : Ar w B ab v L free many) (hg : Fr S w w') (hS : ∀ k, Own ab v k → ¬ S k) : Ar w' B ab v L free many :=
  ⟨blk_fr h.blk hg (hS ab (.inl rfl)), row_fr h.row hg (fun k hk => hS k (.inr hk)), h.low⟩

theorem Ar.ne {w : World} {B ab : Nat} {v : Value} {L : List Int} {free many : Int} (h : Ar w B ab v L free many) : v.ownBlock ≠ some ab := row_ne h.row h.blk (by decide)

theorem info20 : (Try.prog.info? 20).map (fun i => (i.zero, i.size, i.bytes)) = some (some .nilIface, 1, 16) := by kernel_rfl
theorem info3 : (Try.prog.info? 3).map (fun i => (i.zero, i.size, i.bytes)) = some (some (.int .i64 0), 1, 8) := by kernel_rfl

theorem ta_ok (m : Int) (w : World) : (Instr.typeAssert (.iface 3 (.int .i64 m)) 20 3 true).run Try.prog w = .ok (.tuple #[.int .i64 m, .bool true]) w := by kernel_rfl
theorem ta (m : Int) (w : World) : (Instr.typeAssert (.iface 3 (.int .i64 m)) 20 3 false).run Try.prog w = .ok (.int .i64 m) w := by kernel_rfl

set_option maxHeartbeats 400000 in
theorem live_nil (w : World) (n : Int) :
    Calls Try.prog 51 #[.pointer none, .int .i64 n] w fun e w' => e = .returned (.bool false) ∧ w = w' := by
  go_enter Try.func51, Try.ntmps51
  go_wp2
  go_ret
  exact ⟨rfl, rfl⟩
set_option maxHeartbeats 400000 in
theorem live_neg (w : World) (ab : Nat) (n : Int) (hn : n < 0) :
    Calls Try.prog 51 #[.pointer (some ⟨ab, 0, none⟩), .int .i64 n] w fun e w' => e = .returned (.bool false) ∧ w = w' := by
  go_enter Try.func51, Try.ntmps51
  go_wp2
  go_ret
  exact ⟨rfl, rfl⟩
set_option maxHeartbeats 400000 in
theorem live_out (w : World) (ab : Nat) (p : Option Addr) (len c : Nat) (n : Int) (hn : 0 ≤ n) (hl : (len : Int) ≤ n) (h0 : w.cell? ⟨ab, 0, none⟩ = some (.slice p len c)) :
    Calls Try.prog 51 #[.pointer (some ⟨ab, 0, none⟩), .int .i64 n] w fun e w' => e = .returned (.bool false) ∧ w = w' := by
  go_enter Try.func51, Try.ntmps51
  go_wp2
  go_ret
  exact ⟨rfl, rfl⟩
set_option maxRecDepth 100000 in
set_option maxHeartbeats 400000 in
theorem live_in (w : World) (ab g : Nat) (len c : Nat) (n : Nat) (m : Int) (hl : n < len) (h0 : w.cell? ⟨ab, 0, none⟩ = some (.slice (some ⟨g, 0, none⟩) len c)) (h1 : w.cell? ⟨g, n, none⟩ = some (.iface 3 (.int .i64 m))) :
    Calls Try.prog 51 #[.pointer (some ⟨ab, 0, none⟩), .int .i64 n] w fun e w' => e = .returned (.bool (m == -2)) ∧ w = w' := by
  have hta := ta_ok m
  go_enter Try.func51, Try.ntmps51
  go_wp2
  go_ret
  exact ⟨rfl, rfl⟩

/-- Whether a number is lent. -/
def live (L : List Int) (n : Int) : Bool := decide (0 ≤ n) && decide (L[n.toNat]? = some (-2))

theorem live_any (w : World) (B ab : Nat) (v : Value) (L : List Int) (free many n : Int) (h : Ar w B ab v L free many) :
    Calls Try.prog 51 #[.pointer (some ⟨ab, 0, none⟩), .int .i64 n] w fun e w' => e = .returned (.bool (live L n)) ∧ w = w' := by
  by_cases h0 : n < 0
  · refine (live_neg w ab n h0).mono ?_
    rintro e w' ⟨rfl, rfl⟩
    exact ⟨by simp [live, show ¬ 0 ≤ n by omega], rfl⟩
  obtain ⟨n, rfl⟩ : ∃ k : Nat, n = k := ⟨n.toNat, by omega⟩
  obtain ⟨p, c, rfl⟩ := row_slice h.row
  by_cases h1 : n < L.length
  · obtain ⟨g, c, hv⟩ := row_some h.row (by omega)
    simp only [Value.slice.injEq, true_and] at hv
    obtain ⟨rfl, rfl⟩ := hv
    have hc := h.row.cellAt n (by omega)
    refine (live_in w ab g L.length c n (L[n]'h1) h1 (blk_cell h.blk 0) (by rw [hc]; simp [cellV, h1])).mono ?_
    rintro e w' ⟨rfl, rfl⟩
    refine ⟨?_, rfl⟩
    simp only [live, Int.toNat_natCast, List.getElem?_eq_getElem h1, Option.some.injEq, Int.natCast_nonneg, decide_true, Bool.true_and]
    rfl
  · refine (live_out w ab p L.length c n (by omega) (by omega) (blk_cell h.blk 0)).mono ?_
    rintro e w' ⟨rfl, rfl⟩
    refine ⟨?_, rfl⟩
    simp only [live, Int.toNat_natCast, List.getElem?_eq_none (by omega : L.length ≤ n)]
    simp

set_option maxRecDepth 100000 in
set_option maxHeartbeats 400000 in
theorem mark_in (w : World) (ab g : Nat) (len c : Nat) (n : Nat) (m : Int) (hl : n < len) (h0 : w.cell? ⟨ab, 0, none⟩ = some (.slice (some ⟨g, 0, none⟩) len c)) (h1 : w.cell? ⟨g, n, none⟩ = some (.iface 3 (.int .i64 m))) :
    Calls Try.prog 52 #[.pointer (some ⟨ab, 0, none⟩), .int .i64 n] w fun e w' => e = .returned (.int .i64 m) ∧ w = w' := by
  have hta := ta m
  go_enter Try.func52, Try.ntmps52
  go_wp2
  go_ret
  exact ⟨rfl, rfl⟩

set_option maxHeartbeats 400000 in
theorem new_any (w : World) :
    Calls Try.prog 24 #[] w fun e w' => e = .returned (.pointer (some ⟨w.heap.size, 0, none⟩)) ∧ w' = w.alloc (.cells #[.slice none 0 0, .int .i64 (-1), .int .i64 0] 69) := by
  go_enter Try.func24, Try.ntmps24
  go_wp2
  go_ret
  exact ⟨rfl, rfl⟩

set_option maxHeartbeats 400000 in
theorem len_nil (w : World) : Calls Try.prog 28 #[.pointer none] w fun e w' => e = .returned (.int .i64 0) ∧ w = w' := by
  go_enter Try.func28, Try.ntmps28
  go_wp2
  go_ret
  exact ⟨rfl, rfl⟩
set_option maxHeartbeats 400000 in
theorem len_some (w : World) (ab : Nat) (many : Int) (h0 : w.cell? ⟨ab, 2, none⟩ = some (.int .i64 many)) : Calls Try.prog 28 #[.pointer (some ⟨ab, 0, none⟩)] w fun e w' => e = .returned (.int .i64 many) ∧ w = w' := by
  go_enter Try.func28, Try.ntmps28
  go_wp2
  go_ret
  exact ⟨rfl, rfl⟩
set_option maxHeartbeats 400000 in
theorem top_nil (w : World) : Calls Try.prog 29 #[.pointer none] w fun e w' => e = .returned (.int .i64 0) ∧ w = w' := by
  go_enter Try.func29, Try.ntmps29
  go_wp2
  go_ret
  exact ⟨rfl, rfl⟩
set_option maxHeartbeats 400000 in
theorem top_some (w : World) (ab : Nat) (p : Option Addr) (len c : Nat) (h0 : w.cell? ⟨ab, 0, none⟩ = some (.slice p len c)) : Calls Try.prog 29 #[.pointer (some ⟨ab, 0, none⟩)] w fun e w' => e = .returned (.int .i64 len) ∧ w = w' := by
  go_enter Try.func29, Try.ntmps29
  go_wp2
  go_ret
  exact ⟨rfl, rfl⟩
set_option maxHeartbeats 400000 in
theorem clear_nil (w : World) : Calls Try.prog 31 #[.pointer none] w fun e w' => e = .returned (.tuple #[]) ∧ w = w' := by
  go_enter Try.func31, Try.ntmps31
  go_wp2
  go_end0
  exact ⟨rfl, rfl⟩
set_option maxHeartbeats 400000 in
theorem clear_some (w : World) (ab : Nat) (v0 v1 v2 : Value) (h0 : w.cell? ⟨ab, 0, none⟩ = some v0) (h1 : w.cell? ⟨ab, 1, none⟩ = some v1) (h2 : w.cell? ⟨ab, 2, none⟩ = some v2)
    (f0 : w.frozen? ⟨ab, 0, none⟩ = false) (f1 : w.frozen? ⟨ab, 1, none⟩ = false) (f2 : w.frozen? ⟨ab, 2, none⟩ = false) :
    Calls Try.prog 31 #[.pointer (some ⟨ab, 0, none⟩)] w fun e w' => e = .returned (.tuple #[]) ∧ w' = ((w.setCell ⟨ab, 0, none⟩ (.slice none 0 0)).setCell ⟨ab, 1, none⟩ (.int .i64 (-1))).setCell ⟨ab, 2, none⟩ (.int .i64 0) := by
  go_enter Try.func31, Try.ntmps31
  go_wp2
  go_end0
  exact ⟨rfl, rfl⟩
set_option maxHeartbeats 400000 in
theorem take_nil (w : World) : Calls Try.prog 27 #[.pointer none] w fun e w' => e = .returned (.int .i64 (-1)) ∧ w = w' := by
  go_enter Try.func27, Try.ntmps27
  go_wp2
  go_ret
  exact ⟨rfl, rfl⟩


set_option maxRecDepth 100000 in
set_option maxHeartbeats 800000 in
/-- A number that came back is lent again. -/
theorem take_back (w : World) (ab g len c n : Nat) (m many : Int) (hl : n < len) (hne : ab ≠ g) (h0 : w.cell? ⟨ab, 0, none⟩ = some (.slice (some ⟨g, 0, none⟩) len c)) (h1 : w.cell? ⟨ab, 1, none⟩ = some (.int .i64 n)) (h2 : w.cell? ⟨ab, 2, none⟩ = some (.int .i64 many))
    (f1 : w.frozen? ⟨ab, 1, none⟩ = false) (f2 : w.frozen? ⟨ab, 2, none⟩ = false) (hg : w.cell? ⟨g, n, none⟩ = some (.iface 3 (.int .i64 m))) (fg : w.frozen? ⟨g, n, none⟩ = false) (hm0 : 0 ≤ many) (hm1 : many ≤ 1000000) :
    Calls Try.prog 27 #[.pointer (some ⟨ab, 0, none⟩)] w fun e w' => e = .returned (.int .i64 n) ∧
      w' = ((w.setCell ⟨ab, 2, none⟩ (.int .i64 (many + 1))).setCell ⟨ab, 1, none⟩ (.int .i64 m)).setCell ⟨g, n, none⟩ (.iface 3 (.int .i64 (-2))) := by
  have hbn : ((n : Int) == -1) = false := by rw [beq_eq_false_iff_ne]; omega
  have hbg : ¬ g = ab := fun h => hne h.symm
  go_enter Try.func27, Try.ntmps27
  go_wp2_with (go_at_call 52; refine (mark_in _ ab g len c n m hl (by go_simp) (by go_simp)).mono ?_; rintro e w' ⟨rfl, rfl⟩)
  go_ret
  exact ⟨rfl, rfl⟩

set_option maxRecDepth 100000 in
set_option maxHeartbeats 800000 in
/-- A number more is lent. -/
theorem take_more (w : World) (B ab : Nat) (p : Option Addr) (len c : Nat) (L : List Int) (many : Int) (h : Ar w B ab (.slice p len c) L (-1) many) (hlen : len = L.length) (hL : L.length ≤ 100000) (hm0 : 0 ≤ many) (hm1 : many ≤ 1000000) :
    Calls Try.prog 27 #[.pointer (some ⟨ab, 0, none⟩)] w fun e w' => e = .returned (.int .i64 L.length) ∧ ∃ v', Ar w' B ab v' (L ++ [-2]) (-1) (many + 1) ∧ Fr (Own ab (.slice p len c)) w w' := by
  have h0 := blk_cell h.blk 0
  have h1 := blk_cell h.blk 1
  have h2 := blk_cell h.blk 2
  have f0 := blk_free h.blk 0
  have f1 := blk_free h.blk 1
  have f2 := blk_free h.blk 2
  simp at h0 h1 h2
  have hne := h.ne
  have hlt := blk_lt h.blk
  have hown1 : (w.setCell ⟨ab, 2, none⟩ (.int .i64 (many + 1))).ownsRow B 20 1 (.slice p len c) L.length (L.map cellV) := ownsRow_setCell_other h.row (by simpa using hne) _
  have hb1 := blk_set h.blk 2 (.int .i64 (many + 1))
  have HB := Lib.hid h.blk
  have HB1 := Lib.hid hb1
  have HL := Lib.hid hlen
  have HR := Lib.hid h.row
  have HN := Lib.hid hne
  have hlow := h.low
  clear hb1 hlen hne h
  obtain ⟨i0, hi, hz0, hz1, hz2⟩ := info_parts info20
  go_enter Try.func27, Try.ntmps27
  go_wp2_with (at_builtin; refine wpList_append_own _ rfl (.tmp 23) (.tmp 25) 67 rfl B 20 i0 .nilIface 1 16 Try.underlying67 hi hz0 hz1 hz2 rfl (by decide) (.slice p len c) L.length (L.map cellV) rfl (hown1.alloc _) ⟨w.heap.size, 0, none⟩ 1 1 [cellV (-2)] rfl rfl ?c1 ?c2 ?c3 ?c4 ?c5 ?more)
  case c1 => intro j u hj; match j, hj with | 0, hj => simp at hj; subst hj; exact new_cell _ _ _ _ (size_set _ _ _).symm 0
  case c2 => intro u hu; simp at hu; subst hu; rfl
  case c3 => unfold maxLen; omega
  case c4 => omega
  case c5 => simp; omega
  case more =>
    intro v' w1 hown' hgrow _
    obtain ⟨g, c', hv⟩ := row_some hown' (by omega)
    subst hv
    have hb2 : w1.heap[ab]? = some (.cells #[.slice p len c, .int .i64 (-1), .int .i64 (many + 1)] 69 (0, 0)) := blk_grown (blk_alloc HB1.out _) hgrow HN.out
    have k0 := blk_cell hb2 0
    have k1 := blk_cell hb2 1
    have k2 := blk_cell hb2 2
    have e0 := blk_free hb2 0
    have e1 := blk_free hb2 1
    have e2 := blk_free hb2 2
    simp at k0 k1 k2
    have HB2 := Lib.hid hb2
    have HO := Lib.hid hown'
    clear hb2 hown' h0 h1 h2 f0 f1 f2 HB1
    have HSZ := Lib.hid hgrow.size
    have HG := Lib.hid hgrow
    clear hgrow
    go_wp2
    go_ret
    refine ⟨by simp, .slice (some ⟨g, 0, none⟩) (L.length + 1) c', ?_, ?_⟩
    · refine ⟨?_, ?_, hlow⟩
      · exact blk_set HB2.out 0 _
      · have := ownsRow_setCell_other (a := ⟨ab, 0, none⟩) HO.out (by exact row_ne HO.out HB2.out (by decide)) (.slice (some ⟨g, 0, none⟩) (L.length + 1) c')
        simpa using this
    · exact (((Fr.refl _ w).set _ _ (.inl (.inl rfl))).alloc _ |>.grown HG.out (fun k hk => .inl (.inr hk))).set _ _ (.inl (.inl rfl))


set_option maxHeartbeats 400000 in
theorem free_no (w : World) (p : Option Addr) (n : Int) (hl : Calls Try.prog 51 #[.pointer p, .int .i64 n] w fun e w' => e = .returned (.bool false) ∧ w = w') :
    Calls Try.prog 25 #[.pointer p, .int .i64 n] w fun e w' => e = .returned (.bool false) ∧ w = w' := by
  have HL := Lib.hid hl
  clear hl
  go_enter Try.func25, Try.ntmps25
  go_wp2_with (go_at_call 51; refine HL.out.mono ?_; rintro e w' ⟨rfl, rfl⟩)
  go_ret
  exact ⟨rfl, rfl⟩

set_option maxRecDepth 100000 in
set_option maxHeartbeats 800000 in
theorem free_yes (w : World) (ab g len c n : Nat) (free many : Int) (hl : n < len) (hne : ab ≠ g) (h0 : w.cell? ⟨ab, 0, none⟩ = some (.slice (some ⟨g, 0, none⟩) len c)) (h1 : w.cell? ⟨ab, 1, none⟩ = some (.int .i64 free)) (h2 : w.cell? ⟨ab, 2, none⟩ = some (.int .i64 many))
    (f1 : w.frozen? ⟨ab, 1, none⟩ = false) (f2 : w.frozen? ⟨ab, 2, none⟩ = false) (hg : w.cell? ⟨g, n, none⟩ = some (.iface 3 (.int .i64 (-2)))) (fg : w.frozen? ⟨g, n, none⟩ = false) (hm0 : 0 ≤ many) (hm1 : many ≤ 1000000) :
    Calls Try.prog 25 #[.pointer (some ⟨ab, 0, none⟩), .int .i64 n] w fun e w' => e = .returned (.bool true) ∧
      ∃ k, w' = (((w.setCell ⟨ab, 2, none⟩ (.int .i64 (many - 1))).setCell ⟨g, n, none⟩ (.iface 3 (.int .i64 free))).setCell ⟨ab, 1, none⟩ (.int .i64 n)).drewN k := by
  have hbg : ¬ g = ab := fun h => hne h.symm
  have HL := Lib.hid (live_in w ab g len c n (-2) hl h0 hg)
  go_enter Try.func25, Try.ntmps25
  go_wp2_with (go_at_call 51; refine HL.out.mono ?_; rintro e w' ⟨rfl, rfl⟩)
  go_region
  all_goals
    go_wp2
    go_ret
    exact ⟨rfl, 1, rfl⟩

set_option maxHeartbeats 400000 in
theorem all_nil (w : World) : Calls Try.prog 26 #[.pointer none] w fun e w' => e = .returned (.slice none 0 0) ∧ w = w' := by
  go_enter Try.func26, Try.ntmps26
  go_wp2
  go_ret
  exact ⟨rfl, rfl⟩

/-- The numbers below k that are lent, rising. -/
def alls (L : List Int) (k : Nat) : List Int := (List.range k).filterMap fun i : Nat => if L[i]? = some (-2) then some (i : Int) else none
theorem alls_len (L : List Int) (k : Nat) : (alls L k).length ≤ k := by
  have := List.length_filterMap_le (fun i : Nat => if L[i]? = some (-2) then some (i : Int) else none) (List.range k)
  simpa [alls] using this
theorem alls_snoc (L : List Int) (k : Nat) : alls L (k + 1) = alls L k ++ if live L k = true then [(k : Int)] else [] := by
  simp only [alls, List.range_succ, List.filterMap_append, live, Int.toNat_natCast, Int.natCast_nonneg, decide_true, Bool.true_and, decide_eq_true_eq]
  congr 1
  by_cases h : L[k]? = some (-2) <;> simp [h]

set_option maxRecDepth 100000 in
set_option maxHeartbeats 1600000 in
theorem all_any (w : World) (B ab : Nat) (v : Value) (L : List Int) (free many : Int) (h : Ar w B ab v L free many) (hL : L.length ≤ 100000) :
    Calls Try.prog 26 #[.pointer (some ⟨ab, 0, none⟩)] w fun e w' => ∃ u, e = .returned u ∧ w'.ownsRow w.heap.size 3 1 u (alls L L.length).length ((alls L L.length).map (Value.int .i64)) ∧ Below w.heap.size w w' := by
  have h0 := blk_cell h.blk 0
  simp at h0
  obtain ⟨p, c, rfl⟩ := row_slice h.row
  have HA := Lib.hid h
  have hlt := blk_lt h.blk
  clear h
  obtain ⟨i0, hi, hz0, hz1, hz2⟩ := info_parts info3
  go_enter Try.func26, Try.ntmps26
  go_wp2
  go_loopw [3, 4, 12] (fun o _ i wr => ∃ k : Nat, k ≤ L.length ∧ i = .int .i64 k ∧ wr.ownsRow w.heap.size 3 1 o (alls L k).length ((alls L k).map (Value.int .i64)) ∧ Below w.heap.size w wr) (fun _ _ i _ => L.length - (intOf i).toNat)
  case atStart => exact ⟨0, Nat.zero_le _, rfl, by simpa [alls] using World.ownsRow_nil w w.heap.size 3 1, Below.refl _ _⟩
  case round =>
    obtain ⟨k, hk, rfl, hown, hbel⟩ := hrel
    have hAr : Ar _ B ab (.slice p L.length c) L free many := HA.out.fr (Fr.of_below hbel) (fun _ _ h => h)
    have HAr := Lib.hid hAr
    have Hown := Lib.hid hown
    have Hbel := Lib.hid hbel
    have hsn := Lib.hid (alls_snoc L k)
    have hln := alls_len L k
    have hsz := hbel.size
    have hkk : k < L.length ∨ k = L.length := by omega
    clear hAr hbel
    by_cases hlv : live L k = true
    · have HC := Lib.hid (live_any wr B ab _ L free many k HAr.out)
      rw [hlv] at HC
      have Hlv := Lib.hid hlv
      clear hlv
      go_wp2_with (first
        | (at_builtin; refine wpList_append_own _ rfl (.tmp 18) (.tmp 20) 42 rfl w.heap.size 3 i0 (.int .i64 0) 1 8 Try.underlying42 hi hz0 hz1 hz2 rfl (by decide) _ _ _ rfl (hown.alloc _) ⟨wr.heap.size, 0, none⟩ 1 1 [.int .i64 k] rfl rfl ?c1 ?c2 ?c3 ?c4 ?c5 ?_)
        | (go_at_call 51; refine HC.out.mono ?_; rintro e w' ⟨rfl, rfl⟩))
      case c1 => intro j u hj; match j, hj with | 0, hj => simp at hj; subst hj; exact new_cell _ _ _ _ rfl 0
      case c2 => intro u hu; simp at hu; subst hu; rfl
      case c3 => unfold maxLen; omega
      case c4 => omega
      case c5 => simp; omega
      · intro v' w1 hown' hgrow _
        have Hown' := Lib.hid hown'
        have Hgrow := Lib.hid hgrow
        have hlt' : k < L.length := by assumption
        clear hown' hgrow hown
        go_wp2
        go_roundw
        case rel =>
          refine ⟨k + 1, by omega, by go_num, ?_, ?_⟩
          · rw [hsn.out, if_pos Hlv.out]
            simpa using Hown'.out
          · exact ((Hbel.out.alloc (by omega) _).grown Hgrow.out (by simp; omega) (fun j hj => (Hown.out.lt j hj).1))
        case measure => simp [intOf]; omega
      · have hge : ¬ k < L.length := by assumption
        have hkl : k = L.length := by omega
        go_ret
        exact ⟨_, rfl, by rw [← hkl]; exact Hown.out, Hbel.out⟩
    · have HC := Lib.hid (live_any wr B ab _ L free many k HAr.out)
      rw [Bool.not_eq_true] at hlv
      rw [hlv] at HC
      have Hlv := Lib.hid hlv
      clear hlv
      go_wp2_with (go_at_call 51; refine HC.out.mono ?_; rintro e w' ⟨rfl, rfl⟩)
      · go_roundw
        case rel =>
          refine ⟨k + 1, by omega, by go_num, ?_, ?_⟩
          · rw [hsn.out, Hlv.out]
            simpa using Hown.out
          · exact Hbel.out
        case measure => simp [intOf]; omega
      · have hge : ¬ k < L.length := by assumption
        have hkl : k = L.length := by omega
        go_ret
        exact ⟨_, rfl, by rw [← hkl]; exact Hown.out, Hbel.out⟩

end Go.Proofs.Ytkhdnkmocbceeaa.Arena
