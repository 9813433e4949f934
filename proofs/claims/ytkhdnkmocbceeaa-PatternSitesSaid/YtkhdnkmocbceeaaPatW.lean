/- The walks of package pattern. -/
import Derived.Test.YtkhdnkmocbceeaaProg
import Derived.Test.YtkhdnkmocbceeaaZFr
import Derived.Test.YtkhdnkmocbceeaaZMap
import Derived.Deep.QuietTactic
import Derived.BigQuiet
import Derived.Deep.RegionHeld3
import Derived.Deep.RegionLaw
import Derived.Deep.AppendLies
import Derived.RowKit
import Derived.RowKit3
import Derived.WideLaws
import Derived.WalkLawsBesides
import Derived.WalkSpells
import Derived.Lib.Hide
import Derived.Outline
namespace Go.Proofs.Ytkhdnkmocbceeaa.Pat
open Go.RowKit Go.Proofs.ZFr

theorem info61 : (Try.prog.info? 61).map (fun i => (i.zero, i.size, i.bytes)) = some (some (.agg #[.int .i64 0, .int .i64 0, .int .i64 0]), 3, 24) := by kernel_rfl

/-- Places in memory: their ids are their places in the list. -/
def cells3 (p : Int × Int × Int) : List Value := [.int .i64 p.1, .int .i64 p.2.1, .int .i64 p.2.2]
def flat (l : List (Int × Int × Int)) : List Value := l.flatMap cells3
theorem flat_append (l m : List (Int × Int × Int)) : flat (l ++ m) = flat l ++ flat m := by simp [flat]
theorem flat_length (l : List (Int × Int × Int)) : (flat l).length = l.length * 3 := by
  induction l with
  | nil => rfl
  | cons p l ih => simp only [flat, List.flatMap_cons, List.length_append, List.length_cons] at *; rw [ih]; simp [cells3]; omega

/-- A layer in memory. -/
structure Lay (w : World) (B lb : Nat) (v : Value) (l : List (Int × Int × Int)) : Prop where
  blk : w.heap[lb]? = some (.cells #[v] 77 (0, 0))
  row : w.ownsRow B 61 3 v l.length (flat l)
  low : B ≤ lb
def Own (lb : Nat) (v : Value) (k : Nat) : Prop := k = lb ∨ v.ownBlock = some k
theorem Lay.fr {S : Nat → Prop} {w w' : World} {B lb : Nat} {v : Value} {l : List (Int × Int × Int)} (h : Lay w B lb v l) (hg : Fr S w w') (hS : ∀ k, Own lb v k → ¬ S k) : Lay w' B lb v l :=
  ⟨blk_fr h.blk hg (hS lb (.inl rfl)), row_fr h.row hg (fun k hk => hS k (.inr hk)), h.low⟩

set_option maxRecDepth 100000 in
set_option maxHeartbeats 3200000 in
theorem put_any (w : World) (B lb : Nat) (v : Value) (l : List (Int × Int × Int)) (x y : Int) (h : Lay w B lb v l) (hl : l.length ≤ 100000) :
    Calls Try.prog 56 #[.pointer (some ⟨lb, 0, none⟩), .int .i64 x, .int .i64 y] w fun e w' => e = .returned (.tuple #[]) ∧ ∃ v', Lay w' B lb v' (l ++ [((l.length : Int), x, y)]) ∧ Fr (Own lb v) w w' := by
  obtain ⟨p, c, rfl⟩ := row_slice h.row
  have h0 := blk_cell h.blk 0
  have f0 := blk_free h.blk 0
  simp at h0
  have hne := row_ne h.row h.blk (by decide)
  have hlt := blk_lt h.blk
  have hlow := h.low
  have hown := h.row
  have H := Lib.hid h
  clear h
  obtain ⟨i0, hi0, hz0, hz1, hz2⟩ := info_parts info61
  go_enter Try.func56, Try.ntmps56
  go_region_law
    ((refine step_append_lies _ (by rfl) _ _ _ (by rfl) B 61 i0 _ 3 24 Try.underlying23 hi0 hz0 hz1 hz2 rfl (by omega) (.slice p l.length c) l.length (flat l) (by rfl) ((hown.alloc _).drew)
        ⟨w.heap.size, 0, none⟩ 1 1 [.int .i64 l.length, .int .i64 x, .int .i64 y] (by rfl) (by rfl) (World.news_of_block (cs := #[.int .i64 l.length, .int .i64 x, .int .i64 y]) (t := 61) (fr := (0, 0)) (heap_alloc_new w _)) (by simp [Value.oneCell'])
        (by omega) (by unfold maxLen; omega) (by omega) (by simp; omega) (w.heap.size + 1) (by simp) ?_; intro gg cap w1 hown1 hgrow hat hlt'; have hb1 := blk_grown (w := (w.alloc (.cells #[.int .i64 l.length, .int .i64 x, .int .i64 y] 61)).drew) (blk_alloc H.out.blk _) hgrow hne; have k0 := blk_cell hb1 0; have e0 := blk_free hb1 0; simp at k0; have HB1 := Lib.hid hb1; clear hb1))
  all_goals
    have HO := Lib.hid hown1
    have HG := Lib.hid hgrow
    clear hown1 hgrow hat
    go_end0
    refine ⟨rfl, .slice (some ⟨gg, 0, none⟩) (l.length + 1) cap, ⟨?_, ?_, hlow⟩, ?_⟩
    · exact blk_set HB1.out 0 _
    · have := ownsRow_setCell_other (a := ⟨lb, 0, none⟩) HO.out (row_ne HO.out HB1.out (by decide)) (.slice (some ⟨gg, 0, none⟩) (l.length + 1) cap)
      rw [flat_append]
      simpa [flat, cells3] using this
    · exact (((Fr.refl _ w).alloc _).drew.grown HG.out (fun k hk => .inl (.inr hk))).set _ _ (.inl (.inl rfl))

end Go.Proofs.Ytkhdnkmocbceeaa.Pat
