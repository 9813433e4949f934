/- What is used of HfY. -/
import Derived.Test.YtngmkjgklonfmaaSkHfX
import Derived.ProofKit
import Derived.OpenShut
import Derived.Deep.SlicePairs
import Derived.ChangeSame
import Derived.ChangeArms
namespace Go.Proofs.Ytngmkjgklonfmaa.Wd
open Go.RowKit Go.Proofs.ZFr
theorem i64_wfC {x : Int} (h : (Lit.int .i64 x).wf = true) : Big.i64P x := by
  simp only [Lit.wf, Bool.and_eq_true, decide_eq_true_eq] at h
  have h1 : (-9223372036854775808 : Int) ≤ x := h.1
  have h2 : x ≤ 9223372036854775807 := h.2
  exact ⟨h1, by omega⟩
theorem open_corners {H : Type} {enc : TypeId × Value → H} {W : World} {base : Nat} {spare : Nat → Bool} {held : Bool} {A : Option Addr} {len cap : Nat} {x : DataW H × List MemPlace} (h : ∃ fuel, DataW.trod enc Try.prog W base spare held fuel 44 [.slice A len cap] = some x) : ∃ l : List Hf.P, l.length = len ∧ l.length ≤ cap ∧ (Pts W A l ∧ (∀ p ∈ l, i64Q p) ∧ (A = none → l.length = 0 ∧ cap = 0)) := by
  obtain ⟨fuel, hf⟩ := h
  rcases Go.Deep.open_slice_pairs Try.underlying44 Try.underlying24 (by kernel_rfl) rfl rfl (by kernel_rfl) (by kernel_rfl) hf with ⟨hcs, _⟩ | ⟨a, l, c, m, n, V0, V1, D0, D1, P0, P1, hcs, _, hl, hm, hmm, _, hx⟩
  · simp at hcs
    obtain ⟨rfl, rfl, rfl⟩ := hcs
    exact ⟨[], rfl, Nat.le_refl _, fun i hi => absurd hi (Nat.not_lt_zero _), fun p hp => absurd hp (by simp), fun _ => ⟨rfl, rfl⟩⟩
  · simp at hcs
    obtain ⟨rfl, rfl, rfl⟩ := hcs
    have hel : ∀ i, i < len → ∃ p : Hf.P, W.cell? (a.add (i * 2)) = some (.int .i64 p.1) ∧ W.cell? (a.add (i * 2 + 1)) = some (.int .i64 p.2) ∧ i64Q p := fun i hi => by
      obtain ⟨c0, c1, t0, t1⟩ := hx i (by rw [hmm]; split <;> omega)
      obtain ⟨u0, e0, _, w0⟩ := DataW.trod_int Try.underlying2 t0
      obtain ⟨u1, e1, _, w1⟩ := DataW.trod_int Try.underlying2 t1
      simp at e0 e1
      exact ⟨(u0, u1), by rw [c0, e0], by rw [c1, e1], i64_wfC w0, i64_wfC w1⟩
    have hch : ∃ g : Nat → Hf.P, ∀ i, i < len → W.cell? (a.add (i * 2)) = some (.int .i64 (g i).1) ∧ W.cell? (a.add (i * 2 + 1)) = some (.int .i64 (g i).2) ∧ i64Q (g i) :=
      ⟨fun i => if h : i < len then Classical.choose (hel i h) else (0, 0), fun i hi => by
        simp only [dif_pos hi]
        exact Classical.choose_spec (hel i hi)⟩
    obtain ⟨g, hg⟩ := hch
    refine ⟨(List.range len).map g, by simp, by simp; exact hl, fun i hi => ?_, fun p hp => ?_, fun h => by cases h⟩
    · have hil : i < len := by simpa using hi
      obtain ⟨h1, h2, _⟩ := hg i hil
      refine ⟨a, rfl, ?_, ?_⟩
      · simpa using h1
      · rw [addr_one]; simpa using h2
    · obtain ⟨i, hi, rfl⟩ := List.mem_map.1 hp
      exact (hg i (List.mem_range.1 hi)).2.2
theorem law_row4 (A : Option Addr) (c : Nat) (l : List Hf.P) (W : World) (hc : l.length ≤ c) (h : Pts W A l ∧ (∀ p ∈ l, i64Q p) ∧ (A = none → l.length = 0 ∧ c = 0)) : Calls Try.prog 4 #[.slice A l.length c] W fun e w' => e = .returned (.bool true) ∧ Below W.heap.size W w' :=
  (law_fills A c l W h.1 h.2.1 hc h.2.2).mono fun _ _ ⟨h1, h2⟩ => ⟨h1, h2.below W.heap.size (Nat.le_refl _) (fun _ h => h.elim)⟩
end Go.Proofs.Ytngmkjgklonfmaa.Wd

