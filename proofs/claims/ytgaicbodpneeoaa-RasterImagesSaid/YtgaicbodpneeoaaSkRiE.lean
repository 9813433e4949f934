/- What is used of RiE. -/
import Derived.Test.YtgaicbodpneeoaaSkRiD
import Derived.ProofKit
import Derived.OpenShut
import Derived.Deep.Slices
import Derived.Deep.Strs
import Derived.ChangeSame
import Derived.ChangeArms
namespace Go.Proofs.Ytgaicbodpneeoaa.Rs
open Go.RowKit Go.Proofs.ZFr Go.Proofs.Ytgaicbodpneeoaa.PRasterImages Go.Proofs.Ytgaicbodpneeoaa.Wd Go.Proofs.YtgaicbodpneeoaaW.PrintWords
theorem i64_wf {x : Int} (h : (Lit.int .i64 x).wf = true) : i64Q x := by
  simp only [Lit.wf, Bool.and_eq_true, decide_eq_true_eq] at h
  have h1 : (-9223372036854775808 : Int) ≤ x := h.1
  have h2 : x ≤ 9223372036854775807 := h.2
  exact ⟨h1, by omega⟩
theorem add_k (a : Addr) (i k : Nat) (hk : 0 < k) : (a.add i).add k = a.add (i + k) := by
  unfold Addr.add
  rw [if_neg (show ¬ k = 0 by omega), if_neg (show ¬ i + k = 0 by omega)]
  by_cases h : i = 0
  · rw [if_pos h, h, Nat.zero_add]
  · rw [if_neg h]
    simp [Nat.add_assoc]
theorem mapM3 {f : Nat → Option Value} {cs : List Value} (h : (List.range 3).mapM f = some cs) : ∃ a b c, cs = [a, b, c] ∧ f 0 = some a ∧ f 1 = some b ∧ f 2 = some c := by
  rw [show List.range 3 = [0, 1, 2] from rfl] at h
  simp only [List.mapM_cons, List.mapM_nil, Option.pure_def, Option.bind_eq_bind, Option.bind_eq_some_iff, Option.some.injEq] at h
  obtain ⟨a, ha, bs, ⟨b, hb, cs', ⟨c, hc, d, rfl, rfl⟩, rfl⟩, rfl⟩ := h
  exact ⟨a, b, c, rfl, ha, hb, hc⟩
theorem open_places {H : Type} {enc : TypeId × Value → H} {W : World} {base : Nat} {spare : Nat → Bool} {held : Bool} {A : Option Addr} {len cap : Nat} {x : DataW H × List MemPlace} (h : ∃ fuel, DataW.trod enc Try.prog W base spare held fuel 22 [.slice A len cap] = some x) : ∃ l : List S50, l.length = len ∧ l.length ≤ cap ∧ Kd.C k50 W A l.length l := by
  obtain ⟨fuel, hf⟩ := h
  rcases Go.Deep.open_slice Try.underlying22 hf with ⟨hcs, _⟩ | ⟨a, l, c, m, n, D, Pl, hcs, _, hl, hm, hmm, _, hx⟩
  · simp at hcs
    obtain ⟨rfl, rfl, rfl⟩ := hcs
    exact ⟨[], rfl, Nat.le_refl _, Kd.C_nil _ _⟩
  · simp at hcs
    obtain ⟨rfl, rfl, rfl⟩ := hcs
    have hel : ∀ i, i < len → ∃ p : S50, W.cell? (a.add (i * 3)) = some (.int .i64 p.f0) ∧ W.cell? (a.add (i * 3 + 1)) = some (.int .i64 p.f1.f0) ∧ W.cell? (a.add (i * 3 + 2)) = some (.int .i64 p.f1.f1) := fun i hi => by
      obtain ⟨cs, hc, ht⟩ := hx i (by rw [hmm]; split <;> omega)
      rw [show Try.prog.cellsOf 50 = 3 from by kernel_rfl] at hc
      unfold World.cells? at hc
      split at hc
      · obtain ⟨c0, c1, c2, rfl, h0, h1, h2⟩ := mapM3 hc
        obtain ⟨y0, y1, n1, _, _, t0, t1⟩ := Go.ChangeShapes.trod_struct2 Try.underlying50 ht
        obtain ⟨y2, y3, n2, _, _, t2, t3⟩ := Go.ChangeShapes.trod_struct2 Try.underlying41 t1
        obtain ⟨z, e0, _, _⟩ := DataW.trod_int Try.underlying3 t0
        obtain ⟨X, e1, _, _⟩ := DataW.trod_int Try.underlying2 t2
        obtain ⟨Y, e2, _, _⟩ := DataW.trod_int Try.underlying2 t3
        rw [show Try.prog.cellsOf 3 = 1 from by kernel_rfl] at e0
        rw [show Try.prog.cellsOf 41 = 2 from by kernel_rfl, show Try.prog.cellsOf 2 = 1 from by kernel_rfl] at e1 e2
        simp at e0 e1 e2
        subst e0 e1 e2
        refine ⟨⟨z, ⟨X, Y⟩⟩, ?_, ?_, ?_⟩
        · have := h0; rwa [show (a.add (i * 3)).add 0 = a.add (i * 3) from by unfold Addr.add; rw [if_pos rfl]] at this
        · have := h1; rwa [show (a.add (i * 3)).add 1 = a.add (i * 3 + 1) from add_k _ _ _ (by decide)] at this
        · have := h2; rwa [show (a.add (i * 3)).add 2 = a.add (i * 3 + 2) from add_k _ _ _ (by decide)] at this
      · cases hc
    have hch : ∃ g : Nat → S50, ∀ i, i < len → W.cell? (a.add (i * 3)) = some (.int .i64 (g i).f0) ∧ W.cell? (a.add (i * 3 + 1)) = some (.int .i64 (g i).f1.f0) ∧ W.cell? (a.add (i * 3 + 2)) = some (.int .i64 (g i).f1.f1) :=
      ⟨fun i => if h : i < len then Classical.choose (hel i h) else z50, fun i hi => by
        simp only [dif_pos hi]
        exact Classical.choose_spec (hel i hi)⟩
    obtain ⟨g, hg⟩ := hch
    refine ⟨(List.range len).map g, by simp, by simp; exact hl, by simp, ?_, fun _ => ⟨a, rfl, fun j p hj => ?_⟩⟩
    · simp
      unfold maxLen at hm
      omega
    · have hjl : j < len := by have := (List.getElem?_eq_some_iff.1 hj).1; simpa using this
      have hp : p = g j := by
        rw [List.getElem?_map, List.getElem?_range hjl] at hj
        simpa using hj.symm
      subst hp
      refine ⟨_, rfl, k50_mk W _, fun i u hu => ?_⟩
      obtain ⟨h0, h1, h2⟩ := hg j hjl
      match i, hu with
      | 0, hu => simp at hu; subst hu; exact h0
      | 1, hu => simp at hu; subst hu; exact h1
      | 2, hu => simp at hu; subst hu; exact h2
theorem site_of {w : World} {A : Option Addr} {l : List S50} (h : Kd.C k50 w A l.length l) : SiteC w A (l.map fun p => ⟨p.f0, p.f1.f0, p.f1.f1⟩) := fun i hi => by
  rw [List.length_map] at hi
  obtain ⟨ad, e, h0, h1, h2⟩ := at_T50 h (i : Int) (by omega) (by omega)
  rw [Int.toNat_natCast] at h0 h1 h2
  have hr : rd_T50 l (i : Int) = l[i] := by unfold rd_T50; rw [Int.toNat_natCast]; simp [List.getD, hi]
  rw [hr] at h0 h1 h2
  refine ⟨ad, e, ?_, ?_, ?_⟩
  · rw [List.getElem_map]; exact h0
  · rw [List.getElem_map]; exact h1
  · rw [List.getElem_map]; exact h2
theorem law_row_images (A : Option Addr) (c : Nat) (l : List S50) (n s : Int) (W : World) (hC : Kd.C k50 W A l.length l) (hc : l.length ≤ c) (w2 : (Lit.int .i64 s).wf = true) : Calls Try.prog 4 #[.slice A l.length c, .int .i64 n, .int .i64 s] W fun e w' => e = .returned (.bool true) ∧ Below W.heap.size W w' := by
  have h := law_images A c (l.map fun p => ⟨p.f0, p.f1.f0, p.f1.f1⟩) n s W (site_of hC) (by rw [List.length_map]; exact hc) (i64_wf w2)
  rw [List.length_map] at h
  exact h.mono fun _ _ ⟨h1, h2⟩ => ⟨h1, h2.below W.heap.size (Nat.le_refl _) (fun _ h => h.elim)⟩
end Go.Proofs.Ytgaicbodpneeoaa.Rs

