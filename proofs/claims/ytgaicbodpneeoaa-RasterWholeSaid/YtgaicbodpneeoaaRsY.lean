/- Places and a part of a row that come in, as the row opens them. -/
import Derived.Test.YtgaicbodpneeoaaRsX
import Derived.ProofKit
import Derived.OpenShut
import Derived.Deep.Slices
import Derived.Deep.Strs
import Derived.ChangeSame
import Derived.ChangeArms
namespace Go.Proofs.Ytgaicbodpneeoaa.Rs
open Go.RowKit Go.Proofs.ZFr Go.Proofs.Ytgaicbodpneeoaa.PRasterWhole Go.Proofs.Ytgaicbodpneeoaa.Wd Go.Proofs.YtgaicbodpneeoaaW.PrintWords
theorem i64_wf {x : Int} (h : (Lit.int .i64 x).wf = true) : i64Q x := by
  simp only [Lit.wf, Bool.and_eq_true, decide_eq_true_eq] at h
  have h1 : (-9223372036854775808 : Int) ≤ x := h.1
  have h2 : x ≤ 9223372036854775807 := h.2
  exact ⟨h1, by omega⟩
theorem add_k (a : Addr) (i k : Nat) (hk : 0 < k) : (a.add i).add k = a.add (i + k) := by
  unfold Addr.add
  rw [if_neg (show ¬ k = 0 by omega), if_neg (show ¬ i + k = 0 by omega)]
  by_cases h : i = 0
  · rw [if_pos h, h, Nat.zero_add]
  · rw [if_neg h]
    simp [Nat.add_assoc]
theorem mapM3 {f : Nat → Option Value} {cs : List Value} (h : (List.range 3).mapM f = some cs) : ∃ a b c, cs = [a, b, c] ∧ f 0 = some a ∧ f 1 = some b ∧ f 2 = some c := by
  rw [show List.range 3 = [0, 1, 2] from rfl] at h
  simp only [List.mapM_cons, List.mapM_nil, Option.pure_def, Option.bind_eq_bind, Option.bind_eq_some_iff, Option.some.injEq] at h
  obtain ⟨a, ha, bs, ⟨b, hb, cs', ⟨c, hc, d, rfl, rfl⟩, rfl⟩, rfl⟩ := h
  exact ⟨a, b, c, rfl, ha, hb, hc⟩
theorem open_places {H : Type} {enc : TypeId × Value → H} {W : World} {base : Nat} {spare : Nat → Bool} {held : Bool} {A : Option Addr} {len cap : Nat} {x : DataW H × List MemPlace} (h : ∃ fuel, DataW.trod enc Try.prog W base spare held fuel 22 [.slice A len cap] = some x) : ∃ l : List S50, l.length = len ∧ l.length ≤ cap ∧ Kd.C k50 W A l.length l := by
  obtain ⟨fuel, hf⟩ := h
  rcases Go.Deep.open_slice Try.underlying22 hf with ⟨hcs, _⟩ | ⟨a, l, c, m, n, D, Pl, hcs, _, hl, hm, hmm, _, hx⟩
  · simp at hcs
    obtain ⟨rfl, rfl, rfl⟩ := hcs
    exact ⟨[], rfl, Nat.le_refl _, Kd.C_nil _ _⟩
  · simp at hcs
    obtain ⟨rfl, rfl, rfl⟩ := hcs
    have hel : ∀ i, i < len → ∃ p : S50, W.cell? (a.add (i * 3)) = some (.int .i64 p.f0) ∧ W.cell? (a.add (i * 3 + 1)) = some (.int .i64 p.f1.f0) ∧ W.cell? (a.add (i * 3 + 2)) = some (.int .i64 p.f1.f1) := fun i hi => by
      obtain ⟨cs, hc, ht⟩ := hx i (by rw [hmm]; split <;> omega)
      rw [show Try.prog.cellsOf 50 = 3 from by kernel_rfl] at hc
      unfold World.cells? at hc
      split at hc
      · obtain ⟨c0, c1, c2, rfl, h0, h1, h2⟩ := mapM3 hc
        obtain ⟨y0, y1, n1, _, _, t0, t1⟩ := Go.ChangeShapes.trod_struct2 Try.underlying50 ht
        obtain ⟨y2, y3, n2, _, _, t2, t3⟩ := Go.ChangeShapes.trod_struct2 Try.underlying41 t1
        obtain ⟨z, e0, _, _⟩ := DataW.trod_int Try.underlying3 t0
        obtain ⟨X, e1, _, _⟩ := DataW.trod_int Try.underlying2 t2
        obtain ⟨Y, e2, _, _⟩ := DataW.trod_int Try.underlying2 t3
        rw [show Try.prog.cellsOf 3 = 1 from by kernel_rfl] at e0
        rw [show Try.prog.cellsOf 41 = 2 from by kernel_rfl, show Try.prog.cellsOf 2 = 1 from by kernel_rfl] at e1 e2
        simp at e0 e1 e2
        subst e0 e1 e2
        refine ⟨⟨z, ⟨X, Y⟩⟩, ?_, ?_, ?_⟩
        · have := h0; rwa [show (a.add (i * 3)).add 0 = a.add (i * 3) from by unfold Addr.add; rw [if_pos rfl]] at this
        · have := h1; rwa [show (a.add (i * 3)).add 1 = a.add (i * 3 + 1) from add_k _ _ _ (by decide)] at this
        · have := h2; rwa [show (a.add (i * 3)).add 2 = a.add (i * 3 + 2) from add_k _ _ _ (by decide)] at this
      · cases hc
    have hch : ∃ g : Nat → S50, ∀ i, i < len → W.cell? (a.add (i * 3)) = some (.int .i64 (g i).f0) ∧ W.cell? (a.add (i * 3 + 1)) = some (.int .i64 (g i).f1.f0) ∧ W.cell? (a.add (i * 3 + 2)) = some (.int .i64 (g i).f1.f1) :=
      ⟨fun i => if h : i < len then Classical.choose (hel i h) else z50, fun i hi => by
        simp only [dif_pos hi]
        exact Classical.choose_spec (hel i hi)⟩
    obtain ⟨g, hg⟩ := hch
    refine ⟨(List.range len).map g, by simp, by simp; exact hl, by simp, ?_, fun _ => ⟨a, rfl, fun j p hj => ?_⟩⟩
    · simp
      unfold maxLen at hm
      omega
    · have hjl : j < len := by have := (List.getElem?_eq_some_iff.1 hj).1; simpa using this
      have hp : p = g j := by
        rw [List.getElem?_map, List.getElem?_range hjl] at hj
        simpa using hj.symm
      subst hp
      refine ⟨_, rfl, k50_mk W _, fun i u hu => ?_⟩
      obtain ⟨h0, h1, h2⟩ := hg j hjl
      match i, hu with
      | 0, hu => simp at hu; subst hu; exact h0
      | 1, hu => simp at hu; subst hu; exact h1
      | 2, hu => simp at hu; subst hu; exact h2
set_option maxRecDepth 100000 in
theorem open_part {H : Type} {enc : TypeId × Value → H} {W : World} {b base : Nat} {spare : Nat → Bool} {held : Bool} {v : Value} {x : DataW H × List MemPlace} (hv : Value.okWide Try.prog W .any b 24 v) (h : ∃ fuel, DataW.trod enc Try.prog W base spare held fuel 24 v.cells.toList = some x) : ∃ n x y : Int, v = .agg #[.int .i64 n, .int .i64 x, .int .i64 y] ∧ ((Lit.int .i64 n).wf = true ∧ (Lit.int .i64 x).wf = true) ∧ (Lit.int .i64 y).wf = true := by
  obtain ⟨cs, rfl, hcs⟩ : ∃ cs, v = .agg cs ∧ cs.size = 3 := by
    have hh := hv
    simp only [Value.okWide, Try.underlying24] at hh
    obtain ⟨cs, h1, h2, _⟩ := hh
    exact ⟨cs, h1, h2.trans (by kernel_rfl)⟩
  obtain ⟨c0, c1, c2, rfl⟩ : ∃ a b c, cs = #[a, b, c] := by
    rcases cs with ⟨l⟩
    match l, hcs with
    | [a, b, c], _ => exact ⟨a, b, c, rfl⟩
  obtain ⟨fuel, hf⟩ := h
  obtain ⟨y0, y1, y2, n1, _, _, t0, t1, t2⟩ := Go.Deep.trod_struct3 Try.underlying24 hf
  obtain ⟨z, e0, _, w0⟩ := DataW.trod_int Try.underlying2 t0
  obtain ⟨X, e1, _, w1⟩ := DataW.trod_int Try.underlying3 t1
  obtain ⟨Y, e2, _, w2⟩ := DataW.trod_int Try.underlying3 t2
  rw [show Try.prog.cellsOf 2 = 1 from by kernel_rfl] at e0
  rw [show Try.prog.cellsOf 3 = 1 from by kernel_rfl] at e1 e2
  simp [Value.cells] at e0 e1 e2
  subst e0 e1 e2
  exact ⟨z, X, Y, rfl, ⟨w0, w1⟩, w2⟩
theorem law_row (A : Option Addr) (c : Nat) (l : List S50) (n y a t : Int) (W : World) (hC : Kd.C k50 W A l.length l) (hc : l.length ≤ c) (w1 : (Lit.int .i64 y).wf = true ∧ (Lit.int .i64 a).wf = true) (w2 : (Lit.int .i64 t).wf = true) : Calls Try.prog 3 #[.slice A l.length c, .int .i64 n, .agg #[.int .i64 y, .int .i64 a, .int .i64 t]] W fun e w' => e = .returned (.bool true) ∧ Below W.heap.size W w' := by
  have h := law_whole A c (l.map fun p => ⟨p.f0, p.f1.f0, p.f1.f1⟩) n y a t W (site_of hC) (by rw [List.length_map]; exact hc) (i64_wf w1.1) (i64_wf w1.2) (i64_wf w2)
  rw [List.length_map] at h
  exact h.mono fun _ _ ⟨h1, h2⟩ => ⟨h1, h2.below W.heap.size (Nat.le_refl _) (fun _ h => h.elim)⟩
end Go.Proofs.Ytgaicbodpneeoaa.Rs
