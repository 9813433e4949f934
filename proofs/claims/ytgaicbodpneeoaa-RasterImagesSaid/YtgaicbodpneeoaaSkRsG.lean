/- What is used of RsG. -/
import Derived.Test.YtgaicbodpneeoaaJG
import Derived.Test.YtgaicbodpneeoaaSkRowS
import Derived.Deep.DeepCutAuto
import Derived.Deep.AppendLies
namespace Go.Proofs.Ytgaicbodpneeoaa.Rs
open Go.RowKit Go.Proofs.ZFr Go.Proofs.Ytgaicbodpneeoaa.PRasterImages Go.Proofs.Ytgaicbodpneeoaa.Wd Go.Proofs.YtgaicbodpneeoaaW.PrintWords
def cellsC (c : Cone) : List Value := [.int .i64 c.x, .int .i64 (hiW c.d), .int .u64 (loW c.d), .int .i64 c.id]
def cellsP (p : Part) : List Value := [.int .i64 p.c.x, .int .i64 (hiW p.c.d), .int .u64 (loW p.c.d), .int .i64 p.c.id, .int .i64 p.fr]
theorem cellsC_len (c : Cone) : (cellsC c).length = 4 := rfl
theorem cellsP_len (c : Part) : (cellsP c).length = 5 := rfl
/-- Cones that lie in memory. -/
def RowC (w : World) (g : Nat) (L : List Cone) : Prop := ∀ i (h : i < L.length) j u, (cellsC L[i])[j]? = some u → w.cell? ⟨g, i * 4 + j, none⟩ = some u
theorem cell_fr {w w' : World} {a : Addr} {v : Value} (h : w.cell? a = some v) (hf : Fr (fun _ => False) w w') : w'.cell? a = some v := by
  have hb := World.block_lt_of_cell? w a h
  have := hf.block a.block hb (fun h => h)
  unfold World.cell? at *
  rw [this]; exact h
theorem RowC.fr {w w' : World} {g : Nat} {L : List Cone} (h : RowC w g L) (hf : Fr (fun _ => False) w w') : RowC w' g L := fun i hi j u hu => cell_fr (h i hi j u hu) hf
def OkS (S : List Part) : Prop := ∀ p ∈ S, okC p.c ∧ okX p.fr
theorem frm_in (a b : Cone) (lo hi : Int) (h1 : okX lo) (h2 : okX hi) : okX (frm a b (hi - lo).toNat lo hi) := by
  by_cases h : lo ≤ hi
  · have := frm_ge a b (hi - lo).toNat lo hi
    have := frm_le a b (hi - lo).toNat lo hi h
    unfold okX at *; omega
  · rw [show (hi - lo).toNat = 0 from by omega, frm]; exact h1
theorem popl_in (c : Cone) (lo hi : Int) (h1 : okX lo) (h2 : okX hi) : ∀ S : List Part, OkS S → OkS (popl c lo hi S).2 ∧ okX (popl c lo hi S).1 ∧ (popl c lo hi S).2.length ≤ S.length
  | [], h => by rw [popl]; exact ⟨h, h1, Nat.le_refl _⟩
  | p :: r, h => by
    have hp := h p (by simp)
    have ih := popl_in c lo hi h1 h2 r (fun q hq => h q (by simp [hq]))
    rw [popl]
    split
    · exact ⟨h, h2, Nat.le_refl _⟩
    · split
      · exact ⟨h, frm_in _ _ _ _ hp.2 h2, Nat.le_refl _⟩
      · exact ⟨ih.1, ih.2.1, by simp; omega⟩
theorem push_in (lo hi : Int) (h1 : okX lo) (h2 : okX hi) (S : List Part) (c : Cone) (hc : okC c) (h : OkS S) : OkS (push lo hi S c) ∧ (push lo hi S c).length ≤ S.length + 1 := by
  obtain ⟨a, b, d⟩ := popl_in c lo hi h1 h2 S h
  unfold push
  split
  · refine ⟨fun p hp => ?_, by simp; omega⟩
    rcases List.mem_cons.1 hp with rfl | hp
    · exact ⟨hc, b⟩
    · exact a p hp
  · exact ⟨a, by omega⟩
end Go.Proofs.Ytgaicbodpneeoaa.Rs

