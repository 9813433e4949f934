/- What is used of HfW. -/
import Derived.Test.YtngmkjgklonfmaaSkHfV
import Derived.Test.YtngmkjgklonfmaaSkHoH
import Derived.Test.YtngmkjgklonfmaaJJ
import Derived.BigQuiet
namespace Go.Proofs.Ytngmkjgklonfmaa.Wd
open Go.RowKit Go.Proofs.ZFr Go.Proofs.Ytngmkjgklonfmaa.PNearNearest Go.Proofs.Ytngmkjgklonfmaa.Big Go.Proofs.YtngmkjgklonfmaaW.PrintWords Go.Proofs.Ytngmkjgklonfmaa.Inv
attribute [local go_sem ↓] Go.wp_at_zero Go.wp_at_succ
set_option linter.unusedVariables false
set_option linter.unusedSimpArgs false
theorem flatT_at : ∀ (o : List Hf.Tr) (i : Nat) (h : i < o.length), (flatT o)[i * 3]? = some (.int .i64 (o[i].1 : Int)) ∧ (flatT o)[i * 3 + 1]? = some (.int .i64 (o[i].2.1 : Int)) ∧ (flatT o)[i * 3 + 2]? = some (.int .i64 (o[i].2.2 : Int))
  | [], _, h => absurd h (Nat.not_lt_zero _)
  | q :: L, 0, _ => ⟨rfl, rfl, rfl⟩
  | q :: L, i + 1, h => by
    have h2 := flatT_at L i (by simpa using h)
    have e : flatT (q :: L) = [.int .i64 (q.1 : Int), .int .i64 (q.2.1 : Int), .int .i64 (q.2.2 : Int)] ++ flatT L := rfl
    rw [e, show (i + 1) * 3 = i * 3 + 3 from by omega, List.getElem?_append_right (by simp), List.getElem?_append_right (by simp), List.getElem?_append_right (by simp)]
    simpa using h2
/-- Triangles in memory. -/
def Trs (w : World) (A : Option Addr) (n : Nat) (X Y Z : Nat → Int) : Prop := ∀ i, i < n → ∃ ad, A = some ad ∧ w.cell? (ad.add (i * 3)) = some (.int .i64 (X i)) ∧ w.cell? ⟨(ad.add (i * 3)).block, (ad.add (i * 3)).off + 1, none⟩ = some (.int .i64 (Y i)) ∧ w.cell? ⟨(ad.add (i * 3)).block, (ad.add (i * 3)).off + 2, none⟩ = some (.int .i64 (Z i))
theorem Trs.fr {w w' : World} {A : Option Addr} {n : Nat} {X Y Z : Nat → Int} (h : Trs w A n X Y Z) (hf : Fr (fun _ => False) w w') : Trs w' A n X Y Z := fun i hi => by
  obtain ⟨ad, e, h1, h2, h3⟩ := h i hi
  exact ⟨ad, e, fr_cell h1 hf, fr_cell h2 hf, fr_cell h3 hf⟩
theorem trs_row {w : World} {B : Nat} {v : Value} {o : List Hf.Tr} (h : w.ownsRow B 60 3 v o.length (flatT o)) : ∃ A c, v = .slice A o.length c ∧ Trs w A o.length (fun i => ((o.getD i (0, 0, 0)).1 : Int)) (fun i => ((o.getD i (0, 0, 0)).2.1 : Int)) (fun i => ((o.getD i (0, 0, 0)).2.2 : Int)) := by
  by_cases h0 : o = []
  · subst h0
    obtain ⟨p, c, rfl⟩ := row_slice h
    exact ⟨p, c, rfl, fun i hi => absurd hi (Nat.not_lt_zero _)⟩
  · obtain ⟨g, c, rfl⟩ := row_some h (List.length_pos_iff.2 h0)
    refine ⟨_, c, rfl, fun i hi => ⟨_, rfl, ?_, ?_, ?_⟩⟩
    all_goals
      obtain ⟨h1, h2, h3⟩ := flatT_at o i hi
      rw [add0]
      dsimp only
      rw [show o.getD i (0, 0, 0) = o[i] from by simp [List.getD, hi]]
    · exact row_cell h _ _ h1
    · exact row_cell h _ _ h2
    · exact row_cell h _ _ h3
attribute [local go_sem high] eqA60
set_option maxRecDepth 100000 in
set_option maxHeartbeats 4000000 in
theorem same_walk (A B : Option Addr) (n c d : Nat) (X Y Z : Nat → Int) (W : World) (hn : n ≤ 5000) (ha : Trs W A n X Y Z) (hb : Trs W B n X Y Z) : Calls Try.prog 19 #[.slice A n c, .slice B n d] W fun e w' => e = .returned (.bool true) ∧ Fr (fun _ => False) W w' := by
  have HA := Lib.hid ha
  have HB := Lib.hid hb
  have HN := Lib.hid hn
  clear ha hb hn
  go_enter Try.func19, Try.ntmps19
  go_wp2_with fail
  go_loopw [5] (fun i wr => ∃ k : Nat, k ≤ n ∧ i = .int .i64 (k : Int) ∧ Fr (fun _ => False) W wr) (fun i _ => (n - intOf i).toNat)
  case atStart => exact ⟨0, Nat.zero_le _, rfl, Fr.refl _ _⟩
  case round =>
    obtain ⟨k, hk, rfl, hf⟩ := hrel
    have HF := Lib.hid hf
    clear hf
    by_cases hk1 : k < n
    · have hkd : (k : Int) < (n : Int) := by omega
      have hk5 : (k : Int) < 5000 := by have := HN.out; omega
      obtain ⟨ad, rfl, a1, a2, a3⟩ := (HA.out.fr HF.out) k hk1
      obtain ⟨bd, rfl, b1, b2, b3⟩ := (HB.out.fr HF.out) k hk1
      generalize X k = x at a1 b1
      generalize Y k = y at a2 b2
      generalize Z k = z at a3 b3
      go_wp2_with fail
      go_quiet (fail)
      go_wp2_with fail
      go_roundw
      case rel => exact ⟨k + 1, hk1, by go_num, HF.out.drewN _⟩
      case measure => simp [intOf]; omega
    · have hkn : k = n := by omega
      subst hkn
      go_wp2_with fail
      go_ret
      exact ⟨rfl, HF.out⟩
theorem pts_own {w : World} {B : Nat} {v : Value} {L : List Hf.P} (h : w.ownsRow B 24 2 v L.length (flat L)) : ∃ A c, v = .slice A L.length c ∧ Pts w A L := by
  by_cases h0 : L = []
  · subst h0
    obtain ⟨p, c, rfl⟩ := row_slice h
    exact ⟨p, c, rfl, fun i hi => absurd hi (Nat.not_lt_zero _)⟩
  · obtain ⟨g, c, rfl⟩ := row_some h (List.length_pos_iff.2 h0)
    exact ⟨_, c, rfl, pts_row h⟩
theorem flat_len (L : List Hf.P) : (flat L).length = L.length * 2 := by
  induction L with
  | nil => rfl
  | cons q L ih => rw [show flat (q :: L) = [.int .i64 q.1, .int .i64 q.2] ++ flat L from rfl, List.length_append, ih]; simp; omega
theorem flat_one (L : List Hf.P) : ∀ u ∈ flat L, u.oneCell' = true := by
  intro u hu
  unfold flat at hu
  obtain ⟨q, _, hu⟩ := List.mem_flatMap.1 hu
  simp at hu
  rcases hu with rfl | rfl <;> rfl
theorem addr_one (ad : Addr) (k : Nat) : (⟨(ad.add k).block, (ad.add k).off + 1, none⟩ : Addr) = ad.add (k + 1) := by
  unfold Addr.add
  rw [if_neg (by omega : ¬ k + 1 = 0)]
  split
  · rename_i h; subst h; simp
  · simp [Nat.add_assoc]
theorem pts_cells {w : World} {ad : Addr} {L : List Hf.P} (h : Pts w (some ad) L) : ∀ j u, (flat L)[j]? = some u → w.cell? (ad.add j) = some u := by
  intro j u hu
  have hj : j < L.length * 2 := by have h := (List.getElem?_eq_some_iff.1 hu).1; rwa [flat_len] at h
  obtain ⟨ad', e, h1, h2⟩ := h (j / 2) (by omega)
  cases e
  obtain ⟨f1, f2⟩ := flat_at L (j / 2) (by omega)
  rcases Nat.mod_two_eq_zero_or_one j with hm | hm
  · rw [show j / 2 * 2 = j from by omega] at h1 f1
    rw [h1, ← f1, hu]
  · rw [addr_one] at h2
    rw [show j / 2 * 2 + 1 = j from by omega] at h2 f2
    rw [h2, ← f2, hu]
theorem Pts.take {w : World} {A : Option Addr} {L : List Hf.P} (h : Pts w A L) (n : Nat) : Pts w A (L.take n) := fun i hi => by
  have h1 : i < L.length := by simp at hi; omega
  obtain ⟨ad, e, h2, h3⟩ := h i h1
  exact ⟨ad, e, by rw [List.getElem_take]; exact h2, by rw [List.getElem_take]; exact h3⟩
theorem fillO_len {L : List Hf.P} {o : List Hf.Tr} (h : fillO L = some o) : o.length = L.length - 2 ∧ 3 ≤ L.length := by
  unfold fillO at h
  split at h
  · cases h
  · rename_i hno
    have h2 := fl_len (by simp; omega) h
    rw [List.length_range] at h2
    exact ⟨h2, by omega⟩
end Go.Proofs.Ytngmkjgklonfmaa.Wd

