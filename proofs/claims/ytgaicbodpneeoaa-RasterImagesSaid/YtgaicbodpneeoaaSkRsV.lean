/- What is used of RsV. -/
import Derived.Test.YtgaicbodpneeoaaSkRsU
import Derived.Deep.RegionHeld3
namespace Go.Proofs.Ytgaicbodpneeoaa.Rs
open Go.RowKit Go.Proofs.ZFr Go.Proofs.Ytgaicbodpneeoaa.PRasterImages Go.Proofs.Ytgaicbodpneeoaa.Wd Go.Proofs.YtgaicbodpneeoaaW.PrintWords
def cellsT (p : Site) : List Value := [.int .i64 p.id, .int .i64 p.x, .int .i64 p.y]
theorem cellsT_len (p : Site) : (cellsT p).length = 3 := rfl
theorem add_off (ad : Addr) (i k : Nat) (hk : 0 < k) : ad.add (i + k) = ⟨(ad.add i).block, (ad.add i).off + k, none⟩ := by
  unfold Addr.add
  rw [if_neg (by omega)]
  split
  · next h => subst h; simp
  · simp [Nat.add_assoc]
theorem SiteC.news {w : World} {ad : Addr} {l : List Site} (h : SiteC w (some ad) l) : ∀ (j : Nat) (u : Value), (l.flatMap cellsT)[j]? = some u → w.cell? (ad.add j) = some u := fun j u hj => by
  have hjl := (List.getElem?_eq_some_iff.1 hj).1
  rw [flat_len cellsT_len] at hjl
  have hi : j / 3 < l.length := by omega
  obtain ⟨ad', e, h0, h1, h2⟩ := h (j / 3) hi
  simp only [Option.some.injEq] at e
  subst e
  have h3 := flat_at cellsT_len l (j / 3) (j % 3) hi (by omega)
  rw [show j / 3 * 3 + j % 3 = j from by omega, hj] at h3
  obtain hm | hm | hm : j % 3 = 0 ∨ j % 3 = 1 ∨ j % 3 = 2 := by omega
  · rw [show j = j / 3 * 3 from by omega, h0]; rw [hm] at h3; exact h3.symm
  · rw [show j = j / 3 * 3 + 1 from by omega, add_off _ _ _ (by decide)]; rw [hm] at h3; rw [h3]; exact h1
  · rw [show j = j / 3 * 3 + 2 from by omega, add_off _ _ _ (by decide)]; rw [hm] at h3; rw [h3]; exact h2
theorem row_site {w : World} {B g c n : Nat} {l : List Site} (h : w.ownsRow B 50 3 (.slice (some ⟨g, 0, none⟩) n c) n (l.flatMap cellsT)) : SiteC w (some ⟨g, 0, none⟩) l := fun i hi => by
  have e : (⟨g, 0, none⟩ : Addr).add (i * 3) = ⟨g, i * 3, none⟩ := by unfold Addr.add; split <;> simp_all
  refine ⟨_, rfl, ?_, ?_, ?_⟩
  · rw [e]; exact row_el cellsT_len h hi (j := 0) rfl
  · rw [e]; exact row_el cellsT_len h hi (j := 1) rfl
  · rw [e]; exact row_el cellsT_len h hi (j := 2) rfl
theorem SiteC.take {w : World} {A : Option Addr} {l : List Site} (h : SiteC w A l) (n : Nat) : SiteC w A (l.take n) := fun i hi => by
  have hi' : i < l.length := by rw [List.length_take] at hi; omega
  rw [List.getElem_take]
  exact h i hi'
theorem one_cellT (l : List Site) : ∀ u ∈ l.flatMap cellsT, u.oneCell' = true := fun u hu => by
  obtain ⟨p, _, hp⟩ := List.mem_flatMap.1 hu
  simp [cellsT] at hp
  rcases hp with rfl | rfl | rfl <;> rfl
theorem info_place : (Try.prog.info? 50).map (fun i => (i.zero, i.size, i.bytes)) = some (some (.agg #[.int .i64 0, .int .i64 0, .int .i64 0]), 3, 24) := by kernel_rfl
set_option maxRecDepth 100000 in
set_option maxHeartbeats 4000000 in
theorem few_walk (A : Option Addr) (c : Nat) (l : List Site) (W : World) (h : SiteC W A l) (hc : l.length ≤ c) : Calls Try.prog 5 #[.slice A l.length c] W fun e w' => ∃ g c', e = .returned (.slice (some ⟨g, 0, none⟩) (l.take 6).length c') ∧ SiteC w' (some ⟨g, 0, none⟩) (l.take 6) ∧ Fr (fun _ => False) W w' := by
  have HX := Lib.hid (row_empty W 50 3)
  have F0 := Lib.hid ((Fr.refl (fun _ => False) W).alloc (.cells #[] 50))
  have HS := Lib.hid ((h.take 6).fr F0.out)
  cases A with
  | none =>
    have h0 : l = [] := by
      cases l with
      | nil => rfl
      | cons a l => obtain ⟨_, h', _⟩ := h 0 (by simp); cases h'
    subst h0
    go_enter Try.func5, Try.ntmps5
    go_wp2_with fail
    go_ret
    exact ⟨_, _, rfl, fun i hi => absurd hi (by simp), F0.out⟩
  | some ad =>
    have HH := Lib.hid h
    clear h
    by_cases h6 : 6 < l.length
    · have hl6 : (l.take 6).length = 6 := by rw [List.length_take]; omega
      have h6i : (6 : Int) < (l.length : Int) := by omega
      have h6c : (6 : Int) ≤ (c : Int) := by omega
      rw [hl6]
      have H6 := Lib.hid hl6
      clear hl6 h6
      go_enter Try.func5, Try.ntmps5
      go_wp2_with (at_builtin; refine wp_appN (by rfl) (.tmp 8) (.tmp 9) 22 (by rfl) info_place Try.underlying22 (by rfl) (by decide) (by decide) (by rfl) HX.out (by simp) (m := 6) (by rfl) (news := (l.take 6).flatMap cellsT) (by rw [flat_len cellsT_len, H6.out]) HS.out.news (one_cellT _) (by decide) (by simp) ?_; intro g cap w2 hown2 f2 _; have OX := Lib.hid hown2; have F2 := Lib.hid (F0.out.trans f2 (fun k hk hlt => by simp [Value.ownBlock] at hk; omega)); clear hown2 f2)
      go_ret
      exact ⟨_, _, rfl, row_site (by simpa using OX.out), F2.out⟩
    · have hl6 : l.take 6 = l := List.take_of_length_le (by omega)
      have h6i : ¬ (6 : Int) < (l.length : Int) := by omega
      rw [hl6] at HS ⊢
      have HL := Lib.hid (show l.length ≤ 6 from by omega)
      clear hl6 h6
      go_enter Try.func5, Try.ntmps5
      go_wp2_with (at_builtin; refine wp_appN (by rfl) (.tmp 8) (.tmp 9) 22 (by rfl) info_place Try.underlying22 (by rfl) (by decide) (by decide) (by rfl) HX.out (by simp) (m := l.length) (by rfl) (news := l.flatMap cellsT) (by rw [flat_len cellsT_len]) HS.out.news (one_cellT _) (by have := HL.out; omega) (by simp) ?_; intro g cap w2 hown2 f2 _; have OX := Lib.hid hown2; have F2 := Lib.hid (F0.out.trans f2 (fun k hk hlt => by simp [Value.ownBlock] at hk; omega)); clear hown2 f2)
      go_ret
      have h9 := OX.out
      rw [Nat.zero_add, List.nil_append] at h9
      exact ⟨g, ⟨cap, rfl⟩, row_site h9, F2.out⟩
end Go.Proofs.Ytgaicbodpneeoaa.Rs

