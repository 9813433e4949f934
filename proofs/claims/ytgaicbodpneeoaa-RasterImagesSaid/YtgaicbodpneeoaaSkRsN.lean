/- What is used of RsN. -/
import Derived.Test.YtgaicbodpneeoaaSkRsK
import Derived.Test.YtgaicbodpneeoaaZMapG
namespace Go.Proofs.Ytgaicbodpneeoaa.Rs
open Go.RowKit Go.Proofs.ZFr Go.Proofs.ZMap Go.Proofs.Ytgaicbodpneeoaa.PRasterImages Go.Proofs.Ytgaicbodpneeoaa.Wd Go.Proofs.YtgaicbodpneeoaaW.PrintWords
theorem eqI (w : World) (a b : Int) : (Op.equal 3 (.int .i64 a) (.int .i64 b)).run Try.prog w = .ok (a == b) w := by
  show (Op.equalIn (9999 + 1) 3 (.int .i64 a) (.int .i64 b)).run Try.prog w = _
  go_simp
theorem keyI : KeyT Try.prog 3 encI where
  check := fun w em x => by
    show (Instr.checkKey em 10000 3 (.int .i64 x)).run Try.prog w = .ok () w
    kernel_rfl
  equal := fun w x y => by
    show (Op.equal 3 (.int .i64 x) (.int .i64 y)).run Try.prog w = _
    rw [eqI]
    rfl
  now := ⟨_, Try.underlying3, .inr fun x y => by
    rfl⟩
  stays := fun x => by simp [Instr.sameBits]
/-- All places can be, and none of their ids was told. -/
def gd (n : Int) : List Int → List Site → Bool
  | _, [] => true
  | s, p :: r => if p.x < 0 ∨ p.x ≥ n ∨ p.y < 0 ∨ p.y ≥ n ∨ p.id ∈ s then false else gd n (s ++ [p.id]) r
def goodB (l : List Site) (n : Int) : Bool := decide (1 ≤ n ∧ n ≤ 1073741824 ∧ l ≠ []) && gd n [] l
theorem gd_ok (n : Int) : ∀ (s : List Int) (l : List Site), gd n s l = true → ∀ p ∈ l, okSt n p
  | _, [], _, p, hp => by simp at hp
  | s, q :: r, h, p, hp => by
    rw [gd] at h
    split at h
    · cases h
    · next hq =>
      rcases List.mem_cons.1 hp with rfl | hp
      · unfold okSt; omega
      · exact gd_ok n _ r h p hp
theorem good_ok {l : List Site} {n : Int} (h : goodB l n = true) : (1 ≤ n ∧ n ≤ 1073741824) ∧ l ≠ [] ∧ ∀ p ∈ l, okSt n p := by
  unfold goodB at h
  rw [Bool.and_eq_true, decide_eq_true_iff] at h
  exact ⟨⟨h.1.1, h.1.2.1⟩, h.1.2.2, gd_ok n [] l h.2⟩
set_option maxRecDepth 100000 in
set_option maxHeartbeats 4000000 in
theorem good_walk (A : Option Addr) (cp : Nat) (l : List Site) (n : Int) (W : World) (hR : SiteC W A l) (hl : l.length ≤ 30) :
    Calls Try.prog 11 #[.slice A l.length cp, .int .i64 n] W fun e w' => e = .returned (.bool (goodB l n)) ∧ Fr (fun _ => False) W w' := by
  have HR := Lib.hid hR
  have HL := Lib.hid hl
  obtain ⟨g, hg⟩ : ∃ g, goodB l n = g := ⟨_, rfl⟩
  have HG := Lib.hid hg
  rw [hg]
  clear hg hR hl
  have hmm := @run_makeMap Try.prog
  go_enter Try.func11, Try.ntmps11
  by_cases n1 : n < 1
  · have e : g = false := by rw [← HG.out]; unfold goodB; rw [decide_eq_false (by omega)]; rfl
    subst e
    clear hmm
    go_wp2_with fail
    go_ret
    exact ⟨rfl, Fr.refl _ _⟩
  by_cases n2 : 1073741824 < n
  · have e : g = false := by rw [← HG.out]; unfold goodB; rw [decide_eq_false (by omega)]; rfl
    subst e
    clear hmm
    go_wp2_with fail
    go_ret
    exact ⟨rfl, Fr.refl _ _⟩
  by_cases hz : l.length = 0
  · have e0 : l = [] := List.eq_nil_of_length_eq_zero hz
    have e : g = false := by rw [← HG.out]; unfold goodB; rw [decide_eq_false (fun h => h.2.2 e0)]; rfl
    subst e
    have hzi : ((l.length : Int) == 0) = true := by simp [hz]
    clear hmm
    go_wp2_with fail
    go_ret
    exact ⟨rfl, Fr.refl _ _⟩
  have hzi : ((l.length : Int) == 0) = false := by rw [beq_eq_false_iff_ne]; omega
  have HG' := Lib.hid (show gd n [] l = g from by rw [← HG.out]; unfold goodB; rw [decide_eq_true (show 1 ≤ n ∧ n ≤ 1073741824 ∧ l ≠ [] from ⟨by omega, by omega, fun e => hz (by rw [e]; rfl)⟩)]; rfl)
  clear HG hz
  have HM0 := Lib.hid (MapIs.made (enc := encI) W)
  have F0 := Lib.hid ((Fr.refl (fun _ => False) W).alloc (.map #[] 0))
  go_upto_region 4 with fail
  obtain ⟨w1, hw1⟩ : ∃ w1, W.alloc (.map #[] 0) = w1 := ⟨_, rfl⟩
  rw [hw1] at HM0 F0 ⊢
  clear hw1
  have hbl : ∀ w : World, (zeroValue 4).run Try.prog w = .ok (.bool false) w := fun W => by kernel_rfl
  have HZ := Lib.hid hbl
  clear hbl hzi
  obtain ⟨mb, hmb⟩ : ∃ mb, W.heap.size = mb := ⟨_, rfl⟩
  rw [hmb] at HM0
  rw [hmb]
  have HMB := Lib.hid hmb
  clear hmb
  go_wp2_with fail
  go_loopw [7, 22] (fun _ v22 wr => ∃ (k : Nat), k ≤ l.length ∧ v22 = .int .i64 (k : Int) ∧ MapIs wr encI mb (tru ((l.take k).map (·.id))) ∧ Hid (gd n ((l.take k).map (·.id)) (l.drop k) = g) ∧ Fr (fun _ => False) W wr) (fun _ v22 _ => (l.length - intOf v22).toNat)
  case atStart => exact ⟨0, by omega, rfl, HM0.out, Lib.hid (by simpa using HG'.out), F0.out⟩
  case round =>
    clear HM0 F0
    obtain ⟨k, hk, rfl, hm, HX, hf⟩ := hrel
    have M := Lib.hid hm
    have F := Lib.hid hf
    clear hm hf
    by_cases hkl : k < l.length
    · obtain ⟨p, hp⟩ : ∃ p, l[k] = p := ⟨_, rfl⟩
      obtain ⟨ad, rfl, r0, r1, r2⟩ := HR.out.fr F.out k hkl
      rw [hp] at r0 r1 r2
      have HD := Lib.hid (show l.drop k = p :: l.drop (k + 1) from by rw [List.drop_eq_getElem_cons hkl, hp])
      have HT := Lib.hid (show (l.take (k + 1)).map (·.id) = (l.take k).map (·.id) ++ [p.id] from by rw [List.take_succ_eq_append_getElem hkl, hp]; simp)
      have hkli : (k : Int) < l.length := by omega
      have hk100 : (k : Int) < 100 := by have := HL.out; omega
      clear hp
      obtain ⟨S, hS⟩ : ∃ S, (l.take k).map (·.id) = S := ⟨_, rfl⟩
      rw [hS] at M HX HT
      clear hS
      obtain ⟨pi, px, py⟩ := p
      simp only at r0 r1 r2 HT
      have T9 := Lib.hid (heap_alloc_new wr (Obj.cells #[Value.int IntKind.i64 pi, Value.int IntKind.i64 px, Value.int IntKind.i64 py] 50))
      have F9 := Lib.hid (F.out.alloc (Obj.cells #[Value.int IntKind.i64 pi, Value.int IntKind.i64 px, Value.int IntKind.i64 py] 50))
      have M9 := Lib.hid (M.out.same (w' := wr.alloc (Obj.cells #[Value.int IntKind.i64 pi, Value.int IntKind.i64 px, Value.int IntKind.i64 py] 50)) (Below.heap_alloc wr _ mb M.out.lt))
      clear F M
      go_upto_region 7 with fail
      clear r0 r1 r2
      obtain ⟨w9, hw9⟩ : ∃ w9, wr.alloc (Obj.cells #[Value.int IntKind.i64 pi, Value.int IntKind.i64 px, Value.int IntKind.i64 py] 50) = w9 := ⟨_, rfl⟩
      obtain ⟨g9, hg9⟩ : ∃ g9, wr.heap.size = g9 := ⟨_, rfl⟩
      rw [hw9, hg9] at T9
      rw [hw9] at F9 M9
      rw [hw9, hg9]
      clear hw9 hg9
      obtain ⟨p0, p1, p2⟩ := place_cells T9.out
      by_cases c1 : px < 0
      · have e : g = false := by rw [← HX.out, HD.out, gd, if_pos (by simp only; exact .inl c1)]
        subst e
        clear hmm
        go_wp2_with fail
        go_ret
        exact ⟨rfl, F9.out⟩
      by_cases c2 : n ≤ px
      · have e : g = false := by rw [← HX.out, HD.out, gd, if_pos (by simp only; exact .inr (.inl c2))]
        subst e
        clear hmm
        go_wp2_with fail
        go_ret
        exact ⟨rfl, F9.out⟩
      by_cases c3 : py < 0
      · have e : g = false := by rw [← HX.out, HD.out, gd, if_pos (by simp only; exact .inr (.inr (.inl c3)))]
        subst e
        clear hmm
        go_wp2_with fail
        go_ret
        exact ⟨rfl, F9.out⟩
      by_cases c4 : n ≤ py
      · have e : g = false := by rw [← HX.out, HD.out, gd, if_pos (by simp only; exact .inr (.inr (.inr (.inl c4))))]
        subst e
        clear hmm
        go_wp2_with fail
        go_ret
        exact ⟨rfl, F9.out⟩
      by_cases c5 : pi ∈ S
      · have e : g = false := by rw [← HX.out, HD.out, gd, if_pos (by simp only; exact .inr (.inr (.inr (.inr c5))))]
        subst e
        clear hmm
        go_wp2_with (at_lookup; refine wp_look_g _ (by rfl) (.tmp 51) (.tmp 53) 63 false rfl 4 keyI Try.underlying63 (.bool false) (HZ.out _) mb (tru S) rfl M9.out pi rfl ?_; rw [look_tru, if_pos c5]; simp only [Option.getD_some, Bool.false_eq_true, if_false])
        go_ret
        exact ⟨rfl, F9.out⟩
      · have HC := Lib.hid c5
        clear c5
        clear hmm
        go_wp2_with (first
          | (at_lookup; refine wp_look_g _ (by rfl) (.tmp 51) (.tmp 53) 63 false rfl 4 keyI Try.underlying63 (.bool false) (HZ.out _) mb (tru S) rfl M9.out pi rfl ?_; rw [look_tru, if_neg HC.out]; simp only [Option.getD_none, Bool.false_eq_true, if_false])
          | (at_mapUpdate; refine wp_put _ rfl (.tmp 56) (.tmp 58) (.const (.bool true)) 63 rfl 4 keyI Try.underlying63 mb (tru S) rfl M9.out pi rfl (.bool true) rfl ?_; intro w4 hm4 hg4; have M4 := Lib.hid hm4; have F4 := Lib.hid (F9.out.grown hg4 (fun k hk => .inr (by simp only [Option.some.injEq] at hk; have := HMB.out; omega))); clear hm4 hg4))
        go_roundw
        case rel =>
          refine ⟨k + 1, by omega, by go_num, ?_, Lib.hid ?_, F4.out⟩
          · rw [HT.out, ← put_tru pi S HC.out]; exact M4.out
          · rw [HT.out]
            rw [← HX.out, HD.out, gd, if_neg (by simp only; have := HC.out; simp only [ge_iff_le]; intro h; rcases h with h | h | h | h | h; all_goals first | omega | exact this h)]
        case measure => simp [intOf]; omega
    · have hke : k = l.length := by omega
      subst hke
      have e : g = true := by have h := HX.out; rw [List.drop_of_length_le (Nat.le_refl _), gd] at h; exact h.symm
      subst e
      clear hmm
      go_wp2_with fail
      go_ret
      exact ⟨rfl, F.out⟩
end Go.Proofs.Ytgaicbodpneeoaa.Rs

