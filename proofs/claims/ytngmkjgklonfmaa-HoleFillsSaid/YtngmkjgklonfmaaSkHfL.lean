/- What is used of HfL. -/
import Derived.Test.YtngmkjgklonfmaaJK
import Derived.BigQuiet
namespace Go.Proofs.Ytngmkjgklonfmaa.Wd
open Go.RowKit Go.Proofs.ZFr Go.Proofs.Ytngmkjgklonfmaa.PNearNearest Go.Proofs.Ytngmkjgklonfmaa.Big Go.Proofs.YtngmkjgklonfmaaW.PrintWords
attribute [local go_sem ↓] Go.wp_at_zero Go.wp_at_succ
attribute [local go_sem high] eqB24
theorem wr {n : Int} (h0 : -9223372036854775808 ≤ n) (h1 : n < 9223372036854775808) : IntKind.i64.wrap n = n := IntWalk.i64_in n ⟨h0, by omega⟩
theorem twoP (W : World) (o1 o2 : Obj) : ∃ w2, (W.alloc o1).alloc o2 = w2 ∧ w2.heap[W.heap.size]? = some o1 ∧ w2.heap[W.heap.size + 1]? = some o2 ∧ Fr (fun _ => False) W w2 :=
  ⟨_, rfl, ZFr.blk_alloc (heap_alloc_new W o1) o2, second W o1 o2, ((Fr.refl (fun _ => False) W).alloc o1).alloc o2⟩
def nearB (x y : Int) : Bool := if -8192 < x then if x < 8192 then if -8192 < y then decide (y < 8192) else false else false else false
set_option maxRecDepth 100000 in
set_option maxHeartbeats 4000000 in
theorem near_walk (a1 a2 b1 b2 x y : Int) (hx : IntKind.i64.wrap (b1 - a1) = x) (hy : IntKind.i64.wrap (b2 - a2) = y) (W : World) : Calls Try.prog 126 #[pt a1 a2, pt b1 b2] W fun e w' => e = .returned (.bool (nearB x y)) ∧ Fr (fun _ => False) W w' := by
  have HQ := Lib.hid (twoP W (pb a1 a2) (pb b1 b2))
  unfold pb at HQ
  unfold pt
  have cs : (¬ -8192 < x ∧ nearB x y = false) ∨ (-8192 < x ∧ ¬ x < 8192 ∧ nearB x y = false) ∨ (-8192 < x ∧ x < 8192 ∧ ¬ -8192 < y ∧ nearB x y = false) ∨ (-8192 < x ∧ x < 8192 ∧ -8192 < y ∧ nearB x y = decide (y < 8192)) := by
    unfold nearB
    by_cases h1 : -8192 < x
    · by_cases h2 : x < 8192
      · by_cases h3 : -8192 < y
        · simp [h1, h2, h3]
        · simp [h1, h2, h3]
      · simp [h1, h2]
    · simp [h1]
  generalize nearB x y = V at cs ⊢
  rcases cs with ⟨h1, rfl⟩ | ⟨h1, h2, rfl⟩ | ⟨h1, h2, h3, rfl⟩ | ⟨h1, h2, h3, rfl⟩
  all_goals
    go_enter Try.func126, Try.ntmps126
    go_wp2_with fail
    obtain ⟨w4, hw4, t1, t2, f4⟩ := HQ.out
    rw [hw4]
    have F4 := Lib.hid f4
    obtain ⟨p1, p2⟩ := point_cells t1
    obtain ⟨p3, p4⟩ := point_cells t2
    clear hw4 t1 t2 f4 HQ
    go_quiet (fail)
    go_wp2_with fail
    go_ret
    exact ⟨rfl, F4.out.drewN _⟩
theorem sign_walk (n : Int) (W : World) : Calls Try.prog 127 #[.int .i64 n] W fun e w' => e = .returned (.int .i64 (sgn n)) ∧ Fr (fun _ => False) W w' := by
  unfold sgn
  by_cases h1 : n < 0
  · rw [if_pos h1]
    go_enter Try.func127, Try.ntmps127
    go_wp2_with fail
    go_ret
    exact ⟨rfl, Fr.refl _ _⟩
  · rw [if_neg h1]
    by_cases h2 : n = 0
    · subst h2
      rw [if_pos rfl]
      go_enter Try.func127, Try.ntmps127
      go_wp2_with fail
      go_ret
      exact ⟨rfl, Fr.refl _ _⟩
    · rw [if_neg h2]
      have h3 : 0 < n := by omega
      go_enter Try.func127, Try.ntmps127
      go_wp2_with fail
      go_ret
      exact ⟨rfl, Fr.refl _ _⟩
def cmpR (a1 a2 b1 b2 : Int) : Int := if a1 < b1 then -1 else if a1 = b1 then if a2 < b2 then -1 else if a2 = b2 then 0 else 1 else 1
set_option linter.unusedSimpArgs false
set_option maxRecDepth 100000 in
set_option maxHeartbeats 4000000 in
theorem cmp6_walk (a1 a2 b1 b2 : Int) (W : World) : Calls Try.prog 130 #[pt a1 a2, pt b1 b2] W fun e w' => e = .returned (.int .i64 (cmpR a1 a2 b1 b2)) ∧ Fr (fun _ => False) W w' := by
  have HQ := Lib.hid (twoP W (pb a1 a2) (pb b1 b2))
  unfold pb at HQ
  unfold pt
  have cs : (a1 < b1 ∧ cmpR a1 a2 b1 b2 = -1) ∨ (¬ a1 < b1 ∧ ¬ a1 = b1 ∧ beq2 a1 a2 b1 b2 = false ∧ cmpR a1 a2 b1 b2 = 1) ∨ (¬ a1 < b1 ∧ a1 = b1 ∧ a2 < b2 ∧ cmpR a1 a2 b1 b2 = -1) ∨ (¬ a1 < b1 ∧ a1 = b1 ∧ ¬ a2 < b2 ∧ beq2 a1 a2 b1 b2 = true ∧ cmpR a1 a2 b1 b2 = 0) ∨ (¬ a1 < b1 ∧ a1 = b1 ∧ ¬ a2 < b2 ∧ beq2 a1 a2 b1 b2 = false ∧ cmpR a1 a2 b1 b2 = 1) := by
    unfold cmpR beq2
    by_cases h1 : a1 < b1
    · simp [h1]
    · by_cases h2 : a1 = b1
      · by_cases h3 : a2 < b2
        · simp [h1, h2, h3]
        · by_cases h4 : a2 = b2
          · simp [h1, h2, h3, h4]
          · simp [h1, h2, h3, h4]
      · simp [h1, h2]
  generalize cmpR a1 a2 b1 b2 = V at cs ⊢
  generalize hbq : beq2 a1 a2 b1 b2 = bq at cs
  have FW := Lib.hid (((Fr.refl (fun _ => False) W).alloc (Obj.cells #[Value.int IntKind.i64 a1, Value.int IntKind.i64 a2] 24)).alloc (Obj.cells #[Value.int IntKind.i64 b1, Value.int IntKind.i64 b2] 24))
  clear HQ
  rcases cs with ⟨h1, rfl⟩ | ⟨h1, h2, rfl, rfl⟩ | ⟨h1, h2, h3, rfl⟩ | ⟨h1, h2, h3, rfl, rfl⟩ | ⟨h1, h2, h3, rfl, rfl⟩
  all_goals
    try subst h2
    go_enter Try.func130, Try.ntmps130
    go_wp2_with fail
    go_ret
    exact ⟨rfl, FW.out⟩
theorem cmpR_pos (p q : Hf.P) : (0 < cmpR p.1 p.2 q.1 q.2) ↔ Hf.lt q p := by
  unfold cmpR Hf.lt; split <;> (try split) <;> (try split) <;> (try split) <;> omega
set_option maxRecDepth 100000 in
set_option maxHeartbeats 4000000 in
theorem last8_walk (p1 p2 a1 a2 b1 b2 c1 c2 A B C : Int) (hA : ∀ w, Calls Try.prog 130 #[pt p1 p2, pt a1 a2] w fun e w' => e = .returned (.int .i64 A) ∧ Fr (fun _ => False) w w')
    (hB : ∀ w, Calls Try.prog 130 #[pt p1 p2, pt b1 b2] w fun e w' => e = .returned (.int .i64 B) ∧ Fr (fun _ => False) w w')
    (hC : ∀ w, Calls Try.prog 130 #[pt p1 p2, pt c1 c2] w fun e w' => e = .returned (.int .i64 C) ∧ Fr (fun _ => False) w w') (W : World) :
    Calls Try.prog 98 #[pt p1 p2, pt a1 a2, pt b1 b2, pt c1 c2] W fun e w' => e = .returned (.bool (if 0 < A then if 0 < B then decide (0 < C) else false else false)) ∧ Fr (fun _ => False) W w' := by
  have HQ := Lib.hid (quad4 W (pb p1 p2) (pb a1 a2) (pb b1 b2) (pb c1 c2))
  have CA := Lib.hid hA
  have CB := Lib.hid hB
  have CC := Lib.hid hC
  clear hA hB hC
  unfold pb at HQ
  unfold pt at CA CB CC ⊢
  have cs : (¬ 0 < A ∧ (if 0 < A then if 0 < B then decide (0 < C) else false else false) = false) ∨ (0 < A ∧ ¬ 0 < B ∧ (if 0 < A then if 0 < B then decide (0 < C) else false else false) = false) ∨ (0 < A ∧ 0 < B ∧ (if 0 < A then if 0 < B then decide (0 < C) else false else false) = decide (0 < C)) := by
    by_cases h1 : 0 < A
    · by_cases h2 : 0 < B
      · simp [h1, h2]
      · simp [h1, h2]
    · simp [h1]
  generalize (if 0 < A then if 0 < B then decide (0 < C) else false else false) = V at cs ⊢
  rcases cs with ⟨h1, rfl⟩ | ⟨h1, h2, rfl⟩ | ⟨h1, h2, rfl⟩
  all_goals
    go_enter Try.func98, Try.ntmps98
    go_wp2_with fail
    obtain ⟨w4, hw4, t1, t2, t3, t4, f4⟩ := HQ.out
    rw [hw4]
    have T1 := Lib.hid t1
    have T2 := Lib.hid t2
    have T3 := Lib.hid t3
    have T4 := Lib.hid t4
    have F4 := Lib.hid f4
    clear hw4 t1 t2 t3 t4 f4 HQ
    have PC := Lib.hid (fun w (h : Fr (fun _ => False) w4 w) => And.intro (point_cells (ZFr.blk_fr T1.out h (fun h => h))) (And.intro (point_cells (ZFr.blk_fr T2.out h (fun h => h))) (And.intro (point_cells (ZFr.blk_fr T3.out h (fun h => h))) (point_cells (ZFr.blk_fr T4.out h (fun h => h))))))
    obtain ⟨⟨q1, q2⟩, ⟨q3, q4⟩, ⟨q5, q6⟩, q7, q8⟩ := PC.out w4 (Fr.refl _ w4)
    go_wp2_with (first
      | (go_at_call 130; have hc_ := CC.out w6; (with_reducible refine hc_.mono ?_); clear hc_; rintro e w7 ⟨rfl, f7⟩; have E7 := Lib.hid (E6.out.trans f7 (fun _ h _ => h)); clear f7)
      | (go_at_call 130; have hc_ := CB.out w5; (with_reducible refine hc_.mono ?_); clear hc_; rintro e w6 ⟨rfl, f6⟩; have E6 := Lib.hid (E5.out.trans f6 (fun _ h _ => h)); obtain ⟨⟨q1, q2⟩, ⟨q3, q4⟩, ⟨q5, q6⟩, q7, q8⟩ := PC.out w6 E6.out; clear f6)
      | (go_at_call 130; have hc_ := CA.out w4; (with_reducible refine hc_.mono ?_); clear hc_; rintro e w5 ⟨rfl, f5⟩; have E5 := Lib.hid f5; obtain ⟨⟨q1, q2⟩, ⟨q3, q4⟩, ⟨q5, q6⟩, q7, q8⟩ := PC.out w5 E5.out; clear f5))
    go_ret
    first
      | exact ⟨rfl, F4.out.trans E7.out (fun _ h _ => h)⟩
      | exact ⟨rfl, F4.out.trans E6.out (fun _ h _ => h)⟩
      | exact ⟨rfl, F4.out.trans E5.out (fun _ h _ => h)⟩
theorem last8_c (p a b c : Hf.P) (W : World) : Calls Try.prog 98 #[pt p.1 p.2, pt a.1 a.2, pt b.1 b.2, pt c.1 c.2] W fun e w' => e = .returned (.bool (decide (Hf.gt3 p a b c))) ∧ Fr (fun _ => False) W w' := by
  have h := last8_walk p.1 p.2 a.1 a.2 b.1 b.2 c.1 c.2 _ _ _ (fun w => cmp6_walk _ _ _ _ w) (fun w => cmp6_walk _ _ _ _ w) (fun w => cmp6_walk _ _ _ _ w) W
  have e : (if 0 < cmpR p.1 p.2 a.1 a.2 then if 0 < cmpR p.1 p.2 b.1 b.2 then decide (0 < cmpR p.1 p.2 c.1 c.2) else false else false) = decide (Hf.gt3 p a b c) := by
    rw [Bool.eq_iff_iff, decide_eq_true_iff]
    unfold Hf.gt3
    simp only [cmpR_pos]
    by_cases h1 : Hf.lt a p
    · by_cases h2 : Hf.lt b p
      · simp [h1, h2]
      · simp [h1, h2]
    · simp [h1]
  rw [e] at h
  exact h
end Go.Proofs.Ytngmkjgklonfmaa.Wd

