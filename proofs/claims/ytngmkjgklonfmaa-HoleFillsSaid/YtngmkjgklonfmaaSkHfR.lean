/- What is used of HfR. -/
import Derived.Test.YtngmkjgklonfmaaSkHfQ
namespace Go.Proofs.Ytngmkjgklonfmaa.Wd
open Go.RowKit Go.Proofs.ZFr Go.Proofs.Ytngmkjgklonfmaa.PNearNearest Go.Proofs.Ytngmkjgklonfmaa.Big Go.Proofs.YtngmkjgklonfmaaW.PrintWords
attribute [local go_sem high] eqB24
set_option linter.unusedVariables false
set_option linter.unusedSimpArgs false
theorem inr_c (a b c d : Hf.P) (ha : Hf.can a) (hb : Hf.can b) (hc : Hf.can c) (hd : Hf.can d) (W : World) : Calls Try.prog 97 #[pt a.1 a.2, pt b.1 b.2, pt c.1 c.2, pt d.1 d.2] W fun e w' => e = .returned (.int .i64 (sgn (Hf.inc a b c d))) ∧ Fr (fun _ => False) W w' :=
  inr_walk a.1 a.2 b.1 b.2 c.1 c.2 d.1 d.2 _ _ _ _ _ _ _ _ _ _ W ⟨ha, hb, hc, hd⟩ rfl rfl rfl rfl rfl rfl rfl rfl rfl rfl
theorem i64_can {p : Hf.P} (h : Hf.can p) : i64P p.1 ∧ i64P p.2 := by
  obtain ⟨h1, h2⟩ := h
  unfold Hf.inP at h1 h2
  exact ⟨⟨by omega, by omega⟩, by omega, by omega⟩
theorem can6_c (p : Hf.P) (h : i64P p.1 ∧ i64P p.2) (W : World) : Calls Try.prog 32 #[pt p.1 p.2] W fun e w' => e = .returned (.bool (decide (Hf.can p))) ∧ Fr (fun _ => False) W w' := by
  have e : decide (inP p.1 ∧ inP p.2) = decide (Hf.can p) := decide_eq_decide.2 Iff.rfl
  rw [← e]
  exact can_walk p.1 p.2 W h.1 h.2
set_option maxRecDepth 100000 in
set_option maxHeartbeats 4000000 in
theorem can8_c (a b c d : Hf.P) (ha : Hf.can a) (hb : Hf.can b) (hc : Hf.can c) (hd : Hf.can d) (W : World) : Calls Try.prog 96 #[pt a.1 a.2, pt b.1 b.2, pt c.1 c.2, pt d.1 d.2] W fun e w' => e = .returned (.bool true) ∧ Fr (fun _ => False) W w' := by
  have CA := Lib.hid (can6_c a (i64_can ha))
  have CB := Lib.hid (can6_c b (i64_can hb))
  have CC := Lib.hid (can6_c c (i64_can hc))
  have CD := Lib.hid (can6_c d (i64_can hd))
  rw [decide_eq_true ha] at CA
  rw [decide_eq_true hb] at CB
  rw [decide_eq_true hc] at CC
  rw [decide_eq_true hd] at CD
  clear ha hb hc hd
  obtain ⟨a1, a2⟩ := a; obtain ⟨b1, b2⟩ := b; obtain ⟨c1, c2⟩ := c; obtain ⟨d1, d2⟩ := d
  unfold pt at CA CB CC CD ⊢
  have HQ := Lib.hid (quad4 W (pb a1 a2) (pb b1 b2) (pb c1 c2) (pb d1 d2))
  unfold pb at HQ
  go_enter Try.func96, Try.ntmps96
  go_wp2_with fail
  obtain ⟨w4, hw4, t1, t2, t3, t4, f4⟩ := HQ.out
  rw [hw4]
  have T1 := Lib.hid t1
  have T2 := Lib.hid t2
  have T3 := Lib.hid t3
  have T4 := Lib.hid t4
  have F4 := Lib.hid f4
  clear hw4 t1 t2 t3 t4 f4 HQ
  have PC := Lib.hid (fun w (h : Fr (fun _ => False) w4 w) => And.intro (point_cells (ZFr.blk_fr T1.out h (fun h => h))) (And.intro (point_cells (ZFr.blk_fr T2.out h (fun h => h))) (And.intro (point_cells (ZFr.blk_fr T3.out h (fun h => h))) (point_cells (ZFr.blk_fr T4.out h (fun h => h))))))
  obtain ⟨⟨p1, p2⟩, ⟨p3, p4⟩, ⟨p5, p6⟩, p7, p8⟩ := PC.out w4 (Fr.refl _ w4)
  go_wp2_with (first
    | (go_at_call 32; have hc_ := CD.out w7; (with_reducible refine hc_.mono ?_); clear hc_; rintro e w8 ⟨rfl, f8⟩; have E8 := Lib.hid (E7.out.trans f8 (fun _ h _ => h)); clear f8)
    | (go_at_call 32; have hc_ := CC.out w6; (with_reducible refine hc_.mono ?_); clear hc_; rintro e w7 ⟨rfl, f7⟩; have E7 := Lib.hid (E6.out.trans f7 (fun _ h _ => h)); obtain ⟨⟨p1, p2⟩, ⟨p3, p4⟩, ⟨p5, p6⟩, p7, p8⟩ := PC.out w7 E7.out; clear f7)
    | (go_at_call 32; have hc_ := CB.out w5; (with_reducible refine hc_.mono ?_); clear hc_; rintro e w6 ⟨rfl, f6⟩; have E6 := Lib.hid (E5.out.trans f6 (fun _ h _ => h)); obtain ⟨⟨p1, p2⟩, ⟨p3, p4⟩, ⟨p5, p6⟩, p7, p8⟩ := PC.out w6 E6.out; clear f6)
    | (go_at_call 32; have hc_ := CA.out w4; (with_reducible refine hc_.mono ?_); clear hc_; rintro e w5 ⟨rfl, f5⟩; have E5 := Lib.hid f5; obtain ⟨⟨p1, p2⟩, ⟨p3, p4⟩, ⟨p5, p6⟩, p7, p8⟩ := PC.out w5 E5.out; clear f5))
  go_ret
  exact ⟨rfl, F4.out.trans E8.out (fun _ h _ => h)⟩
/-- What the document's Conflict tells, of what its calls tell. -/
def cfR (R : Int) (e1 e2 e3 : Bool) (K : Int) (l1 l2 l3 : Bool) (R0 R1 R2 : Int) : Bool :=
  if R = 1 then if e1 then false else if e2 then false else if e3 then false else if K = 0 then
    if l1 then false else if l2 then decide (R2 = 1) else if l3 then decide (R1 = 1) else decide (R0 = 1)
  else decide (0 < K) else false
theorem sgn_zero (n : Int) : sgn n = 0 ↔ n = 0 := by unfold sgn; split <;> (try split) <;> omega
theorem sgn_pos (n : Int) : 0 < sgn n ↔ 0 < n := by unfold sgn; split <;> (try split) <;> omega
theorem cfR_eq (a b c d : Hf.P) : cfR (sgn (Hf.ar a b c)) (beq2 d.1 d.2 a.1 a.2) (beq2 d.1 d.2 b.1 b.2) (beq2 d.1 d.2 c.1 c.2) (sgn (Hf.inc a b c d)) (decide (Hf.gt3 d a b c)) (decide (Hf.gt3 c a b d)) (decide (Hf.gt3 b a c d)) (sgn (Hf.ar d b c)) (sgn (Hf.ar a d c)) (sgn (Hf.ar a b d)) = decide (Hf.Cf a b c d) := by
  have hb : ∀ p q : Hf.P, beq2 p.1 p.2 q.1 q.2 = true ↔ p = q := fun p q => by
    unfold beq2; simp only [Bool.and_eq_true, beq_iff_eq, Prod.ext_iff]
  unfold cfR Hf.Cf Hf.tieC
  rw [Bool.eq_iff_iff]
  simp only [sgn_one, sgn_zero, sgn_pos, hb, decide_eq_true_iff]
  by_cases h1 : 0 < Hf.ar a b c
  · by_cases e1 : d = a
    · simp [h1, e1]
    · by_cases e2 : d = b
      · simp [h1, e1, e2]
      · by_cases e3 : d = c
        · simp [h1, e1, e2, e3]
        · by_cases k : Hf.inc a b c d = 0
          · by_cases l1 : Hf.gt3 d a b c
            · simp [h1, e1, e2, e3, k, l1]
            · by_cases l2 : Hf.gt3 c a b d
              · simp [h1, e1, e2, e3, k, l1, l2]
              · by_cases l3 : Hf.gt3 b a c d
                · simp [h1, e1, e2, e3, k, l1, l2, l3]
                · simp [h1, e1, e2, e3, k, l1, l2, l3]
          · simp [h1, e1, e2, e3, k]
  · simp [h1]
set_option maxRecDepth 100000 in
set_option maxHeartbeats 8000000 in
theorem cr_walk (a1 a2 b1 b2 c1 c2 d1 d2 R K R0 R1 R2 : Int) (e1 e2 e3 l1 l2 l3 : Bool) (W : World)
    (hN : ∀ w, Calls Try.prog 96 #[pt a1 a2, pt b1 b2, pt c1 c2, pt d1 d2] w fun e w' => e = .returned (.bool true) ∧ Fr (fun _ => False) w w')
    (hO : ∀ w, Calls Try.prog 95 #[pt a1 a2, pt b1 b2, pt c1 c2] w fun e w' => e = .returned (.int .i64 R) ∧ Fr (fun _ => False) w w')
    (hO0 : ∀ w, Calls Try.prog 95 #[pt d1 d2, pt b1 b2, pt c1 c2] w fun e w' => e = .returned (.int .i64 R0) ∧ Fr (fun _ => False) w w')
    (hO1 : ∀ w, Calls Try.prog 95 #[pt a1 a2, pt d1 d2, pt c1 c2] w fun e w' => e = .returned (.int .i64 R1) ∧ Fr (fun _ => False) w w')
    (hO2 : ∀ w, Calls Try.prog 95 #[pt a1 a2, pt b1 b2, pt d1 d2] w fun e w' => e = .returned (.int .i64 R2) ∧ Fr (fun _ => False) w w')
    (hI : ∀ w, Calls Try.prog 97 #[pt a1 a2, pt b1 b2, pt c1 c2, pt d1 d2] w fun e w' => e = .returned (.int .i64 K) ∧ Fr (fun _ => False) w w')
    (hL1 : ∀ w, Calls Try.prog 98 #[pt d1 d2, pt a1 a2, pt b1 b2, pt c1 c2] w fun e w' => e = .returned (.bool l1) ∧ Fr (fun _ => False) w w')
    (hL2 : ∀ w, Calls Try.prog 98 #[pt c1 c2, pt a1 a2, pt b1 b2, pt d1 d2] w fun e w' => e = .returned (.bool l2) ∧ Fr (fun _ => False) w w')
    (hL3 : ∀ w, Calls Try.prog 98 #[pt b1 b2, pt a1 a2, pt c1 c2, pt d1 d2] w fun e w' => e = .returned (.bool l3) ∧ Fr (fun _ => False) w w')
    (h1 : beq2 d1 d2 a1 a2 = e1) (h2 : beq2 d1 d2 b1 b2 = e2) (h3 : beq2 d1 d2 c1 c2 = e3) :
    Calls Try.prog 72 #[pt a1 a2, pt b1 b2, pt c1 c2, pt d1 d2] W fun e w' => e = .returned (.bool (cfR R e1 e2 e3 K l1 l2 l3 R0 R1 R2)) ∧ Fr (fun _ => False) W w' := by
  have CN := Lib.hid hN
  have O := Lib.hid hO
  have OA := Lib.hid hO0
  have OB := Lib.hid hO1
  have OC := Lib.hid hO2
  have IC := Lib.hid hI
  have LA := Lib.hid hL1
  have LB := Lib.hid hL2
  have LC := Lib.hid hL3
  clear hN hO hO0 hO1 hO2 hI hL1 hL2 hL3
  unfold pt at CN O OA OB OC IC LA LB LC ⊢
  have HQ := Lib.hid (quad4 W (pb a1 a2) (pb b1 b2) (pb c1 c2) (pb d1 d2))
  unfold pb at HQ
  generalize hV : cfR R e1 e2 e3 K l1 l2 l3 R0 R1 R2 = V
  have cases : (¬ R = 1 ∧ V = false) ∨ (R = 1 ∧ e1 = true ∧ V = false) ∨ (R = 1 ∧ e1 = false ∧ e2 = true ∧ V = false) ∨ (R = 1 ∧ e1 = false ∧ e2 = false ∧ e3 = true ∧ V = false) ∨ (R = 1 ∧ e1 = false ∧ e2 = false ∧ e3 = false ∧ ¬ K = 0 ∧ V = decide (0 < K)) ∨ (R = 1 ∧ e1 = false ∧ e2 = false ∧ e3 = false ∧ K = 0 ∧ l1 = true ∧ V = false) ∨ (R = 1 ∧ e1 = false ∧ e2 = false ∧ e3 = false ∧ K = 0 ∧ l1 = false ∧ l2 = true ∧ V = (R2 == 1)) ∨ (R = 1 ∧ e1 = false ∧ e2 = false ∧ e3 = false ∧ K = 0 ∧ l1 = false ∧ l2 = false ∧ l3 = true ∧ V = (R1 == 1)) ∨ (R = 1 ∧ e1 = false ∧ e2 = false ∧ e3 = false ∧ K = 0 ∧ l1 = false ∧ l2 = false ∧ l3 = false ∧ V = (R0 == 1)) := by
    rw [← hV]
    unfold cfR
    clear CN O OA OB OC IC LA LB LC HQ h1 h2 h3 hV
    by_cases k0 : R = 1
    · cases e1
      · cases e2
        · cases e3
          · by_cases k1 : K = 0
            · cases l1
              · cases l2
                · cases l3
                  · simp [k0, k1]; rfl
                  · simp [k0, k1]; rfl
                · simp [k0, k1]; rfl
              · simp [k0, k1]
            · simp [k0, k1]
          · simp [k0]
        · simp [k0]
      · simp [k0]
    · simp [k0]
  clear hV
  rcases cases with ⟨k0, rfl⟩ | ⟨rfl, rfl, rfl⟩ | ⟨rfl, rfl, rfl, rfl⟩ | ⟨rfl, rfl, rfl, rfl, rfl⟩ | ⟨rfl, rfl, rfl, rfl, k1, rfl⟩ | ⟨rfl, rfl, rfl, rfl, rfl, rfl, rfl⟩ | ⟨rfl, rfl, rfl, rfl, rfl, rfl, rfl, rfl⟩ | ⟨rfl, rfl, rfl, rfl, rfl, rfl, rfl, rfl, rfl⟩ | ⟨rfl, rfl, rfl, rfl, rfl, rfl, rfl, rfl, rfl⟩
  all_goals
    go_enter Try.func72, Try.ntmps72
    go_wp2_with fail
    obtain ⟨w4, hw4, t1, t2, t3, t4, f4⟩ := HQ.out
    rw [hw4]
    have T1 := Lib.hid t1
    have T2 := Lib.hid t2
    have T3 := Lib.hid t3
    have T4 := Lib.hid t4
    have F4 := Lib.hid f4
    clear hw4 t1 t2 t3 t4 f4 HQ
    have PC := Lib.hid (fun w (h : Fr (fun _ => False) w4 w) => And.intro (point_cells (ZFr.blk_fr T1.out h (fun h => h))) (And.intro (point_cells (ZFr.blk_fr T2.out h (fun h => h))) (And.intro (point_cells (ZFr.blk_fr T3.out h (fun h => h))) (point_cells (ZFr.blk_fr T4.out h (fun h => h))))))
    obtain ⟨⟨p1, p2⟩, ⟨p3, p4⟩, ⟨p5, p6⟩, p7, p8⟩ := PC.out w4 (Fr.refl _ w4)
    go_wp2_with (first
      | (go_at_call 95; have hc_ := OA.out w10; (with_reducible refine hc_.mono ?_); clear hc_; rintro e w11 ⟨rfl, f11⟩; have EE := Lib.hid (E10.out.trans f11 (fun _ h _ => h)); clear f11)
      | (go_at_call 95; have hc_ := OB.out w10; (with_reducible refine hc_.mono ?_); clear hc_; rintro e w11 ⟨rfl, f11⟩; have EE := Lib.hid (E10.out.trans f11 (fun _ h _ => h)); clear f11)
      | (go_at_call 95; have hc_ := OC.out w9; (with_reducible refine hc_.mono ?_); clear hc_; rintro e w11 ⟨rfl, f11⟩; have EE := Lib.hid (E9.out.trans f11 (fun _ h _ => h)); clear f11)
      | (go_at_call 98; have hc_ := LC.out w9; (with_reducible refine hc_.mono ?_); clear hc_; rintro e w10 ⟨rfl, f10⟩; have E10 := Lib.hid (E9.out.trans f10 (fun _ h _ => h)); obtain ⟨⟨p1, p2⟩, ⟨p3, p4⟩, ⟨p5, p6⟩, p7, p8⟩ := PC.out w10 E10.out; clear f10)
      | (go_at_call 98; have hc_ := LB.out w8; (with_reducible refine hc_.mono ?_); clear hc_; rintro e w9 ⟨rfl, f9⟩; have E9 := Lib.hid (E8.out.trans f9 (fun _ h _ => h)); obtain ⟨⟨p1, p2⟩, ⟨p3, p4⟩, ⟨p5, p6⟩, p7, p8⟩ := PC.out w9 E9.out; clear f9)
      | (go_at_call 98; have hc_ := LA.out w7; (with_reducible refine hc_.mono ?_); clear hc_; rintro e w8 ⟨rfl, f8⟩; have E8 := Lib.hid (E7.out.trans f8 (fun _ h _ => h)); obtain ⟨⟨p1, p2⟩, ⟨p3, p4⟩, ⟨p5, p6⟩, p7, p8⟩ := PC.out w8 E8.out; clear f8)
      | (go_at_call 97; have hc_ := IC.out w6; (with_reducible refine hc_.mono ?_); clear hc_; rintro e w7 ⟨rfl, f7⟩; have E7 := Lib.hid (E6.out.trans f7 (fun _ h _ => h)); obtain ⟨⟨p1, p2⟩, ⟨p3, p4⟩, ⟨p5, p6⟩, p7, p8⟩ := PC.out w7 E7.out; clear f7)
      | (go_at_call 95; have hc_ := O.out w5; (with_reducible refine hc_.mono ?_); clear hc_; rintro e w6 ⟨rfl, f6⟩; have E6 := Lib.hid (E5.out.trans f6 (fun _ h _ => h)); obtain ⟨⟨p1, p2⟩, ⟨p3, p4⟩, ⟨p5, p6⟩, p7, p8⟩ := PC.out w6 E6.out; clear f6)
      | (go_at_call 96; have hc_ := CN.out w4; (with_reducible refine hc_.mono ?_); clear hc_; rintro e w5 ⟨rfl, f5⟩; have E5 := Lib.hid f5; obtain ⟨⟨p1, p2⟩, ⟨p3, p4⟩, ⟨p5, p6⟩, p7, p8⟩ := PC.out w5 E5.out; clear f5))
    go_ret
    first
      | exact ⟨rfl, F4.out.trans EE.out (fun _ h _ => h)⟩
      | exact ⟨rfl, F4.out.trans E8.out (fun _ h _ => h)⟩
      | exact ⟨rfl, F4.out.trans E7.out (fun _ h _ => h)⟩
      | exact ⟨rfl, F4.out.trans E6.out (fun _ h _ => h)⟩
theorem conflictR_c (a b c d : Hf.P) (ha : Hf.can a) (hb : Hf.can b) (hc : Hf.can c) (hd : Hf.can d) (W : World) : Calls Try.prog 72 #[pt a.1 a.2, pt b.1 b.2, pt c.1 c.2, pt d.1 d.2] W fun e w' => e = .returned (.bool (decide (Hf.Cf a b c d))) ∧ Fr (fun _ => False) W w' := by
  rw [← cfR_eq]
  exact cr_walk _ _ _ _ _ _ _ _ _ _ _ _ _ _ _ _ _ _ _ W
    (fun w => can8_c a b c d ha hb hc hd w) (fun w => orr_c a b c ha hb hc w) (fun w => orr_c d b c hd hb hc w) (fun w => orr_c a d c ha hd hc w) (fun w => orr_c a b d ha hb hd w)
    (fun w => inr_c a b c d ha hb hc hd w) (fun w => last8_c d a b c w) (fun w => last8_c c a b d w) (fun w => last8_c b a c d w) rfl rfl rfl
set_option maxRecDepth 100000 in
set_option maxHeartbeats 4000000 in
theorem left_walk (a1 a2 b1 b2 c1 c2 R : Int) (n1 n2 n3 : Bool) (W : World)
    (hA : ∀ w, Calls Try.prog 32 #[pt a1 a2] w fun e w' => e = .returned (.bool n1) ∧ Fr (fun _ => False) w w')
    (hB : ∀ w, Calls Try.prog 32 #[pt b1 b2] w fun e w' => e = .returned (.bool n2) ∧ Fr (fun _ => False) w w')
    (hC : ∀ w, Calls Try.prog 32 #[pt c1 c2] w fun e w' => e = .returned (.bool n3) ∧ Fr (fun _ => False) w w')
    (hO : n1 = true → n2 = true → n3 = true → ∀ w, Calls Try.prog 95 #[pt a1 a2, pt b1 b2, pt c1 c2] w fun e w' => e = .returned (.int .i64 R) ∧ Fr (fun _ => False) w w') :
    Calls Try.prog 71 #[pt a1 a2, pt b1 b2, pt c1 c2] W fun e w' => e = .returned (.bool (if n1 then if n2 then if n3 then R == 1 else false else false else false)) ∧ Fr (fun _ => False) W w' := by
  have CA := Lib.hid hA
  have CB := Lib.hid hB
  have CC := Lib.hid hC
  have O := Lib.hid hO
  clear hA hB hC hO
  unfold pt at CA CB CC O ⊢
  have HQ := Lib.hid (triE W (pb a1 a2) (pb b1 b2) (pb c1 c2))
  unfold pb at HQ
  have cs : (n1 = false) ∨ (n1 = true ∧ n2 = false) ∨ (n1 = true ∧ n2 = true ∧ n3 = false) ∨ (n1 = true ∧ n2 = true ∧ n3 = true) := by cases n1 <;> cases n2 <;> cases n3 <;> simp
  rcases cs with rfl | ⟨rfl, rfl⟩ | ⟨rfl, rfl, rfl⟩ | ⟨rfl, rfl, rfl⟩
  all_goals
    go_enter Try.func71, Try.ntmps71
    go_wp2_with fail
    obtain ⟨w4, hw4, t1, t2, t3, f4⟩ := HQ.out
    rw [hw4]
    have T1 := Lib.hid t1
    have T2 := Lib.hid t2
    have T3 := Lib.hid t3
    have F4 := Lib.hid f4
    clear hw4 t1 t2 t3 f4 HQ
    have PC := Lib.hid (fun w (h : Fr (fun _ => False) w4 w) => And.intro (point_cells (ZFr.blk_fr T1.out h (fun h => h))) (And.intro (point_cells (ZFr.blk_fr T2.out h (fun h => h))) (point_cells (ZFr.blk_fr T3.out h (fun h => h)))))
    obtain ⟨⟨p1, p2⟩, ⟨p3, p4⟩, p5, p6⟩ := PC.out w4 (Fr.refl _ w4)
    go_wp2_with (first
      | (go_at_call 95; have hc_ := O.out (by trivial) (by trivial) (by trivial) w7; (with_reducible refine hc_.mono ?_); clear hc_; rintro e w8 ⟨rfl, f8⟩; have E8 := Lib.hid (E7.out.trans f8 (fun _ h _ => h)); clear f8)
      | (go_at_call 32; have hc_ := CC.out w6; (with_reducible refine hc_.mono ?_); clear hc_; rintro e w7 ⟨rfl, f7⟩; have E7 := Lib.hid (E6.out.trans f7 (fun _ h _ => h)); obtain ⟨⟨p1, p2⟩, ⟨p3, p4⟩, p5, p6⟩ := PC.out w7 E7.out; clear f7)
      | (go_at_call 32; have hc_ := CB.out w5; (with_reducible refine hc_.mono ?_); clear hc_; rintro e w6 ⟨rfl, f6⟩; have E6 := Lib.hid (E5.out.trans f6 (fun _ h _ => h)); obtain ⟨⟨p1, p2⟩, ⟨p3, p4⟩, p5, p6⟩ := PC.out w6 E6.out; clear f6)
      | (go_at_call 32; have hc_ := CA.out w4; (with_reducible refine hc_.mono ?_); clear hc_; rintro e w5 ⟨rfl, f5⟩; have E5 := Lib.hid f5; obtain ⟨⟨p1, p2⟩, ⟨p3, p4⟩, p5, p6⟩ := PC.out w5 E5.out; clear f5))
    go_ret
    first
      | exact ⟨rfl, F4.out.trans E8.out (fun _ h _ => h)⟩
      | exact ⟨rfl, F4.out.trans E7.out (fun _ h _ => h)⟩
      | exact ⟨rfl, F4.out.trans E6.out (fun _ h _ => h)⟩
      | exact ⟨rfl, F4.out.trans E5.out (fun _ h _ => h)⟩
def i64Q (p : Hf.P) : Prop := i64P p.1 ∧ i64P p.2
theorem left_c (a b c : Hf.P) (ha : i64Q a) (hb : i64Q b) (hc : i64Q c) (W : World) : Calls Try.prog 71 #[pt a.1 a.2, pt b.1 b.2, pt c.1 c.2] W fun e w' => e = .returned (.bool (decide (Hf.Lf a b c))) ∧ Fr (fun _ => False) W w' := by
  have h := left_walk a.1 a.2 b.1 b.2 c.1 c.2 (sgn (Hf.ar a b c)) _ _ _ W (can6_c a ha) (can6_c b hb) (can6_c c hc) (fun h1 h2 h3 w => orr_c a b c (of_decide_eq_true h1) (of_decide_eq_true h2) (of_decide_eq_true h3) w)
  have e : (if decide (Hf.can a) = true then if decide (Hf.can b) = true then if decide (Hf.can c) = true then sgn (Hf.ar a b c) == 1 else false else false else false) = decide (Hf.Lf a b c) := by
    rw [Bool.eq_iff_iff]
    unfold Hf.Lf
    by_cases h1 : Hf.can a
    · by_cases h2 : Hf.can b
      · by_cases h3 : Hf.can c
        · simp [h1, h2, h3, sgn_one]
        · simp [h3]
      · simp [h2]
    · simp [h1]
  rw [e] at h
  exact h
end Go.Proofs.Ytngmkjgklonfmaa.Wd

