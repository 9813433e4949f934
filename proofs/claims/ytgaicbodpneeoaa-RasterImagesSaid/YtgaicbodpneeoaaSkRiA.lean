/- What is used of RiA. -/
import Derived.Test.YtgaicbodpneeoaaSkRsW
import Derived.Test.YtgaicbodpneeoaaSkPRasterImagesx0
import Derived.Test.YtgaicbodpneeoaaSkBigP4
namespace Go.Proofs.Ytgaicbodpneeoaa.Rs
open Go.RowKit Go.Proofs.ZFr Go.Proofs.Ytgaicbodpneeoaa.PRasterImages Go.Proofs.Ytgaicbodpneeoaa.Wd Go.Proofs.YtgaicbodpneeoaaW.PrintWords
def toP (p : Site) : S50 := ⟨p.id, ⟨p.x, p.y⟩⟩
/-- By ids, in order. -/
def ins : List Site → Site → List Site
  | [], a => [a]
  | b :: r, a => if b.id > a.id then a :: b :: r else b :: ins r a
theorem ins_len : ∀ (l : List Site) (a : Site), (ins l a).length = l.length + 1
  | [], _ => rfl
  | b :: r, a => by rw [ins]; split; rfl; rw [List.length_cons, ins_len r a, List.length_cons]
theorem ins_mem (x : Int) : ∀ (l : List Site) (a : Site), x ∈ (ins l a).map (·.id) ↔ x ∈ l.map (·.id) ∨ x = a.id
  | [], a => by simp [ins]
  | b :: r, a => by
    rw [ins]; split
    · simp only [List.map_cons, List.mem_cons]
      constructor
      · rintro (h | h | h)
        · exact .inr h
        · exact .inl (.inl h)
        · exact .inl (.inr h)
      · rintro ((h | h) | h)
        · exact .inr (.inl h)
        · exact .inr (.inr h)
        · exact .inl h
    · simp only [List.map_cons, List.mem_cons, ins_mem x r a]
      constructor
      · rintro (h | h | h)
        · exact .inl (.inl h)
        · exact .inl (.inr h)
        · exact .inr h
      · rintro ((h | h) | h)
        · exact .inl h
        · exact .inr (.inl h)
        · exact .inr (.inr h)
theorem put17_go (l : List Site) (a : Site) (hl : l.length ≤ 100) : ∀ (e i k : Nat) (out : List S50) (inn : Bool), i + e = l.length → e < k → out.length ≤ 2 * i + 2 →
    zelligeref17_Put.l0 k (l.map toP) out inn (i : Int) a.id a.x a.y = some (out ++ (if inn = true then (l.drop i).map toP else (ins (l.drop i) a).map toP))
  | 0, i, k, out, inn, hi, hk, ho => by
    obtain ⟨k, rfl⟩ : ∃ m, k = m + 1 := ⟨k - 1, by omega⟩
    rw [zelligeref17_Put.l0, if_neg (by rw [List.length_map]; omega), List.drop_of_length_le (by omega)]
    cases inn
    · rw [if_neg (by simp), if_pos (by omega), if_neg (by simp)]; rfl
    · rw [if_pos rfl, if_pos rfl, List.map_nil, List.append_nil]
  | e + 1, i, k, out, inn, hi, hk, ho => by
    obtain ⟨k, rfl⟩ : ∃ m, k = m + 1 := ⟨k - 1, by omega⟩
    have hil : i < l.length := by omega
    have hw : wrap64 ((i : Int) + 1) = ((i + 1 : Nat) : Int) := by unfold wrap64; omega
    have hr : rd_T50 (l.map toP) (i : Int) = toP l[i] := by
      unfold rd_T50
      rw [Int.toNat_natCast, List.getD_eq_getElem?_getD, List.getElem?_map, List.getElem?_eq_getElem hil]; rfl
    have hx : ∀ p : Site, (⟨(toP p).f0, ⟨(toP p).f1.f0, (toP p).f1.f1⟩⟩ : S50) = toP p := fun _ => rfl
    rw [zelligeref17_Put.l0, if_pos (by rw [List.length_map]; omega), hr, hw, List.drop_eq_getElem_cons hil, hx]
    cases inn
    · rw [if_neg (by simp), if_pos (by omega)]
      by_cases h : l[i].id > a.id
      · rw [if_pos (show (toP l[i]).f0 > a.id from h), if_pos (by omega), Option.bind_some, if_pos (by simp; omega), put17_go l a hl e (i + 1) k _ true (by omega) (by omega) (by simp; omega), if_pos rfl, if_neg (show ¬ false = true by simp), ins, if_pos h]
        simp only [List.append_assoc, List.cons_append, List.nil_append, List.map_cons]; rfl
      · rw [if_neg (show ¬ (toP l[i]).f0 > a.id from h), if_pos (by omega), put17_go l a hl e (i + 1) k _ false (by omega) (by omega) (by simp; omega), if_neg (show ¬ false = true by simp), if_neg (show ¬ false = true by simp), ins, if_neg h]
        simp only [List.append_assoc, List.cons_append, List.nil_append, List.map_cons]
    · rw [if_pos rfl, if_pos (by omega), if_pos (by omega), put17_go l a hl e (i + 1) k _ true (by omega) (by omega) (by simp; omega), if_pos rfl, if_pos rfl]
      simp only [List.append_assoc, List.cons_append, List.nil_append, List.map_cons]
theorem put17_f (l : List Site) (a : Site) (hl : l.length ≤ 100) : zelligeref17_Put.f 200 (l.map toP) a.id a.x a.y = some ((ins l a).map toP) := by
  have h := put17_go l a hl l.length 0 200 [] false (by omega) (by omega) (by simp)
  unfold zelligeref17_Put.f
  exact h.trans (by simp)
theorem kd_site {w : World} {A : Option Addr} {l : List Site} (h : SiteC w A l) (hl : l.length ≤ 1000) : Kd.C k50 w A (l.map toP).length (l.map toP) := by
  by_cases h0 : 0 < l.length
  · obtain ⟨ad, rfl, _⟩ := h 0 h0
    refine ⟨rfl, by simp; omega, fun _ => ⟨_, rfl, fun j x hj => ?_⟩⟩
    have hjl : j < l.length := by have := (List.getElem?_eq_some_iff.1 hj).1; simpa using this
    have hx : x = toP l[j] := by
      rw [List.getElem?_map, List.getElem?_eq_getElem hjl] at hj
      simpa using hj.symm
    subst hx
    refine ⟨_, rfl, k50_mk w _, fun i u hu => ?_⟩
    obtain ⟨ad', e, h1, h2, h3⟩ := h j hjl
    simp only [Option.some.injEq] at e
    subst e
    rw [show k50.sz = 3 from rfl]
    match i, hu with
    | 0, hu => simp at hu; subst hu; exact h1
    | 1, hu => simp at hu; subst hu; rw [add_off _ _ _ (by decide)]; exact h2
    | 2, hu => simp at hu; subst hu; rw [add_off _ _ _ (by decide)]; exact h3
  · have e : l = [] := List.eq_nil_of_length_eq_zero (by omega)
    subst e
    exact ⟨rfl, by simp, fun h => absurd h (by simp)⟩
theorem site_kd {w : World} {A : Option Addr} {l : List Site} {n : Nat} (h : Kd.C k50 w A n (l.map toP)) (hn : n = l.length) : SiteC w A l := fun i hi => by
  subst hn
  obtain ⟨ad, e, h0, h1, h2⟩ := at_T50 h (i : Int) (by omega) (by omega)
  rw [Int.toNat_natCast] at h0 h1 h2
  have hr : rd_T50 (l.map toP) (i : Int) = toP l[i] := by unfold rd_T50; rw [Int.toNat_natCast]; simp [List.getD, hi]
  rw [hr] at h0 h1 h2
  exact ⟨ad, e, h0, h1, h2⟩
theorem put17_c (A : Option Addr) (c : Nat) (l : List Site) (a : Site) (W : World) (h : SiteC W A l) (hc : l.length ≤ c) (hl : l.length ≤ 100) :
    Calls Try.prog 20 #[.slice A l.length c, .agg #[.int .i64 a.id, .int .i64 a.x, .int .i64 a.y]] W fun e w' => ∃ A' c', e = .returned (.slice A' (l.length + 1) c') ∧ SiteC w' A' (ins l a) ∧ l.length + 1 ≤ c' ∧ (∀ x, A' = some x → W.heap.size ≤ x.block) ∧ Fr (fun _ => False) W w' := by
  have hk := zelligeref17_Put.calls 200 A c (l.map toP) a.id a.x a.y _ W (kd_site h (by omega)) (by rw [List.length_map]; exact hc) (put17_f l a hl)
  rw [List.length_map] at hk
  refine hk.mono ?_
  rintro e w' ⟨v, rfl, hr, hb⟩
  have hlen : ((ins l a).map toP).length = l.length + 1 := by rw [List.length_map, ins_len]
  obtain ⟨A', c', rfl, hc', hC⟩ := Kd.R_reads hr
  obtain ⟨_, inner, hown, _⟩ := hr
  have hro := row_own hown
  rw [hlen] at hc' hC hown ⊢
  refine ⟨A', c', rfl, site_kd hC (by rw [ins_len]), hc', fun x hx => ?_, Fr.of_below hb⟩
  rw [hlen] at hro
  obtain ⟨g, c2, hv⟩ := row_some hown (by omega)
  simp only [Value.slice.injEq] at hv
  obtain ⟨rfl, _, _⟩ := hv
  simp only [Option.some.injEq] at hx
  subst hx
  exact (hro g rfl).1
/-- The engine's block. -/
def Eng (w : World) (g : Nat) (n : Int) (l : List Site) : Prop := ∃ A c, w.heap[g]? = some (.cells #[.int .i64 n, .int .i64 0, .slice A l.length c] 59 (0, 0)) ∧ SiteC w A l ∧ l.length ≤ c ∧ (∀ x, A = some x → x.block ≠ g)
theorem Eng.fr {w w' : World} {g : Nat} {n : Int} {l : List Site} (h : Eng w g n l) (hf : Fr (fun _ => False) w w') : Eng w' g n l := by
  obtain ⟨A, c, h1, h2, h3⟩ := h
  exact ⟨A, c, ZFr.blk_fr h1 hf (fun h => h), h2.fr hf, h3⟩
set_option maxRecDepth 100000 in
set_option maxHeartbeats 4000000 in
theorem site_walk (g : Nat) (n x y : Int) (l : List Site) (W : World) (h : Eng W g n l) : Calls Try.prog 18 #[.pointer (some ⟨g, 0, none⟩), .agg #[.int .i64 x, .int .i64 y]] W fun e w' => e = .returned (.bool (decide ((0 ≤ x ∧ x < n) ∧ 0 ≤ y ∧ y < n))) ∧ Fr (fun _ => False) W w' := by
  obtain ⟨R, hR⟩ : ∃ R, decide ((0 ≤ x ∧ x < n) ∧ 0 ≤ y ∧ y < n) = R := ⟨_, rfl⟩
  rw [hR]
  have HRH := Lib.hid hR
  clear hR
  obtain ⟨A, c, hg, _, _⟩ := h
  have T0 := Lib.hid (heap_alloc_new W (Obj.cells #[Value.int IntKind.i64 x, Value.int IntKind.i64 y] 41))
  have G0 := Lib.hid (ZFr.blk_alloc hg (Obj.cells #[Value.int IntKind.i64 x, Value.int IntKind.i64 y] 41))
  have F0 := Lib.hid ((Fr.refl (fun _ => False) W).alloc (Obj.cells #[Value.int IntKind.i64 x, Value.int IntKind.i64 y] 41))
  clear hg
  go_enter Try.func18, Try.ntmps18
  go_upto_region 1 with fail
  generalize W.alloc (Obj.cells #[Value.int IntKind.i64 x, Value.int IntKind.i64 y] 41) = w1 at T0 G0 F0 ⊢
  have c0 := ZFr.blk_cell T0.out 0
  have c1 := ZFr.blk_cell T0.out 1
  have g0 := ZFr.blk_cell G0.out 0
  simp at c0 c1 g0
  by_cases h1 : 0 ≤ x
  · have d1 : decide (0 ≤ x) = true := decide_eq_true h1
    by_cases h2 : x < n
    · have d2 : decide (x < n) = true := decide_eq_true h2
      by_cases h3 : 0 ≤ y
      · have d3 : decide (0 ≤ y) = true := decide_eq_true h3
        obtain ⟨b, hb⟩ : ∃ b, decide (y < n) = b := ⟨_, rfl⟩
        have e : R = b := by rw [← HRH.out, ← hb, decide_eq_decide]; omega
        subst e
        go_quiet (fail)
        go_wp2_with fail
        go_ret
        exact ⟨by first | rfl | (rw [← hb]; rfl) | simp [hb] | simp_all, F0.out.drewN _⟩
      · have d3 : decide (0 ≤ y) = false := decide_eq_false h3
        have e : R = false := by rw [← HRH.out]; exact decide_eq_false (by omega)
        subst e
        go_quiet (fail)
        go_wp2_with fail
        go_ret
        exact ⟨rfl, F0.out.drewN _⟩
    · have d2 : decide (x < n) = false := decide_eq_false h2
      have e : R = false := by rw [← HRH.out]; exact decide_eq_false (by omega)
      subst e
      go_quiet (fail)
      go_wp2_with fail
      go_ret
      exact ⟨rfl, F0.out.drewN _⟩
  · have d1 : decide (0 ≤ x) = false := decide_eq_false h1
    have e : R = false := by rw [← HRH.out]; exact decide_eq_false (by omega)
    subst e
    go_quiet (fail)
    go_wp2_with fail
    go_ret
    exact ⟨rfl, F0.out.drewN _⟩
end Go.Proofs.Ytgaicbodpneeoaa.Rs

