/- The law HilbertOrder walked. -/
import Derived.Test.YtkhdnkmocbceeaaOrdQ
import Derived.Test.YtkhdnkmocbceeaaRefP
namespace Go.Proofs.Ytkhdnkmocbceeaa.Ord
open Go.Shelf Go.RowKit Go.Lib Go.Sort Go.Proofs.ZFr
open Go.Proofs.Ytkhdnkmocbceeaa.PHilbertOrder Go.Proofs.YtkhdnkmocbceeaaW.PrintWords

/-- Points that came in. -/
def Rd (w : World) (A : Option Addr) (c : Nat) (l : List (Int × Int)) : Prop :=
  (A = none ∧ c = 0 ∧ l = []) ∨ ∃ ad, A = some ad ∧ l.length ≤ c ∧ ∀ i (h : i < l.length), ad.block < w.heap.size ∧ w.cell? (ad.add (i * 2)) = some (.int .i64 l[i].1) ∧ w.cell? (ad.add (i * 2 + 1)) = some (.int .i64 l[i].2)
theorem rd_kd {w : World} {A : Option Addr} {c : Nat} {l : List (Int × Int)} (h : Rd w A c l) (hl : l.length ≤ 1000) : Kd.C k29 w A (s29 l).length (s29 l) ∧ (s29 l).length ≤ c := by
  rcases h with ⟨rfl, rfl, rfl⟩ | ⟨ad, rfl, hc, hr⟩
  · exact ⟨Kd.C_nil _ _, by simp [s29]⟩
  · refine ⟨⟨rfl, by rw [s29_length]; omega, fun _ => ⟨ad, rfl, fun j p hj => ?_⟩⟩, by rw [s29_length]; exact hc⟩
    have hjl : j < l.length := by have := (List.getElem?_eq_some_iff.1 hj).1; rwa [s29_length] at this
    obtain ⟨_, h0, h1⟩ := hr j hjl
    have hp : p = ⟨l[j].1, l[j].2⟩ := by
      rw [s29, List.getElem?_map, List.getElem?_eq_getElem hjl] at hj
      simpa using hj.symm
    subst hp
    refine ⟨_, rfl, k29_mk w _, fun i u hu => ?_⟩
    match i, hu with
    | 0, hu => simp at hu; subst hu; exact h0
    | 1, hu => simp at hu; subst hu; exact h1
def flat2 (l : List (Int × Int)) : List Value := l.flatMap fun p => [.int .i64 p.1, .int .i64 p.2]
theorem flat2_length (l : List (Int × Int)) : (flat2 l).length = l.length * 2 := by
  induction l with
  | nil => rfl
  | cons p l ih => simp only [flat2, List.flatMap_cons, List.length_append, List.length_cons] at *; rw [ih]; simp; omega
theorem flat2_at : ∀ (l : List (Int × Int)) (i : Nat) (h : i < l.length), (flat2 l)[i * 2]? = some (.int .i64 l[i].1) ∧ (flat2 l)[i * 2 + 1]? = some (.int .i64 l[i].2)
  | [], i, h => absurd h (by simp)
  | p :: l, 0, h => by simp [flat2]
  | p :: l, i + 1, h => by
    have := flat2_at l i (by simpa using h)
    have e : flat2 (p :: l) = .int .i64 p.1 :: .int .i64 p.2 :: flat2 l := rfl
    rw [e, show (i + 1) * 2 = i * 2 + 1 + 1 from by omega]
    simpa using this
theorem rd_cells {w : World} {ad : Addr} {l : List (Int × Int)} (hr : ∀ i (h : i < l.length), w.cell? (ad.add (i * 2)) = some (.int .i64 l[i].1) ∧ w.cell? (ad.add (i * 2 + 1)) = some (.int .i64 l[i].2)) : ∀ j u, (flat2 l)[j]? = some u → w.cell? (ad.add j) = some u := by
  intro j u hj
  have hjl := (List.getElem?_eq_some_iff.1 hj).1
  rw [flat2_length] at hjl
  obtain ⟨i, hi | hi⟩ : ∃ i, j = i * 2 ∨ j = i * 2 + 1 := ⟨j / 2, by omega⟩
  · subst hi
    have hil : i < l.length := by omega
    rw [(flat2_at l i hil).1] at hj
    rw [(hr i hil).1]; exact hj
  · subst hi
    have hil : i < l.length := by omega
    rw [(flat2_at l i hil).2] at hj
    rw [(hr i hil).2]; exact hj
theorem rd_all {w : World} {ad : Addr} {c : Nat} {l : List (Int × Int)} (h : Rd w (some ad) c l) : ∀ j u, (flat2 l)[j]? = some u → w.cell? (ad.add j) = some u := by
  rcases h with ⟨h, _⟩ | ⟨ad', h, _, hr⟩
  · cases h
  · cases h; exact rd_cells (fun i hi => (hr i hi).2)
theorem row_pts {w : World} {B c : Nat} {p : Option Addr} {l : List (Int × Int)} (h : w.ownsRow B 29 2 (.slice p l.length c) l.length (flat2 l)) : Pts w p l := by
  intro i hi
  obtain ⟨h0, h | ⟨g, cap, cur, he, hb, hg, hn, hc, hs, ht⟩⟩ := h
  · omega
  · simp only [Value.slice.injEq, true_and] at he
    obtain ⟨rfl, rfl⟩ := he
    have hcell : ∀ j u, j < l.length * 2 → (flat2 l)[j]? = some u → w.cell? ⟨g, j, none⟩ = some u := by
      intro j u hj hu
      rw [ZFr.blk_cell hg j]
      rw [← ht, List.getElem?_take, if_pos hj, Array.getElem?_toList] at hu
      exact hu
    obtain ⟨f0, f1⟩ := flat2_at l i hi
    exact ⟨g, rfl, ZFr.blk_lt hg, hcell _ _ (by omega) f0, hcell _ _ (by omega) f1⟩
theorem add_block (ad : Addr) (k : Nat) : (ad.add k).block = ad.block := by unfold Addr.add; first | rfl | (split <;> rfl)
theorem Rd.fr {w w' : World} {A : Option Addr} {c : Nat} {l : List (Int × Int)} (h : Rd w A c l) (hf : Fr (fun _ => False) w w') : Rd w' A c l := by
  rcases h with h | ⟨ad, rfl, hc, hr⟩
  · exact .inl h
  · refine .inr ⟨ad, rfl, hc, fun i hi => ?_⟩
    obtain ⟨hb, h0, h1⟩ := hr i hi
    have hk := hf.block ad.block hb (fun h => h)
    refine ⟨Nat.lt_of_lt_of_le hb hf.size, ?_⟩
    have k0 : w'.heap[(ad.add (i * 2)).block]? = w.heap[(ad.add (i * 2)).block]? := by rw [add_block]; exact hk
    have k1 : w'.heap[(ad.add (i * 2 + 1)).block]? = w.heap[(ad.add (i * 2 + 1)).block]? := by rw [add_block]; exact hk
    constructor
    · unfold World.cell? at *; rw [k0]; exact h0
    · unfold World.cell? at *; rw [k1]; exact h1

def ans (b : Int) (l : List (Int × Int)) : List Int := ((seats b l).mergeSort le3).map (·.1)
theorem ans_length (b : Int) (l : List (Int × Int)) : (ans b l).length = l.length := by simp [ans, seats_length]
theorem order_c (b : Int) (A : Option Addr) (c : Nat) (l : List (Int × Int)) (w : World) (hl : l.length ≤ 1000) (hp : Pts w A l) :
    Calls Try.prog 41 #[.int .i64 b, .slice A l.length c] w fun e w' => ∃ p d, e = .returned (.slice p (ans b l).length d) ∧ w'.ownsRow w.heap.size 3 1 (.slice p (ans b l).length d) (ans b l).length ((ans b l).map (Value.int .i64)) ∧ Fr (fun _ => False) w w' := by
  refine (order_walk b A c l w hl hp).mono ?_
  rintro e w' ⟨v, rfl, ho, hf⟩
  obtain ⟨p, d, rfl⟩ := row_slice ho
  rw [← ans_length b l] at ho
  refine ⟨p, d, by rw [ans_length], ?_, hf⟩
  rw [show (ans b l).map (Value.int .i64) = ((seats b l).mergeSort le3).map (fun s => Value.int .i64 s.1) from by unfold ans; rw [List.map_map]; rfl]
  exact ho
theorem ref_c (b : Int) (A : Option Addr) (c : Nat) (l : List (Int × Int)) (w : World) (hl : l.length ≤ 16) (h : Rd w A c l) :
    Calls Try.prog 42 #[.int .i64 b, .slice A l.length c] w fun e w' => ∃ p d, e = .returned (.slice p (ans b l).length d) ∧ w'.ownsRow w.heap.size 3 1 (.slice p (ans b l).length d) (ans b l).length ((ans b l).map (Value.int .i64)) ∧ Fr (fun _ => False) w w' := by
  obtain ⟨hC, hc⟩ := rd_kd h (by omega)
  have := zelligeref32_Order.calls 1000 b A c (s29 l) _ w hC hc (order_f b l hl)
  rw [s29_length] at this
  refine this.mono ?_
  rintro e w' ⟨v, rfl, hR, hb⟩
  have ho := Kd.own_of_R hR
  obtain ⟨p, d, rfl⟩ := row_slice ho
  exact ⟨p, d, rfl, ho, Fr.of_below hb⟩
theorem lives_c (w : World) : Calls Try.prog 20 #[] w fun e w' => e = .returned (.bool true) ∧ Fr (fun _ => False) w w' :=
  (PHilbertIndex.zelligelaw32_lives.calls 80 true w (FnHilbertIndex.lives 80 (by omega))).mono fun _ _ ⟨he, hb⟩ => ⟨he, Fr.of_below hb⟩

theorem info29 : (Try.prog.info? 29).map (fun i => (i.zero, i.size, i.bytes)) = some (some (.agg #[.int .i64 0, .int .i64 0]), 2, 16) := by kernel_rfl

set_option maxRecDepth 100000 in
set_option maxHeartbeats 3200000 in
theorem law_some (b : Int) (ad : Addr) (c : Nat) (l : List (Int × Int)) (w : World) (hl : l.length ≤ 16) (h : Rd w (some ad) c l) :
    Calls Try.prog 12 #[.int .i64 b, .slice (some ad) l.length c] w fun e w' => e = .returned (.bool true) ∧ Fr (fun _ => False) w w' := by
  obtain ⟨i0, hi0, hz0, hz1, hz2⟩ := info_parts info29
  have HH := Lib.hid h
  clear h
  have hl' : ¬ (16 : Int) < l.length := by omega
  have hownE : (w.alloc (.cells #[] 29)).ownsRow w.heap.size 29 2 (.slice (some ⟨w.heap.size, 0, none⟩) 0 0) 0 [] := World.ownsRow_lit w #[] 0 (by omega) (by unfold maxLen; omega) rfl
  go_enter Try.func12, Try.ntmps12
  go_wp2_with (at_builtin; refine wpList_append_own_at _ rfl (.tmp 11) (.tmp 12) 57 rfl w.heap.size 29 i0 _ 2 16 Try.underlying57 hi0 hz0 hz1 hz2 rfl (by decide) (.slice (some ⟨w.heap.size, 0, none⟩) 0 0) 0 [] rfl hownE ad l.length c (flat2 l) rfl (flat2_length l) ?d1 ?d2 ?d3 ?d4 ?d5 ?more)
  case d1 => exact rd_all (HH.out.fr ((Fr.refl _ w).alloc _))
  case d2 => intro u hu; obtain ⟨p, _, hp⟩ := List.mem_flatMap.1 hu; simp at hp; rcases hp with rfl | rfl <;> rfl
  case d3 => unfold maxLen; omega
  case d4 => omega
  case more =>
    intro v1 w1 hown1 hgrow _ _
    obtain ⟨p1, c1, rfl⟩ := row_slice hown1
    have f1 : Fr (fun _ => False) w w1 := ((Fr.refl _ w).alloc _).grown hgrow (fun k hk => by simp [Value.ownBlock] at hk; omega)
    have hs := order_c b p1 c1 l w1 (by omega) (row_pts hown1)
    have HF1 := Lib.hid f1
    clear hown1 hgrow f1 hownE
    go_wp2_with (first
      | (go_at_call 41; refine hs.mono ?_; rintro e w2 ⟨p2, d2, rfl, o2, f2⟩; have HF2 := Lib.hid f2; have HO2 := Lib.hid o2; clear f2 o2)
      | (go_at_call 42; refine (ref_c b (some ad) c l w2 hl ((HH.out.fr HF1.out).fr HF2.out)).mono ?_; rintro e w3 ⟨p3, d3, rfl, o3, f3⟩; have HF3 := Lib.hid f3; have HO3 := Lib.hid o3; clear f3 o3)
      | (go_at_call 36; refine (Arena.ints_any w3 _ _ p2 p3 d2 d3 (ans b l) (ans b l) (row_fr HO2.out HF3.out (fun _ _ h => h)) HO3.out (by rw [ans_length]; omega)).mono ?_; rintro e w4 ⟨rfl, q4, rfl⟩)
      | (go_at_call 20; refine (lives_c _).mono ?_; rintro e w5 ⟨rfl, f5⟩; have HF5 := Lib.hid f5; clear f5))
    go_ret
    exact ⟨rfl, (((HF1.out.trans HF2.out (fun _ h _ => h)).trans HF3.out (fun _ h _ => h)).drewN _).trans HF5.out (fun _ h _ => h)⟩
set_option maxRecDepth 100000 in
set_option maxHeartbeats 3200000 in
theorem law_many (b : Int) (ad : Addr) (c n : Nat) (l : List (Int × Int)) (w : World) (hn : 16 < n) (hc : n ≤ c) (hl : l.length = 16) (h : Rd w (some ad) c l) :
    Calls Try.prog 12 #[.int .i64 b, .slice (some ad) n c] w fun e w' => e = .returned (.bool true) ∧ Fr (fun _ => False) w w' := by
  obtain ⟨i0, hi0, hz0, hz1, hz2⟩ := info_parts info29
  have HH := Lib.hid h
  clear h
  have hl' : (16 : Int) < n := by omega
  have hc' : (16 : Int) ≤ c := by omega
  have h42 := fun W hW => ref_c b (some ad) c l W (by omega) hW
  rw [hl] at h42
  have hownE : (w.alloc (.cells #[] 29)).ownsRow w.heap.size 29 2 (.slice (some ⟨w.heap.size, 0, none⟩) 0 0) 0 [] := World.ownsRow_lit w #[] 0 (by omega) (by unfold maxLen; omega) rfl
  go_enter Try.func12, Try.ntmps12
  go_wp2_with (at_builtin; refine wpList_append_own_at _ rfl (.tmp 11) (.tmp 12) 57 rfl w.heap.size 29 i0 _ 2 16 Try.underlying57 hi0 hz0 hz1 hz2 rfl (by decide) (.slice (some ⟨w.heap.size, 0, none⟩) 0 0) 0 [] rfl hownE ad 16 c (flat2 l) rfl ((flat2_length l).trans (by rw [hl])) ?d1 ?d2 ?d3 ?d4 ?d5 ?more)
  case d1 => exact rd_all (HH.out.fr ((Fr.refl _ w).alloc _))
  case d2 => intro u hu; obtain ⟨p, _, hp⟩ := List.mem_flatMap.1 hu; simp at hp; rcases hp with rfl | rfl <;> rfl
  case d3 => unfold maxLen; omega
  case d4 => omega
  case d5 => simp
  case more =>
    intro v1 w1 hown1 hgrow _ _
    obtain ⟨p1, c1, rfl⟩ := row_slice hown1
    have f1 : Fr (fun _ => False) w w1 := ((Fr.refl _ w).alloc _).grown hgrow (fun k hk => by simp [Value.ownBlock] at hk; omega)
    rw [← hl] at hown1
    have hs := order_c b p1 c1 l w1 (by omega) (row_pts hown1)
    rw [hl] at hs
    have HF1 := Lib.hid f1
    clear hown1 hgrow f1 hownE
    go_wp2_with (first
      | (go_at_call 41; refine hs.mono ?_; rintro e w2 ⟨p2, d2, rfl, o2, f2⟩; have HF2 := Lib.hid f2; have HO2 := Lib.hid o2; clear f2 o2)
      | (go_at_call 42; refine (h42 w2 ((HH.out.fr HF1.out).fr HF2.out)).mono ?_; rintro e w3 ⟨p3, d3, rfl, o3, f3⟩; have HF3 := Lib.hid f3; have HO3 := Lib.hid o3; clear f3 o3)
      | (go_at_call 36; refine (Arena.ints_any w3 _ _ p2 p3 d2 d3 (ans b l) (ans b l) (row_fr HO2.out HF3.out (fun _ _ h => h)) HO3.out (by rw [ans_length]; omega)).mono ?_; rintro e w4 ⟨rfl, q4, rfl⟩)
      | (go_at_call 20; refine (lives_c _).mono ?_; rintro e w5 ⟨rfl, f5⟩; have HF5 := Lib.hid f5; clear f5))
    go_ret
    exact ⟨rfl, (((HF1.out.trans HF2.out (fun _ h _ => h)).trans HF3.out (fun _ h _ => h)).drewN _).trans HF5.out (fun _ h _ => h)⟩
set_option maxRecDepth 100000 in
set_option maxHeartbeats 3200000 in
theorem law_none (b : Int) (w : World) :
    Calls Try.prog 12 #[.int .i64 b, .slice none 0 0] w fun e w' => e = .returned (.bool true) ∧ Fr (fun _ => False) w w' := by
  have hs := fun g W => order_c b (some ⟨g, 0, none⟩) 0 [] W (by simp) (fun i hi => absurd hi (by simp))
  have h42 := fun W => ref_c b none 0 [] W (by simp) (.inl ⟨rfl, rfl, rfl⟩)
  simp only [List.length_nil] at hs h42
  go_enter Try.func12, Try.ntmps12
  go_wp2_with (first
    | (go_at_call 41; refine (hs _ _).mono ?_; rintro e w2 ⟨p2, d2, rfl, o2, f2⟩; have HF2 := Lib.hid f2; have HO2 := Lib.hid o2; clear f2 o2)
    | (go_at_call 42; refine (h42 w2).mono ?_; rintro e w3 ⟨p3, d3, rfl, o3, f3⟩; have HF3 := Lib.hid f3; have HO3 := Lib.hid o3; clear f3 o3)
    | (go_at_call 36; refine (Arena.ints_any w3 _ _ p2 p3 d2 d3 (ans b []) (ans b []) (row_fr HO2.out HF3.out (fun _ _ h => h)) HO3.out (by rw [ans_length]; simp)).mono ?_; rintro e w4 ⟨rfl, q4, rfl⟩)
    | (go_at_call 20; refine (lives_c _).mono ?_; rintro e w5 ⟨rfl, f5⟩; have HF5 := Lib.hid f5; clear f5))
  go_ret
  exact ⟨rfl, (((((Fr.refl _ w).alloc _).trans HF2.out (fun _ h _ => h)).trans HF3.out (fun _ h _ => h)).drewN _).trans HF5.out (fun _ h _ => h)⟩

theorem cell_lt {w : World} {a : Addr} {v : Value} (h : w.cell? a = some v) : a.block < w.heap.size := by
  unfold World.cell? at h
  split at h
  · rename_i hb; exact ZFr.blk_lt hb
  · cases h
theorem rd_of {w : World} {a : Addr} {len cap : Nat} (hl : len ≤ cap) (hx : ∀ i, i < len → ∃ x y, w.cell? (a.add (i * 2)) = some (.int .i64 x) ∧ w.cell? (a.add (i * 2 + 1)) = some (.int .i64 y)) :
    ∃ l : List (Int × Int), l.length = len ∧ Rd w (some a) cap l := by
  let g : Nat → Int := fun j => match w.cell? (a.add j) with | some (.int _ x) => x | _ => 0
  refine ⟨(List.range len).map fun i => (g (i * 2), g (i * 2 + 1)), by simp, .inr ⟨a, rfl, by simpa using hl, fun i hi => ?_⟩⟩
  have hi' : i < len := by simpa using hi
  obtain ⟨x, y, h0, h1⟩ := hx i hi'
  have e0 : g (i * 2) = x := by simp only [g, h0]
  have e1 : g (i * 2 + 1) = y := by simp only [g, h1]
  refine ⟨by have := cell_lt h0; rwa [add_block] at this, ?_⟩
  rw [List.getElem_map, List.getElem_range]
  simp only [e0, e1]
  exact ⟨h0, h1⟩
theorem law_all (b : Int) (A : Option Addr) (c : Nat) (l : List (Int × Int)) (w : World) (h : Rd w A c l) :
    Calls Try.prog 12 #[.int .i64 b, .slice A l.length c] w fun e w' => e = .returned (.bool true) ∧ Below w.heap.size w w' := by
  have fin : ∀ w', Fr (fun _ => False) w w' → RowKit.Below w.heap.size w w' := fun w' hf => hf.below _ (Nat.le_refl _) (fun _ h => h.elim)
  rcases h with ⟨rfl, rfl, rfl⟩ | ⟨ad, rfl, hc, hr⟩
  · exact (law_none b w).mono fun _ _ ⟨he, hf⟩ => ⟨he, fin _ hf⟩
  · by_cases hl : l.length ≤ 16
    · exact (law_some b ad c l w hl (.inr ⟨ad, rfl, hc, hr⟩)).mono fun _ _ ⟨he, hf⟩ => ⟨he, fin _ hf⟩
    · refine (law_many b ad c l.length (l.take 16) w (by omega) hc (by simp; omega) (.inr ⟨ad, rfl, by simp; omega, fun i hi => ?_⟩)).mono fun _ _ ⟨he, hf⟩ => ⟨he, fin _ hf⟩
      have := hr i (by simp at hi; omega)
      simpa using this
end Go.Proofs.Ytkhdnkmocbceeaa.Ord
