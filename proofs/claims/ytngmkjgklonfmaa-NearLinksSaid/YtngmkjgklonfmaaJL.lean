/- Joined texts. -/
import Derived.Test.YtngmkjgklonfmaaNLQ
import Derived.Test.YtngmkjgklonfmaaNLP
/- The order of links. -/
namespace Go.Proofs.Ytngmkjgklonfmaa.Lk
open Go.RowKit Go.Lib Go.Proofs.Ytngmkjgklonfmaa.PNearLinks Go.Proofs.YtngmkjgklonfmaaW.PrintWords
def cmp3 (a b : Int) : Int := if a < b then -1 else if a > b then 1 else 0
def or2 (a b : Int) : Int := if a = 0 then b else a
def cf (x y : S91) : Int := or2 (cmp3 x.f0 y.f0) (or2 (cmp3 x.f1 y.f1) (or2 (cmp3 x.f2.f0 y.f2.f0) (cmp3 x.f2.f1 y.f2.f1)))
theorem compare_f (a b : Int) : cmp_Compare_int.f a b = some (cmp3 a b) := by
  unfold cmp_Compare_int.f cmp_isNaN_int.f cmp3
  simp
  split
  · rfl
  · split <;> rfl
theorem or_f (a b c d : Int) : cmp_Or_int.f 9 [a, b, c, d] = some (or2 a (or2 b (or2 c d))) := by
  have w0 : wrap64 (0 + 1) = 1 := by unfold wrap64; decide
  have w1 : wrap64 (1 + 1) = 2 := by unfold wrap64; decide
  have w2 : wrap64 (2 + 1) = 3 := by unfold wrap64; decide
  have w3 : wrap64 (3 + 1) = 4 := by unfold wrap64; decide
  have l4 : (([a, b, c, d] : List Int).length : Int) = 4 := rfl
  have r0 : Go.Proofs.YtngmkjgklonfmaaW.PrintWords.rd [a, b, c, d] 0 = a := rfl
  have r1 : Go.Proofs.YtngmkjgklonfmaaW.PrintWords.rd [a, b, c, d] 1 = b := rfl
  have r2 : Go.Proofs.YtngmkjgklonfmaaW.PrintWords.rd [a, b, c, d] 2 = c := rfl
  have r3 : Go.Proofs.YtngmkjgklonfmaaW.PrintWords.rd [a, b, c, d] 3 = d := rfl
  unfold cmp_Or_int.f or2
  rw [l4, cmp_Or_int.l0, l4, r0, w0, if_pos (by decide), if_pos (by decide), if_pos (by decide)]
  by_cases h0 : a = 0
  · rw [if_pos h0, if_pos h0, cmp_Or_int.l0, l4, r1, w1, if_pos (by decide), if_pos (by decide), if_pos (by decide)]
    by_cases h1 : b = 0
    · rw [if_pos h1, if_pos h1, cmp_Or_int.l0, l4, r2, w2, if_pos (by decide), if_pos (by decide), if_pos (by decide)]
      by_cases h2 : c = 0
      · rw [if_pos h2, if_pos h2, cmp_Or_int.l0, l4, r3, w3, if_pos (by decide), if_pos (by decide), if_pos (by decide)]
        by_cases h3 : d = 0
        · rw [if_pos h3, cmp_Or_int.l0, if_neg (by decide), h3]
        · rw [if_neg h3]
      · rw [if_neg h2, if_neg h2]
    · rw [if_neg h1, if_neg h1]
  · rw [if_neg h0, if_neg h0]
theorem order_f (x y : S91) : near_order.f 9 x.f0 x.f1 x.f2.f0 x.f2.f1 y.f0 y.f1 y.f2.f0 y.f2.f1 = some (cf x y) := by
  unfold near_order.f cf
  rw [compare_f, compare_f, compare_f, compare_f, Option.bind_some, Option.bind_some, Option.bind_some, Option.bind_some, or_f, Option.bind_some]
def ltL (x y : S91) : Prop := x.f0 < y.f0 ∨ (x.f0 = y.f0 ∧ (x.f1 < y.f1 ∨ (x.f1 = y.f1 ∧ (x.f2.f0 < y.f2.f0 ∨ (x.f2.f0 = y.f2.f0 ∧ x.f2.f1 < y.f2.f1)))))
instance (x y : S91) : Decidable (ltL x y) := inferInstanceAs (Decidable (_ ∨ _))
theorem cf_neg (x y : S91) : cf x y < 0 ↔ ltL x y := by
  unfold cf or2 cmp3 ltL
  repeat' split
  all_goals first | omega | (constructor <;> intro h <;> omega)
theorem ext {x y : S91} (h0 : x.f0 = y.f0) (h1 : x.f1 = y.f1) (h2 : x.f2.f0 = y.f2.f0) (h3 : x.f2.f1 = y.f2.f1) : x = y := by
  obtain ⟨a, b, c, d⟩ := x
  obtain ⟨a', b', c', d'⟩ := y
  simp_all
theorem ltL_irrefl (x : S91) : ¬ ltL x x := by unfold ltL; omega
theorem ltL_trans {x y z : S91} (h1 : ltL x y) (h2 : ltL y z) : ltL x z := by unfold ltL at *; omega
theorem ltL_tri (x y : S91) : ltL x y ∨ x = y ∨ ltL y x := by
  by_cases h1 : ltL x y
  · exact .inl h1
  · by_cases h2 : ltL y x
    · exact .inr (.inr h2)
    · refine .inr (.inl (ext ?_ ?_ ?_ ?_)) <;> (unfold ltL at h1 h2; omega)
/-- A link seen from its other end, and the one of both that stands ahead. -/
def rev (a : S91) : S91 := ⟨a.f1, a.f0, ⟨-a.f2.f0, -a.f2.f1⟩⟩
def frst (a : S91) : S91 := if ltL (rev a) a then rev a else a
def smallL (a : S91) : Prop := (-9007199254740992 ≤ a.f2.f0 ∧ a.f2.f0 ≤ 9007199254740992) ∧ -9007199254740992 ≤ a.f2.f1 ∧ a.f2.f1 ≤ 9007199254740992
theorem first_f (a : S91) (h : smallL a) : near_first.f 9 a.f0 a.f1 a.f2.f0 a.f2.f1 = some ((frst a).f0, (frst a).f1, (frst a).f2.f0, (frst a).f2.f1) := by
  obtain ⟨⟨h1, h2⟩, h3, h4⟩ := h
  unfold near_first.f lift_Less.f
  rw [Option.bind_some]
  have e1 : wrap64 (0 - a.f2.f0) = -a.f2.f0 := by unfold wrap64; omega
  have e2 : wrap64 (0 - a.f2.f1) = -a.f2.f1 := by unfold wrap64; omega
  rw [e1, e2]
  have := order_f (rev a) a
  unfold rev at this
  simp only at this ⊢
  rw [this, Option.bind_some]
  unfold frst
  have hc := cf_neg (rev a) a
  unfold rev at hc
  by_cases h : cf ⟨a.f1, a.f0, ⟨-a.f2.f0, -a.f2.f1⟩⟩ a < 0
  · rw [if_pos h, if_pos (show ltL (rev a) a from hc.1 h)]; rfl
  · rw [if_neg h, if_neg (show ¬ ltL (rev a) a from fun h' => h (hc.2 h'))]
end Go.Proofs.Ytngmkjgklonfmaa.Lk

/- Links in order, each once: two ways to the same list. -/
namespace Go.Proofs.Ytngmkjgklonfmaa.Lk
open Go.RowKit Go.Lib Go.Proofs.Ytngmkjgklonfmaa.PNearLinks Go.Proofs.YtngmkjgklonfmaaW.PrintWords
instance : DecidableEq S91 := fun x y =>
  if h : x.f0 = y.f0 ∧ x.f1 = y.f1 ∧ x.f2.f0 = y.f2.f0 ∧ x.f2.f1 = y.f2.f1 then .isTrue (ext h.1 h.2.1 h.2.2.1 h.2.2.2)
  else .isFalse (fun e => h (e ▸ ⟨rfl, rfl, rfl, rfl⟩))
/-- A face by its nine cells; its links. -/
abbrev Fa := Nat → Int
def lnk (f : Fa) (k : Nat) : S91 := ⟨f k, f ((k + 1) % 3), ⟨f (3 + 2 * ((k + 1) % 3)) - f (3 + 2 * k), f (4 + 2 * ((k + 1) % 3)) - f (4 + 2 * k)⟩⟩
def lks (l : List Fa) : List S91 := l.flatMap fun f => [frst (lnk f 0), frst (lnk f 1), frst (lnk f 2)]
/-- The document's way: one more link. -/
def insL : List S91 → S91 → List S91
  | [], a => [a]
  | b :: r, a => if b = a then b :: r else if ltL a b then a :: b :: r else b :: insL r a
theorem insL_mem : ∀ (l : List S91) (a x : S91), x ∈ insL l a ↔ x ∈ l ∨ x = a
  | [], a, x => by simp [insL]
  | b :: r, a, x => by
    rw [insL]
    split
    · rename_i h; subst h
      simp only [List.mem_cons]
      constructor
      · exact fun h => .inl h
      · rintro (h | h)
        · exact h
        · exact .inl h
    · split
      · simp only [List.mem_cons]
        constructor
        · rintro (h | h); exact .inr h; exact .inl h
        · rintro (h | h); exact .inr h; exact .inl h
      · simp only [List.mem_cons, insL_mem r a x]
        constructor
        · rintro (h | h | h); exact .inl (.inl h); exact .inl (.inr h); exact .inr h
        · rintro ((h | h) | h); exact .inl h; exact .inr (.inl h); exact .inr (.inr h)
theorem insL_sorted : ∀ (l : List S91) (a : S91), l.Pairwise ltL → (insL l a).Pairwise ltL
  | [], a, _ => by simp [insL]
  | b :: r, a, h => by
    obtain ⟨h1, h2⟩ := List.pairwise_cons.1 h
    rw [insL]
    split
    · exact h
    · rename_i hne
      split
      · rename_i hlt
        refine List.pairwise_cons.2 ⟨fun x hx => ?_, h⟩
        rcases List.mem_cons.1 hx with rfl | hx
        · exact hlt
        · exact ltL_trans hlt (h1 x hx)
      · rename_i hnl
        refine List.pairwise_cons.2 ⟨fun x hx => ?_, insL_sorted r a h2⟩
        rcases (insL_mem r a x).1 hx with hx | rfl
        · exact h1 x hx
        · rcases ltL_tri b x with h3 | h3 | h3
          · exact h3
          · exact absurd h3 hne
          · exact absurd h3 hnl
theorem insL_len (l : List S91) (a : S91) : (insL l a).length ≤ l.length + 1 := by
  induction l with
  | nil => simp [insL]
  | cons b r ih =>
    rw [insL]
    split
    · simp
    · split
      · simp
      · simp only [List.length_cons]; omega
def insAll (ls : List S91) : List S91 := ls.foldl insL []
theorem insAll_snoc (ls : List S91) (a : S91) : insAll (ls ++ [a]) = insL (insAll ls) a := by unfold insAll; rw [List.foldl_append]; rfl
theorem fold_mem : ∀ (ls acc : List S91) (x : S91), x ∈ ls.foldl insL acc ↔ x ∈ acc ∨ x ∈ ls
  | [], _, x => by simp
  | a :: r, acc, x => by
    rw [List.foldl_cons, fold_mem r (insL acc a) x, insL_mem, List.mem_cons]
    constructor
    · rintro ((h | h) | h); exact .inl h; exact .inr (.inl h); exact .inr (.inr h)
    · rintro (h | h | h); exact .inl (.inl h); exact .inl (.inr h); exact .inr h
theorem fold_sorted : ∀ (ls acc : List S91), acc.Pairwise ltL → (ls.foldl insL acc).Pairwise ltL
  | [], _, h => h
  | a :: r, acc, h => fold_sorted r (insL acc a) (insL_sorted acc a h)
theorem fold_len : ∀ (ls acc : List S91), (ls.foldl insL acc).length ≤ acc.length + ls.length
  | [], acc => by simp
  | a :: r, acc => by
    have h1 := fold_len r (insL acc a)
    have h2 := insL_len acc a
    rw [List.foldl_cons, List.length_cons]; omega
theorem insAll_mem (ls : List S91) (x : S91) : x ∈ insAll ls ↔ x ∈ ls := by unfold insAll; rw [fold_mem]; simp
theorem insAll_sorted (ls : List S91) : (insAll ls).Pairwise ltL := fold_sorted ls [] List.Pairwise.nil
theorem insAll_len (ls : List S91) : (insAll ls).length ≤ ls.length := by have := fold_len ls []; simpa [insAll] using this
/-- Go's Compact. -/
def cmpct : List S91 → List S91
  | [] => []
  | [a] => [a]
  | a :: b :: r => if a = b then cmpct (b :: r) else a :: cmpct (b :: r)
theorem cmpct_mem : ∀ (l : List S91) (x : S91), x ∈ cmpct l ↔ x ∈ l
  | [], x => by simp [cmpct]
  | [a], x => by simp [cmpct]
  | a :: b :: r, x => by
    have ih := cmpct_mem (b :: r) x
    rw [cmpct]; split
    · rename_i h; subst h
      rw [ih]; simp
    · rw [List.mem_cons, ih, List.mem_cons (l := b :: r)]
theorem cmpct_sorted : ∀ (l : List S91), l.Pairwise (fun a b => ¬ ltL b a) → (cmpct l).Pairwise ltL
  | [], _ => by simp [cmpct]
  | [a], _ => by simp [cmpct]
  | a :: b :: r, h => by
    obtain ⟨h1, h2⟩ := List.pairwise_cons.1 h
    have ih := cmpct_sorted (b :: r) h2
    rw [cmpct]; split
    · exact ih
    · rename_i hne
      refine List.pairwise_cons.2 ⟨fun x hx => ?_, ih⟩
      have hx' := (cmpct_mem (b :: r) x).1 hx
      have hab : ltL a b := by
        rcases ltL_tri a b with h3 | h3 | h3
        · exact h3
        · exact absurd h3 hne
        · exact absurd h3 (h1 b (by simp))
      rcases List.mem_cons.1 hx' with rfl | hx''
      · exact hab
      · have h4 := (List.pairwise_cons.1 h2).1 x hx''
        rcases ltL_tri b x with h5 | h5 | h5
        · exact ltL_trans hab h5
        · exact h5 ▸ hab
        · exact absurd h5 h4
theorem strict_eq : ∀ (l m : List S91), l.Pairwise ltL → m.Pairwise ltL → (∀ x, x ∈ l ↔ x ∈ m) → l = m
  | [], [], _, _, _ => rfl
  | [], b :: m, _, _, h => absurd ((h b).2 (by simp)) (by simp)
  | a :: l, [], _, _, h => absurd ((h a).1 (by simp)) (by simp)
  | a :: l, b :: m, hl, hm, h => by
    obtain ⟨a1, a2⟩ := List.pairwise_cons.1 hl
    obtain ⟨b1, b2⟩ := List.pairwise_cons.1 hm
    have hab : a = b := by
      rcases List.mem_cons.1 ((h a).1 (by simp)) with h1 | h1
      · exact h1
      · rcases List.mem_cons.1 ((h b).2 (by simp)) with h2 | h2
        · exact h2.symm
        · exact absurd (ltL_trans (a1 b h2) (b1 a h1)) (ltL_irrefl a)
    subst hab
    rw [strict_eq l m a2 b2 (fun x => ?_)]
    constructor
    · intro hx
      rcases List.mem_cons.1 ((h x).1 (List.mem_cons_of_mem _ hx)) with rfl | h1
      · exact absurd (a1 x hx) (ltL_irrefl x)
      · exact h1
    · intro hx
      rcases List.mem_cons.1 ((h x).2 (List.mem_cons_of_mem _ hx)) with rfl | h1
      · exact absurd (b1 x hx) (ltL_irrefl x)
      · exact h1
theorem links_eq {ls ms : List S91} (hp : ms.Perm ls) (hs : ms.Pairwise (fun a b => ¬ ltL b a)) : cmpct ms = insAll ls :=
  strict_eq _ _ (cmpct_sorted ms hs) (insAll_sorted ls) (fun x => by rw [cmpct_mem, insAll_mem, hp.mem_iff])
end Go.Proofs.Ytngmkjgklonfmaa.Lk

/- The document's numbers that rise. -/
namespace Go.Proofs.Ytngmkjgklonfmaa.Lk
open Go.RowKit Go.Proofs.Ytngmkjgklonfmaa.PNearLinks Go.Proofs.YtngmkjgklonfmaaW.PrintWords
def putI : List Int → Int → List Int
  | [], a => [a]
  | b :: r, a => if b > a then a :: b :: r else b :: putI r a
theorem putI_len : ∀ (l : List Int) (a : Int), (putI l a).length = l.length + 1
  | [], _ => rfl
  | b :: r, a => by rw [putI]; split; rfl; rw [List.length_cons, putI_len r a, List.length_cons]
theorem putI_perm : ∀ (l : List Int) (a : Int), (putI l a).Perm (l ++ [a])
  | [], _ => List.Perm.refl _
  | b :: r, a => by
    rw [putI]; split
    · exact (List.perm_append_comm (l₁ := [a]) (l₂ := b :: r))
    · exact (putI_perm r a).cons b
theorem putI_mem {l : List Int} {a x : Int} (h : x ∈ putI l a) : x ∈ l ∨ x = a := by
  have := (putI_perm l a).mem_iff.1 h
  simpa using this
theorem putI_sorted : ∀ (l : List Int) (a : Int), l.Pairwise (fun x y => x ≤ y) → (putI l a).Pairwise (fun x y => x ≤ y)
  | [], a, _ => by simp [putI]
  | b :: r, a, h => by
    obtain ⟨h1, h2⟩ := List.pairwise_cons.1 h
    rw [putI]; split
    · refine List.pairwise_cons.2 ⟨fun x hx => ?_, h⟩
      rcases List.mem_cons.1 hx with rfl | hx
      · omega
      · have := h1 x hx; omega
    · refine List.pairwise_cons.2 ⟨fun x hx => ?_, putI_sorted r a h2⟩
      rcases putI_mem hx with hx | rfl
      · exact h1 x hx
      · omega
theorem put_go (l : List Int) (a : Int) (hl : l.length ≤ 100) : ∀ (e i k : Nat) (out : List Int) (inn : Bool), i + e = l.length → e < k → out.length ≤ 2 * i + 2 →
    zelligeref28_Put.l0 k l a out inn (i : Int) = some (out ++ (if inn = true then l.drop i else putI (l.drop i) a))
  | 0, i, k, out, inn, hi, hk, ho => by
    obtain ⟨k, rfl⟩ : ∃ m, k = m + 1 := ⟨k - 1, by omega⟩
    rw [zelligeref28_Put.l0, if_neg (by omega), List.drop_of_length_le (by omega)]
    cases inn
    · rw [if_neg (by simp), if_pos (by omega), if_neg (by simp)]; rfl
    · rw [if_pos rfl, if_pos rfl, List.append_nil]
  | e + 1, i, k, out, inn, hi, hk, ho => by
    obtain ⟨k, rfl⟩ : ∃ m, k = m + 1 := ⟨k - 1, by omega⟩
    have hil : i < l.length := by omega
    have hw : wrap64 ((i : Int) + 1) = ((i + 1 : Nat) : Int) := by unfold wrap64; omega
    have hr : Go.Proofs.YtngmkjgklonfmaaW.PrintWords.rd l (i : Int) = l[i] := by
      unfold Go.Proofs.YtngmkjgklonfmaaW.PrintWords.rd
      rw [Int.toNat_natCast, List.getD_eq_getElem?_getD, List.getElem?_eq_getElem hil]; rfl
    rw [zelligeref28_Put.l0, if_pos (by omega), hr, hw, List.drop_eq_getElem_cons hil]
    cases inn
    · rw [if_neg (by simp), if_pos (by omega)]
      by_cases h : l[i] > a
      · rw [if_pos h, if_pos (by omega), Option.bind_some, if_pos (by simp; omega), put_go l a hl e (i + 1) k _ true (by omega) (by omega) (by simp; omega), if_pos rfl, if_neg (show ¬ false = true by simp), putI, if_pos h]
        simp
      · rw [if_neg h, if_pos (by omega), put_go l a hl e (i + 1) k _ false (by omega) (by omega) (by simp; omega), if_neg (show ¬ false = true by simp), if_neg (show ¬ false = true by simp), putI, if_neg h]
        simp
    · rw [if_pos rfl, if_pos (by omega), if_pos (by omega), put_go l a hl e (i + 1) k _ true (by omega) (by omega) (by simp; omega), if_pos rfl, if_pos rfl]
      simp
theorem put_f (l : List Int) (a : Int) (hl : l.length ≤ 100) : zelligeref28_Put.f 200 l a = some (putI l a) := by
  have h := put_go l a hl l.length 0 200 [] false (by omega) (by omega) (by simp)
  unfold zelligeref28_Put.f
  rw [Int.natCast_zero] at h
  rw [h, if_neg (by simp), List.drop_zero, List.nil_append]
theorem ints_go (l : List Int) (hl : l.length ≤ 100) : ∀ (e i k : Nat), i + e = l.length → e < k → zelligeref10_Ints.l0 k l l (i : Int) = some true
  | 0, i, k, hi, hk => by
    obtain ⟨k, rfl⟩ : ∃ m, k = m + 1 := ⟨k - 1, by omega⟩
    rw [zelligeref10_Ints.l0, if_neg (by omega)]
  | e + 1, i, k, hi, hk => by
    obtain ⟨k, rfl⟩ : ∃ m, k = m + 1 := ⟨k - 1, by omega⟩
    have hw : wrap64 ((i : Int) + 1) = ((i + 1 : Nat) : Int) := by unfold wrap64; omega
    rw [zelligeref10_Ints.l0, if_pos (by omega), if_pos (by omega), if_pos (by omega), if_pos rfl, hw, ints_go l hl e (i + 1) k (by omega) (by omega)]
theorem ints_f (l : List Int) (hl : l.length ≤ 100) : zelligeref10_Ints.f 200 l l = some true := by
  unfold zelligeref10_Ints.f
  rw [if_pos rfl]
  exact ints_go l hl l.length 0 200 (by omega) (by omega)
theorem sorted_eq {l m : List Int} (hp : m.Perm l) (hs : m.Pairwise (fun x y => x ≤ y)) : l.mergeSort (fun x y => decide (x ≤ y)) = m := by
  have hq : (l.mergeSort (fun x y => decide (x ≤ y))).Pairwise (fun a c => decide (a ≤ c) = true) := List.pairwise_mergeSort (le := fun x y => decide (x ≤ y)) (fun a b c h1 h2 => by simp at *; omega) (fun a b => by simp; omega) l
  refine ((List.mergeSort_perm l _).trans hp.symm).eq_of_pairwise (le := fun a c => decide (a ≤ c) = true) (fun x y _ _ h1 h2 => ?_) hq (hs.imp (fun h => decide_eq_true h))
  simp at h1 h2; omega
end Go.Proofs.Ytngmkjgklonfmaa.Lk

/- The ids beside one: two ways to the same list. -/
namespace Go.Proofs.Ytngmkjgklonfmaa.Lk
open Go.RowKit Go.Lib Go.Proofs.Ytngmkjgklonfmaa.PNearLinks Go.Proofs.YtngmkjgklonfmaaW.PrintWords
/-- A face's corners that are not the id, where the face has it. -/
def has (f : Fa) (id : Int) : Prop := f 0 = id ∨ f 1 = id ∨ f 2 = id
instance (f : Fa) (id : Int) : Decidable (has f id) := inferInstanceAs (Decidable (_ ∨ _))
def oth (f : Fa) (id : Int) : List Int := if has f id then [f 0, f 1, f 2].filter (fun v => v ≠ id) else []
def pbs (l : List Fa) (id : Int) : List Int := l.flatMap fun f => oth f id
theorem oth_mem (f : Fa) (id v : Int) : v ∈ oth f id ↔ has f id ∧ v ≠ id ∧ (v = f 0 ∨ v = f 1 ∨ v = f 2) := by
  unfold oth
  by_cases h : has f id
  · rw [if_pos h, List.mem_filter]
    simp [h]
    exact and_comm
  · rw [if_neg h]; simp [h]
/-- Go's Compact of whole numbers. -/
def cpI : List Int → List Int
  | [] => []
  | [a] => [a]
  | a :: b :: r => if a = b then cpI (b :: r) else a :: cpI (b :: r)
theorem cpI_mem : ∀ (l : List Int) (x : Int), x ∈ cpI l ↔ x ∈ l
  | [], x => by simp [cpI]
  | [a], x => by simp [cpI]
  | a :: b :: r, x => by
    have ih := cpI_mem (b :: r) x
    rw [cpI]; split
    · rename_i h; subst h
      rw [ih]; simp
    · rw [List.mem_cons, ih, List.mem_cons (l := b :: r)]
theorem cpI_sorted : ∀ (l : List Int), l.Pairwise (fun a b => a ≤ b) → (cpI l).Pairwise (fun a b => a < b)
  | [], _ => by simp [cpI]
  | [a], _ => by simp [cpI]
  | a :: b :: r, h => by
    obtain ⟨h1, h2⟩ := List.pairwise_cons.1 h
    have ih := cpI_sorted (b :: r) h2
    rw [cpI]; split
    · exact ih
    · rename_i hne
      refine List.pairwise_cons.2 ⟨fun x hx => ?_, ih⟩
      have hx' := (cpI_mem (b :: r) x).1 hx
      have hab := h1 b (by simp)
      rcases List.mem_cons.1 hx' with rfl | hx''
      · omega
      · have := (List.pairwise_cons.1 h2).1 x hx''; omega
theorem strictI : ∀ (l m : List Int), l.Pairwise (fun a b => a < b) → m.Pairwise (fun a b => a < b) → (∀ x, x ∈ l ↔ x ∈ m) → l = m
  | [], [], _, _, _ => rfl
  | [], b :: m, _, _, h => absurd ((h b).2 (by simp)) (by simp)
  | a :: l, [], _, _, h => absurd ((h a).1 (by simp)) (by simp)
  | a :: l, b :: m, hl, hm, h => by
    obtain ⟨a1, a2⟩ := List.pairwise_cons.1 hl
    obtain ⟨b1, b2⟩ := List.pairwise_cons.1 hm
    have hab : a = b := by
      rcases List.mem_cons.1 ((h a).1 (by simp)) with h1 | h1
      · exact h1
      · rcases List.mem_cons.1 ((h b).2 (by simp)) with h2 | h2
        · exact h2.symm
        · have := a1 b h2; have := b1 a h1; omega
    subst hab
    rw [strictI l m a2 b2 (fun x => ?_)]
    constructor
    · intro hx
      rcases List.mem_cons.1 ((h x).1 (List.mem_cons_of_mem _ hx)) with rfl | h1
      · have := a1 x hx; omega
      · exact h1
    · intro hx
      rcases List.mem_cons.1 ((h x).2 (List.mem_cons_of_mem _ hx)) with rfl | h1
      · have := b1 x hx; omega
      · exact h1
theorem putI_strict : ∀ (l : List Int) (a : Int), l.Pairwise (fun x y => x < y) → a ∉ l → (putI l a).Pairwise (fun x y => x < y)
  | [], a, _, _ => by simp [putI]
  | b :: r, a, h, hn => by
    obtain ⟨h1, h2⟩ := List.pairwise_cons.1 h
    rw [List.mem_cons, not_or] at hn
    rw [putI]; split
    · refine List.pairwise_cons.2 ⟨fun x hx => ?_, h⟩
      rcases List.mem_cons.1 hx with rfl | hx
      · omega
      · have := h1 x hx; omega
    · refine List.pairwise_cons.2 ⟨fun x hx => ?_, putI_strict r a h2 hn.2⟩
      rcases putI_mem hx with hx | rfl
      · exact h1 x hx
      · omega
theorem putI_in (l : List Int) (a x : Int) : x ∈ putI l a ↔ x ∈ l ∨ x = a := by
  rw [(putI_perm l a).mem_iff]; simp
/-- The other end of a link, and the document's way over the links. -/
def oe (x : S91) (id : Int) : Int := if x.f1 = id then x.f0 else x.f1
def tk (out : List Int) (x : S91) (id : Int) : Prop := (x.f0 = id ∨ x.f1 = id) ∧ oe x id ≠ id ∧ oe x id ∉ out
instance (out : List Int) (x : S91) (id : Int) : Decidable (tk out x id) := inferInstanceAs (Decidable (_ ∧ _))
def bst (id : Int) (out : List Int) (x : S91) : List Int := if tk out x id then putI out (oe x id) else out
def bsd (ls : List S91) (id : Int) : List Int := ls.foldl (bst id) []
theorem bsd_snoc (ls : List S91) (a : S91) (id : Int) : bsd (ls ++ [a]) id = bst id (bsd ls id) a := by unfold bsd; rw [List.foldl_append]; rfl
theorem bst_sorted {id : Int} {out : List Int} (x : S91) (h : out.Pairwise (fun a b => a < b)) : (bst id out x).Pairwise (fun a b => a < b) := by
  unfold bst; split
  · rename_i ht; exact putI_strict _ _ h ht.2.2
  · exact h
theorem bst_mem {id : Int} {out : List Int} (x : S91) (v : Int) : v ∈ bst id out x ↔ v ∈ out ∨ ((x.f0 = id ∨ x.f1 = id) ∧ oe x id ≠ id ∧ v = oe x id) := by
  unfold bst; split
  · rename_i ht
    rw [putI_in]
    constructor
    · rintro (h | h)
      · exact .inl h
      · exact .inr ⟨ht.1, ht.2.1, h⟩
    · rintro (h | h)
      · exact .inl h
      · exact .inr h.2.2
  · rename_i ht
    constructor
    · exact fun h => .inl h
    · rintro (h | ⟨h1, h2, h3⟩)
      · exact h
      · by_cases hin : oe x id ∈ out
        · exact h3 ▸ hin
        · exact absurd ⟨h1, h2, hin⟩ ht
theorem bst_len (id : Int) (out : List Int) (x : S91) : (bst id out x).length ≤ out.length + 1 := by
  unfold bst; split
  · rw [putI_len]; omega
  · omega
theorem bf_sorted (id : Int) : ∀ (ls : List S91) (out : List Int), out.Pairwise (fun a b => a < b) → (ls.foldl (bst id) out).Pairwise (fun a b => a < b)
  | [], _, h => h
  | x :: r, _, h => bf_sorted id r _ (bst_sorted x h)
theorem bf_mem (id v : Int) : ∀ (ls : List S91) (out : List Int), v ∈ ls.foldl (bst id) out ↔ v ∈ out ∨ ∃ x ∈ ls, (x.f0 = id ∨ x.f1 = id) ∧ oe x id ≠ id ∧ v = oe x id
  | [], _ => by simp
  | x :: r, out => by
    rw [List.foldl_cons, bf_mem id v r _, bst_mem]
    constructor
    · rintro ((h | h) | ⟨y, hy, h⟩)
      · exact .inl h
      · exact .inr ⟨x, by simp, h⟩
      · exact .inr ⟨y, by simp [hy], h⟩
    · rintro (h | ⟨y, hy, h⟩)
      · exact .inl (.inl h)
      · rcases List.mem_cons.1 hy with rfl | hy
        · exact .inl (.inr h)
        · exact .inr ⟨y, hy, h⟩
theorem bf_len (id : Int) : ∀ (ls : List S91) (out : List Int), (ls.foldl (bst id) out).length ≤ out.length + ls.length
  | [], _ => by simp
  | x :: r, out => by
    have h1 := bf_len id r (bst id out x)
    have h2 := bst_len id out x
    rw [List.foldl_cons, List.length_cons]; omega
theorem bsd_len (ls : List S91) (id : Int) : (bsd ls id).length ≤ ls.length := by have := bf_len id ls []; simpa [bsd] using this
/-- Whether a link tells of an id that another is beside it. -/
def tel (x : S91) (id v : Int) : Prop := (x.f0 = id ∨ x.f1 = id) ∧ oe x id ≠ id ∧ v = oe x id
theorem tel_iff (x : S91) (id v : Int) : tel x id v ↔ v ≠ id ∧ ((x.f0 = id ∧ x.f1 = v) ∨ (x.f0 = v ∧ x.f1 = id)) := by
  unfold tel oe
  by_cases h : x.f1 = id
  · rw [if_pos h]; constructor
    · rintro ⟨_, h2, h3⟩; exact ⟨by omega, by omega⟩
    · rintro ⟨h1, h2⟩; exact ⟨by omega, by omega, by omega⟩
  · rw [if_neg h]; constructor
    · rintro ⟨h1, h2, h3⟩; exact ⟨by omega, by omega⟩
    · rintro ⟨h1, h2⟩; exact ⟨by omega, by omega, by omega⟩
theorem tel_frst (x : S91) (id v : Int) : tel (frst x) id v ↔ tel x id v := by
  unfold frst; split
  · rw [tel_iff, tel_iff]; unfold rev; simp only; constructor
    · rintro ⟨h1, h2⟩; exact ⟨h1, by omega⟩
    · rintro ⟨h1, h2⟩; exact ⟨h1, by omega⟩
  · exact Iff.rfl
theorem tel_face (f : Fa) (id v : Int) : (∃ x ∈ [frst (lnk f 0), frst (lnk f 1), frst (lnk f 2)], tel x id v) ↔ v ∈ oth f id := by
  rw [oth_mem]
  unfold has
  simp only [List.mem_cons, List.not_mem_nil, or_false]
  constructor
  · rintro ⟨x, rfl | rfl | rfl, h⟩ <;> (rw [tel_frst, tel_iff] at h; simp [lnk] at h; obtain ⟨h1, h2⟩ := h; exact ⟨by omega, h1, by omega⟩)
  · rintro ⟨h1, h2, h3⟩
    have h0 : tel (lnk f 0) id v ∨ tel (lnk f 1) id v ∨ tel (lnk f 2) id v := by
      rw [tel_iff, tel_iff, tel_iff]; simp [lnk]; omega
    rcases h0 with h | h | h
    · exact ⟨_, .inl rfl, (tel_frst _ _ _).2 h⟩
    · exact ⟨_, .inr (.inl rfl), (tel_frst _ _ _).2 h⟩
    · exact ⟨_, .inr (.inr rfl), (tel_frst _ _ _).2 h⟩
theorem beside_eq (l : List Fa) (id : Int) {ms : List Int} (hp : ms.Perm (pbs l id)) (hs : ms.Pairwise (fun a b => a ≤ b)) : cpI ms = bsd (insAll (lks l)) id := by
  refine strictI _ _ (cpI_sorted ms hs) (bf_sorted id _ [] List.Pairwise.nil) (fun v => ?_)
  rw [cpI_mem, hp.mem_iff]
  unfold bsd
  rw [bf_mem]
  have hm : (∃ x ∈ insAll (lks l), tel x id v) ↔ v ∈ pbs l id := by
    unfold pbs lks
    rw [List.mem_flatMap]
    constructor
    · rintro ⟨x, hx, ht⟩
      rw [insAll_mem, List.mem_flatMap] at hx
      obtain ⟨f, hf, hx⟩ := hx
      exact ⟨f, hf, (tel_face f id v).1 ⟨x, hx, ht⟩⟩
    · rintro ⟨f, hf, hv⟩
      obtain ⟨x, hx, ht⟩ := (tel_face f id v).2 hv
      exact ⟨x, by rw [insAll_mem, List.mem_flatMap]; exact ⟨f, hf, hx⟩, ht⟩
  rw [← hm]
  simp [tel]
end Go.Proofs.Ytngmkjgklonfmaa.Lk
