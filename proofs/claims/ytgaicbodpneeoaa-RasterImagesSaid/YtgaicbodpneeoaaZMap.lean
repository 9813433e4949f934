/- Maps of the call's own, as lists of pairs: look-up, store, delete, length, over any key type whose values are compared plainly. -/
import Derived.Maps.OwnSet
import Derived.WideLaws
namespace Go.Proofs.ZMap
open Go

section
variable {κ : Type} [DecidableEq κ]
/-- The value at a key. -/
def look (x : κ) : List (κ × Value) → Option Value
  | [] => none
  | p :: ps => if x = p.1 then some p.2 else look x ps
def findAt (x : κ) : List (κ × Value) → Nat → Option (Nat × Value)
  | [], _ => none
  | p :: ps, i => if x = p.1 then some (i, p.2) else findAt x ps (i + 1)
/-- A value put at a key. -/
def put (x : κ) (v : Value) : List (κ × Value) → List (κ × Value)
  | [] => [(x, v)]
  | p :: ps => if x = p.1 then (x, v) :: ps else p :: put x v ps
/-- A key taken off. -/
def del (x : κ) : List (κ × Value) → List (κ × Value)
  | [] => []
  | p :: ps => if x = p.1 then ps else p :: del x ps

theorem look_put (x y : κ) (v : Value) : ∀ al, look y (put x v al) = if y = x then some v else look y al := by
  intro al
  induction al with
  | nil => simp only [put, look]
  | cons p ps ih =>
    simp only [put]
    by_cases h : x = p.1
    · rw [if_pos h]; simp only [look]
      by_cases hy : y = x
      · rw [if_pos hy, if_pos hy]
      · rw [if_neg hy, if_neg hy, if_neg (fun e => hy (e.trans h.symm))]
    · rw [if_neg h]; simp only [look]; rw [ih]
      by_cases hy : y = p.1
      · rw [if_pos hy, if_neg (fun e => h (e.symm.trans hy))]; rw [if_pos hy]
      · rw [if_neg hy]; rw [if_neg hy]
theorem put_length (x : κ) (v : Value) : ∀ al, (put x v al).length ≤ al.length + 1 := by
  intro al
  induction al with
  | nil => simp [put]
  | cons p ps ih => simp only [put]; split <;> simp <;> omega
theorem findAt_none (x : κ) (v : Value) : ∀ (al : List (κ × Value)) (i : Nat), findAt x al i = none → look x al = none ∧ put x v al = al ++ [(x, v)] ∧ del x al = al := by
  intro al
  induction al with
  | nil => intro i _; exact ⟨rfl, rfl, rfl⟩
  | cons p ps ih =>
    intro i h
    simp only [findAt] at h
    by_cases hx : x = p.1
    · rw [if_pos hx] at h; cases h
    · rw [if_neg hx] at h
      obtain ⟨h1, h2, h3⟩ := ih _ h
      exact ⟨by simp only [look, if_neg hx, h1], by simp only [put, if_neg hx, h2]; rfl, by simp only [del, if_neg hx, h3]⟩
theorem findAt_some (x : κ) (u : Value) : ∀ al i j v, findAt x al i = some (j, v) → i ≤ j ∧ look x al = some v ∧ put x u al = al.modify (j - i) (fun _ => (x, u)) ∧ del x al = al.eraseIdx (j - i) ∧ (∃ p, al[j - i]? = some p ∧ p.1 = x) := by
  intro al
  induction al with
  | nil => intro i j v h; simp [findAt] at h
  | cons p ps ih =>
    intro i j v h
    simp only [findAt] at h
    by_cases hx : x = p.1
    · rw [if_pos hx] at h
      simp only [Option.some.injEq, Prod.mk.injEq] at h
      obtain ⟨rfl, rfl⟩ := h
      exact ⟨Nat.le_refl _, by simp only [look, if_pos hx], by simp only [put, if_pos hx, Nat.sub_self]; rfl, by simp only [del, if_pos hx, Nat.sub_self]; rfl, p, by simp, hx.symm⟩
    · rw [if_neg hx] at h
      obtain ⟨h1, h2, h3, h4, h5⟩ := ih _ _ _ h
      have e : j - i = (j - (i + 1)) + 1 := by omega
      exact ⟨by omega, by simp only [look, if_neg hx, h2], by simp only [put, if_neg hx, h3, e]; rfl, by simp only [del, if_neg hx, h4, e]; rfl, by rw [e]; exact h5⟩

/-- A key type whose values are compared plainly. -/
structure KeyT (P : Program) (kt : TypeId) (enc : κ → Value) : Prop where
  check : ∀ (w : World) (em : Bool) (x : κ), (Instr.checkKey em 10000 kt (enc x)).run P w = .ok () w
  equal : ∀ (w : World) (x y : κ), (Op.equal kt (enc x) (enc y)).run P w = .ok (decide (x = y)) w
  now : ∃ d, P.underlying kt = some d ∧ ((∀ x y : κ, Instr.sameNow d (enc x) (enc y) = none) ∨ ∀ x y : κ, Instr.sameNow d (enc x) (enc y) = some (decide (x = y)))
  stays : ∀ x : κ, Instr.sameBits 10000 (enc x) (enc x) = true

variable {P : Program} {kt : TypeId} {enc : κ → Value}

theorem KeyT.asking (K : KeyT P kt enc) (w : World) (x : κ) : ∀ (al : List (κ × Value)) (es : List MapEntry) (i : Nat), es.map (fun e => (e.key, e.val)) = al.map (fun p => (enc p.1, p.2)) →
    (Instr.findAsking kt (enc x) es i).run P w = .ok (findAt x al i) w := by
  intro al
  induction al with
  | nil =>
    intro es i h
    cases es with
    | nil => rfl
    | cons e es => simp at h
  | cons p ps ih =>
    intro es i h
    cases es with
    | nil => simp at h
    | cons e es =>
      simp only [List.map_cons, List.cons.injEq, Prod.mk.injEq] at h
      obtain ⟨⟨h1, h2⟩, h3⟩ := h
      have he := K.equal w x p.1
      rw [← h1] at he
      simp only [Instr.findAsking, findAt]
      by_cases hx : x = p.1
      · rw [if_pos hx]
        rw [decide_eq_true hx] at he
        simp [he, Result.andThen, h2]
      · rw [if_neg hx]
        rw [decide_eq_false hx] at he
        have := ih es (i + 1) h3
        simp [he, Result.andThen, this]

theorem KeyT.nowFind {d : TypeDesc} (h : ∀ x y : κ, Instr.sameNow d (enc x) (enc y) = some (decide (x = y))) (x : κ) : ∀ (al : List (κ × Value)) (es : List MapEntry) (i : Nat), es.map (fun e => (e.key, e.val)) = al.map (fun p => (enc p.1, p.2)) →
    Instr.findNow d (enc x) es i = some (findAt x al i) := by
  intro al
  induction al with
  | nil =>
    intro es i he
    cases es with
    | nil => rfl
    | cons e es => simp at he
  | cons p ps ih =>
    intro es i he
    cases es with
    | nil => simp at he
    | cons e es =>
      simp only [List.map_cons, List.cons.injEq, Prod.mk.injEq] at he
      obtain ⟨⟨h1, h2⟩, h3⟩ := he
      simp only [Instr.findNow, findAt, h1, h]
      by_cases hx : x = p.1
      · rw [if_pos hx, decide_eq_true hx]; simp [h2]
      · rw [if_neg hx, decide_eq_false hx]; exact ih es (i + 1) h3

theorem KeyT.find (K : KeyT P kt enc) (w : World) (x : κ) (al : List (κ × Value)) (es : List MapEntry) (h : es.map (fun e => (e.key, e.val)) = al.map (fun p => (enc p.1, p.2))) :
    (Instr.findKey kt (enc x) es).run P w = .ok (findAt x al 0) w := by
  obtain ⟨d, hd, hn⟩ := K.now
  rcases hn with hn | hn
  · have ha := K.asking w x al es 0 h
    cases es with
    | nil =>
      cases al with
      | nil => simp [Instr.findKey, run_underlying hd, Instr.findNow, findAt, Result.andThen]
      | cons p ps => simp at h
    | cons e es =>
      cases al with
      | nil => simp at h
      | cons p ps =>
        have h1 : e.key = enc p.1 := by simp at h; exact h.1.1
        have : Instr.findNow d (enc x) (e :: es) 0 = none := by simp only [Instr.findNow, h1, hn]
        simp [Instr.findKey, run_underlying hd, this, Result.andThen, ha]
  · have := KeyT.nowFind hn x al es 0 h
    simp [Instr.findKey, run_underlying hd, this, Result.andThen]

/-- Block b of w is a map of these pairs. -/
def MapIs (w : World) (enc : κ → Value) (b : Nat) (al : List (κ × Value)) : Prop :=
  ∃ es clock, w.heap[b]? = some (.map es clock) ∧ es.toList.map (fun e => (e.key, e.val)) = al.map (fun p => (enc p.1, p.2))

omit [DecidableEq κ] in
theorem MapIs.made (w : World) : MapIs (w.alloc (.map #[] 0)) enc w.heap.size [] := ⟨#[], 0, heap_alloc_new w _, rfl⟩
omit [DecidableEq κ] in
theorem MapIs.same {w w' : World} {b : Nat} {al : List (κ × Value)} (h : MapIs w enc b al) (hb : w'.heap[b]? = w.heap[b]?) : MapIs w' enc b al := by
  obtain ⟨es, clock, h1, h2⟩ := h
  exact ⟨es, clock, hb.trans h1, h2⟩
omit [DecidableEq κ] in
theorem MapIs.lt {w : World} {b : Nat} {al : List (κ × Value)} (h : MapIs w enc b al) : b < w.heap.size := by
  obtain ⟨es, clock, h1, h2⟩ := h
  exact (Array.getElem?_eq_some_iff.1 h1).1
omit [DecidableEq κ] in
theorem MapIs.not_cells {w : World} {b : Nat} {al : List (κ × Value)} (h : MapIs w enc b al) {cs : Array Value} {t : TypeId} {r : Nat × Nat} : w.heap[b]? ≠ some (.cells cs t r) := by
  obtain ⟨es, clock, h1, h2⟩ := h
  rw [h1]; simp

theorem MapIs.run_lookup {w : World} {b : Nat} {al : List (κ × Value)} (h : MapIs w enc b al) (K : KeyT P kt enc) {t e : TypeId} (ht : P.underlying t = some (.map kt e)) {z : Value} (hz : (zeroValue e).run P w = .ok z w) (x : κ) (ok : Bool) :
    (Instr.lookup t (.map (some b)) (enc x) ok).run P w = .ok (if ok then .tuple #[(look x al).getD z, .bool (look x al).isSome] else (look x al).getD z) w := by
  obtain ⟨es, clock, h1, h2⟩ := h
  have hf := K.find w x al es.toList h2
  cases hfa : findAt x al 0 with
  | none =>
    rw [hfa] at hf
    obtain ⟨hl, _⟩ := findAt_none x .nilIface al 0 hfa
    simp [Instr.lookup, run_underlying ht, MapKept.run_getObj_map h1, K.check, hf, hz, Result.andThen, hl]
  | some jv =>
    obtain ⟨j, v⟩ := jv
    rw [hfa] at hf
    obtain ⟨_, hl, _⟩ := findAt_some x .nilIface al 0 j v hfa
    simp [Instr.lookup, run_underlying ht, MapKept.run_getObj_map h1, K.check, hf, Result.andThen, hl]

theorem run_stays (K : KeyT P kt enc) (w : World) (x : κ) : (Instr.keyThatStays (enc x) (enc x)).run P w = .ok (enc x) w := by
  simp [Instr.keyThatStays, K.stays]

theorem MapIs.run_update {w : World} {b : Nat} {al : List (κ × Value)} (h : MapIs w enc b al) (K : KeyT P kt enc) {t e : TypeId} (ht : P.underlying t = some (.map kt e)) (x : κ) (v : Value) :
    ∃ w', (Instr.mapUpdate t (.map (some b)) (enc x) v).run P w = .ok () w' ∧ MapIs w' enc b (put x v al) ∧ w.grownBy w' (some b) := by
  obtain ⟨es, clock, h1, h2⟩ := h
  have hf := K.find w x al es.toList h2
  have hgrow : ∀ o, w.grownBy (ChangeMaps.setBlock w b o) (some b) := fun o =>
    ⟨rfl, rfl, rfl, by simp [ChangeMaps.setBlock], fun i _ hi => ChangeMaps.heap_setBlock_other h1 _ (fun e => hi (by rw [e]))⟩
  cases hfa : findAt x al 0 with
  | none =>
    rw [hfa] at hf
    obtain ⟨_, hp, _⟩ := findAt_none x v al 0 hfa
    refine ⟨ChangeMaps.setBlock w b (.map (es.push { key := enc x, val := v, born := clock }) (clock + 1)), ?_, ⟨_, _, ChangeMaps.heap_setBlock_same h1 _, ?_⟩, hgrow _⟩
    · simp [Instr.mapUpdate, run_underlying ht, MapKept.run_getObj_map h1, K.check, hf, Result.andThen, MapKept.run_setObj_map _ h1, ChangeMaps.setBlock]
    · rw [hp]; simp [h2]
  | some jv =>
    obtain ⟨j, u⟩ := jv
    rw [hfa] at hf
    obtain ⟨_, _, hp, _, p, hpj, hpx⟩ := findAt_some x v al 0 j u hfa
    simp only [Nat.sub_zero] at hp hpj
    have hkj : (es[j]?.map (·.key)).getD (enc x) = enc x := by
      have := congrArg (fun l => l[j]?) h2
      simp only [List.getElem?_map, hpj, Option.map_some, Array.getElem?_toList] at this
      cases he : es[j]? with
      | none => simp
      | some e => rw [he] at this; simp at this; simp [this.1, hpx]
    refine ⟨ChangeMaps.setBlock w b (.map (es.modify j fun e => { e with key := enc x, val := v }) clock), ?_, ⟨_, _, ChangeMaps.heap_setBlock_same h1 _, ?_⟩, hgrow _⟩
    · simp [Instr.mapUpdate, run_underlying ht, MapKept.run_getObj_map h1, K.check, hf, Result.andThen, hkj, run_stays K, MapKept.run_setObj_map _ h1, ChangeMaps.setBlock]
    · rw [hp]
      apply List.ext_getElem?
      intro i
      have := congrArg (fun l => l[i]?) h2
      simp only [List.getElem?_map, Array.getElem?_toList] at this
      simp only [List.getElem?_map, Array.getElem?_toList, Array.getElem?_modify, List.getElem?_modify]
      by_cases hi : j = i
      · subst hi
        simp only [if_true]
        cases he : es[j]? <;> cases ha : al[j]? <;> rw [he, ha] at this <;> simp at this ⊢
      · simp only [if_neg hi]
        simpa using this

theorem MapIs.run_delete {w : World} {b : Nat} {al : List (κ × Value)} (h : MapIs w enc b al) (K : KeyT P kt enc) {t e : TypeId} (ht : P.underlying t = some (.map kt e)) (x : κ) (ty : TypeId) :
    ∃ w', (Builtin.delete_ #[t, kt] ty #[.map (some b), enc x]).run P w = .ok (.tuple #[]) w' ∧ MapIs w' enc b (del x al) ∧ w.grownBy w' (some b) := by
  obtain ⟨es, clock, h1, h2⟩ := h
  have hf := K.find w x al es.toList h2
  have hgrow : ∀ o, w.grownBy (ChangeMaps.setBlock w b o) (some b) := fun o =>
    ⟨rfl, rfl, rfl, by simp [ChangeMaps.setBlock], fun i _ hi => ChangeMaps.heap_setBlock_other h1 _ (fun e => hi (by rw [e]))⟩
  cases hfa : findAt x al 0 with
  | none =>
    rw [hfa] at hf
    obtain ⟨_, _, hd⟩ := findAt_none x .nilIface al 0 hfa
    refine ⟨ChangeMaps.setBlock w b (.map es clock), ?_, ⟨_, _, ChangeMaps.heap_setBlock_same h1 _, ?_⟩, hgrow _⟩
    · simp [Builtin.delete_, run_underlying ht, MapKept.run_getObj_map h1, K.check, hf, Result.andThen, MapKept.run_setObj_map _ h1, ChangeMaps.setBlock]
    · rw [hd]; exact h2
  | some jv =>
    obtain ⟨j, u⟩ := jv
    rw [hfa] at hf
    obtain ⟨_, _, _, hd, _⟩ := findAt_some x .nilIface al 0 j u hfa
    simp only [Nat.sub_zero] at hd
    refine ⟨ChangeMaps.setBlock w b (.map (es.eraseIdxIfInBounds j) clock), ?_, ⟨_, _, ChangeMaps.heap_setBlock_same h1 _, ?_⟩, hgrow _⟩
    · simp [Builtin.delete_, run_underlying ht, MapKept.run_getObj_map h1, K.check, hf, Result.andThen, MapKept.run_setObj_map _ h1, ChangeMaps.setBlock]
    · rw [hd, Array.toList_eraseIdxIfInBounds]
      apply List.ext_getElem?
      intro i
      have := fun i : Nat => congrArg (fun l : List (Value × Value) => l[i]?) h2
      simp only [List.getElem?_map] at this
      simp only [List.getElem?_map, List.getElem?_eraseIdx]
      split <;> exact this _

omit [DecidableEq κ] in
theorem MapIs.run_len {w : World} {b : Nat} {al : List (κ × Value)} (h : MapIs w enc b al) {t e : TypeId} (ht : P.underlying t = some (.map kt e)) (ty : TypeId) :
    (Builtin.len_ #[t] ty #[.map (some b)]).run P w = .ok (.int .i64 al.length) w := by
  obtain ⟨es, clock, h1, h2⟩ := h
  have hl := congrArg List.length h2
  simp at hl
  simp [Builtin.len_, run_underlying ht, MapKept.run_getObj_map h1, goInt, Result.andThen, hl]

/-- At the operation, for the walk: a look-up. -/
theorem wp_look (w : World) {ops : Array Oper} {rest : List Oper} {o : Oper} {a : Act} {Q : Exit → Act → World → Prop}
    (hg : o.guard = none) (m i : Operand) (t : TypeId) (ok : Bool) (hop : o.op = Op.lookup t m i ok) (e : TypeId) (K : KeyT P kt enc) (ht : P.underlying t = some (.map kt e)) (z : Value) (hz : (zeroValue e).run P w = .ok z w)
    (b : Nat) (al : List (κ × Value)) (hm : a.eval m = .map (some b)) (hmap : MapIs w enc b al) (x : κ) (hx : a.eval i = enc x)
    (hK : wpList P ops Q rest (a.put o.dst (if ok then .tuple #[(look x al).getD z, .bool (look x al).isSome] else (look x al).getD z)) w) :
    wpList P ops Q (o :: rest) a w := by
  refine wpList_plain hg fun K' hK' => ?_
  have hrun := hmap.run_lookup K ht hz x ok
  unfold Oper.wp
  simp only [execOp, hop, hm, hx]
  simp [hrun, Result.andThen]
  exact hK' _ _ hK
/-- A store. -/
theorem wp_put (w : World) {ops : Array Oper} {rest : List Oper} {o : Oper} {a : Act} {Q : Exit → Act → World → Prop}
    (hg : o.guard = none) (m i v : Operand) (t : TypeId) (hop : o.op = Op.mapUpdate t m i v) (e : TypeId) (K : KeyT P kt enc) (ht : P.underlying t = some (.map kt e))
    (b : Nat) (al : List (κ × Value)) (hm : a.eval m = .map (some b)) (hmap : MapIs w enc b al) (x : κ) (hx : a.eval i = enc x) (val : Value) (hv : a.eval v = val)
    (hK : ∀ w', MapIs w' enc b (put x val al) → w.grownBy w' (some b) → wpList P ops Q rest (a.put o.dst undef) w') :
    wpList P ops Q (o :: rest) a w := by
  refine wpList_plain hg fun K' hK' => ?_
  obtain ⟨w', hrun, r1, r2⟩ := hmap.run_update K ht x val
  unfold Oper.wp
  simp only [execOp, hop, hm, hx, hv]
  simp [hrun, Result.andThen]
  exact hK' _ _ (hK w' r1 r2)
end
end Go.Proofs.ZMap
