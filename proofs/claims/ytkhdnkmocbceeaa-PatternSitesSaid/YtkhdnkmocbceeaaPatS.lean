/- The walk of pattern.Scatter. -/
import Derived.Test.YtkhdnkmocbceeaaPatH
import Derived.Test.YtkhdnkmocbceeaaWEqStruct
namespace Go.Proofs.Ytkhdnkmocbceeaa.Pat
open Go.RowKit Go.Proofs.ZFr Go.Proofs.ZMap
open Go.Joins (below_alloc1 below_alloc2 below_draws)
open Go.Proofs.YtkhdnkmocbceeaaW.PrintWords (eqA_of eqf_cons eqf_last)

/-- The next state, and the number that comes of a state. -/
def nxS (s : Int) : Int := IntKind.u64.wrap (s + 11400714819323198485)
def mixA (s : Int) : Int := IntKind.u64.wrap ((Go.bits .xor .u64 s (s / 1073741824)) * 13787848793156543929)
def mixB (s : Int) : Int := IntKind.u64.wrap ((Go.bits .xor .u64 s (s / 134217728)) * 10723151780598845931)
def nxV (s : Int) : Int := Go.bits .xor .u64 (mixB (mixA (nxS s))) ((mixB (mixA (nxS s))) / 2147483648)

set_option maxRecDepth 100000 in
set_option maxHeartbeats 800000 in
theorem next_any (w : World) (sb : Nat) (s : Int) (h : w.heap[sb]? = some (.cells #[.int .u64 s] 75 (0, 0))) :
    Calls Try.prog 55 #[.pointer (some ⟨sb, 0, none⟩)] w fun e w' => e = .returned (.int .u64 (nxV s)) ∧ w' = w.setCell ⟨sb, 0, none⟩ (.int .u64 (nxS s)) := by
  have h0 := blk_cell h 0
  have f0 := blk_free h 0
  simp at h0
  clear h
  go_enter Try.func55, Try.ntmps55
  go_wp2
  go_ret
  exact ⟨rfl, rfl⟩

/-- A point as a map's key. -/
def encP (p : Int × Int) : Value := .agg #[.int .i64 p.1, .int .i64 p.2]
theorem eqP (w : World) (a b c d : Int) : (Op.equal 29 (.agg #[.int .i64 a, .int .i64 b]) (.agg #[.int .i64 c, .int .i64 d])).run Try.prog w = .ok (a == c && b == d) w := by
  show (Op.equalIn (9998 + 2) 29 (.agg #[.int .i64 a, .int .i64 b]) (.agg #[.int .i64 c, .int .i64 d])).run Try.prog w = _
  refine eqA_of Try.underlying29 (by kernel_rfl) ?_
  refine eqf_cons (by rfl) (by go_simp; rfl) (by go_simp; rfl) (by go_simp) ?_
  exact eqf_last (by rfl) (by go_simp; rfl) (by go_simp; rfl) (by go_simp)
theorem keyP : KeyT Try.prog 29 encP where
  check := fun w em x => by
    show (Instr.checkKey em 10000 29 (.agg #[.int .i64 x.1, .int .i64 x.2])).run Try.prog w = .ok () w
    kernel_rfl
  equal := fun w x y => by
    obtain ⟨a, b⟩ := x
    obtain ⟨c, d⟩ := y
    show (Op.equal 29 (.agg #[.int .i64 a, .int .i64 b]) (.agg #[.int .i64 c, .int .i64 d])).run Try.prog w = _
    rw [eqP]
    congr 1
    rw [Bool.eq_iff_iff]
    simp
  now := ⟨_, Try.underlying29, .inl fun x y => rfl⟩
  stays := fun x => by simp [encP, Instr.sameBits]

theorem xor_range (a b : Int) : 0 ≤ Go.bits .xor .u64 a b ∧ Go.bits .xor .u64 a b < 18446744073709551616 := by
  unfold Go.bits
  simp only [IntKind.wrap_u64]
  omega
theorem nxV_range (s : Int) : 0 ≤ nxV s ∧ nxV s < 18446744073709551616 := xor_range _ _

/-- The points that are drawn, one behind the other, each once. -/
def scat (n : Int) (want : Nat) : Nat → Int → List (Int × Int) → List (Int × Int)
  | 0, _, l => l
  | f + 1, s, l => if l.length < want then scat n want f (nxS (nxS s)) (if (nxV s % n, nxV (nxS s) % n) ∈ l then l else l ++ [(nxV s % n, nxV (nxS s) % n)]) else l

/-- Points with their places for ids. -/
def wid (l : List (Int × Int)) : List (Int × Int × Int) := l.zipIdx.map fun q => ((q.2 : Int), q.1.1, q.1.2)
theorem wid_len (l : List (Int × Int)) : (wid l).length = l.length := by simp [wid]
theorem wid_snoc (l : List (Int × Int)) (p : Int × Int) : wid (l ++ [p]) = wid l ++ [((l.length : Int), p.1, p.2)] := by
  simp [wid, List.zipIdx_append]
/-- The set of them. -/
def seenOf (l : List (Int × Int)) : List ((Int × Int) × Value) := l.map fun p => (p, .bool true)
theorem look_seen (p : Int × Int) : ∀ l, ZMap.look p (seenOf l) = if p ∈ l then some (.bool true) else none := by
  intro l
  induction l with
  | nil => simp [seenOf, ZMap.look]
  | cons q l ih =>
    simp only [seenOf, List.map_cons, ZMap.look] at ih ⊢
    by_cases h : p = q
    · rw [if_pos h, if_pos (by simp [h])]
    · rw [if_neg h, ih]
      by_cases hm : p ∈ l
      · rw [if_pos hm, if_pos (by simp [hm])]
      · rw [if_neg hm, if_neg (by simp [hm, h])]
theorem put_seen (p : Int × Int) : ∀ l, ¬ p ∈ l → ZMap.put p (.bool true) (seenOf l) = seenOf (l ++ [p]) := by
  intro l
  induction l with
  | nil => intro _; rfl
  | cons q l ih =>
    intro h
    simp only [List.mem_cons, not_or] at h
    simp only [seenOf, List.map_cons, ZMap.put, List.cons_append] at ih ⊢
    rw [if_neg h.1, ih h.2]

/-- What Scatter has in memory. -/
structure Sc (W w : World) (sb lb mb : Nat) (v : Value) (s : Int) (l : List (Int × Int)) : Prop where
  rnd : w.heap[sb]? = some (.cells #[.int .u64 s] 75 (0, 0))
  lay : Lay w W.heap.size lb v (wid l)
  map : MapIs w encP mb (seenOf l)
  bel : Below W.heap.size W w
  lo : W.heap.size ≤ sb ∧ W.heap.size ≤ mb

theorem Sc.fr {W w w' : World} {sb lb mb : Nat} {v : Value} {s : Int} {l : List (Int × Int)} (h : Sc W w sb lb mb v s l) (hf : Fr (fun _ => False) w w') : Sc W w' sb lb mb v s l :=
  ⟨blk_fr h.rnd hf (fun h => h), h.lay.fr hf (fun _ _ h => h), h.map.same (hf.block _ h.map.lt (fun h => h)), h.bel.trans (hf.below _ h.bel.size (fun _ h => h.elim)), h.lo⟩
theorem Sc.own_ne {W w : World} {sb lb mb : Nat} {v : Value} {s : Int} {l : List (Int × Int)} (h : Sc W w sb lb mb v s l) : ¬ Own lb v sb ∧ ¬ Own lb v mb ∧ mb ≠ sb := by
  refine ⟨?_, ?_, ?_⟩
  · rintro (e | e)
    · have h1 := h.lay.blk; rw [← e, h.rnd] at h1; simp at h1
    · exact row_ne h.lay.row h.rnd (by decide) e
  · rintro (e | e)
    · have h1 := h.lay.blk; rw [← e] at h1; exact h.map.not_cells h1
    · rcases h.lay.row.2 with ⟨hv, _⟩ | ⟨g, cap, cur, hv, _, hg, _⟩
      · rw [hv] at e; simp [Value.ownBlock] at e
      · rw [hv] at e; simp [Value.ownBlock] at e; subst e; exact h.map.not_cells hg
  · intro e
    have h1 := h.rnd; rw [← e] at h1; exact h.map.not_cells h1
theorem Sc.next {W w : World} {sb lb mb : Nat} {v : Value} {s : Int} {l : List (Int × Int)} (h : Sc W w sb lb mb v s l) :
    Calls Try.prog 55 #[.pointer (some ⟨sb, 0, none⟩)] w fun e w' => e = .returned (.int .u64 (nxV s)) ∧ Sc W w' sb lb mb v (nxS s) l := by
  refine (next_any w sb s h.rnd).mono ?_
  rintro e w' ⟨rfl, rfl⟩
  obtain ⟨n1, n2, n3⟩ := h.own_ne
  have hf : Fr (fun k => k = sb) w (w.setCell ⟨sb, 0, none⟩ (.int .u64 (nxS s))) := (Fr.refl _ w).set _ _ (.inl rfl)
  exact ⟨rfl, blk_set h.rnd 0 _, h.lay.fr hf (fun k hk e => n1 (e ▸ hk)), h.map.same (hf.block _ h.map.lt n3), h.bel.trans (hf.below _ h.bel.size (fun k e => e ▸ h.lo.1)), h.lo⟩
theorem Sc.put {W w : World} {sb lb mb : Nat} {v : Value} {s : Int} {l : List (Int × Int)} (p : Int × Int) (hl : l.length ≤ 100000)
    (rnd : w.heap[sb]? = some (.cells #[.int .u64 s] 75 (0, 0))) (lay : Lay w W.heap.size lb v (wid l)) (map : MapIs w encP mb (seenOf (l ++ [p]))) (bel : Below W.heap.size W w) (lo : W.heap.size ≤ sb ∧ W.heap.size ≤ mb) :
    Calls Try.prog 56 #[.pointer (some ⟨lb, 0, none⟩), .int .i64 p.1, .int .i64 p.2] w fun e w' => e = .returned (.tuple #[]) ∧ ∃ v', Sc W w' sb lb mb v' s (l ++ [p]) := by
  refine (put_any w _ lb v (wid l) p.1 p.2 lay (by rw [wid_len]; exact hl)).mono ?_
  rintro e w' ⟨rfl, v', hl', hf⟩
  rw [wid_len, ← wid_snoc] at hl'
  have n1 : ¬ Own lb v sb := by
    rintro (e | e)
    · have h1 := lay.blk; rw [← e, rnd] at h1; simp at h1
    · exact row_ne lay.row rnd (by decide) e
  have n2 : ¬ Own lb v mb := by
    rintro (e | e)
    · have h1 := lay.blk; rw [← e] at h1; exact map.not_cells h1
    · rcases lay.row.2 with ⟨hv, _⟩ | ⟨g, cap, cur, hv, _, hg, _⟩
      · rw [hv] at e; simp [Value.ownBlock] at e
      · rw [hv] at e; simp [Value.ownBlock] at e; subst e; exact map.not_cells hg
  refine ⟨rfl, v', blk_fr rnd hf n1, hl', map.same (hf.block _ map.lt n2), bel.trans (hf.below _ bel.size (fun k hk => ?_)), lo⟩
  rcases hk with rfl | hk
  · exact lay.low
  · exact (lay.row.lt k hk).1


theorem scat_len (n : Int) (want : Nat) : ∀ f s l, l.length ≤ want → (scat n want f s l).length ≤ want := by
  intro f
  induction f with
  | zero => intro s l h; exact h
  | succ f ih =>
    intro s l h
    simp only [scat]
    split
    · apply ih; split
      · exact h
      · simp; omega
    · exact h

set_option maxRecDepth 100000 in
set_option maxHeartbeats 3200000 in
theorem Scatter_yes (w : World) (n : Int) (want : Nat) (seed : Int) (hn0 : 1 ≤ n) (hn1 : n ≤ 1073741824) (hw : want ≤ 1000) :
    Calls Try.prog 38 #[.int .i64 n, .int .i64 (want : Int), .int .u64 seed] w fun e w' => ∃ v, e = .returned v ∧ w'.ownsRow w.heap.size 61 3 v (scat n want (4 * want + 16) seed []).length (flat (wid (scat n want (4 * want + 16) seed []))) ∧ Below w.heap.size w w' := by
  have hs0 : Sc w (((w.alloc (.cells #[.int .u64 seed] 75)).alloc (.cells #[.slice none 0 0] 77)).alloc (.map #[] 0)) w.heap.size (w.heap.size + 1) (w.heap.size + 1 + 1) (.slice none 0 0) seed [] := by
    refine ⟨blk_alloc (blk_alloc (heap_alloc_new w _) _) _, ⟨?_, World.ownsRow_nil _ _ _ _, by omega⟩, ?_, ?_, Nat.le_refl _, by omega⟩
    · have := blk_alloc (heap_alloc_new (w.alloc (.cells #[.int .u64 seed] 75)) (.cells #[.slice none 0 0] 77)) (.map #[] 0)
      simpa using this
    · have := MapIs.made (enc := encP) ((w.alloc (.cells #[.int .u64 seed] 75)).alloc (.cells #[.slice none 0 0] 77))
      simpa [seenOf] using this
    · exact ((below_alloc2 w _ _).alloc (by simp; omega) _)
  have HS0 := Lib.hid hs0
  clear hs0
  have hwi : (want : Int) ≤ 1000 := by omega
  have hmm := @run_makeMap Try.prog
  go_enter Try.func38, Try.ntmps38
  go_wp2_with (go_at_call 43; refine (side_yes _ n hn0 hn1).mono ?_; rintro e w' ⟨rfl, rfl⟩)
  go_loopw [10, 11, 12] (fun i _ _ wr => ∃ (t : Nat) (s : Int) (l : List (Int × Int)) (v : Value), t ≤ 4 * want + 16 ∧ i = .int .i64 (t : Int) ∧ l.length ≤ t ∧ l.length ≤ want ∧ Sc w wr w.heap.size (w.heap.size + 1) (w.heap.size + 1 + 1) v s l ∧ scat n want (4 * want + 16 - t) s l = scat n want (4 * want + 16) seed []) (fun i _ _ _ => 4 * want + 16 - (intOf i).toNat)
  case atStart => exact ⟨0, seed, [], _, Nat.zero_le _, rfl, Nat.le_refl _, Nat.zero_le _, HS0.out, rfl⟩
  case round =>
    obtain ⟨t, s, l, v, ht, rfl, hlt, hlw, hsc, heq⟩ := hrel
    have HSC := Lib.hid hsc
    have HEQ := Lib.hid heq
    obtain ⟨p, c, rfl⟩ := row_slice hsc.lay.row
    have k0 := blk_cell hsc.lay.blk 0
    simp [wid_len] at k0
    clear hsc heq
    by_cases hgo : t < 4 * want + 16 ∧ l.length < want
    · obtain ⟨hg1, hg2⟩ := hgo
      have hnb : n.toNat = n := by omega
      have hr1 := nxV_range s
      have hr2 := nxV_range (nxS s)
      have hstep : scat n want (4 * want + 16 - t) s l = scat n want (4 * want + 16 - (t + 1)) (nxS (nxS s)) (if (nxV s % n, nxV (nxS s) % n) ∈ l then l else l ++ [(nxV s % n, nxV (nxS s) % n)]) := by
        rw [show 4 * want + 16 - t = (4 * want + 16 - (t + 1)) + 1 from by omega]
        simp only [scat]; rw [if_pos hg2]
      have HST := Lib.hid hstep
      have HNB := Lib.hid hnb
      clear hstep hnb
      go_wp2_with fail
      refine (Sc.next HSC.out).mono ?_
      rintro e w2 ⟨rfl, h2⟩
      have HS2 := Lib.hid h2
      clear h2 k0
      have hx0 : 0 ≤ nxV s % n := Int.emod_nonneg _ (by omega)
      have hx1 : nxV s % n < n := Int.emod_lt_of_pos _ (by omega)
      have hy0 : 0 ≤ nxV (nxS s) % n := Int.emod_nonneg _ (by omega)
      have hy1 : nxV (nxS s) % n < n := Int.emod_lt_of_pos _ (by omega)
      go_wp2_with fail
      refine (Sc.next HS2.out).mono ?_
      rintro e w3 ⟨rfl, h3⟩
      have hlt3 := h3.map.lt
      have HS3 := Lib.hid h3
      clear h3
      have hz : ∀ W : World, (zeroValue 4).run Try.prog W = .ok (.bool false) W := fun W => by kernel_rfl
      have HZ := Lib.hid hz
      clear hz
      have hma : MapIs (w3.alloc (.cells #[.int .i64 (nxV s % n), .int .i64 (nxV (nxS s) % n)] 29)) encP (w.heap.size + 1 + 1) (seenOf l) := (HS3.out.fr ((Fr.refl _ w3).alloc _)).map
      have HMA := Lib.hid hma
      clear hma
      by_cases hin : (nxV s % n, nxV (nxS s) % n) ∈ l
      · have HIN := Lib.hid hin
        clear hin
        go_wp2_with (at_lookup; refine wp_look _ rfl (.tmp 56) (.tmp 57) 78 false rfl 4 keyP Try.underlying78 (.bool false) (HZ.out _) (w.heap.size + 1 + 1) (seenOf l) rfl HMA.out (nxV s % n, nxV (nxS s) % n) rfl ?_; rw [look_seen, if_pos HIN.out]; simp only [Option.getD_some, Bool.false_eq_true, if_false])
        go_roundw
        case rel =>
          refine ⟨t + 1, _, l, _, by omega, by go_num, by omega, hlw, HS3.out.fr ((Fr.refl _ w3).alloc _), ?_⟩
          rw [← HEQ.out, HST.out, if_pos HIN.out]
        case measure => simp [intOf]; omega
      · have HIN := Lib.hid hin
        clear hin
        go_wp2_with (first
          | (at_lookup; refine wp_look _ rfl (.tmp 56) (.tmp 57) 78 false rfl 4 keyP Try.underlying78 (.bool false) (HZ.out _) (w.heap.size + 1 + 1) (seenOf l) rfl HMA.out (nxV s % n, nxV (nxS s) % n) rfl ?_; rw [look_seen, if_neg HIN.out]; simp only [Option.getD_none, Bool.false_eq_true, if_false])
          | (at_mapUpdate; refine wp_put _ rfl (.tmp 60) (.tmp 61) (.const (.bool true)) 78 rfl 4 keyP Try.underlying78 (w.heap.size + 1 + 1) (seenOf l) rfl HMA.out (nxV s % n, nxV (nxS s) % n) rfl (.bool true) rfl ?_; intro w4 hm4 hg4; have hne3 : ¬ w3.heap.size = w.heap.size + 1 + 1 := (by omega); have hb4 := blk_grown (heap_alloc_new w3 (.cells #[.int .i64 (nxV s % n), .int .i64 (nxV (nxS s) % n)] 29)) hg4 (by simp; omega); have q0 := blk_cell hb4 0; have q1 := blk_cell hb4 1; simp at q0 q1; have HB4 := Lib.hid hb4; have HM4 := Lib.hid hm4; have HG4 := Lib.hid hg4; clear hb4 hm4 hg4))
        have hf4 : Fr (fun k => k = w.heap.size + 1 + 1) w3 w4 := ((Fr.refl _ w3).alloc _).grown HG4.out (fun k hk => .inl (by simpa using hk.symm))
        have hn3 := HS3.out.own_ne
        have hrnd := blk_fr HS3.out.rnd hf4 (fun e => hn3.2.2 e.symm)
        have hlay := HS3.out.lay.fr hf4 (fun k hk e => hn3.2.1 (e ▸ hk))
        have hm5 := HM4.out
        rw [put_seen _ _ HIN.out] at hm5
        have hbel := HS3.out.bel.trans (hf4.below _ HS3.out.bel.size (fun k e => by rw [e]; exact HS3.out.lo.2))
        refine (Sc.put (W := w) (nxV s % n, nxV (nxS s) % n) (by omega) hrnd hlay hm5 hbel HS3.out.lo).mono ?_
        rintro e w5 ⟨rfl, v5, h5⟩
        have HS5 := Lib.hid h5
        clear h5 hrnd hlay hm5 hbel hf4 hn3 q0 q1
        go_wp2_with fail
        go_roundw
        case rel =>
          refine ⟨t + 1, _, _, _, by omega, by go_num, ?_, ?_, HS5.out, ?_⟩
          · simp; omega
          · simp; omega
          · rw [← HEQ.out, HST.out, if_neg HIN.out]
        case measure => simp [intOf]; omega
    · go_wp2_with fail
      all_goals
        go_ret
        have hfin : scat n want (4 * want + 16) seed [] = l := by
          rw [← HEQ.out]
          rcases Nat.lt_or_ge t (4 * want + 16) with h | h
          · rw [show 4 * want + 16 - t = (4 * want + 16 - (t + 1)) + 1 from by omega]
            simp only [scat]; rw [if_neg (by omega)]
          · rw [show 4 * want + 16 - t = 0 from by omega]; rfl
        rw [hfin]
        have hr := HSC.out.lay.row
        rw [wid_len] at hr
        exact ⟨_, rfl, hr, HSC.out.bel⟩

end Go.Proofs.Ytkhdnkmocbceeaa.Pat
