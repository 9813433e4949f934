/- What is used of HfI. -/
import Derived.Test.YtngmkjgklonfmaaSkHfG
namespace Go.Proofs.Ytngmkjgklonfmaa.Wd
open Go.RowKit Go.Proofs.ZFr Go.Proofs.Ytngmkjgklonfmaa.PNearNearest Go.Proofs.Ytngmkjgklonfmaa.Big Go.Proofs.YtngmkjgklonfmaaW.PrintWords
theorem flatI_at (p : List Nat) (j : Nat) (h : j < p.length) : (flatI p)[j]? = some (.int .i64 (p[j] : Int)) := by
  unfold flatI; rw [List.getElem?_map, List.getElem?_eq_getElem h]; rfl
/-- The first of the two parts. -/
theorem part_first {l : List Hf.P} {f : Nat} (IH : PartC l f) {p : List Nat} {k i bf ga oa c cp n B gg cap : Nat} {ad : Addr} {v : Value} {xs : List Value} {t : Hf.Tr} {W wc : World} (hm : p.length = k + 2) (hi : i < k) (hpf : p.length < f + 1) (hpi : ∀ i ∈ p, i < l.length)
    (hW : bf < W.heap.size) (hP : Pts W (some ad) l) (hI : Its W ga oa p) (hF : Fr (fun k => k = bf ∨ v.ownBlock = some k) W wc) (hb : wc.heap[bf]? = some (.cells #[.slice (some ad) l.length cp, .slice (some ⟨gg, 0, none⟩) (n + 1) cap] 117 (0, 0)))
    (hr : wc.ownsRow B 60 3 (.slice (some ⟨gg, 0, none⟩) (n + 1) cap) (n + 1) (xs ++ flatT [t])) (hgg : v.ownBlock = some gg ∨ W.heap.size ≤ gg) (hB : B ≤ W.heap.size) (hn : n + p.length ≤ 1000) (hc : p.length ≤ c)
    (n1 : ga ≠ bf) (n3 : v.ownBlock ≠ some ga) (n5 : v.ownBlock ≠ some bf) (n4 : ∀ a, some ad = some a → a.block ≠ bf ∧ v.ownBlock ≠ some a.block) (w : World) (hw : Fr (fun _ => False) wc w) :
    Calls Try.prog 70 #[.pointer (some ⟨bf, 0, none⟩), .slice (some ⟨ga, oa + 1, none⟩) (i + 2) (c - 1)] w fun e w' => e = .returned (.bool (Hf.fl l ((p.drop 1).take (i + 2))).isSome) ∧ PartQ bf (n + 1) B (.slice (some ad) l.length cp) (.slice (some ⟨gg, 0, none⟩) (n + 1) cap) (xs ++ flatT [t]) w (Hf.fl l ((p.drop 1).take (i + 2))) w' := by
  have hlen : ((p.drop 1).take (i + 2)).length = i + 2 := by simp; omega
  have h0 : 0 < l.length := Nat.lt_of_le_of_lt (Nat.zero_le _) (hpi p[0] (List.getElem_mem (by omega)))
  have hga : ga < W.heap.size := World.block_lt_of_cell? W _ (hI 0 (by omega))
  have had : ad.block < W.heap.size := by
    obtain ⟨ad', e, h1, _⟩ := hP 0 h0
    cases e
    have := World.block_lt_of_cell? W _ h1
    have hb : (ad.add (0 * 2)).block = ad.block := by unfold Addr.add; split <;> rfl
    omega
  have h := IH ((p.drop 1).take (i + 2)) bf ga (oa + 1) (c - 1) cp (n + 1) B (some ad) (.slice (some ⟨gg, 0, none⟩) (n + 1) cap) (xs ++ flatT [t]) w (by omega) (fun j hj => hpi j (List.mem_of_mem_drop (List.mem_of_mem_take hj)))
    (ZFr.blk_fr hb hw (fun h => h)) (Pts.fr (hP.frS hF (fun a ha h => h.elim (n4 a ha).1 (n4 a ha).2)) hw)
    (fun j hj => by
      have hj' : j + 1 < p.length := by omega
      have h2 := fr_cell ((hI.frS hF (fun h => h.elim n1 n3)) (j + 1) hj') hw
      rw [show oa + 1 + j = oa + (j + 1) from by omega, h2]
      simp)
    (row_fr hr hw (fun _ _ h => h)) (Nat.le_trans hB (Nat.le_trans hF.size hw.size)) (by omega) (by omega) n1
    (by simp only [Value.ownBlock, ne_eq, Option.some.injEq]; rintro rfl; rcases hgg with h | h; exact n3 h; omega)
    (by simp only [Value.ownBlock, ne_eq, Option.some.injEq]; rintro rfl; rcases hgg with h | h; exact n5 h; omega)
    (fun a ha => ⟨(n4 a ha).1, by
      cases ha
      simp only [Value.ownBlock, ne_eq, Option.some.injEq]; rintro rfl; rcases hgg with h | h; exact (n4 ad rfl).2 h; omega⟩)
  rw [hlen] at h
  exact h
/-- slices.Clone of what is left. -/
theorem clone_rest {p : List Nat} {k i ga oa c : Nat} {w : World} (hm : p.length = k + 2) (hi : i < k) (hk : k ≤ 1000) (hI : Its w ga oa p) : Calls Try.prog 94 #[.slice (some ⟨ga, oa + (i + 2), none⟩) (k - i) (c - (i + 2))] w fun e w' => ∃ p', ∃ d, e = .returned (.slice p' (k - i) d) ∧ w'.ownsRow w.heap.size 3 1 (.slice p' (k - i) d) (k - i) (flatI (p.drop (i + 2))) ∧ Fr (fun _ => False) w w' := by
  have h := Try.slices_Clone_int ga (oa + (i + 2)) (k - i) (c - (i + 2)) ((p.drop (i + 2)).map fun j : Nat => (j : Int)) w (by simp; omega) (by omega) (fun j hj => by
    have hj' : j + (i + 2) < p.length := by simp at hj; omega
    have h2 := hI (j + (i + 2)) hj'
    rw [show oa + (i + 2) + j = oa + (j + (i + 2)) from by omega, h2]
    congr 2
    simp [List.getD, hj', Nat.add_comm (i + 2) j])
  refine h.mono ?_
  rintro e w' ⟨v', rfl, hr, _, hb⟩
  obtain ⟨p', d, rfl⟩ := row_slice hr
  refine ⟨p', d, rfl, ?_, Fr.of_below hb⟩
  have e1 : (((p.drop (i + 2)).map fun j : Nat => (j : Int)).take (k - i)).map (Value.int .i64) = flatI (p.drop (i + 2)) := by
    rw [List.take_of_length_le (by simp; omega), List.map_map]; rfl
  rw [← e1]
  exact hr
/-- The second of the two parts. -/
theorem part_second {l : List Hf.P} {f : Nat} (IH : PartC l f) {p : List Nat} {k i bf cp n B q0 : Nat} {ad : Addr} {v6 : Value} {xs : List Value} {w4 : World} (hm : p.length = k + 2) (hi : i < k) (hpf : p.length < f + 1) (hpi : ∀ i ∈ p, i < l.length) (hq : p.getD 0 0 = q0)
    (hP : Pts w4 (some ad) l) (hb : w4.heap[bf]? = some (.cells #[.slice (some ad) l.length cp, v6] 117 (0, 0))) (hr : w4.ownsRow B 60 3 v6 n xs) (hB : B ≤ w4.heap.size) (hn : n + (k - i + 1) ≤ 1000) (n5 : v6.ownBlock ≠ some bf) (n4 : ∀ a, some ad = some a → a.block ≠ bf ∧ v6.ownBlock ≠ some a.block)
    (ga2 cap2 B2 : Nat) (w : World) (hw : Fr (fun _ => False) w4 w) (hnew : w4.heap.size ≤ ga2) (hrow : w.ownsRow B2 3 1 (.slice (some ⟨ga2, 0, none⟩) (k - i + 1) cap2) (k - i + 1) (flatI (p.drop (i + 2)) ++ [.int .i64 (q0 : Int)])) :
    Calls Try.prog 70 #[.pointer (some ⟨bf, 0, none⟩), .slice (some ⟨ga2, 0, none⟩) (k - i + 1) cap2] w fun e w' => e = .returned (.bool (Hf.fl l (p.drop (i + 2) ++ [q0])).isSome) ∧ PartQ bf n B (.slice (some ad) l.length cp) v6 xs w (Hf.fl l (p.drop (i + 2) ++ [q0])) w' := by
  subst hq
  have hlen : (p.drop (i + 2) ++ [p.getD 0 0]).length = k - i + 1 := by simp; omega
  have hrow' : w.ownsRow B2 3 1 (.slice (some ⟨ga2, 0, none⟩) (k - i + 1) cap2) (k - i + 1) (flatI (p.drop (i + 2) ++ [p.getD 0 0])) := by
    rw [show flatI (p.drop (i + 2) ++ [p.getD 0 0]) = flatI (p.drop (i + 2)) ++ [.int .i64 ((p.getD 0 0 : Nat) : Int)] from by unfold flatI; rw [List.map_append]; rfl]
    exact hrow
  have hbl := ZFr.blk_lt hb
  have h := IH (p.drop (i + 2) ++ [p.getD 0 0]) bf ga2 0 cap2 cp n B (some ad) v6 xs w (by omega) (fun j hj => by
      rcases List.mem_append.1 hj with h | h
      · exact hpi j (List.mem_of_mem_drop h)
      · have h0 : 0 < p.length := by omega
        simp [List.getD, h0] at h
        rw [h]; exact hpi _ (List.getElem_mem h0))
    (ZFr.blk_fr hb hw (fun h => h)) (Pts.fr hP hw) (its_row hrow') (row_fr hr hw (fun _ _ h => h)) (Nat.le_trans hB hw.size) (by omega) (by rw [hlen]; exact row_cap hrow') (by omega)
    (fun h => by have := (rbase hr _ h).2; omega) n5 n4
  rw [hlen] at h
  exact h
/-- Behind the first part. -/
theorem part_mid {l : List Hf.P} {bf gg cap n B ga oa cp : Nat} {ad : Addr} {v : Value} {xs : List Value} {p : List Nat} {o1 : List Hf.Tr} {W wc w14 : World} (hq : PartQ bf n B (.slice (some ad) l.length cp) (.slice (some ⟨gg, 0, none⟩) n cap) xs wc (some o1) w14) (hP : Pts wc (some ad) l) (hI : Its wc ga oa p) (hbf : bf < W.heap.size) (hga : ga < W.heap.size) (had : ad.block < W.heap.size) (hW : W.heap.size ≤ wc.heap.size)
    (hgg : v.ownBlock = some gg ∨ W.heap.size ≤ gg) (n1 : ga ≠ bf) (n3 : v.ownBlock ≠ some ga) (n5 : v.ownBlock ≠ some bf) (n4 : ad.block ≠ bf ∧ v.ownBlock ≠ some ad.block) :
    Fr (fun k => k = bf ∨ gg = k) wc w14 ∧ ∃ v6, w14.heap[bf]? = some (.cells #[.slice (some ad) l.length cp, v6] 117 (0, 0)) ∧ w14.ownsRow B 60 3 v6 (n + o1.length) (xs ++ flatT o1) ∧ v6.ownBlock ≠ some bf ∧ v6.ownBlock ≠ some ad.block ∧ Pts w14 (some ad) l ∧ Its w14 ga oa p ∧ ∀ k, v6.ownBlock = some k → v.ownBlock = some k ∨ W.heap.size ≤ k := by
  obtain ⟨hf, hx⟩ := hq
  obtain ⟨v6, hb, hr, hv⟩ := hx o1 rfl
  have hf' : Fr (fun k => k = bf ∨ gg = k) wc w14 := hf.mono (fun k h => h.imp_right (fun h => by simpa [Value.ownBlock] using h))
  have g1 : gg ≠ bf := by rintro rfl; rcases hgg with h | h; exact n5 h; omega
  have g2 : gg ≠ ga := by rintro rfl; rcases hgg with h | h; exact n3 h; omega
  have g3 : gg ≠ ad.block := by intro e; rcases hgg with h | h; exact n4.2 (e ▸ h); omega
  have hv' : ∀ k, v6.ownBlock = some k → v.ownBlock = some k ∨ W.heap.size ≤ k := fun k hk => by
    rcases hv k hk with h | h
    · simp only [Value.ownBlock, Option.some.injEq] at h
      subst h; exact hgg
    · exact .inr (Nat.le_trans hW h)
  refine ⟨hf', v6, hb, hr, fun h => ?_, fun h => ?_, hP.frS hf' (fun a ha h => ?_), hI.frS hf' (fun h => ?_), hv'⟩
  · rcases hv' _ h with h | h; exact n5 h; omega
  · rcases hv' _ h with h | h; exact n4.2 h; omega
  · cases ha
    rcases h with h | h; exact n4.1 h; exact g3 h
  · rcases h with h | h; exact n1 h; exact g2 h
theorem fl_len {l : List Hf.P} {p : List Nat} {o : List Hf.Tr} (hp : 2 ≤ p.length) (h : Hf.fl l p = some o) : o.length = p.length - 2 := Hf.fills_len l _ p o hp h
/-- Behind both parts: what has turned. -/
theorem part_fr {bf gg : Nat} {v v6 : Value} {W wc w14 w16 w17 : World} (F9 : Fr (fun k => k = bf ∨ v.ownBlock = some k) W wc) (f14 : Fr (fun k => k = bf ∨ gg = k) wc w14) (f16 : Fr (fun _ => False) w14 w16) (f17 : Fr (fun k => k = bf ∨ v6.ownBlock = some k) w16 w17)
    (hgg : v.ownBlock = some gg ∨ W.heap.size ≤ gg) (hv6 : ∀ k, v6.ownBlock = some k → v.ownBlock = some k ∨ W.heap.size ≤ k) : Fr (fun k => k = bf ∨ v.ownBlock = some k) W w17 := by
  refine ((F9.trans f14 (fun k h hlt => ?_)).trans f16 (fun _ h _ => h.elim)).trans f17 (fun k h hlt => ?_)
  · rcases h with h | rfl
    · exact .inl h
    · rcases hgg with h | h
      · exact .inr h
      · omega
  · rcases h with h | h
    · exact .inl h
    · rcases hv6 k h with h | h
      · exact .inr h
      · omega
end Go.Proofs.Ytngmkjgklonfmaa.Wd

