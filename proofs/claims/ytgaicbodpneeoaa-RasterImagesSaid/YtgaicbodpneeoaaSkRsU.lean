/- What is used of RsU. -/
import Derived.Test.YtgaicbodpneeoaaSkRsT
namespace Go.Proofs.Ytgaicbodpneeoaa.Rs
open Go.RowKit Go.Proofs.ZFr Go.Proofs.Ytgaicbodpneeoaa.PRasterImages Go.Proofs.Ytgaicbodpneeoaa.Wd Go.Proofs.YtgaicbodpneeoaaW.PrintWords
theorem joinAll_fold (out : List Sp) : ∀ l, joinAll out l = l.foldr (fun s o => joined o s) out
  | [] => rfl
  | s :: r => by rw [joinAll, joinAll_fold out r]; rfl
def jn (b : Int) (o : List Sp) (s : Sp) : List Sp := joined o (shift b s)
theorem sq_fold (L : List Cone) (lo hi b : Int) (out : List Sp) : sq L lo hi b out = (spl (lower L lo hi).reverse hi).foldl (jn b) out := by
  unfold sq
  rw [joinAll_fold, List.foldr_map, ← spans_rev, List.foldl_reverse]
  rfl
theorem joined_len (o : List Sp) (s : Sp) : (joined o s).length ≤ o.length + 1 := by
  rcases o with - | ⟨u, r⟩
  · simp [joined]
  · rw [joined]; split <;> simp
theorem rows_step (L : List Cone) (n t : Int) (k : Nat) (x : Int) (out : List Sp) (h : x < t) (hk : (t - x).toNat ≤ k) : rows L n t k x out = rows L n t (k - 1) (min n (t - x / n * n) + x / n * n) (sq L (x % n) (min n (t - x / n * n)) (x / n * n) out) := by
  obtain ⟨m, rfl⟩ : ∃ m, k = m + 1 := ⟨k - 1, by omega⟩
  rw [rows, if_pos h]
  rfl
theorem rows_end (L : List Cone) (n t : Int) (k : Nat) (x : Int) (out : List Sp) (h : ¬ x < t) : rows L n t k x out = out := by
  cases k with
  | zero => rfl
  | succ k => rw [rows, if_neg h]
def RowOk (l : List Site) (n y a t : Int) : Prop := goodB l n = true ∧ (inQ a ∧ inQ y) ∧ (inQ t ∧ inQ y) ∧ ¬ t < a ∧ ¬ 4096 < t - a
instance (l : List Site) (n y a t : Int) : Decidable (RowOk l n y a t) := inferInstanceAs (Decidable (_ ∧ _))
theorem pt_cells {w : World} {b : Nat} {x y : Int} (H : w.heap[b]? = some (.cells #[.int .i64 x, .int .i64 y] 41 (0, 0))) : w.cell? ⟨b, 0, none⟩ = some (.int .i64 x) ∧ w.cell? ⟨b, 1, none⟩ = some (.int .i64 y) := ⟨ZFr.blk_cell H 0, ZFr.blk_cell H 1⟩
theorem of_cells {w : World} {b : Nat} {x y : Int} (H : w.heap[b]? = some (.cells #[.int .i64 x, .int .i64 y] 44 (0, 0))) : w.cell? ⟨b, 0, none⟩ = some (.int .i64 x) ∧ w.cell? ⟨b, 1, none⟩ = some (.int .i64 y) := ⟨ZFr.blk_cell H 0, ZFr.blk_cell H 1⟩
/-- The spans of a square. -/
def OnlyS (SP : List Sp) (w : World) (B g c : Nat) : Prop := OwnS w B (.slice (some ⟨g, 0, none⟩) SP.length c) SP
theorem OwnS.fr {w w' : World} {B : Nat} {v : Value} {l : List Sp} (h : OwnS w B v l) (hf : Fr (fun _ => False) w w') : OwnS w' B v l := ZFr.row_fr h hf (fun _ _ h => h)
theorem lower_in (lo hi : Int) (h1 : okX lo) (h2 : okX hi) : ∀ (L : List Cone) (S : List Part), (∀ x ∈ L, okC x) → OkS S → OkS (L.foldl (push lo hi) S)
  | [], _, _, h => h
  | a :: L, S, h, hs => lower_in lo hi h1 h2 L _ (fun x hx => h x (by simp [hx])) (push_in lo hi h1 h2 S a (h a (by simp)) hs).1
theorem spl_ok {hi : Int} (h2 : okX hi) : ∀ P : List Part, OkS P → ∀ s ∈ spl P hi, okX s.f ∧ okX s.t
  | [], _, s, hs => by simp [spl] at hs
  | [p], h, s, hs => by
    simp only [spl, List.mem_singleton] at hs
    subst hs
    exact ⟨(h p (by simp)).2, h2⟩
  | p :: q :: r, h, s, hs => by
    simp only [spl, List.mem_cons] at hs
    rcases hs with rfl | hs
    · exact ⟨(h p (by simp)).2, (h q (by simp)).2⟩
    · exact spl_ok h2 (q :: r) (fun x hx => h x (by simp only [List.mem_cons] at hx ⊢; exact .inr hx)) s hs
theorem spn_ok (l : List Site) (n row lo hi : Int) (hn : 1 ≤ n ∧ n ≤ 1073741824) (hr : 0 ≤ row ∧ row < n) (hok : ∀ x ∈ l, okSt n x) (h1 : okX lo) (h2 : okX hi) : ∀ s ∈ spn l n row lo hi, okX s.f ∧ okX s.t := by
  refine spl_ok h2 _ (fun p hp => ?_)
  exact lower_in lo hi h1 h2 (cones l n row) [] (okC_cones hn hr hok) (fun p hp => by simp at hp) p (List.mem_reverse.1 hp)
set_option maxRecDepth 100000 in
set_option maxHeartbeats 4000000 in
theorem row_yes (A : Option Addr) (cp : Nat) (l : List Site) (n y a t : Int) (W : World) (hR : SiteC W A l) (hl : l.length ≤ 30) (hok : RowOk l n y a t) :
    Calls Try.prog 6 #[.slice A l.length cp, .int .i64 n, .int .i64 y, .int .i64 a, .int .i64 t] W fun e w' => ∃ v, e = .returned (.tuple #[v, .bool true]) ∧ OwnS w' W.heap.size v (row l n y a t).reverse ∧ Fr (fun _ => False) W w' := by
  obtain ⟨hg, ha, ht, hlt, hgt⟩ := hok
  obtain ⟨hn, h0, hst⟩ := good_ok hg
  have HG := Lib.hid (fun w (h : Fr (fun _ => False) W w) => good_walk A cp l n w (hR.fr h) hl)
  rw [hg] at HG
  have HA := Lib.hid (fun w => can_c a y w)
  have HT := Lib.hid (fun w => can_c t y w)
  rw [decide_eq_true ha] at HA
  rw [decide_eq_true ht] at HT
  have ew : IntKind.i64.wrap (t - a) = t - a := by rw [Go.Proofs.YtgaicbodpneeoaaW.PrintLast.i64_w]; unfold inQ at *; unfold wrap64; omega
  have hyn : 0 ≤ y % n ∧ y % n < n := ⟨Int.emod_nonneg _ (by omega), Int.emod_lt_of_pos _ (by omega)⟩
  have HS := Lib.hid (fun w lo hi (h : Fr (fun _ => False) W w) (h1 : okX lo) (h2 : okX hi) => spans_walk A cp l n (y % n) lo hi w (hR.fr h) hst hn hyn hl h0 h1 h2)
  have HLN := Lib.hid (fun lo hi (h1 : okX lo) (h2 : okX hi) => (show (spn l n (y % n) lo hi).length ≤ 90 from by
    unfold spn
    rw [spl_len, List.length_reverse]
    have h3 := lower_len (cones l n (y % n)) lo hi h1 h2 (okC_cones hn hyn hst)
    have h4 : (cones l n (y % n)).length = 3 * l.length := by unfold cones; rw [List.length_mergeSort, raw_length]
    omega))
  have HB := Lib.hid (show (1 ≤ n ∧ n ≤ 1073741824) ∧ (inQ a ∧ inQ y) ∧ (inQ t ∧ inQ y) ∧ a ≤ t ∧ t - a ≤ 4096 from ⟨hn, ha, ht, by omega, by omega⟩)
  obtain ⟨FIN, hFIN⟩ : ∃ FIN, row l n y a t = FIN := ⟨_, rfl⟩
  rw [hFIN]
  have HF := Lib.hid (show rows (cones l n (y % n)) n t (t - a).toNat a [] = FIN from hFIN)
  have hge : a ≤ t := by omega
  clear hR hl hg ha ht hn h0 hyn hFIN hge
  have hst' := hst
  have HST := Lib.hid hst
  clear hst hst'
  have t1 := ZFr.blk_alloc (heap_alloc_new W (Obj.cells #[Value.int IntKind.i64 a, Value.int IntKind.i64 y] 41)) (Obj.cells #[Value.int IntKind.i64 t, Value.int IntKind.i64 y] 41)
  have t2 := second W (Obj.cells #[Value.int IntKind.i64 a, Value.int IntKind.i64 y] 41) (Obj.cells #[Value.int IntKind.i64 t, Value.int IntKind.i64 y] 41)
  have f2 := ((Fr.refl (fun _ => False) W).alloc (Obj.cells #[Value.int IntKind.i64 a, Value.int IntKind.i64 y] 41)).alloc (Obj.cells #[Value.int IntKind.i64 t, Value.int IntKind.i64 y] 41)
  go_enter Try.func6, Try.ntmps6
  go_upto_region 2 with fail
  generalize (W.alloc (Obj.cells #[Value.int IntKind.i64 a, Value.int IntKind.i64 y] 41)).alloc (Obj.cells #[Value.int IntKind.i64 t, Value.int IntKind.i64 y] 41) = w2 at t1 t2 f2 ⊢
  have T1 := Lib.hid t1
  have T2 := Lib.hid t2
  have F2 := Lib.hid f2
  clear t1 t2 f2
  go_upto_region 4 with (first
      | (go_at_call 11; have hc_ := HG.out w2 F2.out; (with_reducible refine hc_.mono ?_); clear hc_; rintro e w3 ⟨rfl, f3⟩; have F3 := Lib.hid (F2.out.trans f3 (fun _ h _ => h)); have U3 := Lib.hid (ZFr.blk_fr T2.out f3 (fun h => h)); obtain ⟨p0, p1⟩ := pt_cells (ZFr.blk_fr T1.out f3 (fun h => h)); clear f3)
      | (go_at_call 12; have hc_ := HA.out w3; (with_reducible refine hc_.mono ?_); clear hc_; rintro e w4 ⟨rfl, f4⟩; have F4 := Lib.hid (F3.out.trans f4 (fun _ h _ => h)); obtain ⟨q0, q1⟩ := pt_cells (ZFr.blk_fr U3.out f4 (fun h => h)); clear f4)
      | (go_at_call 12; have hc_ := HT.out w4; (with_reducible refine hc_.mono ?_); clear hc_; rintro e w5 ⟨rfl, f5⟩; have F5 := Lib.hid (F4.out.trans f5 (fun _ h _ => h)); clear f5))
  clear p0 p1 q0 q1 T1 T2 F2 F3 U3 F4 HA HT HG ew hlt hgt
  go_wp2_with fail
  go_loopw [14, 15, 16, 17, 18, 19, 20, 22] (fun v14 v15 _ _ _ _ _ _ wr => ∃ (x : Int) (R : List Sp) (k : Nat), v15 = .int .i64 x ∧ Hid (a ≤ x ∧ x ≤ t ∧ (t - x).toNat ≤ k ∧ R.length ≤ 90 * (x - a).toNat) ∧ Hid (rows (cones l n (y % n)) n t k x R = FIN) ∧ OwnS wr W.heap.size v14 R.reverse ∧ Fr (fun _ => False) W wr) (fun _ v15 _ _ _ _ _ _ _ => (t - intOf v15).toNat)
  case atStart => exact ⟨a, [], _, rfl, Lib.hid ⟨by omega, HB.out.2.2.2.1, Nat.le_refl _, by simp⟩, HF, ⟨rfl, .inl ⟨rfl, rfl⟩⟩, F5.out⟩
  case round =>
    clear F5 HF
    obtain ⟨x, R, k, rfl, HX, HR, hown, hf⟩ := hrel
    have OW := Lib.hid hown
    have F := Lib.hid hf
    clear hown hf
    by_cases hxt : x < t
    · have HN := Lib.hid (rows_step (cones l n (y % n)) n t k x R hxt HX.out.2.2.1)
      have HXT := Lib.hid hxt
      have e0 := Int.emod_add_mul_ediv x n
      have hp0 := Int.emod_nonneg x (show n ≠ 0 by have := HB.out.1; omega)
      have hp1 := Int.emod_lt_of_pos x (show 0 < n by have := HB.out.1; omega)
      rw [Int.mul_comm] at e0
      have HH := Lib.hid (fun w => home_c x y n HB.out.1 (by have := HB.out; have := HX.out; unfold inQ at *; omega) HB.out.2.1.2 w)
      obtain ⟨p, hp⟩ : ∃ p, x % n = p := ⟨_, rfl⟩
      obtain ⟨q, hq⟩ : ∃ q, x / n = q := ⟨_, rfl⟩
      obtain ⟨b, hb⟩ : ∃ b, q * n = b := ⟨_, rfl⟩
      obtain ⟨m, hm⟩ : ∃ m, min n (t - b) = m := ⟨_, rfl⟩
      obtain ⟨ly, hly⟩ : ∃ ly, y % n = ly := ⟨_, rfl⟩
      obtain ⟨oy, hoy⟩ : ∃ oy, y / n = oy := ⟨_, rfl⟩
      rw [hq, hb] at e0
      rw [hp, hq, hly, hoy] at HH
      rw [hp, hq, hb, hm, hly] at HN
      rw [hly] at HS HLN HR
      rw [hp] at e0 hp0 hp1
      have HP := Lib.hid (show p + b = x ∧ 0 ≤ p ∧ p < n from ⟨e0, hp0, hp1⟩)
      have HMX := Lib.hid (show m ≤ n ∧ m ≤ t - b ∧ (m = n ∨ m = t - b) from by omega)
      have e1 : IntKind.i64.wrap (q * n) = b := by
        have h1 := HB.out
        have h2 := HX.out
        rw [hb, Go.Proofs.YtgaicbodpneeoaaW.PrintLast.i64_w]
        unfold inQ at h1
        unfold wrap64
        omega
      have e2 : IntKind.i64.wrap (t - b) = t - b := by
        have h1 := HB.out
        have h2 := HX.out
        rw [Go.Proofs.YtgaicbodpneeoaaW.PrintLast.i64_w]
        unfold inQ at h1
        unfold wrap64
        omega
      have hk1 : okX p := by have := HB.out.1; unfold okX; omega
      have hk2 : okX m := by have h1 := HB.out; have h2 := HX.out; have h3 := HP.out; unfold inQ at h1; unfold okX; omega
      have HSP := Lib.hid (fun w h => HS.out w p m h hk1 hk2)
      have HSL := Lib.hid (HLN.out p m hk1 hk2)
      have HSO := Lib.hid (spn_ok l n ly p m HB.out.1 (by rw [← hly]; have := HB.out.1; exact ⟨Int.emod_nonneg _ (by omega), Int.emod_lt_of_pos _ (by omega)⟩) HST.out hk1 hk2)
      have HQ := Lib.hid (show sq (cones l n ly) p m b R = (spn l n ly p m).foldl (jn b) R from sq_fold _ _ _ _ _)
      obtain ⟨SP, hSP⟩ : ∃ SP, spn l n ly p m = SP := ⟨_, rfl⟩
      rw [hSP] at HSP HSL HSO HQ
      have HMQ := Lib.hid hm
      have HLYQ := Lib.hid hly
      have HBX := Lib.hid (show IntKind.i64.wrap (m + b) = m + b from by
        have h1 := HB.out
        have h2 := HX.out
        rw [Go.Proofs.YtgaicbodpneeoaaW.PrintLast.i64_w]
        unfold inQ at h1
        unfold okX at hk2
        unfold wrap64
        omega)
      clear hp hq hb hm hly hoy e0 hp0 hp1 hk1 hk2 hSP
      go_upto_region 10 with (go_at_call 13; have hc_ := HH.out wr; (with_reducible refine hc_.mono ?_); clear hc_; rintro e w6 ⟨rfl, f6⟩; have F6 := Lib.hid (F.out.trans f6 (fun _ h _ => h)); have OW6 := Lib.hid (OW.out.fr f6); have T6 := Lib.hid (ZFr.blk_alloc (heap_alloc_new w6 (Obj.cells #[Value.int IntKind.i64 p, Value.int IntKind.i64 ly] 41)) (Obj.cells #[Value.int IntKind.i64 q, Value.int IntKind.i64 oy] 44)); have U6 := Lib.hid (second w6 (Obj.cells #[Value.int IntKind.i64 p, Value.int IntKind.i64 ly] 41) (Obj.cells #[Value.int IntKind.i64 q, Value.int IntKind.i64 oy] 44)); obtain ⟨o0, o1⟩ := of_cells U6.out; obtain ⟨p0, p1⟩ := pt_cells T6.out; clear f6)
      rw [HMQ.out]
      obtain ⟨w7, hw7⟩ : ∃ w7, (w6.alloc (Obj.cells #[Value.int IntKind.i64 p, Value.int IntKind.i64 ly] 41)).alloc (Obj.cells #[Value.int IntKind.i64 q, Value.int IntKind.i64 oy] 44) = w7 := ⟨_, rfl⟩
      have F7 := Lib.hid ((F6.out.alloc (Obj.cells #[Value.int IntKind.i64 p, Value.int IntKind.i64 ly] 41)).alloc (Obj.cells #[Value.int IntKind.i64 q, Value.int IntKind.i64 oy] 44))
      have OW7 := Lib.hid (OW6.out.fr (((Fr.refl (fun _ => False) w6).alloc (Obj.cells #[Value.int IntKind.i64 p, Value.int IntKind.i64 ly] 41)).alloc (Obj.cells #[Value.int IntKind.i64 q, Value.int IntKind.i64 oy] 44)))
      rw [hw7] at T6 F7 OW7 p0 p1
      rw [hw7]
      clear hw7 U6 o0 o1 F6 OW6 OW F e1 e2
      go_upto_region 11 with (go_at_call 14; have hc_ := HSP.out w7 F7.out; (with_reducible refine hc_.mono ?_); clear hc_; rintro e w8 ⟨v8, rfl, h8, f8⟩; have D8 := Lib.hid (fun k (hk : (_ : Value).ownBlock = some k) (hk2 : v8.ownBlock = some k) => Nat.lt_irrefl _ (Nat.lt_of_lt_of_le (row_own OW7.out k hk).2 (row_own h8 k hk2).1)); have S8 := Lib.hid (ZFr.row_low h8 F7.out.size); have F8 := Lib.hid (F7.out.trans f8 (fun _ h _ => h)); have OW8 := Lib.hid (OW7.out.fr f8); obtain ⟨pv, pc, rfl⟩ := row_slice h8; clear f8 h8)
      clear p0 p1 T6 F7 OW7 HSP
      obtain ⟨wo, rfl⟩ : ∃ wo : World, wo = wr := ⟨_, rfl⟩
      go_wp2_with fail
      go_loopw [14, 22, 85] (fun v14 _ v85 wr => ∃ (j : Nat) (R' : List Sp), j ≤ SP.length ∧ v85 = .int .i64 (j : Int) ∧ Hid (R' = (SP.take j).foldl (jn b) R) ∧ Hid (R'.length ≤ R.length + j) ∧ OwnS wr W.heap.size v14 R'.reverse ∧ OwnS wr W.heap.size (.slice pv SP.length pc) SP ∧ Hid (∀ k, v14.ownBlock = some k → (Value.slice pv SP.length pc).ownBlock = some k → False) ∧ Fr (fun _ => False) W wr) (fun _ _ v85 _ => (SP.length - intOf v85).toNat)
      case atStart => exact ⟨0, R, by omega, rfl, Lib.hid rfl, Lib.hid (by omega), OW8.out, S8.out, Lib.hid D8.out, F8.out⟩
      case round =>
        clear D8 S8 F8 OW8
        obtain ⟨j, R', hj, rfl, HRJ, HRL, hown, hsp, HDJ, hf⟩ := hrel
        have OW := Lib.hid hown
        have OS := Lib.hid hsp
        have F := Lib.hid hf
        clear hown hsp hf
        have hj100 : (j : Int) ≤ 100 := by have := HSL.out; omega
        by_cases hjl : j < SP.length
        · obtain ⟨q', c', hv⟩ := row_some OS.out (by omega)
          simp only [Value.slice.injEq, true_and] at hv
          obtain ⟨rfl, rfl⟩ := hv
          obtain ⟨s, hs⟩ : ∃ s, SP[j] = s := ⟨_, rfl⟩
          have cl : ∀ i u, (cellsS SP[j])[i]? = some u → wr.cell? ⟨q', j * 3 + i, none⟩ = some u := fun i u hu => row_el cellsS_len OS.out hjl hu
          rw [hs] at cl
          have hb1 := HSO.out s (hs ▸ List.getElem_mem hjl)
          have HST2 := Lib.hid (show (SP.take (j + 1)).foldl (jn b) R = joined R' (shift b s) from by rw [List.take_succ_eq_append_getElem hjl, List.foldl_append, ← HRJ.out, hs]; rfl)
          obtain ⟨sf, st, si⟩ := s
          have l0 := cl 0 _ rfl
          have l1 := cl 1 _ rfl
          have l2 := cl 2 _ rfl
          rw [Nat.add_zero] at l0
          simp only at l0 l1 l2 hb1
          have hjli : (j : Int) < SP.length := by omega
          have e3 : IntKind.i64.wrap (sf + b) = sf + b := by
            have h1 := HB.out
            have h2 := HX.out
            have h3 := HP.out
            rw [Go.Proofs.YtgaicbodpneeoaaW.PrintLast.i64_w]
            unfold inQ at h1
            unfold okX at hb1
            unfold wrap64
            omega
          have e4 : IntKind.i64.wrap (st + b) = st + b := by
            have h1 := HB.out
            have h2 := HX.out
            have h3 := HP.out
            rw [Go.Proofs.YtgaicbodpneeoaaW.PrintLast.i64_w]
            unfold inQ at h1
            unfold okX at hb1
            unfold wrap64
            omega
          clear hb1 hs cl
          have HR6 := Lib.hid (show R'.length ≤ 1000000 from by have h1 := HRL.out; have h2 := HX.out; have h3 := HB.out; have h4 := HSL.out; omega)
          have TJ := Lib.hid (heap_alloc_new wr (Obj.cells #[Value.int IntKind.i64 sf, Value.int IntKind.i64 st, Value.int IntKind.i64 si] 31))
          have FJ := Lib.hid (F.out.alloc (Obj.cells #[Value.int IntKind.i64 sf, Value.int IntKind.i64 st, Value.int IntKind.i64 si] 31))
          have OWJ := Lib.hid (OW.out.fr ((Fr.refl (fun _ => False) wr).alloc (Obj.cells #[Value.int IntKind.i64 sf, Value.int IntKind.i64 st, Value.int IntKind.i64 si] 31)))
          have OSJ := Lib.hid (OS.out.fr ((Fr.refl (fun _ => False) wr).alloc (Obj.cells #[Value.int IntKind.i64 sf, Value.int IntKind.i64 st, Value.int IntKind.i64 si] 31)))
          go_upto_region 13 with fail
          clear l0 l1 l2
          obtain ⟨wJ, hwJ⟩ : ∃ wJ, wr.alloc (Obj.cells #[Value.int IntKind.i64 sf, Value.int IntKind.i64 st, Value.int IntKind.i64 si] 31) = wJ := ⟨_, rfl⟩
          obtain ⟨gJ, hgJ⟩ : ∃ gJ, wr.heap.size = gJ := ⟨_, rfl⟩
          rw [hwJ, hgJ] at TJ
          rw [hwJ] at FJ OWJ OSJ
          rw [hwJ, hgJ]
          clear hwJ hgJ
          obtain ⟨p0, p1, p2⟩ := span_cells TJ.out
          have hjn := joined_walk W.heap.size _ R' (shift b ⟨sf, st, si⟩) wJ OWJ.out FJ.out.size HR6.out
          simp only [sV, shift] at hjn
          have HJN := Lib.hid hjn
          clear hjn
          go_wp2_with (go_at_call 15; have hc_ := HJN.out; (with_reducible refine hc_.mono ?_); clear hc_; rintro e w9 ⟨v9, rfl, h9, f9, b9⟩; have OX := Lib.hid h9; have OS9 := Lib.hid (show OnlyS SP w9 W.heap.size q' pc from ZFr.row_fr OSJ.out f9 (fun k hk hk2 => HDJ.out k hk2 hk)); have F9 := Lib.hid (FJ.out.trans f9 (fun k hk hlt => by have := (row_own OWJ.out k hk).1; omega)); have D9 := Lib.hid (fun k (hk : v9.ownBlock = some k) (hk2 : (Value.slice (some ⟨q', 0, none⟩) SP.length pc).ownBlock = some k) => (b9 k hk).elim (fun h => HDJ.out k h hk2) (fun h => by have := (row_own OSJ.out k hk2).2; omega)); clear h9 f9 b9)
          go_roundw
          case rel => exact ⟨j + 1, joined R' (shift b ⟨sf, st, si⟩), by omega, by go_num, Lib.hid HST2.out.symm, Lib.hid (by have h1 := joined_len R' (shift b ⟨sf, st, si⟩); have h2 := HRL.out; omega), OX.out, OS9.out, Lib.hid D9.out, F9.out⟩
          case measure => simp [intOf]; omega
        · have hje : j = SP.length := by omega
          subst hje
          have e3 := HBX.out
          go_wp2_with fail
          go_roundw
          case rel =>
            have hR' : R' = sq (cones l n ly) p m b R := by rw [HQ.out, HRJ.out, List.take_of_length_le (Nat.le_refl _)]
            refine ⟨m + b, R', k - 1, rfl, Lib.hid ?_, Lib.hid ?_, OW.out, F.out⟩
            · have h1 := HX.out
              have h2 := HRL.out
              have h3 := HSL.out
              have h4 := HP.out
              have h5 := HMX.out
              have h6 := HB.out.1
              have h7 := HXT.out
              refine ⟨by omega, by omega, by omega, by omega⟩
            · rw [HLYQ.out, hR', ← HN.out]; exact HR.out
          case measure =>
            have h4 := HP.out
            have h5 := HMX.out
            have h6 := HB.out.1
            have h7 := HXT.out
            simp [intOf]
            omega
    · have HE := Lib.hid (show R = FIN from by have h := HR.out; rw [rows_end _ _ _ _ _ _ hxt] at h; exact h)
      go_wp2_with fail
      go_ret2
      exact ⟨_, rfl, by rw [← HE.out]; exact OW.out, F.out⟩
end Go.Proofs.Ytgaicbodpneeoaa.Rs

