/- What is used of RsW. -/
import Derived.Test.YtgaicbodpneeoaaSkRsV
import Derived.Test.YtgaicbodpneeoaaSkNP5
namespace Go.Proofs.Ytgaicbodpneeoaa.Rs
open Go.RowKit Go.Proofs.ZFr Go.Proofs.Ytgaicbodpneeoaa.PRasterImages Go.Proofs.Ytgaicbodpneeoaa.Wd Go.Proofs.YtgaicbodpneeoaaW.PrintWords
def toS (s : Sp) : S31 := ⟨s.f, s.t, s.id⟩
theorem kd_of {w : World} {B c : Nat} {p : Option Addr} {l : List Sp} (h : OwnS w B (.slice p l.length c) l) (hl : l.length ≤ 1000000) : Kd.C k31 w p l.length (l.map toS) ∧ l.length ≤ c := by
  unfold OwnS at h
  by_cases h0 : 0 < l.length
  · obtain ⟨g, c', hv⟩ := row_some h h0
    simp only [Value.slice.injEq] at hv
    obtain ⟨rfl, _, rfl⟩ := hv
    refine ⟨⟨by simp, by omega, fun _ => ⟨_, rfl, fun j x hj => ?_⟩⟩, (row_cap h).1⟩
    have hjl : j < l.length := by have := (List.getElem?_eq_some_iff.1 hj).1; simpa using this
    have hx : x = toS l[j] := by
      rw [List.getElem?_map, List.getElem?_eq_getElem hjl] at hj
      simpa using hj.symm
    subst hx
    refine ⟨_, rfl, k31_mk w _, fun i u hu => ?_⟩
    have ea : ∀ i, (⟨g, 0, none⟩ : Addr).add (j * k31.sz + i) = ⟨g, j * 3 + i, none⟩ := fun i => by
      rw [show k31.sz = 3 from rfl]; unfold Addr.add; split <;> simp_all
    rw [ea]
    match i, hu with
    | 0, hu => simp at hu; subst hu; exact row_el cellsS_len h hjl (j := 0) rfl
    | 1, hu => simp at hu; subst hu; exact row_el cellsS_len h hjl (j := 1) rfl
    | 2, hu => simp at hu; subst hu; exact row_el cellsS_len h hjl (j := 2) rfl
  · have e : l = [] := List.eq_nil_of_length_eq_zero (by omega)
    subst e
    exact ⟨⟨rfl, by decide, fun h => absurd h (by decide)⟩, Nat.zero_le _⟩
theorem fr_drawn {w w' : World} (h : Drawn0 w w') : Fr (fun _ => False) w w' := by
  obtain ⟨n, rfl⟩ := h
  exact (Fr.refl _ w).drewN n
def L2 : List Site := [⟨0, 0, 0⟩, ⟨1, 5, 0⟩]
def S3 : List Sp := [⟨0, 3, 0⟩, ⟨3, 8, 1⟩, ⟨8, 10, 0⟩]
theorem ok_lives : RowOk L2 10 0 0 10 := by decide +kernel
theorem same3 : zelligeref36_Same.f 200 (S3.map toS) (S3.map toS) = some true := by decide +kernel
set_option maxRecDepth 100000 in
set_option maxHeartbeats 4000000 in
theorem lives_walk (W : World) : Calls Try.prog 7 #[] W fun e w' => e = .returned (.bool true) ∧ Fr (fun _ => False) W w' := by
  have F0 := Lib.hid ((Fr.refl (fun _ => False) W).alloc (.cells #[.int .i64 0, .int .i64 0, .int .i64 0, .int .i64 1, .int .i64 5, .int .i64 0] 50))
  have hb := heap_alloc_new W (.cells #[.int .i64 0, .int .i64 0, .int .i64 0, .int .i64 1, .int .i64 5, .int .i64 0] 50)
  have HS : SiteC (W.alloc (.cells #[.int .i64 0, .int .i64 0, .int .i64 0, .int .i64 1, .int .i64 5, .int .i64 0] 50)) (some ⟨W.heap.size, 0, none⟩) L2 := fun i hi => by
    have h2 : L2.length = 2 := rfl
    obtain rfl | rfl : i = 0 ∨ i = 1 := by omega
    · exact ⟨_, rfl, ZFr.blk_cell hb 0, ZFr.blk_cell hb 1, ZFr.blk_cell hb 2⟩
    · exact ⟨_, rfl, ZFr.blk_cell hb 3, ZFr.blk_cell hb 4, ZFr.blk_cell hb 5⟩
  have HR := Lib.hid (row_yes (some ⟨W.heap.size, 0, none⟩) 2 L2 10 0 0 10 _ HS (by decide) ok_lives)
  rw [show (row L2 10 0 0 10).reverse = S3 from row_lives, show L2.length = 2 from rfl] at HR
  clear hb HS
  go_enter Try.func7, Try.ntmps7
  go_upto_region 2 with (go_at_call 6; have hc_ := HR.out; (with_reducible refine hc_.mono ?_); clear hc_; rintro e w2 ⟨v2, rfl, h2, f2⟩; have O2 := Lib.hid h2; have F2 := Lib.hid (F0.out.trans f2 (fun _ h _ => h)); clear h2 f2)
  obtain ⟨p, c, rfl⟩ := row_slice O2.out
  have O2' : Hid (OwnS w2 (W.alloc (.cells #[.int .i64 0, .int .i64 0, .int .i64 0, .int .i64 1, .int .i64 5, .int .i64 0] 50)).heap.size (.slice p 3 c) S3) := Lib.hid O2.out
  have e3 : S3.length = 3 := rfl
  rw [e3]
  have HN := Lib.hid (heap_alloc_new w2 (.cells #[.int .i64 0, .int .i64 3, .int .i64 0, .int .i64 3, .int .i64 8, .int .i64 1, .int .i64 8, .int .i64 10, .int .i64 0] 31))
  have F3 := Lib.hid (F2.out.alloc (.cells #[.int .i64 0, .int .i64 3, .int .i64 0, .int .i64 3, .int .i64 8, .int .i64 1, .int .i64 8, .int .i64 10, .int .i64 0] 31))
  have ON : Hid (OwnS (w2.alloc (.cells #[.int .i64 0, .int .i64 3, .int .i64 0, .int .i64 3, .int .i64 8, .int .i64 1, .int .i64 8, .int .i64 10, .int .i64 0] 31)) w2.heap.size (.slice (some ⟨w2.heap.size, 0, none⟩) 3 3) S3) := Lib.hid ⟨rfl, .inr ⟨_, 3, _, rfl, Nat.le_refl _, HN.out, Nat.le_refl _, by decide, rfl, rfl⟩⟩
  have O3 := Lib.hid (O2'.out.fr ((Fr.refl (fun _ => False) w2).alloc (.cells #[.int .i64 0, .int .i64 3, .int .i64 0, .int .i64 3, .int .i64 8, .int .i64 1, .int .i64 8, .int .i64 10, .int .i64 0] 31)))
  obtain ⟨k1, k2⟩ := kd_of (l := S3) O3.out (by decide)
  obtain ⟨k3, k4⟩ := kd_of (l := S3) ON.out (by decide)
  have HC := Lib.hid (zelligeref36_Same.calls 200 p c (S3.map toS) (some ⟨w2.heap.size, 0, none⟩) 3 (S3.map toS) true _ k1 k2 k3 k4 same3)
  rw [show (S3.map toS).length = 3 from rfl] at HC
  clear k1 k2 k3 k4
  go_wp2_with (go_at_call 16; have hc_ := HC.out; (with_reducible refine hc_.mono ?_); clear hc_; rintro e w4 ⟨rfl, f4⟩; have F4 := Lib.hid (F3.out.trans (fr_drawn f4) (fun _ h _ => h)); clear f4)
  go_ret
  exact ⟨rfl, F4.out⟩
end Go.Proofs.Ytgaicbodpneeoaa.Rs

