/- Maps: a look-up behind a guard; whole numbers as keys, told true. -/
import Derived.Test.YtgaicbodpneeoaaZMap
import Derived.RowKit
namespace Go.Proofs.ZMap
open Go
theorem wp_look_g {κ : Type} [DecidableEq κ] {P : Program} {kt : TypeId} {enc : κ → Value} (w : World) {ops : Array Oper} {rest : List Oper} {o : Oper} {a : Act} {Q : Exit → Act → World → Prop}
    (hg : Region.wanted o (yielded ops a.tmps) = true) (m i : Operand) (t : TypeId) (ok : Bool) (hop : o.op = Op.lookup t m i ok) (e : TypeId) (K : KeyT P kt enc) (ht : P.underlying t = some (.map kt e)) (z : Value) (hz : (zeroValue e).run P w = .ok z w)
    (b : Nat) (al : List (κ × Value)) (hm : a.eval m = .map (some b)) (hmap : MapIs w enc b al) (x : κ) (hx : a.eval i = enc x)
    (hK : wpList P ops Q rest (a.put o.dst (if ok then .tuple #[(look x al).getD z, .bool (look x al).isSome] else (look x al).getD z)) w) :
    wpList P ops Q (o :: rest) a w := by
  refine wpList_step fun K' hK' => ?_
  rw [if_pos hg]
  have hrun := hmap.run_lookup K ht hz x ok
  unfold Oper.wp
  simp only [execOp, hop, hm, hx]
  simp [hrun, Result.andThen]
  exact hK' _ _ hK
def tru (l : List Int) : List (Int × Value) := l.map fun i => (i, .bool true)
theorem look_tru (x : Int) : ∀ l : List Int, look x (tru l) = if x ∈ l then some (.bool true) else none
  | [] => by simp [tru, look]
  | a :: l => by
    have ih := look_tru x l
    unfold tru at *
    simp only [List.map_cons, look, ih, List.mem_cons]
    by_cases h : x = a
    · simp [h]
    · simp [h]
theorem put_tru (x : Int) : ∀ l : List Int, x ∉ l → put x (.bool true) (tru l) = tru (l ++ [x])
  | [], _ => rfl
  | a :: l, h => by
    have h1 : x ≠ a := fun e => h (by simp [e])
    have ih := put_tru x l (fun hx => h (by simp [hx]))
    unfold tru at *
    simp only [List.map_cons, put, if_neg h1, ih, List.cons_append]
def encI (x : Int) : Value := .int .i64 x
end Go.Proofs.ZMap
