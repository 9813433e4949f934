/-
  No cell of these rows narrows 'for every input' (looked for: loops, veiled, ifaces, maps, wideKeys, modest, calm, conditions, laid).
  DERIVED. THE GIVEN ROWS OF THIS SEAT. 5 by the template 'for every input the law returns true; each argument reads behind the call as it read before'; 0 by the template 'total and deterministic' (their statements: YtngmkjgklonfmaaTotals.lean).
  GIVEN WITH THE SEED: the statements are not yours to turn. If you find one false, say at which input.
  Laid BY PROGRAM, IN A SANDBOX (cutbox-rows.mjs): the forced cells as the released guide's own fill.sh prints them over the translation ea9ec79f0a6b72b1… (all of the seat's roots in one cut). By AI agents, Wed Nov 11 2026. No macro, syntax, notation, axiom, sorry.
-/
import Derived.Test.YtngmkjgklonfmaaChecked
import GoSem.Claim
import GoSem.ClaimJoined
import GoSem.ClaimMapViews
import Derived.JoinedTies
import Derived.KernelRfl
namespace Go.Proofs.Ytngmkjgklonfmaa
/- THE CELL 'sum', in the pinned program and in every row, IS THE sha256 OF THE DUMP (.gsa) THAT YtngmkjgklonfmaaProg.lean LOADS. Nothing in Lean hashes anything: it is a label: what it is worth is what the hold of that sum in a sandbox is worth. -/
noncomputable def Try.pinned : Pinned := { name := "ytngmkjgklonfmaa", sum := "ea9ec79f0a6b72b194cd1d595ad4a4e029ee8debb0108dd91cf1038a9eebba11", checked := Try.checked }
namespace Rows
def none {H : Type} : Left H := { results := [], args := [] }

/-- 'zelligelaw28.NearNearest': WHATEVER THE INPUT: true; the input reads as it did. -/
def nearNearestSpec : ChangeSpec := { name := "nearNearest", fn := fun _ => fun
  | [d1, d2, d3] => { results := [.lit (.bool true)], args := [d1, d2, d3] }
  | _ => none }
def nearNearestRow : OpenClaim := { program := "ytngmkjgklonfmaa", sum := "ea9ec79f0a6b72b194cd1d595ad4a4e029ee8debb0108dd91cf1038a9eebba11", func := "zellige/zelligelaw28.NearNearest", spec := "nearNearest", inPlace := ["math/bits.Add64"], apart := false }
def NearNearestSaid : Prop := nearNearestRow.holds Try.pinned (OpenSpec.ofChange nearNearestSpec)

/-- ITS FALSE NEIGHBOUR: 'it returns false'. Refute it at one input. -/
def nearNearestWrong : ChangeSpec := { name := "nearNearest", fn := fun _ => fun
  | [d1, d2, d3] => { results := [.lit (.bool false)], args := [d1, d2, d3] }
  | _ => none }
def NearNearestWrongFalsely : Prop := nearNearestRow.holds Try.pinned (OpenSpec.ofChange nearNearestWrong)

/-- 'zelligelaw13.HoleFills': WHATEVER THE INPUT: true; the input reads as it did. -/
def holeFillsSpec : ChangeSpec := { name := "holeFills", fn := fun _ => fun
  | [d] => { results := [.lit (.bool true)], args := [d] }
  | _ => none }
def holeFillsRow : OpenClaim := { program := "ytngmkjgklonfmaa", sum := "ea9ec79f0a6b72b194cd1d595ad4a4e029ee8debb0108dd91cf1038a9eebba11", func := "zellige/zelligelaw13.HoleFills", spec := "holeFills", inPlace := ["math/bits.Sub64", "math/bits.Add64"], recurses := true, apart := false }
def HoleFillsSaid : Prop := holeFillsRow.holds Try.pinned (OpenSpec.ofChange holeFillsSpec)

/-- ITS FALSE NEIGHBOUR: 'it returns false'. Refute it at one input. -/
def holeFillsWrong : ChangeSpec := { name := "holeFills", fn := fun _ => fun
  | [d] => { results := [.lit (.bool false)], args := [d] }
  | _ => none }
def HoleFillsWrongFalsely : Prop := holeFillsRow.holds Try.pinned (OpenSpec.ofChange holeFillsWrong)

/-- 'zelligelaw13.HoleLong': WHATEVER THE INPUT: true; the input reads as it did. -/
def holeLongSpec : ChangeSpec := { name := "holeLong", fn := fun _ => fun
  | [d1, d2] => { results := [.lit (.bool true)], args := [d1, d2] }
  | _ => none }
def holeLongRow : OpenClaim := { program := "ytngmkjgklonfmaa", sum := "ea9ec79f0a6b72b194cd1d595ad4a4e029ee8debb0108dd91cf1038a9eebba11", func := "zellige/zelligelaw13.HoleLong", spec := "holeLong", inPlace := ["math/bits.Sub64", "math/bits.Add64"], recurses := true, apart := false }
def HoleLongSaid : Prop := holeLongRow.holds Try.pinned (OpenSpec.ofChange holeLongSpec)

/-- ITS FALSE NEIGHBOUR: 'it returns false'. Refute it at one input. -/
def holeLongWrong : ChangeSpec := { name := "holeLong", fn := fun _ => fun
  | [d1, d2] => { results := [.lit (.bool false)], args := [d1, d2] }
  | _ => none }
def HoleLongWrongFalsely : Prop := holeLongRow.holds Try.pinned (OpenSpec.ofChange holeLongWrong)

/-- 'zelligelaw28.NearWithin': WHATEVER THE INPUT: true; the input reads as it did. -/
def nearWithinSpec : ChangeSpec := { name := "nearWithin", fn := fun _ => fun
  | [d1, d2, d3] => { results := [.lit (.bool true)], args := [d1, d2, d3] }
  | _ => none }
def nearWithinRow : OpenClaim := { program := "ytngmkjgklonfmaa", sum := "ea9ec79f0a6b72b194cd1d595ad4a4e029ee8debb0108dd91cf1038a9eebba11", func := "zellige/zelligelaw28.NearWithin", spec := "nearWithin", inPlace := ["math/bits.Add64"], recurses := true, apart := false }
def NearWithinSaid : Prop := nearWithinRow.holds Try.pinned (OpenSpec.ofChange nearWithinSpec)

/-- ITS FALSE NEIGHBOUR: 'it returns false'. Refute it at one input. -/
def nearWithinWrong : ChangeSpec := { name := "nearWithin", fn := fun _ => fun
  | [d1, d2, d3] => { results := [.lit (.bool false)], args := [d1, d2, d3] }
  | _ => none }
def NearWithinWrongFalsely : Prop := nearWithinRow.holds Try.pinned (OpenSpec.ofChange nearWithinWrong)

/-- 'zelligelaw28.NearLinks': WHATEVER THE INPUT: true; the input reads as it did. -/
def nearLinksSpec : ChangeSpec := { name := "nearLinks", fn := fun _ => fun
  | [d1, d2] => { results := [.lit (.bool true)], args := [d1, d2] }
  | _ => none }
def nearLinksRow : OpenClaim := { program := "ytngmkjgklonfmaa", sum := "ea9ec79f0a6b72b194cd1d595ad4a4e029ee8debb0108dd91cf1038a9eebba11", func := "zellige/zelligelaw28.NearLinks", spec := "nearLinks", inPlace := ["math/bits.Add64"], unfollowed := true, recurses := true, apart := false }
def NearLinksSaid : Prop := nearLinksRow.holds Try.pinned (OpenSpec.ofChange nearLinksSpec)

/-- ITS FALSE NEIGHBOUR: 'it returns false'. Refute it at one input. -/
def nearLinksWrong : ChangeSpec := { name := "nearLinks", fn := fun _ => fun
  | [d1, d2] => { results := [.lit (.bool false)], args := [d1, d2] }
  | _ => none }
def NearLinksWrongFalsely : Prop := nearLinksRow.holds Try.pinned (OpenSpec.ofChange nearLinksWrong)

/- THE SECOND FORM. 'bulk': how many values and letters a reading holds, each counted each time it is reached (what is shared counts as often as it is met; a slice's spare places count too). A statement '..UptoSaid' is the law's where the arguments, and the package variables that the reading takes, are together of bulk at most 1048576: NARROWER than '..Said'. Prove '..Said' where nothing that the law and all that it calls make is longer than what came in: it says more and counts as full. Else prove '..UptoSaid'. A law counts once. -/
mutual
def uptoBulk {H : Type} : DataW H → Nat
  | .lit (.string bytes) => bytes.length + 1
  | .lit _ => 1
  | .nil => 1
  | .ptr d => uptoBulk d + 1
  | .slice elems spare => uptoBulkAll elems + uptoBulkAll spare + 1
  | .agg parts => uptoBulkAll parts + 1
  | .iface _ d => uptoBulk d + 1
  | .map entries => uptoBulkEntries entries + 1
  | .held _ => 1
def uptoBulkAll {H : Type} : List (DataW H) → Nat
  | [] => 0
  | d :: r => uptoBulk d + uptoBulkAll r
def uptoBulkEntries {H : Type} : List (Lit × DataW H) → Nat
  | [] => 0
  | x :: r => uptoBulkEntry x + uptoBulkEntries r
def uptoBulkEntry {H : Type} : Lit × DataW H → Nat
  | (.string bytes, d) => bytes.length + uptoBulk d + 1
  | (_, d) => uptoBulk d + 1
 end
def uptoSmall : (H : Type) → List (DataW H) → Bool := fun _ ds => decide (uptoBulkAll ds ≤ 1048576)
def OpenSpec.upto (s : _root_.Go.ChangeSpec) : _root_.Go.OpenSpec := { _root_.Go.OpenSpec.ofChange s with cond := some uptoSmall }

/-- 'zelligelaw28.NearNearest', WHERE WHAT IT READS IS OF BULK AT MOST 1048576: true; the input reads as it did. -/
def nearNearestUptoRow : OpenClaim := { program := "ytngmkjgklonfmaa", sum := "ea9ec79f0a6b72b194cd1d595ad4a4e029ee8debb0108dd91cf1038a9eebba11", func := "zellige/zelligelaw28.NearNearest", spec := "nearNearest", inPlace := ["math/bits.Add64"], apart := false, narrowed := true }
def NearNearestUptoSaid : Prop := nearNearestUptoRow.holds Try.pinned (OpenSpec.upto nearNearestSpec)

/-- 'zelligelaw13.HoleFills', WHERE WHAT IT READS IS OF BULK AT MOST 1048576: true; the input reads as it did. -/
def holeFillsUptoRow : OpenClaim := { program := "ytngmkjgklonfmaa", sum := "ea9ec79f0a6b72b194cd1d595ad4a4e029ee8debb0108dd91cf1038a9eebba11", func := "zellige/zelligelaw13.HoleFills", spec := "holeFills", inPlace := ["math/bits.Sub64", "math/bits.Add64"], recurses := true, apart := false, narrowed := true }
def HoleFillsUptoSaid : Prop := holeFillsUptoRow.holds Try.pinned (OpenSpec.upto holeFillsSpec)

/-- 'zelligelaw13.HoleLong', WHERE WHAT IT READS IS OF BULK AT MOST 1048576: true; the input reads as it did. -/
def holeLongUptoRow : OpenClaim := { program := "ytngmkjgklonfmaa", sum := "ea9ec79f0a6b72b194cd1d595ad4a4e029ee8debb0108dd91cf1038a9eebba11", func := "zellige/zelligelaw13.HoleLong", spec := "holeLong", inPlace := ["math/bits.Sub64", "math/bits.Add64"], recurses := true, apart := false, narrowed := true }
def HoleLongUptoSaid : Prop := holeLongUptoRow.holds Try.pinned (OpenSpec.upto holeLongSpec)

/-- 'zelligelaw28.NearWithin', WHERE WHAT IT READS IS OF BULK AT MOST 1048576: true; the input reads as it did. -/
def nearWithinUptoRow : OpenClaim := { program := "ytngmkjgklonfmaa", sum := "ea9ec79f0a6b72b194cd1d595ad4a4e029ee8debb0108dd91cf1038a9eebba11", func := "zellige/zelligelaw28.NearWithin", spec := "nearWithin", inPlace := ["math/bits.Add64"], recurses := true, apart := false, narrowed := true }
def NearWithinUptoSaid : Prop := nearWithinUptoRow.holds Try.pinned (OpenSpec.upto nearWithinSpec)

/-- 'zelligelaw28.NearLinks', WHERE WHAT IT READS IS OF BULK AT MOST 1048576: true; the input reads as it did. -/
def nearLinksUptoRow : OpenClaim := { program := "ytngmkjgklonfmaa", sum := "ea9ec79f0a6b72b194cd1d595ad4a4e029ee8debb0108dd91cf1038a9eebba11", func := "zellige/zelligelaw28.NearLinks", spec := "nearLinks", inPlace := ["math/bits.Add64"], unfollowed := true, recurses := true, apart := false, narrowed := true }
def NearLinksUptoSaid : Prop := nearLinksUptoRow.holds Try.pinned (OpenSpec.upto nearLinksSpec)

end Rows
end Go.Proofs.Ytngmkjgklonfmaa
