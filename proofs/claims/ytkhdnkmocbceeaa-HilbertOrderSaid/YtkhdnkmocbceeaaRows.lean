/-
  No cell of these rows narrows 'for every input' (looked for: loops, veiled, ifaces, maps, wideKeys, modest, calm, conditions, laid).
  DERIVED. THE GIVEN ROWS OF THIS SEAT. 10 by the template 'for every input the law returns true; each argument reads behind the call as it read before'; 0 by the template 'total and deterministic' (their statements: YtkhdnkmocbceeaaTotals.lean).
  GIVEN WITH THE SEED: the statements are not yours to turn. If you find one false, say at which input.
  Laid BY PROGRAM, IN A SANDBOX (cutbox-rows.mjs): the forced cells as the released guide's own fill.sh prints them over the translation 47cbf3fcfaadffda… (all of the seat's roots in one cut). By AI agents, Wed Nov 11 2026. No macro, syntax, notation, axiom, sorry.
-/
import Derived.Test.YtkhdnkmocbceeaaChecked
import GoSem.Claim
import GoSem.ClaimJoined
import GoSem.ClaimMapViews
import Derived.JoinedTies
import Derived.KernelRfl
namespace Go.Proofs.Ytkhdnkmocbceeaa
/- THE CELL 'sum', in the pinned program and in every row, IS THE sha256 OF THE DUMP (.gsa) THAT YtkhdnkmocbceeaaProg.lean LOADS. Nothing in Lean hashes anything: it is a label: what it is worth is what the hold of that sum in a sandbox is worth. -/
noncomputable def Try.pinned : Pinned := { name := "ytkhdnkmocbceeaa", sum := "47cbf3fcfaadffda0b62a5813543ec8786d94edd8f18866abe182a5900a7dc37", checked := Try.checked }
namespace Rows
def none {H : Type} : Left H := { results := [], args := [] }

/-- 'zelligelaw43.PatternGrids': WHATEVER THE INPUT: true; the input reads as it did. -/
def patternGridsSpec : ChangeSpec := { name := "patternGrids", fn := fun _ => fun
  | [d1, d2] => { results := [.lit (.bool true)], args := [d1, d2] }
  | _ => none }
def patternGridsRow : OpenClaim := { program := "ytkhdnkmocbceeaa", sum := "47cbf3fcfaadffda0b62a5813543ec8786d94edd8f18866abe182a5900a7dc37", func := "zellige/zelligelaw43.PatternGrids", spec := "patternGrids", unfollowed := true, recurses := true, plainKeys := false, apart := false }
def PatternGridsSaid : Prop := patternGridsRow.holds Try.pinned (OpenSpec.ofChange patternGridsSpec)

/-- ITS FALSE NEIGHBOUR: 'it returns false'. Refute it at one input. -/
def patternGridsWrong : ChangeSpec := { name := "patternGrids", fn := fun _ => fun
  | [d1, d2] => { results := [.lit (.bool false)], args := [d1, d2] }
  | _ => none }
def PatternGridsWrongFalsely : Prop := patternGridsRow.holds Try.pinned (OpenSpec.ofChange patternGridsWrong)

/-- 'zelligelaw32.HilbertIndex': WHATEVER THE INPUT: true; the input reads as it did. -/
def hilbertIndexSpec : ChangeSpec := { name := "hilbertIndex", fn := fun _ => fun
  | [d1, d2] => { results := [.lit (.bool true)], args := [d1, d2] }
  | _ => none }
def hilbertIndexRow : OpenClaim := { program := "ytkhdnkmocbceeaa", sum := "47cbf3fcfaadffda0b62a5813543ec8786d94edd8f18866abe182a5900a7dc37", func := "zellige/zelligelaw32.HilbertIndex", spec := "hilbertIndex", recurses := true, plainKeys := false, apart := false }
def HilbertIndexSaid : Prop := hilbertIndexRow.holds Try.pinned (OpenSpec.ofChange hilbertIndexSpec)

/-- ITS FALSE NEIGHBOUR: 'it returns false'. Refute it at one input. -/
def hilbertIndexWrong : ChangeSpec := { name := "hilbertIndex", fn := fun _ => fun
  | [d1, d2] => { results := [.lit (.bool false)], args := [d1, d2] }
  | _ => none }
def HilbertIndexWrongFalsely : Prop := hilbertIndexRow.holds Try.pinned (OpenSpec.ofChange hilbertIndexWrong)

/-- 'zelligelaw32.HilbertAt': WHATEVER THE INPUT: true; the input reads as it did. -/
def hilbertAtSpec : ChangeSpec := { name := "hilbertAt", fn := fun _ => fun
  | [d1, d2] => { results := [.lit (.bool true)], args := [d1, d2] }
  | _ => none }
def hilbertAtRow : OpenClaim := { program := "ytkhdnkmocbceeaa", sum := "47cbf3fcfaadffda0b62a5813543ec8786d94edd8f18866abe182a5900a7dc37", func := "zellige/zelligelaw32.HilbertAt", spec := "hilbertAt", recurses := true, plainKeys := false, apart := false }
def HilbertAtSaid : Prop := hilbertAtRow.holds Try.pinned (OpenSpec.ofChange hilbertAtSpec)

/-- ITS FALSE NEIGHBOUR: 'it returns false'. Refute it at one input. -/
def hilbertAtWrong : ChangeSpec := { name := "hilbertAt", fn := fun _ => fun
  | [d1, d2] => { results := [.lit (.bool false)], args := [d1, d2] }
  | _ => none }
def HilbertAtWrongFalsely : Prop := hilbertAtRow.holds Try.pinned (OpenSpec.ofChange hilbertAtWrong)

/-- 'zelligelaw32.HilbertSteps': WHATEVER THE INPUT: true; the input reads as it did. -/
def hilbertStepsSpec : ChangeSpec := { name := "hilbertSteps", fn := fun _ => fun
  | [d1, d2] => { results := [.lit (.bool true)], args := [d1, d2] }
  | _ => none }
def hilbertStepsRow : OpenClaim := { program := "ytkhdnkmocbceeaa", sum := "47cbf3fcfaadffda0b62a5813543ec8786d94edd8f18866abe182a5900a7dc37", func := "zellige/zelligelaw32.HilbertSteps", spec := "hilbertSteps", plainKeys := false, apart := false }
def HilbertStepsSaid : Prop := hilbertStepsRow.holds Try.pinned (OpenSpec.ofChange hilbertStepsSpec)

/-- ITS FALSE NEIGHBOUR: 'it returns false'. Refute it at one input. -/
def hilbertStepsWrong : ChangeSpec := { name := "hilbertSteps", fn := fun _ => fun
  | [d1, d2] => { results := [.lit (.bool false)], args := [d1, d2] }
  | _ => none }
def HilbertStepsWrongFalsely : Prop := hilbertStepsRow.holds Try.pinned (OpenSpec.ofChange hilbertStepsWrong)

/-- 'zelligelaw32.HilbertParts': WHATEVER THE INPUT: true; the input reads as it did. -/
def hilbertPartsSpec : ChangeSpec := { name := "hilbertParts", fn := fun _ => fun
  | [d1, d2, d3] => { results := [.lit (.bool true)], args := [d1, d2, d3] }
  | _ => none }
def hilbertPartsRow : OpenClaim := { program := "ytkhdnkmocbceeaa", sum := "47cbf3fcfaadffda0b62a5813543ec8786d94edd8f18866abe182a5900a7dc37", func := "zellige/zelligelaw32.HilbertParts", spec := "hilbertParts", plainKeys := false, apart := false }
def HilbertPartsSaid : Prop := hilbertPartsRow.holds Try.pinned (OpenSpec.ofChange hilbertPartsSpec)

/-- ITS FALSE NEIGHBOUR: 'it returns false'. Refute it at one input. -/
def hilbertPartsWrong : ChangeSpec := { name := "hilbertParts", fn := fun _ => fun
  | [d1, d2, d3] => { results := [.lit (.bool false)], args := [d1, d2, d3] }
  | _ => none }
def HilbertPartsWrongFalsely : Prop := hilbertPartsRow.holds Try.pinned (OpenSpec.ofChange hilbertPartsWrong)

/-- 'zelligelaw10.ArenaFew': WHATEVER THE INPUT: true; the input reads as it did. -/
def arenaFewSpec : ChangeSpec := { name := "arenaFew", fn := fun _ => fun
  | [d] => { results := [.lit (.bool true)], args := [d] }
  | _ => none }
def arenaFewRow : OpenClaim := { program := "ytkhdnkmocbceeaa", sum := "47cbf3fcfaadffda0b62a5813543ec8786d94edd8f18866abe182a5900a7dc37", func := "zellige/zelligelaw10.ArenaFew", spec := "arenaFew", plainKeys := false, apart := false }
def ArenaFewSaid : Prop := arenaFewRow.holds Try.pinned (OpenSpec.ofChange arenaFewSpec)

/-- ITS FALSE NEIGHBOUR: 'it returns false'. Refute it at one input. -/
def arenaFewWrong : ChangeSpec := { name := "arenaFew", fn := fun _ => fun
  | [d] => { results := [.lit (.bool false)], args := [d] }
  | _ => none }
def ArenaFewWrongFalsely : Prop := arenaFewRow.holds Try.pinned (OpenSpec.ofChange arenaFewWrong)

/-- 'zelligelaw10.ArenaActs': WHATEVER THE INPUT: true; the input reads as it did. -/
def arenaActsSpec : ChangeSpec := { name := "arenaActs", fn := fun _ => fun
  | [d] => { results := [.lit (.bool true)], args := [d] }
  | _ => none }
def arenaActsRow : OpenClaim := { program := "ytkhdnkmocbceeaa", sum := "47cbf3fcfaadffda0b62a5813543ec8786d94edd8f18866abe182a5900a7dc37", func := "zellige/zelligelaw10.ArenaActs", spec := "arenaActs", plainKeys := false, apart := false }
def ArenaActsSaid : Prop := arenaActsRow.holds Try.pinned (OpenSpec.ofChange arenaActsSpec)

/-- ITS FALSE NEIGHBOUR: 'it returns false'. Refute it at one input. -/
def arenaActsWrong : ChangeSpec := { name := "arenaActs", fn := fun _ => fun
  | [d] => { results := [.lit (.bool false)], args := [d] }
  | _ => none }
def ArenaActsWrongFalsely : Prop := arenaActsRow.holds Try.pinned (OpenSpec.ofChange arenaActsWrong)

/-- 'zelligelaw10.ArenaNone': WHATEVER THE INPUT: true; the input reads as it did. -/
def arenaNoneSpec : ChangeSpec := { name := "arenaNone", fn := fun _ => fun
  | [d] => { results := [.lit (.bool true)], args := [d] }
  | _ => none }
def arenaNoneRow : OpenClaim := { program := "ytkhdnkmocbceeaa", sum := "47cbf3fcfaadffda0b62a5813543ec8786d94edd8f18866abe182a5900a7dc37", func := "zellige/zelligelaw10.ArenaNone", spec := "arenaNone", plainKeys := false, apart := false }
def ArenaNoneSaid : Prop := arenaNoneRow.holds Try.pinned (OpenSpec.ofChange arenaNoneSpec)

/-- ITS FALSE NEIGHBOUR: 'it returns false'. Refute it at one input. -/
def arenaNoneWrong : ChangeSpec := { name := "arenaNone", fn := fun _ => fun
  | [d] => { results := [.lit (.bool false)], args := [d] }
  | _ => none }
def ArenaNoneWrongFalsely : Prop := arenaNoneRow.holds Try.pinned (OpenSpec.ofChange arenaNoneWrong)

/-- 'zelligelaw43.PatternSites': WHATEVER THE INPUT: true; the input reads as it did. -/
def patternSitesSpec : ChangeSpec := { name := "patternSites", fn := fun _ => fun
  | [d1, d2, d3] => { results := [.lit (.bool true)], args := [d1, d2, d3] }
  | _ => none }
def patternSitesRow : OpenClaim := { program := "ytkhdnkmocbceeaa", sum := "47cbf3fcfaadffda0b62a5813543ec8786d94edd8f18866abe182a5900a7dc37", func := "zellige/zelligelaw43.PatternSites", spec := "patternSites", unfollowed := true, recurses := true, plainKeys := false, apart := false }
def PatternSitesSaid : Prop := patternSitesRow.holds Try.pinned (OpenSpec.ofChange patternSitesSpec)

/-- ITS FALSE NEIGHBOUR: 'it returns false'. Refute it at one input. -/
def patternSitesWrong : ChangeSpec := { name := "patternSites", fn := fun _ => fun
  | [d1, d2, d3] => { results := [.lit (.bool false)], args := [d1, d2, d3] }
  | _ => none }
def PatternSitesWrongFalsely : Prop := patternSitesRow.holds Try.pinned (OpenSpec.ofChange patternSitesWrong)

/-- 'zelligelaw32.HilbertOrder': WHATEVER THE INPUT: true; the input reads as it did. -/
def hilbertOrderSpec : ChangeSpec := { name := "hilbertOrder", fn := fun _ => fun
  | [d1, d2] => { results := [.lit (.bool true)], args := [d1, d2] }
  | _ => none }
def hilbertOrderRow : OpenClaim := { program := "ytkhdnkmocbceeaa", sum := "47cbf3fcfaadffda0b62a5813543ec8786d94edd8f18866abe182a5900a7dc37", func := "zellige/zelligelaw32.HilbertOrder", spec := "hilbertOrder", unfollowed := true, recurses := true, plainKeys := false, apart := false }
def HilbertOrderSaid : Prop := hilbertOrderRow.holds Try.pinned (OpenSpec.ofChange hilbertOrderSpec)

/-- ITS FALSE NEIGHBOUR: 'it returns false'. Refute it at one input. -/
def hilbertOrderWrong : ChangeSpec := { name := "hilbertOrder", fn := fun _ => fun
  | [d1, d2] => { results := [.lit (.bool false)], args := [d1, d2] }
  | _ => none }
def HilbertOrderWrongFalsely : Prop := hilbertOrderRow.holds Try.pinned (OpenSpec.ofChange hilbertOrderWrong)

/- THE SECOND FORM. 'bulk': how many values and letters a reading holds, each counted each time it is reached (what is shared counts as often as it is met; a slice's spare places count too). A statement '..UptoSaid' is the law's where the arguments, and the package variables that the reading takes, are together of bulk at most 1048576: NARROWER than '..Said'. Prove '..Said' where nothing that the law and all that it calls make is longer than what came in: it says more and counts as full. Else prove '..UptoSaid'. A law counts once. -/
mutual
def uptoBulk {H : Type} : DataW H → Nat
  | .lit (.string bytes) => bytes.length + 1
  | .lit _ => 1
  | .nil => 1
  | .ptr d => uptoBulk d + 1
  | .slice elems spare => uptoBulkAll elems + uptoBulkAll spare + 1
  | .agg parts => uptoBulkAll parts + 1
  | .iface _ d => uptoBulk d + 1
  | .map entries => uptoBulkEntries entries + 1
  | .held _ => 1
def uptoBulkAll {H : Type} : List (DataW H) → Nat
  | [] => 0
  | d :: r => uptoBulk d + uptoBulkAll r
def uptoBulkEntries {H : Type} : List (Lit × DataW H) → Nat
  | [] => 0
  | x :: r => uptoBulkEntry x + uptoBulkEntries r
def uptoBulkEntry {H : Type} : Lit × DataW H → Nat
  | (.string bytes, d) => bytes.length + uptoBulk d + 1
  | (_, d) => uptoBulk d + 1
 end
def uptoSmall : (H : Type) → List (DataW H) → Bool := fun _ ds => decide (uptoBulkAll ds ≤ 1048576)
def OpenSpec.upto (s : _root_.Go.ChangeSpec) : _root_.Go.OpenSpec := { _root_.Go.OpenSpec.ofChange s with cond := some uptoSmall }

/-- 'zelligelaw43.PatternGrids', WHERE WHAT IT READS IS OF BULK AT MOST 1048576: true; the input reads as it did. -/
def patternGridsUptoRow : OpenClaim := { program := "ytkhdnkmocbceeaa", sum := "47cbf3fcfaadffda0b62a5813543ec8786d94edd8f18866abe182a5900a7dc37", func := "zellige/zelligelaw43.PatternGrids", spec := "patternGrids", unfollowed := true, recurses := true, plainKeys := false, apart := false, narrowed := true }
def PatternGridsUptoSaid : Prop := patternGridsUptoRow.holds Try.pinned (OpenSpec.upto patternGridsSpec)

/-- 'zelligelaw32.HilbertIndex', WHERE WHAT IT READS IS OF BULK AT MOST 1048576: true; the input reads as it did. -/
def hilbertIndexUptoRow : OpenClaim := { program := "ytkhdnkmocbceeaa", sum := "47cbf3fcfaadffda0b62a5813543ec8786d94edd8f18866abe182a5900a7dc37", func := "zellige/zelligelaw32.HilbertIndex", spec := "hilbertIndex", recurses := true, plainKeys := false, apart := false, narrowed := true }
def HilbertIndexUptoSaid : Prop := hilbertIndexUptoRow.holds Try.pinned (OpenSpec.upto hilbertIndexSpec)

/-- 'zelligelaw32.HilbertAt', WHERE WHAT IT READS IS OF BULK AT MOST 1048576: true; the input reads as it did. -/
def hilbertAtUptoRow : OpenClaim := { program := "ytkhdnkmocbceeaa", sum := "47cbf3fcfaadffda0b62a5813543ec8786d94edd8f18866abe182a5900a7dc37", func := "zellige/zelligelaw32.HilbertAt", spec := "hilbertAt", recurses := true, plainKeys := false, apart := false, narrowed := true }
def HilbertAtUptoSaid : Prop := hilbertAtUptoRow.holds Try.pinned (OpenSpec.upto hilbertAtSpec)

/-- 'zelligelaw32.HilbertSteps', WHERE WHAT IT READS IS OF BULK AT MOST 1048576: true; the input reads as it did. -/
def hilbertStepsUptoRow : OpenClaim := { program := "ytkhdnkmocbceeaa", sum := "47cbf3fcfaadffda0b62a5813543ec8786d94edd8f18866abe182a5900a7dc37", func := "zellige/zelligelaw32.HilbertSteps", spec := "hilbertSteps", plainKeys := false, apart := false, narrowed := true }
def HilbertStepsUptoSaid : Prop := hilbertStepsUptoRow.holds Try.pinned (OpenSpec.upto hilbertStepsSpec)

/-- 'zelligelaw32.HilbertParts', WHERE WHAT IT READS IS OF BULK AT MOST 1048576: true; the input reads as it did. -/
def hilbertPartsUptoRow : OpenClaim := { program := "ytkhdnkmocbceeaa", sum := "47cbf3fcfaadffda0b62a5813543ec8786d94edd8f18866abe182a5900a7dc37", func := "zellige/zelligelaw32.HilbertParts", spec := "hilbertParts", plainKeys := false, apart := false, narrowed := true }
def HilbertPartsUptoSaid : Prop := hilbertPartsUptoRow.holds Try.pinned (OpenSpec.upto hilbertPartsSpec)

/-- 'zelligelaw10.ArenaFew', WHERE WHAT IT READS IS OF BULK AT MOST 1048576: true; the input reads as it did. -/
def arenaFewUptoRow : OpenClaim := { program := "ytkhdnkmocbceeaa", sum := "47cbf3fcfaadffda0b62a5813543ec8786d94edd8f18866abe182a5900a7dc37", func := "zellige/zelligelaw10.ArenaFew", spec := "arenaFew", plainKeys := false, apart := false, narrowed := true }
def ArenaFewUptoSaid : Prop := arenaFewUptoRow.holds Try.pinned (OpenSpec.upto arenaFewSpec)

/-- 'zelligelaw10.ArenaActs', WHERE WHAT IT READS IS OF BULK AT MOST 1048576: true; the input reads as it did. -/
def arenaActsUptoRow : OpenClaim := { program := "ytkhdnkmocbceeaa", sum := "47cbf3fcfaadffda0b62a5813543ec8786d94edd8f18866abe182a5900a7dc37", func := "zellige/zelligelaw10.ArenaActs", spec := "arenaActs", plainKeys := false, apart := false, narrowed := true }
def ArenaActsUptoSaid : Prop := arenaActsUptoRow.holds Try.pinned (OpenSpec.upto arenaActsSpec)

/-- 'zelligelaw10.ArenaNone', WHERE WHAT IT READS IS OF BULK AT MOST 1048576: true; the input reads as it did. -/
def arenaNoneUptoRow : OpenClaim := { program := "ytkhdnkmocbceeaa", sum := "47cbf3fcfaadffda0b62a5813543ec8786d94edd8f18866abe182a5900a7dc37", func := "zellige/zelligelaw10.ArenaNone", spec := "arenaNone", plainKeys := false, apart := false, narrowed := true }
def ArenaNoneUptoSaid : Prop := arenaNoneUptoRow.holds Try.pinned (OpenSpec.upto arenaNoneSpec)

/-- 'zelligelaw43.PatternSites', WHERE WHAT IT READS IS OF BULK AT MOST 1048576: true; the input reads as it did. -/
def patternSitesUptoRow : OpenClaim := { program := "ytkhdnkmocbceeaa", sum := "47cbf3fcfaadffda0b62a5813543ec8786d94edd8f18866abe182a5900a7dc37", func := "zellige/zelligelaw43.PatternSites", spec := "patternSites", unfollowed := true, recurses := true, plainKeys := false, apart := false, narrowed := true }
def PatternSitesUptoSaid : Prop := patternSitesUptoRow.holds Try.pinned (OpenSpec.upto patternSitesSpec)

/-- 'zelligelaw32.HilbertOrder', WHERE WHAT IT READS IS OF BULK AT MOST 1048576: true; the input reads as it did. -/
def hilbertOrderUptoRow : OpenClaim := { program := "ytkhdnkmocbceeaa", sum := "47cbf3fcfaadffda0b62a5813543ec8786d94edd8f18866abe182a5900a7dc37", func := "zellige/zelligelaw32.HilbertOrder", spec := "hilbertOrder", unfollowed := true, recurses := true, plainKeys := false, apart := false, narrowed := true }
def HilbertOrderUptoSaid : Prop := hilbertOrderUptoRow.holds Try.pinned (OpenSpec.upto hilbertOrderSpec)

end Rows
end Go.Proofs.Ytkhdnkmocbceeaa
