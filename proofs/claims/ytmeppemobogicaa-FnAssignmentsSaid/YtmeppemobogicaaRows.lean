/-
  No cell of these rows narrows 'for every input' (looked for: loops, veiled, ifaces, maps, wideKeys, modest, calm, conditions, laid).
  DERIVED. THE GIVEN ROWS OF THIS SEAT. 11 by the template 'for every input the law returns true; each argument reads behind the call as it read before'; 0 by the template 'total and deterministic' (their statements: YtmeppemobogicaaTotals.lean).
  GIVEN WITH THE SEED: the statements are not yours to turn. If you find one false, say at which input.
  Laid BY PROGRAM, IN A SANDBOX (cutbox-rows.mjs): the forced cells as the released guide's own fill.sh prints them over the translation f1411588ecb08973… (all of the seat's roots in one cut). By AI agents, Wed Nov 11 2026. No macro, syntax, notation, axiom, sorry.
-/
import Derived.Test.YtmeppemobogicaaChecked
import GoSem.Claim
import GoSem.ClaimJoined
import GoSem.ClaimMapViews
import Derived.JoinedTies
import Derived.KernelRfl
namespace Go.Proofs.Ytmeppemobogicaa
/- THE CELL 'sum', in the pinned program and in every row, IS THE sha256 OF THE DUMP (.gsa) THAT YtmeppemobogicaaProg.lean LOADS. Nothing in Lean hashes anything: it is a label: what it is worth is what the hold of that sum in a sandbox is worth. -/
noncomputable def Try.pinned : Pinned := { name := "ytmeppemobogicaa", sum := "f1411588ecb089739a2c3ec36ce63c5c3dbb6ca63bac877ff635c324b46ec30a", checked := Try.checked }
namespace Rows
def none {H : Type} : Left H := { results := [], args := [] }

/-- 'laws.FnExactAreStops': WHATEVER THE INPUT: true; the input reads as it did. -/
def fnExactAreStopsSpec : ChangeSpec := { name := "fnExactAreStops", fn := fun _ => fun
  | [d] => { results := [.lit (.bool true)], args := [d] }
  | _ => none }
def fnExactAreStopsRow : OpenClaim := { program := "ytmeppemobogicaa", sum := "f1411588ecb089739a2c3ec36ce63c5c3dbb6ca63bac877ff635c324b46ec30a", func := "loop.example/g00916/laws.FnExactAreStops", spec := "fnExactAreStops", unfollowed := true, recurses := true, apart := false }
def FnExactAreStopsSaid : Prop := fnExactAreStopsRow.holds Try.pinned (OpenSpec.ofChange fnExactAreStopsSpec)

/-- ITS FALSE NEIGHBOUR: 'it returns false'. Refute it at one input. -/
def fnExactAreStopsWrong : ChangeSpec := { name := "fnExactAreStops", fn := fun _ => fun
  | [d] => { results := [.lit (.bool false)], args := [d] }
  | _ => none }
def FnExactAreStopsWrongFalsely : Prop := fnExactAreStopsRow.holds Try.pinned (OpenSpec.ofChange fnExactAreStopsWrong)

/-- 'laws.FnExactStopTimes': WHATEVER THE INPUT: true; the input reads as it did. -/
def fnExactStopTimesSpec : ChangeSpec := { name := "fnExactStopTimes", fn := fun _ => fun
  | [d] => { results := [.lit (.bool true)], args := [d] }
  | _ => none }
def fnExactStopTimesRow : OpenClaim := { program := "ytmeppemobogicaa", sum := "f1411588ecb089739a2c3ec36ce63c5c3dbb6ca63bac877ff635c324b46ec30a", func := "loop.example/g00916/laws.FnExactStopTimes", spec := "fnExactStopTimes", unfollowed := true, recurses := true, apart := false }
def FnExactStopTimesSaid : Prop := fnExactStopTimesRow.holds Try.pinned (OpenSpec.ofChange fnExactStopTimesSpec)

/-- ITS FALSE NEIGHBOUR: 'it returns false'. Refute it at one input. -/
def fnExactStopTimesWrong : ChangeSpec := { name := "fnExactStopTimes", fn := fun _ => fun
  | [d] => { results := [.lit (.bool false)], args := [d] }
  | _ => none }
def FnExactStopTimesWrongFalsely : Prop := fnExactStopTimesRow.holds Try.pinned (OpenSpec.ofChange fnExactStopTimesWrong)

/-- 'laws.FnExactCrewLoads': WHATEVER THE INPUT: true; the input reads as it did. -/
def fnExactCrewLoadsSpec : ChangeSpec := { name := "fnExactCrewLoads", fn := fun _ => fun
  | [d1, d2, d3] => { results := [.lit (.bool true)], args := [d1, d2, d3] }
  | _ => none }
def fnExactCrewLoadsRow : OpenClaim := { program := "ytmeppemobogicaa", sum := "f1411588ecb089739a2c3ec36ce63c5c3dbb6ca63bac877ff635c324b46ec30a", func := "loop.example/g00916/laws.FnExactCrewLoads", spec := "fnExactCrewLoads", unfollowed := true, recurses := true, apart := false }
def FnExactCrewLoadsSaid : Prop := fnExactCrewLoadsRow.holds Try.pinned (OpenSpec.ofChange fnExactCrewLoadsSpec)

/-- ITS FALSE NEIGHBOUR: 'it returns false'. Refute it at one input. -/
def fnExactCrewLoadsWrong : ChangeSpec := { name := "fnExactCrewLoads", fn := fun _ => fun
  | [d1, d2, d3] => { results := [.lit (.bool false)], args := [d1, d2, d3] }
  | _ => none }
def FnExactCrewLoadsWrongFalsely : Prop := fnExactCrewLoadsRow.holds Try.pinned (OpenSpec.ofChange fnExactCrewLoadsWrong)

/-- 'laws.FnExactFinishOf': WHATEVER THE INPUT: true; the input reads as it did. -/
def fnExactFinishOfSpec : ChangeSpec := { name := "fnExactFinishOf", fn := fun _ => fun
  | [d1, d2, d3] => { results := [.lit (.bool true)], args := [d1, d2, d3] }
  | _ => none }
def fnExactFinishOfRow : OpenClaim := { program := "ytmeppemobogicaa", sum := "f1411588ecb089739a2c3ec36ce63c5c3dbb6ca63bac877ff635c324b46ec30a", func := "loop.example/g00916/laws.FnExactFinishOf", spec := "fnExactFinishOf", unfollowed := true, recurses := true, apart := false }
def FnExactFinishOfSaid : Prop := fnExactFinishOfRow.holds Try.pinned (OpenSpec.ofChange fnExactFinishOfSpec)

/-- ITS FALSE NEIGHBOUR: 'it returns false'. Refute it at one input. -/
def fnExactFinishOfWrong : ChangeSpec := { name := "fnExactFinishOf", fn := fun _ => fun
  | [d1, d2, d3] => { results := [.lit (.bool false)], args := [d1, d2, d3] }
  | _ => none }
def FnExactFinishOfWrongFalsely : Prop := fnExactFinishOfRow.holds Try.pinned (OpenSpec.ofChange fnExactFinishOfWrong)

/-- 'laws.FnExactLeastFinish': WHATEVER THE INPUT: true; the input reads as it did. -/
def fnExactLeastFinishSpec : ChangeSpec := { name := "fnExactLeastFinish", fn := fun _ => fun
  | [d1, d2] => { results := [.lit (.bool true)], args := [d1, d2] }
  | _ => none }
def fnExactLeastFinishRow : OpenClaim := { program := "ytmeppemobogicaa", sum := "f1411588ecb089739a2c3ec36ce63c5c3dbb6ca63bac877ff635c324b46ec30a", func := "loop.example/g00916/laws.FnExactLeastFinish", spec := "fnExactLeastFinish", unfollowed := true, recurses := true, apart := false }
def FnExactLeastFinishSaid : Prop := fnExactLeastFinishRow.holds Try.pinned (OpenSpec.ofChange fnExactLeastFinishSpec)

/-- ITS FALSE NEIGHBOUR: 'it returns false'. Refute it at one input. -/
def fnExactLeastFinishWrong : ChangeSpec := { name := "fnExactLeastFinish", fn := fun _ => fun
  | [d1, d2] => { results := [.lit (.bool false)], args := [d1, d2] }
  | _ => none }
def FnExactLeastFinishWrongFalsely : Prop := fnExactLeastFinishRow.holds Try.pinned (OpenSpec.ofChange fnExactLeastFinishWrong)

/-- 'laws.FnExactBestAssignment': WHATEVER THE INPUT: true; the input reads as it did. -/
def fnExactBestAssignmentSpec : ChangeSpec := { name := "fnExactBestAssignment", fn := fun _ => fun
  | [d1, d2] => { results := [.lit (.bool true)], args := [d1, d2] }
  | _ => none }
def fnExactBestAssignmentRow : OpenClaim := { program := "ytmeppemobogicaa", sum := "f1411588ecb089739a2c3ec36ce63c5c3dbb6ca63bac877ff635c324b46ec30a", func := "loop.example/g00916/laws.FnExactBestAssignment", spec := "fnExactBestAssignment", unfollowed := true, recurses := true, apart := false }
def FnExactBestAssignmentSaid : Prop := fnExactBestAssignmentRow.holds Try.pinned (OpenSpec.ofChange fnExactBestAssignmentSpec)

/-- ITS FALSE NEIGHBOUR: 'it returns false'. Refute it at one input. -/
def fnExactBestAssignmentWrong : ChangeSpec := { name := "fnExactBestAssignment", fn := fun _ => fun
  | [d1, d2] => { results := [.lit (.bool false)], args := [d1, d2] }
  | _ => none }
def FnExactBestAssignmentWrongFalsely : Prop := fnExactBestAssignmentRow.holds Try.pinned (OpenSpec.ofChange fnExactBestAssignmentWrong)

/-- 'laws.FnAssignments': WHATEVER THE INPUT: true; the input reads as it did. -/
def fnAssignmentsSpec : ChangeSpec := { name := "fnAssignments", fn := fun _ => fun
  | [d] => { results := [.lit (.bool true)], args := [d] }
  | _ => none }
def fnAssignmentsRow : OpenClaim := { program := "ytmeppemobogicaa", sum := "f1411588ecb089739a2c3ec36ce63c5c3dbb6ca63bac877ff635c324b46ec30a", func := "loop.example/g00916/laws.FnAssignments", spec := "fnAssignments", unfollowed := true, recurses := true, apart := false }
def FnAssignmentsSaid : Prop := fnAssignmentsRow.holds Try.pinned (OpenSpec.ofChange fnAssignmentsSpec)

/-- ITS FALSE NEIGHBOUR: 'it returns false'. Refute it at one input. -/
def fnAssignmentsWrong : ChangeSpec := { name := "fnAssignments", fn := fun _ => fun
  | [d] => { results := [.lit (.bool false)], args := [d] }
  | _ => none }
def FnAssignmentsWrongFalsely : Prop := fnAssignmentsRow.holds Try.pinned (OpenSpec.ofChange fnAssignmentsWrong)

/-- 'laws.FnEvacuationOrder': WHATEVER THE INPUT: true; the input reads as it did. -/
def fnEvacuationOrderSpec : ChangeSpec := { name := "fnEvacuationOrder", fn := fun _ => fun
  | [d] => { results := [.lit (.bool true)], args := [d] }
  | _ => none }
def fnEvacuationOrderRow : OpenClaim := { program := "ytmeppemobogicaa", sum := "f1411588ecb089739a2c3ec36ce63c5c3dbb6ca63bac877ff635c324b46ec30a", func := "loop.example/g00916/laws.FnEvacuationOrder", spec := "fnEvacuationOrder", unfollowed := true, recurses := true, apart := false }
def FnEvacuationOrderSaid : Prop := fnEvacuationOrderRow.holds Try.pinned (OpenSpec.ofChange fnEvacuationOrderSpec)

/-- ITS FALSE NEIGHBOUR: 'it returns false'. Refute it at one input. -/
def fnEvacuationOrderWrong : ChangeSpec := { name := "fnEvacuationOrder", fn := fun _ => fun
  | [d] => { results := [.lit (.bool false)], args := [d] }
  | _ => none }
def FnEvacuationOrderWrongFalsely : Prop := fnEvacuationOrderRow.holds Try.pinned (OpenSpec.ofChange fnEvacuationOrderWrong)

/-- 'laws.FnExactEvacuationOrder': WHATEVER THE INPUT: true; the input reads as it did. -/
def fnExactEvacuationOrderSpec : ChangeSpec := { name := "fnExactEvacuationOrder", fn := fun _ => fun
  | [d] => { results := [.lit (.bool true)], args := [d] }
  | _ => none }
def fnExactEvacuationOrderRow : OpenClaim := { program := "ytmeppemobogicaa", sum := "f1411588ecb089739a2c3ec36ce63c5c3dbb6ca63bac877ff635c324b46ec30a", func := "loop.example/g00916/laws.FnExactEvacuationOrder", spec := "fnExactEvacuationOrder", unfollowed := true, recurses := true, apart := false }
def FnExactEvacuationOrderSaid : Prop := fnExactEvacuationOrderRow.holds Try.pinned (OpenSpec.ofChange fnExactEvacuationOrderSpec)

/-- ITS FALSE NEIGHBOUR: 'it returns false'. Refute it at one input. -/
def fnExactEvacuationOrderWrong : ChangeSpec := { name := "fnExactEvacuationOrder", fn := fun _ => fun
  | [d] => { results := [.lit (.bool false)], args := [d] }
  | _ => none }
def FnExactEvacuationOrderWrongFalsely : Prop := fnExactEvacuationOrderRow.holds Try.pinned (OpenSpec.ofChange fnExactEvacuationOrderWrong)

/-- 'laws.FnExactGreedyAssignment': WHATEVER THE INPUT: true; the input reads as it did. -/
def fnExactGreedyAssignmentSpec : ChangeSpec := { name := "fnExactGreedyAssignment", fn := fun _ => fun
  | [d1, d2] => { results := [.lit (.bool true)], args := [d1, d2] }
  | _ => none }
def fnExactGreedyAssignmentRow : OpenClaim := { program := "ytmeppemobogicaa", sum := "f1411588ecb089739a2c3ec36ce63c5c3dbb6ca63bac877ff635c324b46ec30a", func := "loop.example/g00916/laws.FnExactGreedyAssignment", spec := "fnExactGreedyAssignment", unfollowed := true, recurses := true, apart := false }
def FnExactGreedyAssignmentSaid : Prop := fnExactGreedyAssignmentRow.holds Try.pinned (OpenSpec.ofChange fnExactGreedyAssignmentSpec)

/-- ITS FALSE NEIGHBOUR: 'it returns false'. Refute it at one input. -/
def fnExactGreedyAssignmentWrong : ChangeSpec := { name := "fnExactGreedyAssignment", fn := fun _ => fun
  | [d1, d2] => { results := [.lit (.bool false)], args := [d1, d2] }
  | _ => none }
def FnExactGreedyAssignmentWrongFalsely : Prop := fnExactGreedyAssignmentRow.holds Try.pinned (OpenSpec.ofChange fnExactGreedyAssignmentWrong)

/-- 'laws.FnGreedy': WHATEVER THE INPUT: true; the input reads as it did. -/
def fnGreedySpec : ChangeSpec := { name := "fnGreedy", fn := fun _ => fun
  | [d] => { results := [.lit (.bool true)], args := [d] }
  | _ => none }
def fnGreedyRow : OpenClaim := { program := "ytmeppemobogicaa", sum := "f1411588ecb089739a2c3ec36ce63c5c3dbb6ca63bac877ff635c324b46ec30a", func := "loop.example/g00916/laws.FnGreedy", spec := "fnGreedy", unfollowed := true, recurses := true, apart := false }
def FnGreedySaid : Prop := fnGreedyRow.holds Try.pinned (OpenSpec.ofChange fnGreedySpec)

/-- ITS FALSE NEIGHBOUR: 'it returns false'. Refute it at one input. -/
def fnGreedyWrong : ChangeSpec := { name := "fnGreedy", fn := fun _ => fun
  | [d] => { results := [.lit (.bool false)], args := [d] }
  | _ => none }
def FnGreedyWrongFalsely : Prop := fnGreedyRow.holds Try.pinned (OpenSpec.ofChange fnGreedyWrong)

/- THE SECOND FORM. 'bulk': how many values and letters a reading holds, each counted each time it is reached (what is shared counts as often as it is met; a slice's spare places count too). A statement '..UptoSaid' is the law's where the arguments, and the package variables that the reading takes, are together of bulk at most 1048576: NARROWER than '..Said'. Prove '..Said' where nothing that the law and all that it calls make is longer than what came in: it says more and counts as full. Else prove '..UptoSaid'. A law counts once. -/
mutual
def uptoBulk {H : Type} : DataW H → Nat
  | .lit (.string bytes) => bytes.length + 1
  | .lit _ => 1
  | .nil => 1
  | .ptr d => uptoBulk d + 1
  | .slice elems spare => uptoBulkAll elems + uptoBulkAll spare + 1
  | .agg parts => uptoBulkAll parts + 1
  | .iface _ d => uptoBulk d + 1
  | .map entries => uptoBulkEntries entries + 1
  | .held _ => 1
def uptoBulkAll {H : Type} : List (DataW H) → Nat
  | [] => 0
  | d :: r => uptoBulk d + uptoBulkAll r
def uptoBulkEntries {H : Type} : List (Lit × DataW H) → Nat
  | [] => 0
  | x :: r => uptoBulkEntry x + uptoBulkEntries r
def uptoBulkEntry {H : Type} : Lit × DataW H → Nat
  | (.string bytes, d) => bytes.length + uptoBulk d + 1
  | (_, d) => uptoBulk d + 1
 end
def uptoSmall : (H : Type) → List (DataW H) → Bool := fun _ ds => decide (uptoBulkAll ds ≤ 1048576)
def OpenSpec.upto (s : _root_.Go.ChangeSpec) : _root_.Go.OpenSpec := { _root_.Go.OpenSpec.ofChange s with cond := some uptoSmall }

/-- 'laws.FnExactAreStops', WHERE WHAT IT READS IS OF BULK AT MOST 1048576: true; the input reads as it did. -/
def fnExactAreStopsUptoRow : OpenClaim := { program := "ytmeppemobogicaa", sum := "f1411588ecb089739a2c3ec36ce63c5c3dbb6ca63bac877ff635c324b46ec30a", func := "loop.example/g00916/laws.FnExactAreStops", spec := "fnExactAreStops", unfollowed := true, recurses := true, apart := false, narrowed := true }
def FnExactAreStopsUptoSaid : Prop := fnExactAreStopsUptoRow.holds Try.pinned (OpenSpec.upto fnExactAreStopsSpec)

/-- 'laws.FnExactStopTimes', WHERE WHAT IT READS IS OF BULK AT MOST 1048576: true; the input reads as it did. -/
def fnExactStopTimesUptoRow : OpenClaim := { program := "ytmeppemobogicaa", sum := "f1411588ecb089739a2c3ec36ce63c5c3dbb6ca63bac877ff635c324b46ec30a", func := "loop.example/g00916/laws.FnExactStopTimes", spec := "fnExactStopTimes", unfollowed := true, recurses := true, apart := false, narrowed := true }
def FnExactStopTimesUptoSaid : Prop := fnExactStopTimesUptoRow.holds Try.pinned (OpenSpec.upto fnExactStopTimesSpec)

/-- 'laws.FnExactCrewLoads', WHERE WHAT IT READS IS OF BULK AT MOST 1048576: true; the input reads as it did. -/
def fnExactCrewLoadsUptoRow : OpenClaim := { program := "ytmeppemobogicaa", sum := "f1411588ecb089739a2c3ec36ce63c5c3dbb6ca63bac877ff635c324b46ec30a", func := "loop.example/g00916/laws.FnExactCrewLoads", spec := "fnExactCrewLoads", unfollowed := true, recurses := true, apart := false, narrowed := true }
def FnExactCrewLoadsUptoSaid : Prop := fnExactCrewLoadsUptoRow.holds Try.pinned (OpenSpec.upto fnExactCrewLoadsSpec)

/-- 'laws.FnExactFinishOf', WHERE WHAT IT READS IS OF BULK AT MOST 1048576: true; the input reads as it did. -/
def fnExactFinishOfUptoRow : OpenClaim := { program := "ytmeppemobogicaa", sum := "f1411588ecb089739a2c3ec36ce63c5c3dbb6ca63bac877ff635c324b46ec30a", func := "loop.example/g00916/laws.FnExactFinishOf", spec := "fnExactFinishOf", unfollowed := true, recurses := true, apart := false, narrowed := true }
def FnExactFinishOfUptoSaid : Prop := fnExactFinishOfUptoRow.holds Try.pinned (OpenSpec.upto fnExactFinishOfSpec)

/-- 'laws.FnExactLeastFinish', WHERE WHAT IT READS IS OF BULK AT MOST 1048576: true; the input reads as it did. -/
def fnExactLeastFinishUptoRow : OpenClaim := { program := "ytmeppemobogicaa", sum := "f1411588ecb089739a2c3ec36ce63c5c3dbb6ca63bac877ff635c324b46ec30a", func := "loop.example/g00916/laws.FnExactLeastFinish", spec := "fnExactLeastFinish", unfollowed := true, recurses := true, apart := false, narrowed := true }
def FnExactLeastFinishUptoSaid : Prop := fnExactLeastFinishUptoRow.holds Try.pinned (OpenSpec.upto fnExactLeastFinishSpec)

/-- 'laws.FnExactBestAssignment', WHERE WHAT IT READS IS OF BULK AT MOST 1048576: true; the input reads as it did. -/
def fnExactBestAssignmentUptoRow : OpenClaim := { program := "ytmeppemobogicaa", sum := "f1411588ecb089739a2c3ec36ce63c5c3dbb6ca63bac877ff635c324b46ec30a", func := "loop.example/g00916/laws.FnExactBestAssignment", spec := "fnExactBestAssignment", unfollowed := true, recurses := true, apart := false, narrowed := true }
def FnExactBestAssignmentUptoSaid : Prop := fnExactBestAssignmentUptoRow.holds Try.pinned (OpenSpec.upto fnExactBestAssignmentSpec)

/-- 'laws.FnAssignments', WHERE WHAT IT READS IS OF BULK AT MOST 1048576: true; the input reads as it did. -/
def fnAssignmentsUptoRow : OpenClaim := { program := "ytmeppemobogicaa", sum := "f1411588ecb089739a2c3ec36ce63c5c3dbb6ca63bac877ff635c324b46ec30a", func := "loop.example/g00916/laws.FnAssignments", spec := "fnAssignments", unfollowed := true, recurses := true, apart := false, narrowed := true }
def FnAssignmentsUptoSaid : Prop := fnAssignmentsUptoRow.holds Try.pinned (OpenSpec.upto fnAssignmentsSpec)

/-- 'laws.FnEvacuationOrder', WHERE WHAT IT READS IS OF BULK AT MOST 1048576: true; the input reads as it did. -/
def fnEvacuationOrderUptoRow : OpenClaim := { program := "ytmeppemobogicaa", sum := "f1411588ecb089739a2c3ec36ce63c5c3dbb6ca63bac877ff635c324b46ec30a", func := "loop.example/g00916/laws.FnEvacuationOrder", spec := "fnEvacuationOrder", unfollowed := true, recurses := true, apart := false, narrowed := true }
def FnEvacuationOrderUptoSaid : Prop := fnEvacuationOrderUptoRow.holds Try.pinned (OpenSpec.upto fnEvacuationOrderSpec)

/-- 'laws.FnExactEvacuationOrder', WHERE WHAT IT READS IS OF BULK AT MOST 1048576: true; the input reads as it did. -/
def fnExactEvacuationOrderUptoRow : OpenClaim := { program := "ytmeppemobogicaa", sum := "f1411588ecb089739a2c3ec36ce63c5c3dbb6ca63bac877ff635c324b46ec30a", func := "loop.example/g00916/laws.FnExactEvacuationOrder", spec := "fnExactEvacuationOrder", unfollowed := true, recurses := true, apart := false, narrowed := true }
def FnExactEvacuationOrderUptoSaid : Prop := fnExactEvacuationOrderUptoRow.holds Try.pinned (OpenSpec.upto fnExactEvacuationOrderSpec)

/-- 'laws.FnExactGreedyAssignment', WHERE WHAT IT READS IS OF BULK AT MOST 1048576: true; the input reads as it did. -/
def fnExactGreedyAssignmentUptoRow : OpenClaim := { program := "ytmeppemobogicaa", sum := "f1411588ecb089739a2c3ec36ce63c5c3dbb6ca63bac877ff635c324b46ec30a", func := "loop.example/g00916/laws.FnExactGreedyAssignment", spec := "fnExactGreedyAssignment", unfollowed := true, recurses := true, apart := false, narrowed := true }
def FnExactGreedyAssignmentUptoSaid : Prop := fnExactGreedyAssignmentUptoRow.holds Try.pinned (OpenSpec.upto fnExactGreedyAssignmentSpec)

/-- 'laws.FnGreedy', WHERE WHAT IT READS IS OF BULK AT MOST 1048576: true; the input reads as it did. -/
def fnGreedyUptoRow : OpenClaim := { program := "ytmeppemobogicaa", sum := "f1411588ecb089739a2c3ec36ce63c5c3dbb6ca63bac877ff635c324b46ec30a", func := "loop.example/g00916/laws.FnGreedy", spec := "fnGreedy", unfollowed := true, recurses := true, apart := false, narrowed := true }
def FnGreedyUptoSaid : Prop := fnGreedyUptoRow.holds Try.pinned (OpenSpec.upto fnGreedySpec)

end Rows
end Go.Proofs.Ytmeppemobogicaa
