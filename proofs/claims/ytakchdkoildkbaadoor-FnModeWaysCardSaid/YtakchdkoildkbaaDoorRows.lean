/-
  NARROWER THAN 'FOR EVERY INPUT', by the rows' own cells (each row's printed sentence says how): FnExactReachableModes: laid · FnCommands: laid · FnResets: laid · FnExactRunCommands: laid · FnModeWays: laid.
  DERIVED. THE GIVEN ROWS OF THIS SEAT. 5 by the template 'for every input the law returns true; each argument reads behind the call as it read before'; 0 by the template 'total and deterministic' (their statements: YtakchdkoildkbaaDoorTotals.lean).
  GIVEN WITH THE SEED: the statements are not yours to turn. If you find one false, say at which input.
  Laid BY PROGRAM, IN A SANDBOX (cutbox-rows.mjs): the forced cells as the released guide's own fill.sh prints them over the translation 50885ab9a1957601… (all of the seat's roots in one cut). By AI agents, Wed Nov 11 2026. No macro, syntax, notation, axiom, sorry.
-/
import Derived.Test.YtakchdkoildkbaaDoorChecked
import GoSem.Claim
import GoSem.ClaimJoined
import GoSem.ClaimMapViews
import Derived.JoinedTies
import Derived.KernelRfl
namespace Go.Proofs.YtakchdkoildkbaaDoor
/- THE CELL 'sum', in the pinned program and in every row, IS THE sha256 OF THE DUMP (.gsa) THAT YtakchdkoildkbaaDoorProg.lean LOADS. Nothing in Lean hashes anything: it is a label: what it is worth is what the hold of that sum in a sandbox is worth. -/
noncomputable def Tryd.pinned : Pinned := { name := "ytakchdkoildkbaadoor", sum := "50885ab9a1957601751881309e7260e252fca7676465a32d832d0653bed81ca1", checked := Tryd.checked }
namespace Rows
def none {H : Type} : Left H := { results := [], args := [] }

/- WHAT THE LISTED PACKAGE-LEVEL VARIABLES READ AS WHEN THE CALL BEGINS. Each datum BY PROGRAM (the guide's laid-datum.mjs) off the statement by which the dump's own 'gosem.cut.vars' lays the variable. In a bare row this is a premise. The card (YtakchdkoildkbaaDoorCards.lean) ties it to the program's text. -/
def laid_loop_example_g00916_impl_commandRows {H : Type} : DataW H := .agg [.agg [.lit (.int .i64 1), .lit (.int .i64 2), .lit (.int .i64 1), .lit (.bool true)], .agg [.lit (.int .i64 4), .lit (.int .i64 3), .lit (.int .i64 1), .lit (.bool false)], .agg [.lit (.int .i64 8), .lit (.int .i64 2), .lit (.int .i64 1), .lit (.bool false)], .agg [.lit (.int .i64 62), .lit (.int .i64 4), .lit (.int .i64 0), .lit (.bool false)], .agg [.lit (.int .i64 16), .lit (.int .i64 2), .lit (.int .i64 2), .lit (.bool true)], .agg [.lit (.int .i64 16), .lit (.int .i64 5), .lit (.int .i64 3), .lit (.bool false)], .agg [.lit (.int .i64 32), .lit (.int .i64 4), .lit (.int .i64 3), .lit (.bool false)], .agg [.lit (.int .i64 5), .lit (.int .i64 1), .lit (.int .i64 2), .lit (.bool true)], .agg [.lit (.int .i64 2), .lit (.int .i64 2), .lit (.int .i64 2), .lit (.bool true)], .agg [.lit (.int .i64 4), .lit (.int .i64 0), .lit (.int .i64 1), .lit (.bool false)]]

/-- 'laws.FnExactReachableModes': WHATEVER THE INPUT: true; the input reads as it did. -/
def fnExactReachableModesSpec : ChangeSpec := { name := "fnExactReachableModes", vars := ["loop.example/g00916/impl.commandRows"], fn := fun _ => fun
  | [d1, d2, d3, g1] => { results := [.lit (.bool true)], args := [d1, d2, d3], vars := [g1] }
  | _ => none }
def fnExactReachableModesRow : OpenClaim := { program := "ytakchdkoildkbaadoor", sum := "50885ab9a1957601751881309e7260e252fca7676465a32d832d0653bed81ca1", func := "loop.example/g00916/laws.FnExactReachableModes", spec := "fnExactReachableModes", named := ["loop.example/g00916/impl.commandRows"], apart := false, laid := [("loop.example/g00916/impl.commandRows", laid_loop_example_g00916_impl_commandRows)] }
def FnExactReachableModesSaid : Prop := fnExactReachableModesRow.holds Tryd.pinned (OpenSpec.ofChange fnExactReachableModesSpec)

/-- ITS FALSE NEIGHBOUR: 'it returns false'. Refute it at one input. -/
def fnExactReachableModesWrong : ChangeSpec := { name := "fnExactReachableModes", vars := ["loop.example/g00916/impl.commandRows"], fn := fun _ => fun
  | [d1, d2, d3, g1] => { results := [.lit (.bool false)], args := [d1, d2, d3], vars := [g1] }
  | _ => none }
def FnExactReachableModesWrongFalsely : Prop := fnExactReachableModesRow.holds Tryd.pinned (OpenSpec.ofChange fnExactReachableModesWrong)

/-- 'laws.FnCommands': WHATEVER THE INPUT: true; the input reads as it did. -/
def fnCommandsSpec : ChangeSpec := { name := "fnCommands", vars := ["loop.example/g00916/impl.commandRows"], fn := fun _ => fun
  | [d, g1] => { results := [.lit (.bool true)], args := [d], vars := [g1] }
  | _ => none }
def fnCommandsRow : OpenClaim := { program := "ytakchdkoildkbaadoor", sum := "50885ab9a1957601751881309e7260e252fca7676465a32d832d0653bed81ca1", func := "loop.example/g00916/laws.FnCommands", spec := "fnCommands", unfollowed := true, recurses := true, named := ["loop.example/g00916/impl.commandRows"], apart := false, laid := [("loop.example/g00916/impl.commandRows", laid_loop_example_g00916_impl_commandRows)] }
def FnCommandsSaid : Prop := fnCommandsRow.holds Tryd.pinned (OpenSpec.ofChange fnCommandsSpec)

/-- ITS FALSE NEIGHBOUR: 'it returns false'. Refute it at one input. -/
def fnCommandsWrong : ChangeSpec := { name := "fnCommands", vars := ["loop.example/g00916/impl.commandRows"], fn := fun _ => fun
  | [d, g1] => { results := [.lit (.bool false)], args := [d], vars := [g1] }
  | _ => none }
def FnCommandsWrongFalsely : Prop := fnCommandsRow.holds Tryd.pinned (OpenSpec.ofChange fnCommandsWrong)

/-- 'laws.FnResets': WHATEVER THE INPUT: true; the input reads as it did. -/
def fnResetsSpec : ChangeSpec := { name := "fnResets", vars := ["loop.example/g00916/impl.commandRows"], fn := fun _ => fun
  | [d, g1] => { results := [.lit (.bool true)], args := [d], vars := [g1] }
  | _ => none }
def fnResetsRow : OpenClaim := { program := "ytakchdkoildkbaadoor", sum := "50885ab9a1957601751881309e7260e252fca7676465a32d832d0653bed81ca1", func := "loop.example/g00916/laws.FnResets", spec := "fnResets", unfollowed := true, recurses := true, named := ["loop.example/g00916/impl.commandRows"], apart := false, laid := [("loop.example/g00916/impl.commandRows", laid_loop_example_g00916_impl_commandRows)] }
def FnResetsSaid : Prop := fnResetsRow.holds Tryd.pinned (OpenSpec.ofChange fnResetsSpec)

/-- ITS FALSE NEIGHBOUR: 'it returns false'. Refute it at one input. -/
def fnResetsWrong : ChangeSpec := { name := "fnResets", vars := ["loop.example/g00916/impl.commandRows"], fn := fun _ => fun
  | [d, g1] => { results := [.lit (.bool false)], args := [d], vars := [g1] }
  | _ => none }
def FnResetsWrongFalsely : Prop := fnResetsRow.holds Tryd.pinned (OpenSpec.ofChange fnResetsWrong)

/-- 'laws.FnExactRunCommands': WHATEVER THE INPUT: true; the input reads as it did. -/
def fnExactRunCommandsSpec : ChangeSpec := { name := "fnExactRunCommands", vars := ["loop.example/g00916/impl.commandRows"], fn := fun _ => fun
  | [d1, d2, g1] => { results := [.lit (.bool true)], args := [d1, d2], vars := [g1] }
  | _ => none }
def fnExactRunCommandsRow : OpenClaim := { program := "ytakchdkoildkbaadoor", sum := "50885ab9a1957601751881309e7260e252fca7676465a32d832d0653bed81ca1", func := "loop.example/g00916/laws.FnExactRunCommands", spec := "fnExactRunCommands", unfollowed := true, recurses := true, named := ["loop.example/g00916/impl.commandRows"], apart := false, laid := [("loop.example/g00916/impl.commandRows", laid_loop_example_g00916_impl_commandRows)] }
def FnExactRunCommandsSaid : Prop := fnExactRunCommandsRow.holds Tryd.pinned (OpenSpec.ofChange fnExactRunCommandsSpec)

/-- ITS FALSE NEIGHBOUR: 'it returns false'. Refute it at one input. -/
def fnExactRunCommandsWrong : ChangeSpec := { name := "fnExactRunCommands", vars := ["loop.example/g00916/impl.commandRows"], fn := fun _ => fun
  | [d1, d2, g1] => { results := [.lit (.bool false)], args := [d1, d2], vars := [g1] }
  | _ => none }
def FnExactRunCommandsWrongFalsely : Prop := fnExactRunCommandsRow.holds Tryd.pinned (OpenSpec.ofChange fnExactRunCommandsWrong)

/-- 'laws.FnModeWays': WHATEVER THE INPUT: true; the input reads as it did. -/
def fnModeWaysSpec : ChangeSpec := { name := "fnModeWays", vars := ["loop.example/g00916/impl.commandRows"], fn := fun _ => fun
  | [d, g1] => { results := [.lit (.bool true)], args := [d], vars := [g1] }
  | _ => none }
def fnModeWaysRow : OpenClaim := { program := "ytakchdkoildkbaadoor", sum := "50885ab9a1957601751881309e7260e252fca7676465a32d832d0653bed81ca1", func := "loop.example/g00916/laws.FnModeWays", spec := "fnModeWays", unfollowed := true, recurses := true, named := ["loop.example/g00916/impl.commandRows"], apart := false, laid := [("loop.example/g00916/impl.commandRows", laid_loop_example_g00916_impl_commandRows)] }
def FnModeWaysSaid : Prop := fnModeWaysRow.holds Tryd.pinned (OpenSpec.ofChange fnModeWaysSpec)

/-- ITS FALSE NEIGHBOUR: 'it returns false'. Refute it at one input. -/
def fnModeWaysWrong : ChangeSpec := { name := "fnModeWays", vars := ["loop.example/g00916/impl.commandRows"], fn := fun _ => fun
  | [d, g1] => { results := [.lit (.bool false)], args := [d], vars := [g1] }
  | _ => none }
def FnModeWaysWrongFalsely : Prop := fnModeWaysRow.holds Tryd.pinned (OpenSpec.ofChange fnModeWaysWrong)

/- THE SECOND FORM. 'bulk': how many values and letters a reading holds, each counted each time it is reached (what is shared counts as often as it is met; a slice's spare places count too). A statement '..UptoSaid' is the law's where the arguments, and the package variables that the reading takes, are together of bulk at most 1048576: NARROWER than '..Said'. Prove '..Said' where nothing that the law and all that it calls make is longer than what came in: it says more and counts as full. Else prove '..UptoSaid'. A law counts once. -/
mutual
def uptoBulk {H : Type} : DataW H → Nat
  | .lit (.string bytes) => bytes.length + 1
  | .lit _ => 1
  | .nil => 1
  | .ptr d => uptoBulk d + 1
  | .slice elems spare => uptoBulkAll elems + uptoBulkAll spare + 1
  | .agg parts => uptoBulkAll parts + 1
  | .iface _ d => uptoBulk d + 1
  | .map entries => uptoBulkEntries entries + 1
  | .held _ => 1
def uptoBulkAll {H : Type} : List (DataW H) → Nat
  | [] => 0
  | d :: r => uptoBulk d + uptoBulkAll r
def uptoBulkEntries {H : Type} : List (Lit × DataW H) → Nat
  | [] => 0
  | x :: r => uptoBulkEntry x + uptoBulkEntries r
def uptoBulkEntry {H : Type} : Lit × DataW H → Nat
  | (.string bytes, d) => bytes.length + uptoBulk d + 1
  | (_, d) => uptoBulk d + 1
 end
def uptoSmall : (H : Type) → List (DataW H) → Bool := fun _ ds => decide (uptoBulkAll ds ≤ 1048576)
def OpenSpec.upto (s : _root_.Go.ChangeSpec) : _root_.Go.OpenSpec := { _root_.Go.OpenSpec.ofChange s with cond := some uptoSmall }

/-- 'laws.FnExactReachableModes', WHERE WHAT IT READS IS OF BULK AT MOST 1048576: true; the input reads as it did. -/
def fnExactReachableModesUptoRow : OpenClaim := { program := "ytakchdkoildkbaadoor", sum := "50885ab9a1957601751881309e7260e252fca7676465a32d832d0653bed81ca1", func := "loop.example/g00916/laws.FnExactReachableModes", spec := "fnExactReachableModes", named := ["loop.example/g00916/impl.commandRows"], apart := false, laid := [("loop.example/g00916/impl.commandRows", laid_loop_example_g00916_impl_commandRows)], narrowed := true }
def FnExactReachableModesUptoSaid : Prop := fnExactReachableModesUptoRow.holds Tryd.pinned (OpenSpec.upto fnExactReachableModesSpec)

/-- 'laws.FnCommands', WHERE WHAT IT READS IS OF BULK AT MOST 1048576: true; the input reads as it did. -/
def fnCommandsUptoRow : OpenClaim := { program := "ytakchdkoildkbaadoor", sum := "50885ab9a1957601751881309e7260e252fca7676465a32d832d0653bed81ca1", func := "loop.example/g00916/laws.FnCommands", spec := "fnCommands", unfollowed := true, recurses := true, named := ["loop.example/g00916/impl.commandRows"], apart := false, laid := [("loop.example/g00916/impl.commandRows", laid_loop_example_g00916_impl_commandRows)], narrowed := true }
def FnCommandsUptoSaid : Prop := fnCommandsUptoRow.holds Tryd.pinned (OpenSpec.upto fnCommandsSpec)

/-- 'laws.FnResets', WHERE WHAT IT READS IS OF BULK AT MOST 1048576: true; the input reads as it did. -/
def fnResetsUptoRow : OpenClaim := { program := "ytakchdkoildkbaadoor", sum := "50885ab9a1957601751881309e7260e252fca7676465a32d832d0653bed81ca1", func := "loop.example/g00916/laws.FnResets", spec := "fnResets", unfollowed := true, recurses := true, named := ["loop.example/g00916/impl.commandRows"], apart := false, laid := [("loop.example/g00916/impl.commandRows", laid_loop_example_g00916_impl_commandRows)], narrowed := true }
def FnResetsUptoSaid : Prop := fnResetsUptoRow.holds Tryd.pinned (OpenSpec.upto fnResetsSpec)

/-- 'laws.FnExactRunCommands', WHERE WHAT IT READS IS OF BULK AT MOST 1048576: true; the input reads as it did. -/
def fnExactRunCommandsUptoRow : OpenClaim := { program := "ytakchdkoildkbaadoor", sum := "50885ab9a1957601751881309e7260e252fca7676465a32d832d0653bed81ca1", func := "loop.example/g00916/laws.FnExactRunCommands", spec := "fnExactRunCommands", unfollowed := true, recurses := true, named := ["loop.example/g00916/impl.commandRows"], apart := false, laid := [("loop.example/g00916/impl.commandRows", laid_loop_example_g00916_impl_commandRows)], narrowed := true }
def FnExactRunCommandsUptoSaid : Prop := fnExactRunCommandsUptoRow.holds Tryd.pinned (OpenSpec.upto fnExactRunCommandsSpec)

/-- 'laws.FnModeWays', WHERE WHAT IT READS IS OF BULK AT MOST 1048576: true; the input reads as it did. -/
def fnModeWaysUptoRow : OpenClaim := { program := "ytakchdkoildkbaadoor", sum := "50885ab9a1957601751881309e7260e252fca7676465a32d832d0653bed81ca1", func := "loop.example/g00916/laws.FnModeWays", spec := "fnModeWays", unfollowed := true, recurses := true, named := ["loop.example/g00916/impl.commandRows"], apart := false, laid := [("loop.example/g00916/impl.commandRows", laid_loop_example_g00916_impl_commandRows)], narrowed := true }
def FnModeWaysUptoSaid : Prop := fnModeWaysUptoRow.holds Tryd.pinned (OpenSpec.upto fnModeWaysSpec)

end Rows
end Go.Proofs.YtakchdkoildkbaaDoor
