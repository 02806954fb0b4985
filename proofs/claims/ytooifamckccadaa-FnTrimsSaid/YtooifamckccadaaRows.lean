/-
  No cell of these rows narrows 'for every input' (looked for: loops, veiled, ifaces, maps, wideKeys, modest, calm, conditions, laid).
  DERIVED. THE GIVEN ROWS OF THIS SEAT. 15 by the template 'for every input the law returns true; each argument reads behind the call as it read before'; 0 by the template 'total and deterministic' (their statements: YtooifamckccadaaTotals.lean).
  GIVEN WITH THE SEED: the statements are not yours to turn. If you find one false, say at which input.
  Laid BY PROGRAM, IN A SANDBOX (cutbox-rows.mjs): the forced cells as the released guide's own fill.sh prints them over the translation 8381f62d7da250da… (all of the seat's roots in one cut). By AI agents, Wed Nov 11 2026. No macro, syntax, notation, axiom, sorry.
-/
import Derived.Test.YtooifamckccadaaChecked
import GoSem.Claim
import GoSem.ClaimJoined
import GoSem.ClaimMapViews
import Derived.JoinedTies
import Derived.KernelRfl
namespace Go.Proofs.Ytooifamckccadaa
/- THE CELL 'sum', in the pinned program and in every row, IS THE sha256 OF THE DUMP (.gsa) THAT YtooifamckccadaaProg.lean LOADS. Nothing in Lean hashes anything: it is a label: what it is worth is what the hold of that sum in a sandbox is worth. -/
noncomputable def Try.pinned : Pinned := { name := "ytooifamckccadaa", sum := "8381f62d7da250da7a122ac24908da9b58b249431f98bbf1316c2ac1ea96fbb6", checked := Try.checked }
namespace Rows
def none {H : Type} : Left H := { results := [], args := [] }

/-- 'laws.FnCaught': WHATEVER THE INPUT: true; the input reads as it did. -/
def fnCaughtSpec : ChangeSpec := { name := "fnCaught", fn := fun _ => fun
  | [d] => { results := [.lit (.bool true)], args := [d] }
  | _ => none }
def fnCaughtRow : OpenClaim := { program := "ytooifamckccadaa", sum := "8381f62d7da250da7a122ac24908da9b58b249431f98bbf1316c2ac1ea96fbb6", func := "loop.example/g00916/laws.FnCaught", spec := "fnCaught", unfollowed := true, recurses := true, apart := false }
def FnCaughtSaid : Prop := fnCaughtRow.holds Try.pinned (OpenSpec.ofChange fnCaughtSpec)

/-- ITS FALSE NEIGHBOUR: 'it returns false'. Refute it at one input. -/
def fnCaughtWrong : ChangeSpec := { name := "fnCaught", fn := fun _ => fun
  | [d] => { results := [.lit (.bool false)], args := [d] }
  | _ => none }
def FnCaughtWrongFalsely : Prop := fnCaughtRow.holds Try.pinned (OpenSpec.ofChange fnCaughtWrong)

/-- 'laws.FnExactActiveAfter': WHATEVER THE INPUT: true; the input reads as it did. -/
def fnExactActiveAfterSpec : ChangeSpec := { name := "fnExactActiveAfter", fn := fun _ => fun
  | [d1, d2] => { results := [.lit (.bool true)], args := [d1, d2] }
  | _ => none }
def fnExactActiveAfterRow : OpenClaim := { program := "ytooifamckccadaa", sum := "8381f62d7da250da7a122ac24908da9b58b249431f98bbf1316c2ac1ea96fbb6", func := "loop.example/g00916/laws.FnExactActiveAfter", spec := "fnExactActiveAfter", apart := false }
def FnExactActiveAfterSaid : Prop := fnExactActiveAfterRow.holds Try.pinned (OpenSpec.ofChange fnExactActiveAfterSpec)

/-- ITS FALSE NEIGHBOUR: 'it returns false'. Refute it at one input. -/
def fnExactActiveAfterWrong : ChangeSpec := { name := "fnExactActiveAfter", fn := fun _ => fun
  | [d1, d2] => { results := [.lit (.bool false)], args := [d1, d2] }
  | _ => none }
def FnExactActiveAfterWrongFalsely : Prop := fnExactActiveAfterRow.holds Try.pinned (OpenSpec.ofChange fnExactActiveAfterWrong)

/-- 'laws.FnExactLeastBrakes': WHATEVER THE INPUT: true; the input reads as it did. -/
def fnExactLeastBrakesSpec : ChangeSpec := { name := "fnExactLeastBrakes", fn := fun _ => fun
  | [d1, d2, d3, d4, d5] => { results := [.lit (.bool true)], args := [d1, d2, d3, d4, d5] }
  | _ => none }
def fnExactLeastBrakesRow : OpenClaim := { program := "ytooifamckccadaa", sum := "8381f62d7da250da7a122ac24908da9b58b249431f98bbf1316c2ac1ea96fbb6", func := "loop.example/g00916/laws.FnExactLeastBrakes", spec := "fnExactLeastBrakes", unfollowed := true, recurses := true, apart := false }
def FnExactLeastBrakesSaid : Prop := fnExactLeastBrakesRow.holds Try.pinned (OpenSpec.ofChange fnExactLeastBrakesSpec)

/-- ITS FALSE NEIGHBOUR: 'it returns false'. Refute it at one input. -/
def fnExactLeastBrakesWrong : ChangeSpec := { name := "fnExactLeastBrakes", fn := fun _ => fun
  | [d1, d2, d3, d4, d5] => { results := [.lit (.bool false)], args := [d1, d2, d3, d4, d5] }
  | _ => none }
def FnExactLeastBrakesWrongFalsely : Prop := fnExactLeastBrakesRow.holds Try.pinned (OpenSpec.ofChange fnExactLeastBrakesWrong)

/-- 'laws.FnTrims': WHATEVER THE INPUT: true; the input reads as it did. -/
def fnTrimsSpec : ChangeSpec := { name := "fnTrims", fn := fun _ => fun
  | [d] => { results := [.lit (.bool true)], args := [d] }
  | _ => none }
def fnTrimsRow : OpenClaim := { program := "ytooifamckccadaa", sum := "8381f62d7da250da7a122ac24908da9b58b249431f98bbf1316c2ac1ea96fbb6", func := "loop.example/g00916/laws.FnTrims", spec := "fnTrims", unfollowed := true, recurses := true, apart := false }
def FnTrimsSaid : Prop := fnTrimsRow.holds Try.pinned (OpenSpec.ofChange fnTrimsSpec)

/-- ITS FALSE NEIGHBOUR: 'it returns false'. Refute it at one input. -/
def fnTrimsWrong : ChangeSpec := { name := "fnTrims", fn := fun _ => fun
  | [d] => { results := [.lit (.bool false)], args := [d] }
  | _ => none }
def FnTrimsWrongFalsely : Prop := fnTrimsRow.holds Try.pinned (OpenSpec.ofChange fnTrimsWrong)

/-- 'laws.FnActiveDevices': WHATEVER THE INPUT: true; the input reads as it did. -/
def fnActiveDevicesSpec : ChangeSpec := { name := "fnActiveDevices", fn := fun _ => fun
  | [d] => { results := [.lit (.bool true)], args := [d] }
  | _ => none }
def fnActiveDevicesRow : OpenClaim := { program := "ytooifamckccadaa", sum := "8381f62d7da250da7a122ac24908da9b58b249431f98bbf1316c2ac1ea96fbb6", func := "loop.example/g00916/laws.FnActiveDevices", spec := "fnActiveDevices", apart := false }
def FnActiveDevicesSaid : Prop := fnActiveDevicesRow.holds Try.pinned (OpenSpec.ofChange fnActiveDevicesSpec)

/-- ITS FALSE NEIGHBOUR: 'it returns false'. Refute it at one input. -/
def fnActiveDevicesWrong : ChangeSpec := { name := "fnActiveDevices", fn := fun _ => fun
  | [d] => { results := [.lit (.bool false)], args := [d] }
  | _ => none }
def FnActiveDevicesWrongFalsely : Prop := fnActiveDevicesRow.holds Try.pinned (OpenSpec.ofChange fnActiveDevicesWrong)

/-- 'laws.FnExactFirstDoubt': WHATEVER THE INPUT: true; the input reads as it did. -/
def fnExactFirstDoubtSpec : ChangeSpec := { name := "fnExactFirstDoubt", fn := fun _ => fun
  | [d1, d2, d3, d4, d5] => { results := [.lit (.bool true)], args := [d1, d2, d3, d4, d5] }
  | _ => none }
def fnExactFirstDoubtRow : OpenClaim := { program := "ytooifamckccadaa", sum := "8381f62d7da250da7a122ac24908da9b58b249431f98bbf1316c2ac1ea96fbb6", func := "loop.example/g00916/laws.FnExactFirstDoubt", spec := "fnExactFirstDoubt", unfollowed := true, recurses := true, apart := false }
def FnExactFirstDoubtSaid : Prop := fnExactFirstDoubtRow.holds Try.pinned (OpenSpec.ofChange fnExactFirstDoubtSpec)

/-- ITS FALSE NEIGHBOUR: 'it returns false'. Refute it at one input. -/
def fnExactFirstDoubtWrong : ChangeSpec := { name := "fnExactFirstDoubt", fn := fun _ => fun
  | [d1, d2, d3, d4, d5] => { results := [.lit (.bool false)], args := [d1, d2, d3, d4, d5] }
  | _ => none }
def FnExactFirstDoubtWrongFalsely : Prop := fnExactFirstDoubtRow.holds Try.pinned (OpenSpec.ofChange fnExactFirstDoubtWrong)

/-- 'laws.FnExactPeakEnergy': WHATEVER THE INPUT: true; the input reads as it did. -/
def fnExactPeakEnergySpec : ChangeSpec := { name := "fnExactPeakEnergy", fn := fun _ => fun
  | [d1, d2, d3, d4, d5] => { results := [.lit (.bool true)], args := [d1, d2, d3, d4, d5] }
  | _ => none }
def fnExactPeakEnergyRow : OpenClaim := { program := "ytooifamckccadaa", sum := "8381f62d7da250da7a122ac24908da9b58b249431f98bbf1316c2ac1ea96fbb6", func := "loop.example/g00916/laws.FnExactPeakEnergy", spec := "fnExactPeakEnergy", unfollowed := true, recurses := true, apart := false }
def FnExactPeakEnergySaid : Prop := fnExactPeakEnergyRow.holds Try.pinned (OpenSpec.ofChange fnExactPeakEnergySpec)

/-- ITS FALSE NEIGHBOUR: 'it returns false'. Refute it at one input. -/
def fnExactPeakEnergyWrong : ChangeSpec := { name := "fnExactPeakEnergy", fn := fun _ => fun
  | [d1, d2, d3, d4, d5] => { results := [.lit (.bool false)], args := [d1, d2, d3, d4, d5] }
  | _ => none }
def FnExactPeakEnergyWrongFalsely : Prop := fnExactPeakEnergyRow.holds Try.pinned (OpenSpec.ofChange fnExactPeakEnergyWrong)

/-- 'laws.FnExactArrivalEnergy': WHATEVER THE INPUT: true; the input reads as it did. -/
def fnExactArrivalEnergySpec : ChangeSpec := { name := "fnExactArrivalEnergy", fn := fun _ => fun
  | [d1, d2, d3, d4, d5] => { results := [.lit (.bool true)], args := [d1, d2, d3, d4, d5] }
  | _ => none }
def fnExactArrivalEnergyRow : OpenClaim := { program := "ytooifamckccadaa", sum := "8381f62d7da250da7a122ac24908da9b58b249431f98bbf1316c2ac1ea96fbb6", func := "loop.example/g00916/laws.FnExactArrivalEnergy", spec := "fnExactArrivalEnergy", unfollowed := true, recurses := true, apart := false }
def FnExactArrivalEnergySaid : Prop := fnExactArrivalEnergyRow.holds Try.pinned (OpenSpec.ofChange fnExactArrivalEnergySpec)

/-- ITS FALSE NEIGHBOUR: 'it returns false'. Refute it at one input. -/
def fnExactArrivalEnergyWrong : ChangeSpec := { name := "fnExactArrivalEnergy", fn := fun _ => fun
  | [d1, d2, d3, d4, d5] => { results := [.lit (.bool false)], args := [d1, d2, d3, d4, d5] }
  | _ => none }
def FnExactArrivalEnergyWrongFalsely : Prop := fnExactArrivalEnergyRow.holds Try.pinned (OpenSpec.ofChange fnExactArrivalEnergyWrong)

/-- 'laws.FnExactFirstOverspeed': WHATEVER THE INPUT: true; the input reads as it did. -/
def fnExactFirstOverspeedSpec : ChangeSpec := { name := "fnExactFirstOverspeed", fn := fun _ => fun
  | [d1, d2, d3, d4, d5, d6] => { results := [.lit (.bool true)], args := [d1, d2, d3, d4, d5, d6] }
  | _ => none }
def fnExactFirstOverspeedRow : OpenClaim := { program := "ytooifamckccadaa", sum := "8381f62d7da250da7a122ac24908da9b58b249431f98bbf1316c2ac1ea96fbb6", func := "loop.example/g00916/laws.FnExactFirstOverspeed", spec := "fnExactFirstOverspeed", unfollowed := true, recurses := true, apart := false }
def FnExactFirstOverspeedSaid : Prop := fnExactFirstOverspeedRow.holds Try.pinned (OpenSpec.ofChange fnExactFirstOverspeedSpec)

/-- ITS FALSE NEIGHBOUR: 'it returns false'. Refute it at one input. -/
def fnExactFirstOverspeedWrong : ChangeSpec := { name := "fnExactFirstOverspeed", fn := fun _ => fun
  | [d1, d2, d3, d4, d5, d6] => { results := [.lit (.bool false)], args := [d1, d2, d3, d4, d5, d6] }
  | _ => none }
def FnExactFirstOverspeedWrongFalsely : Prop := fnExactFirstOverspeedRow.holds Try.pinned (OpenSpec.ofChange fnExactFirstOverspeedWrong)

/-- 'laws.FnExactIsWithinLimits': WHATEVER THE INPUT: true; the input reads as it did. -/
def fnExactIsWithinLimitsSpec : ChangeSpec := { name := "fnExactIsWithinLimits", fn := fun _ => fun
  | [d1, d2, d3, d4, d5, d6] => { results := [.lit (.bool true)], args := [d1, d2, d3, d4, d5, d6] }
  | _ => none }
def fnExactIsWithinLimitsRow : OpenClaim := { program := "ytooifamckccadaa", sum := "8381f62d7da250da7a122ac24908da9b58b249431f98bbf1316c2ac1ea96fbb6", func := "loop.example/g00916/laws.FnExactIsWithinLimits", spec := "fnExactIsWithinLimits", unfollowed := true, recurses := true, apart := false }
def FnExactIsWithinLimitsSaid : Prop := fnExactIsWithinLimitsRow.holds Try.pinned (OpenSpec.ofChange fnExactIsWithinLimitsSpec)

/-- ITS FALSE NEIGHBOUR: 'it returns false'. Refute it at one input. -/
def fnExactIsWithinLimitsWrong : ChangeSpec := { name := "fnExactIsWithinLimits", fn := fun _ => fun
  | [d1, d2, d3, d4, d5, d6] => { results := [.lit (.bool false)], args := [d1, d2, d3, d4, d5, d6] }
  | _ => none }
def FnExactIsWithinLimitsWrongFalsely : Prop := fnExactIsWithinLimitsRow.holds Try.pinned (OpenSpec.ofChange fnExactIsWithinLimitsWrong)

/-- 'laws.FnExactActiveAlong': WHATEVER THE INPUT: true; the input reads as it did. -/
def fnExactActiveAlongSpec : ChangeSpec := { name := "fnExactActiveAlong", fn := fun _ => fun
  | [d1, d2, d3, d4, d5] => { results := [.lit (.bool true)], args := [d1, d2, d3, d4, d5] }
  | _ => none }
def fnExactActiveAlongRow : OpenClaim := { program := "ytooifamckccadaa", sum := "8381f62d7da250da7a122ac24908da9b58b249431f98bbf1316c2ac1ea96fbb6", func := "loop.example/g00916/laws.FnExactActiveAlong", spec := "fnExactActiveAlong", unfollowed := true, recurses := true, apart := false }
def FnExactActiveAlongSaid : Prop := fnExactActiveAlongRow.holds Try.pinned (OpenSpec.ofChange fnExactActiveAlongSpec)

/-- ITS FALSE NEIGHBOUR: 'it returns false'. Refute it at one input. -/
def fnExactActiveAlongWrong : ChangeSpec := { name := "fnExactActiveAlong", fn := fun _ => fun
  | [d1, d2, d3, d4, d5] => { results := [.lit (.bool false)], args := [d1, d2, d3, d4, d5] }
  | _ => none }
def FnExactActiveAlongWrongFalsely : Prop := fnExactActiveAlongRow.holds Try.pinned (OpenSpec.ofChange fnExactActiveAlongWrong)

/-- 'laws.FnDeviceRuns': WHATEVER THE INPUT: true; the input reads as it did. -/
def fnDeviceRunsSpec : ChangeSpec := { name := "fnDeviceRuns", fn := fun _ => fun
  | [d] => { results := [.lit (.bool true)], args := [d] }
  | _ => none }
def fnDeviceRunsRow : OpenClaim := { program := "ytooifamckccadaa", sum := "8381f62d7da250da7a122ac24908da9b58b249431f98bbf1316c2ac1ea96fbb6", func := "loop.example/g00916/laws.FnDeviceRuns", spec := "fnDeviceRuns", unfollowed := true, recurses := true, apart := false }
def FnDeviceRunsSaid : Prop := fnDeviceRunsRow.holds Try.pinned (OpenSpec.ofChange fnDeviceRunsSpec)

/-- ITS FALSE NEIGHBOUR: 'it returns false'. Refute it at one input. -/
def fnDeviceRunsWrong : ChangeSpec := { name := "fnDeviceRuns", fn := fun _ => fun
  | [d] => { results := [.lit (.bool false)], args := [d] }
  | _ => none }
def FnDeviceRunsWrongFalsely : Prop := fnDeviceRunsRow.holds Try.pinned (OpenSpec.ofChange fnDeviceRunsWrong)

/-- 'laws.FnExactIsCaught': WHATEVER THE INPUT: true; the input reads as it did. -/
def fnExactIsCaughtSpec : ChangeSpec := { name := "fnExactIsCaught", fn := fun _ => fun
  | [d1, d2, d3, d4, d5] => { results := [.lit (.bool true)], args := [d1, d2, d3, d4, d5] }
  | _ => none }
def fnExactIsCaughtRow : OpenClaim := { program := "ytooifamckccadaa", sum := "8381f62d7da250da7a122ac24908da9b58b249431f98bbf1316c2ac1ea96fbb6", func := "loop.example/g00916/laws.FnExactIsCaught", spec := "fnExactIsCaught", unfollowed := true, recurses := true, apart := false }
def FnExactIsCaughtSaid : Prop := fnExactIsCaughtRow.holds Try.pinned (OpenSpec.ofChange fnExactIsCaughtSpec)

/-- ITS FALSE NEIGHBOUR: 'it returns false'. Refute it at one input. -/
def fnExactIsCaughtWrong : ChangeSpec := { name := "fnExactIsCaught", fn := fun _ => fun
  | [d1, d2, d3, d4, d5] => { results := [.lit (.bool false)], args := [d1, d2, d3, d4, d5] }
  | _ => none }
def FnExactIsCaughtWrongFalsely : Prop := fnExactIsCaughtRow.holds Try.pinned (OpenSpec.ofChange fnExactIsCaughtWrong)

/-- 'laws.FnLimits': WHATEVER THE INPUT: true; the input reads as it did. -/
def fnLimitsSpec : ChangeSpec := { name := "fnLimits", fn := fun _ => fun
  | [d] => { results := [.lit (.bool true)], args := [d] }
  | _ => none }
def fnLimitsRow : OpenClaim := { program := "ytooifamckccadaa", sum := "8381f62d7da250da7a122ac24908da9b58b249431f98bbf1316c2ac1ea96fbb6", func := "loop.example/g00916/laws.FnLimits", spec := "fnLimits", unfollowed := true, recurses := true, apart := false }
def FnLimitsSaid : Prop := fnLimitsRow.holds Try.pinned (OpenSpec.ofChange fnLimitsSpec)

/-- ITS FALSE NEIGHBOUR: 'it returns false'. Refute it at one input. -/
def fnLimitsWrong : ChangeSpec := { name := "fnLimits", fn := fun _ => fun
  | [d] => { results := [.lit (.bool false)], args := [d] }
  | _ => none }
def FnLimitsWrongFalsely : Prop := fnLimitsRow.holds Try.pinned (OpenSpec.ofChange fnLimitsWrong)

/-- 'laws.FnStopBounds': WHATEVER THE INPUT: true; the input reads as it did. -/
def fnStopBoundsSpec : ChangeSpec := { name := "fnStopBounds", fn := fun _ => fun
  | [d] => { results := [.lit (.bool true)], args := [d] }
  | _ => none }
def fnStopBoundsRow : OpenClaim := { program := "ytooifamckccadaa", sum := "8381f62d7da250da7a122ac24908da9b58b249431f98bbf1316c2ac1ea96fbb6", func := "loop.example/g00916/laws.FnStopBounds", spec := "fnStopBounds", unfollowed := true, recurses := true, apart := false }
def FnStopBoundsSaid : Prop := fnStopBoundsRow.holds Try.pinned (OpenSpec.ofChange fnStopBoundsSpec)

/-- ITS FALSE NEIGHBOUR: 'it returns false'. Refute it at one input. -/
def fnStopBoundsWrong : ChangeSpec := { name := "fnStopBounds", fn := fun _ => fun
  | [d] => { results := [.lit (.bool false)], args := [d] }
  | _ => none }
def FnStopBoundsWrongFalsely : Prop := fnStopBoundsRow.holds Try.pinned (OpenSpec.ofChange fnStopBoundsWrong)

/- THE SECOND FORM. 'bulk': how many values and letters a reading holds, each counted each time it is reached (what is shared counts as often as it is met; a slice's spare places count too). A statement '..UptoSaid' is the law's where the arguments, and the package variables that the reading takes, are together of bulk at most 1048576: NARROWER than '..Said'. Prove '..Said' where nothing that the law and all that it calls make is longer than what came in: it says more and counts as full. Else prove '..UptoSaid'. A law counts once. -/
mutual
def uptoBulk {H : Type} : DataW H → Nat
  | .lit (.string bytes) => bytes.length + 1
  | .lit _ => 1
  | .nil => 1
  | .ptr d => uptoBulk d + 1
  | .slice elems spare => uptoBulkAll elems + uptoBulkAll spare + 1
  | .agg parts => uptoBulkAll parts + 1
  | .iface _ d => uptoBulk d + 1
  | .map entries => uptoBulkEntries entries + 1
  | .held _ => 1
def uptoBulkAll {H : Type} : List (DataW H) → Nat
  | [] => 0
  | d :: r => uptoBulk d + uptoBulkAll r
def uptoBulkEntries {H : Type} : List (Lit × DataW H) → Nat
  | [] => 0
  | x :: r => uptoBulkEntry x + uptoBulkEntries r
def uptoBulkEntry {H : Type} : Lit × DataW H → Nat
  | (.string bytes, d) => bytes.length + uptoBulk d + 1
  | (_, d) => uptoBulk d + 1
 end
def uptoSmall : (H : Type) → List (DataW H) → Bool := fun _ ds => decide (uptoBulkAll ds ≤ 1048576)
def OpenSpec.upto (s : _root_.Go.ChangeSpec) : _root_.Go.OpenSpec := { _root_.Go.OpenSpec.ofChange s with cond := some uptoSmall }

/-- 'laws.FnCaught', WHERE WHAT IT READS IS OF BULK AT MOST 1048576: true; the input reads as it did. -/
def fnCaughtUptoRow : OpenClaim := { program := "ytooifamckccadaa", sum := "8381f62d7da250da7a122ac24908da9b58b249431f98bbf1316c2ac1ea96fbb6", func := "loop.example/g00916/laws.FnCaught", spec := "fnCaught", unfollowed := true, recurses := true, apart := false, narrowed := true }
def FnCaughtUptoSaid : Prop := fnCaughtUptoRow.holds Try.pinned (OpenSpec.upto fnCaughtSpec)

/-- 'laws.FnExactActiveAfter', WHERE WHAT IT READS IS OF BULK AT MOST 1048576: true; the input reads as it did. -/
def fnExactActiveAfterUptoRow : OpenClaim := { program := "ytooifamckccadaa", sum := "8381f62d7da250da7a122ac24908da9b58b249431f98bbf1316c2ac1ea96fbb6", func := "loop.example/g00916/laws.FnExactActiveAfter", spec := "fnExactActiveAfter", apart := false, narrowed := true }
def FnExactActiveAfterUptoSaid : Prop := fnExactActiveAfterUptoRow.holds Try.pinned (OpenSpec.upto fnExactActiveAfterSpec)

/-- 'laws.FnExactLeastBrakes', WHERE WHAT IT READS IS OF BULK AT MOST 1048576: true; the input reads as it did. -/
def fnExactLeastBrakesUptoRow : OpenClaim := { program := "ytooifamckccadaa", sum := "8381f62d7da250da7a122ac24908da9b58b249431f98bbf1316c2ac1ea96fbb6", func := "loop.example/g00916/laws.FnExactLeastBrakes", spec := "fnExactLeastBrakes", unfollowed := true, recurses := true, apart := false, narrowed := true }
def FnExactLeastBrakesUptoSaid : Prop := fnExactLeastBrakesUptoRow.holds Try.pinned (OpenSpec.upto fnExactLeastBrakesSpec)

/-- 'laws.FnTrims', WHERE WHAT IT READS IS OF BULK AT MOST 1048576: true; the input reads as it did. -/
def fnTrimsUptoRow : OpenClaim := { program := "ytooifamckccadaa", sum := "8381f62d7da250da7a122ac24908da9b58b249431f98bbf1316c2ac1ea96fbb6", func := "loop.example/g00916/laws.FnTrims", spec := "fnTrims", unfollowed := true, recurses := true, apart := false, narrowed := true }
def FnTrimsUptoSaid : Prop := fnTrimsUptoRow.holds Try.pinned (OpenSpec.upto fnTrimsSpec)

/-- 'laws.FnActiveDevices', WHERE WHAT IT READS IS OF BULK AT MOST 1048576: true; the input reads as it did. -/
def fnActiveDevicesUptoRow : OpenClaim := { program := "ytooifamckccadaa", sum := "8381f62d7da250da7a122ac24908da9b58b249431f98bbf1316c2ac1ea96fbb6", func := "loop.example/g00916/laws.FnActiveDevices", spec := "fnActiveDevices", apart := false, narrowed := true }
def FnActiveDevicesUptoSaid : Prop := fnActiveDevicesUptoRow.holds Try.pinned (OpenSpec.upto fnActiveDevicesSpec)

/-- 'laws.FnExactFirstDoubt', WHERE WHAT IT READS IS OF BULK AT MOST 1048576: true; the input reads as it did. -/
def fnExactFirstDoubtUptoRow : OpenClaim := { program := "ytooifamckccadaa", sum := "8381f62d7da250da7a122ac24908da9b58b249431f98bbf1316c2ac1ea96fbb6", func := "loop.example/g00916/laws.FnExactFirstDoubt", spec := "fnExactFirstDoubt", unfollowed := true, recurses := true, apart := false, narrowed := true }
def FnExactFirstDoubtUptoSaid : Prop := fnExactFirstDoubtUptoRow.holds Try.pinned (OpenSpec.upto fnExactFirstDoubtSpec)

/-- 'laws.FnExactPeakEnergy', WHERE WHAT IT READS IS OF BULK AT MOST 1048576: true; the input reads as it did. -/
def fnExactPeakEnergyUptoRow : OpenClaim := { program := "ytooifamckccadaa", sum := "8381f62d7da250da7a122ac24908da9b58b249431f98bbf1316c2ac1ea96fbb6", func := "loop.example/g00916/laws.FnExactPeakEnergy", spec := "fnExactPeakEnergy", unfollowed := true, recurses := true, apart := false, narrowed := true }
def FnExactPeakEnergyUptoSaid : Prop := fnExactPeakEnergyUptoRow.holds Try.pinned (OpenSpec.upto fnExactPeakEnergySpec)

/-- 'laws.FnExactArrivalEnergy', WHERE WHAT IT READS IS OF BULK AT MOST 1048576: true; the input reads as it did. -/
def fnExactArrivalEnergyUptoRow : OpenClaim := { program := "ytooifamckccadaa", sum := "8381f62d7da250da7a122ac24908da9b58b249431f98bbf1316c2ac1ea96fbb6", func := "loop.example/g00916/laws.FnExactArrivalEnergy", spec := "fnExactArrivalEnergy", unfollowed := true, recurses := true, apart := false, narrowed := true }
def FnExactArrivalEnergyUptoSaid : Prop := fnExactArrivalEnergyUptoRow.holds Try.pinned (OpenSpec.upto fnExactArrivalEnergySpec)

/-- 'laws.FnExactFirstOverspeed', WHERE WHAT IT READS IS OF BULK AT MOST 1048576: true; the input reads as it did. -/
def fnExactFirstOverspeedUptoRow : OpenClaim := { program := "ytooifamckccadaa", sum := "8381f62d7da250da7a122ac24908da9b58b249431f98bbf1316c2ac1ea96fbb6", func := "loop.example/g00916/laws.FnExactFirstOverspeed", spec := "fnExactFirstOverspeed", unfollowed := true, recurses := true, apart := false, narrowed := true }
def FnExactFirstOverspeedUptoSaid : Prop := fnExactFirstOverspeedUptoRow.holds Try.pinned (OpenSpec.upto fnExactFirstOverspeedSpec)

/-- 'laws.FnExactIsWithinLimits', WHERE WHAT IT READS IS OF BULK AT MOST 1048576: true; the input reads as it did. -/
def fnExactIsWithinLimitsUptoRow : OpenClaim := { program := "ytooifamckccadaa", sum := "8381f62d7da250da7a122ac24908da9b58b249431f98bbf1316c2ac1ea96fbb6", func := "loop.example/g00916/laws.FnExactIsWithinLimits", spec := "fnExactIsWithinLimits", unfollowed := true, recurses := true, apart := false, narrowed := true }
def FnExactIsWithinLimitsUptoSaid : Prop := fnExactIsWithinLimitsUptoRow.holds Try.pinned (OpenSpec.upto fnExactIsWithinLimitsSpec)

/-- 'laws.FnExactActiveAlong', WHERE WHAT IT READS IS OF BULK AT MOST 1048576: true; the input reads as it did. -/
def fnExactActiveAlongUptoRow : OpenClaim := { program := "ytooifamckccadaa", sum := "8381f62d7da250da7a122ac24908da9b58b249431f98bbf1316c2ac1ea96fbb6", func := "loop.example/g00916/laws.FnExactActiveAlong", spec := "fnExactActiveAlong", unfollowed := true, recurses := true, apart := false, narrowed := true }
def FnExactActiveAlongUptoSaid : Prop := fnExactActiveAlongUptoRow.holds Try.pinned (OpenSpec.upto fnExactActiveAlongSpec)

/-- 'laws.FnDeviceRuns', WHERE WHAT IT READS IS OF BULK AT MOST 1048576: true; the input reads as it did. -/
def fnDeviceRunsUptoRow : OpenClaim := { program := "ytooifamckccadaa", sum := "8381f62d7da250da7a122ac24908da9b58b249431f98bbf1316c2ac1ea96fbb6", func := "loop.example/g00916/laws.FnDeviceRuns", spec := "fnDeviceRuns", unfollowed := true, recurses := true, apart := false, narrowed := true }
def FnDeviceRunsUptoSaid : Prop := fnDeviceRunsUptoRow.holds Try.pinned (OpenSpec.upto fnDeviceRunsSpec)

/-- 'laws.FnExactIsCaught', WHERE WHAT IT READS IS OF BULK AT MOST 1048576: true; the input reads as it did. -/
def fnExactIsCaughtUptoRow : OpenClaim := { program := "ytooifamckccadaa", sum := "8381f62d7da250da7a122ac24908da9b58b249431f98bbf1316c2ac1ea96fbb6", func := "loop.example/g00916/laws.FnExactIsCaught", spec := "fnExactIsCaught", unfollowed := true, recurses := true, apart := false, narrowed := true }
def FnExactIsCaughtUptoSaid : Prop := fnExactIsCaughtUptoRow.holds Try.pinned (OpenSpec.upto fnExactIsCaughtSpec)

/-- 'laws.FnLimits', WHERE WHAT IT READS IS OF BULK AT MOST 1048576: true; the input reads as it did. -/
def fnLimitsUptoRow : OpenClaim := { program := "ytooifamckccadaa", sum := "8381f62d7da250da7a122ac24908da9b58b249431f98bbf1316c2ac1ea96fbb6", func := "loop.example/g00916/laws.FnLimits", spec := "fnLimits", unfollowed := true, recurses := true, apart := false, narrowed := true }
def FnLimitsUptoSaid : Prop := fnLimitsUptoRow.holds Try.pinned (OpenSpec.upto fnLimitsSpec)

/-- 'laws.FnStopBounds', WHERE WHAT IT READS IS OF BULK AT MOST 1048576: true; the input reads as it did. -/
def fnStopBoundsUptoRow : OpenClaim := { program := "ytooifamckccadaa", sum := "8381f62d7da250da7a122ac24908da9b58b249431f98bbf1316c2ac1ea96fbb6", func := "loop.example/g00916/laws.FnStopBounds", spec := "fnStopBounds", unfollowed := true, recurses := true, apart := false, narrowed := true }
def FnStopBoundsUptoSaid : Prop := fnStopBoundsUptoRow.holds Try.pinned (OpenSpec.upto fnStopBoundsSpec)

end Rows
end Go.Proofs.Ytooifamckccadaa
