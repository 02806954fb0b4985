/-
  No cell of these rows narrows 'for every input' (looked for: loops, veiled, ifaces, maps, wideKeys, modest, calm, conditions, laid).
  DERIVED. THE GIVEN ROWS OF THIS SEAT. 5 by the template 'for every input the law returns true; each argument reads behind the call as it read before'; 0 by the template 'total and deterministic' (their statements: YtdjbbjehgfkefaaTotals.lean).
  GIVEN WITH THE SEED: the statements are not yours to turn. If you find one false, say at which input.
  Laid BY PROGRAM, IN A SANDBOX (cutbox-rows.mjs): the forced cells as the released guide's own fill.sh prints them over the translation c2574b4277f11ed8… (all of the seat's roots in one cut). By AI agents, Wed Nov 11 2026. No macro, syntax, notation, axiom, sorry.
-/
import Derived.Test.YtdjbbjehgfkefaaChecked
import GoSem.Claim
import GoSem.ClaimJoined
import GoSem.ClaimMapViews
import Derived.JoinedTies
import Derived.KernelRfl
namespace Go.Proofs.Ytdjbbjehgfkefaa
/- THE CELL 'sum', in the pinned program and in every row, IS THE sha256 OF THE DUMP (.gsa) THAT YtdjbbjehgfkefaaProg.lean LOADS. Nothing in Lean hashes anything: it is a label: what it is worth is what the hold of that sum in a sandbox is worth. -/
noncomputable def Try.pinned : Pinned := { name := "ytdjbbjehgfkefaa", sum := "c2574b4277f11ed88068f3e490d5a1e84fbeaec398c6d5c6ae5bc0a57662db41", checked := Try.checked }
namespace Rows
def none {H : Type} : Left H := { results := [], args := [] }

/-- 'laws.FnExactUsualSeating': WHATEVER THE INPUT: true; the input reads as it did. -/
def fnExactUsualSeatingSpec : ChangeSpec := { name := "fnExactUsualSeating", fn := fun _ => fun
  | [d1, d2, d3] => { results := [.lit (.bool true)], args := [d1, d2, d3] }
  | _ => none }
def fnExactUsualSeatingRow : OpenClaim := { program := "ytdjbbjehgfkefaa", sum := "c2574b4277f11ed88068f3e490d5a1e84fbeaec398c6d5c6ae5bc0a57662db41", func := "loop.example/g00916/laws.FnExactUsualSeating", spec := "fnExactUsualSeating", unfollowed := true, recurses := true, apart := false }
def FnExactUsualSeatingSaid : Prop := fnExactUsualSeatingRow.holds Try.pinned (OpenSpec.ofChange fnExactUsualSeatingSpec)

/-- ITS FALSE NEIGHBOUR: 'it returns false'. Refute it at one input. -/
def fnExactUsualSeatingWrong : ChangeSpec := { name := "fnExactUsualSeating", fn := fun _ => fun
  | [d1, d2, d3] => { results := [.lit (.bool false)], args := [d1, d2, d3] }
  | _ => none }
def FnExactUsualSeatingWrongFalsely : Prop := fnExactUsualSeatingRow.holds Try.pinned (OpenSpec.ofChange fnExactUsualSeatingWrong)

/-- 'laws.FnExactGroupsLoaded': WHATEVER THE INPUT: true; the input reads as it did. -/
def fnExactGroupsLoadedSpec : ChangeSpec := { name := "fnExactGroupsLoaded", fn := fun _ => fun
  | [d1, d2, d3] => { results := [.lit (.bool true)], args := [d1, d2, d3] }
  | _ => none }
def fnExactGroupsLoadedRow : OpenClaim := { program := "ytdjbbjehgfkefaa", sum := "c2574b4277f11ed88068f3e490d5a1e84fbeaec398c6d5c6ae5bc0a57662db41", func := "loop.example/g00916/laws.FnExactGroupsLoaded", spec := "fnExactGroupsLoaded", unfollowed := true, recurses := true, apart := false }
def FnExactGroupsLoadedSaid : Prop := fnExactGroupsLoadedRow.holds Try.pinned (OpenSpec.ofChange fnExactGroupsLoadedSpec)

/-- ITS FALSE NEIGHBOUR: 'it returns false'. Refute it at one input. -/
def fnExactGroupsLoadedWrong : ChangeSpec := { name := "fnExactGroupsLoaded", fn := fun _ => fun
  | [d1, d2, d3] => { results := [.lit (.bool false)], args := [d1, d2, d3] }
  | _ => none }
def FnExactGroupsLoadedWrongFalsely : Prop := fnExactGroupsLoadedRow.holds Try.pinned (OpenSpec.ofChange fnExactGroupsLoadedWrong)

/-- 'laws.FnGroups': WHATEVER THE INPUT: true; the input reads as it did. -/
def fnGroupsSpec : ChangeSpec := { name := "fnGroups", fn := fun _ => fun
  | [d] => { results := [.lit (.bool true)], args := [d] }
  | _ => none }
def fnGroupsRow : OpenClaim := { program := "ytdjbbjehgfkefaa", sum := "c2574b4277f11ed88068f3e490d5a1e84fbeaec398c6d5c6ae5bc0a57662db41", func := "loop.example/g00916/laws.FnGroups", spec := "fnGroups", unfollowed := true, recurses := true, apart := false }
def FnGroupsSaid : Prop := fnGroupsRow.holds Try.pinned (OpenSpec.ofChange fnGroupsSpec)

/-- ITS FALSE NEIGHBOUR: 'it returns false'. Refute it at one input. -/
def fnGroupsWrong : ChangeSpec := { name := "fnGroups", fn := fun _ => fun
  | [d] => { results := [.lit (.bool false)], args := [d] }
  | _ => none }
def FnGroupsWrongFalsely : Prop := fnGroupsRow.holds Try.pinned (OpenSpec.ofChange fnGroupsWrong)

/-- 'laws.FnSeatsNeeded': WHATEVER THE INPUT: true; the input reads as it did. -/
def fnSeatsNeededSpec : ChangeSpec := { name := "fnSeatsNeeded", fn := fun _ => fun
  | [d] => { results := [.lit (.bool true)], args := [d] }
  | _ => none }
def fnSeatsNeededRow : OpenClaim := { program := "ytdjbbjehgfkefaa", sum := "c2574b4277f11ed88068f3e490d5a1e84fbeaec398c6d5c6ae5bc0a57662db41", func := "loop.example/g00916/laws.FnSeatsNeeded", spec := "fnSeatsNeeded", unfollowed := true, recurses := true, apart := false }
def FnSeatsNeededSaid : Prop := fnSeatsNeededRow.holds Try.pinned (OpenSpec.ofChange fnSeatsNeededSpec)

/-- ITS FALSE NEIGHBOUR: 'it returns false'. Refute it at one input. -/
def fnSeatsNeededWrong : ChangeSpec := { name := "fnSeatsNeeded", fn := fun _ => fun
  | [d] => { results := [.lit (.bool false)], args := [d] }
  | _ => none }
def FnSeatsNeededWrongFalsely : Prop := fnSeatsNeededRow.holds Try.pinned (OpenSpec.ofChange fnSeatsNeededWrong)

/-- 'laws.FnSeatings': WHATEVER THE INPUT: true; the input reads as it did. -/
def fnSeatingsSpec : ChangeSpec := { name := "fnSeatings", fn := fun _ => fun
  | [d] => { results := [.lit (.bool true)], args := [d] }
  | _ => none }
def fnSeatingsRow : OpenClaim := { program := "ytdjbbjehgfkefaa", sum := "c2574b4277f11ed88068f3e490d5a1e84fbeaec398c6d5c6ae5bc0a57662db41", func := "loop.example/g00916/laws.FnSeatings", spec := "fnSeatings", unfollowed := true, recurses := true, apart := false }
def FnSeatingsSaid : Prop := fnSeatingsRow.holds Try.pinned (OpenSpec.ofChange fnSeatingsSpec)

/-- ITS FALSE NEIGHBOUR: 'it returns false'. Refute it at one input. -/
def fnSeatingsWrong : ChangeSpec := { name := "fnSeatings", fn := fun _ => fun
  | [d] => { results := [.lit (.bool false)], args := [d] }
  | _ => none }
def FnSeatingsWrongFalsely : Prop := fnSeatingsRow.holds Try.pinned (OpenSpec.ofChange fnSeatingsWrong)

/- THE SECOND FORM. 'bulk': how many values and letters a reading holds, each counted each time it is reached (what is shared counts as often as it is met; a slice's spare places count too). A statement '..UptoSaid' is the law's where the arguments, and the package variables that the reading takes, are together of bulk at most 1048576: NARROWER than '..Said'. Prove '..Said' where nothing that the law and all that it calls make is longer than what came in: it says more and counts as full. Else prove '..UptoSaid'. A law counts once. -/
mutual
def uptoBulk {H : Type} : DataW H → Nat
  | .lit (.string bytes) => bytes.length + 1
  | .lit _ => 1
  | .nil => 1
  | .ptr d => uptoBulk d + 1
  | .slice elems spare => uptoBulkAll elems + uptoBulkAll spare + 1
  | .agg parts => uptoBulkAll parts + 1
  | .iface _ d => uptoBulk d + 1
  | .map entries => uptoBulkEntries entries + 1
  | .held _ => 1
def uptoBulkAll {H : Type} : List (DataW H) → Nat
  | [] => 0
  | d :: r => uptoBulk d + uptoBulkAll r
def uptoBulkEntries {H : Type} : List (Lit × DataW H) → Nat
  | [] => 0
  | x :: r => uptoBulkEntry x + uptoBulkEntries r
def uptoBulkEntry {H : Type} : Lit × DataW H → Nat
  | (.string bytes, d) => bytes.length + uptoBulk d + 1
  | (_, d) => uptoBulk d + 1
 end
def uptoSmall : (H : Type) → List (DataW H) → Bool := fun _ ds => decide (uptoBulkAll ds ≤ 1048576)
def OpenSpec.upto (s : _root_.Go.ChangeSpec) : _root_.Go.OpenSpec := { _root_.Go.OpenSpec.ofChange s with cond := some uptoSmall }

/-- 'laws.FnExactUsualSeating', WHERE WHAT IT READS IS OF BULK AT MOST 1048576: true; the input reads as it did. -/
def fnExactUsualSeatingUptoRow : OpenClaim := { program := "ytdjbbjehgfkefaa", sum := "c2574b4277f11ed88068f3e490d5a1e84fbeaec398c6d5c6ae5bc0a57662db41", func := "loop.example/g00916/laws.FnExactUsualSeating", spec := "fnExactUsualSeating", unfollowed := true, recurses := true, apart := false, narrowed := true }
def FnExactUsualSeatingUptoSaid : Prop := fnExactUsualSeatingUptoRow.holds Try.pinned (OpenSpec.upto fnExactUsualSeatingSpec)

/-- 'laws.FnExactGroupsLoaded', WHERE WHAT IT READS IS OF BULK AT MOST 1048576: true; the input reads as it did. -/
def fnExactGroupsLoadedUptoRow : OpenClaim := { program := "ytdjbbjehgfkefaa", sum := "c2574b4277f11ed88068f3e490d5a1e84fbeaec398c6d5c6ae5bc0a57662db41", func := "loop.example/g00916/laws.FnExactGroupsLoaded", spec := "fnExactGroupsLoaded", unfollowed := true, recurses := true, apart := false, narrowed := true }
def FnExactGroupsLoadedUptoSaid : Prop := fnExactGroupsLoadedUptoRow.holds Try.pinned (OpenSpec.upto fnExactGroupsLoadedSpec)

/-- 'laws.FnGroups', WHERE WHAT IT READS IS OF BULK AT MOST 1048576: true; the input reads as it did. -/
def fnGroupsUptoRow : OpenClaim := { program := "ytdjbbjehgfkefaa", sum := "c2574b4277f11ed88068f3e490d5a1e84fbeaec398c6d5c6ae5bc0a57662db41", func := "loop.example/g00916/laws.FnGroups", spec := "fnGroups", unfollowed := true, recurses := true, apart := false, narrowed := true }
def FnGroupsUptoSaid : Prop := fnGroupsUptoRow.holds Try.pinned (OpenSpec.upto fnGroupsSpec)

/-- 'laws.FnSeatsNeeded', WHERE WHAT IT READS IS OF BULK AT MOST 1048576: true; the input reads as it did. -/
def fnSeatsNeededUptoRow : OpenClaim := { program := "ytdjbbjehgfkefaa", sum := "c2574b4277f11ed88068f3e490d5a1e84fbeaec398c6d5c6ae5bc0a57662db41", func := "loop.example/g00916/laws.FnSeatsNeeded", spec := "fnSeatsNeeded", unfollowed := true, recurses := true, apart := false, narrowed := true }
def FnSeatsNeededUptoSaid : Prop := fnSeatsNeededUptoRow.holds Try.pinned (OpenSpec.upto fnSeatsNeededSpec)

/-- 'laws.FnSeatings', WHERE WHAT IT READS IS OF BULK AT MOST 1048576: true; the input reads as it did. -/
def fnSeatingsUptoRow : OpenClaim := { program := "ytdjbbjehgfkefaa", sum := "c2574b4277f11ed88068f3e490d5a1e84fbeaec398c6d5c6ae5bc0a57662db41", func := "loop.example/g00916/laws.FnSeatings", spec := "fnSeatings", unfollowed := true, recurses := true, apart := false, narrowed := true }
def FnSeatingsUptoSaid : Prop := fnSeatingsUptoRow.holds Try.pinned (OpenSpec.upto fnSeatingsSpec)

end Rows
end Go.Proofs.Ytdjbbjehgfkefaa
