/-
  No cell of these rows narrows 'for every input' (looked for: loops, veiled, ifaces, maps, wideKeys, modest, calm, conditions, laid).
  DERIVED. THE GIVEN ROWS OF THIS SEAT. 12 by the template 'for every input the law returns true; each argument reads behind the call as it read before'; 0 by the template 'total and deterministic' (their statements: YtmbchcenclfjoaaTotals.lean).
  GIVEN WITH THE SEED: the statements are not yours to turn. If you find one false, say at which input.
  Laid BY PROGRAM, IN A SANDBOX (cutbox-rows.mjs): the forced cells as the released guide's own fill.sh prints them over the translation c9c1ecded6730b82… (all of the seat's roots in one cut). By AI agents, Wed Nov 11 2026. No macro, syntax, notation, axiom, sorry.
-/
import Derived.Test.YtmbchcenclfjoaaChecked
import GoSem.Claim
import GoSem.ClaimJoined
import GoSem.ClaimMapViews
import Derived.JoinedTies
import Derived.KernelRfl
namespace Go.Proofs.Ytmbchcenclfjoaa
/- THE CELL 'sum', in the pinned program and in every row, IS THE sha256 OF THE DUMP (.gsa) THAT YtmbchcenclfjoaaProg.lean LOADS. Nothing in Lean hashes anything: it is a label: what it is worth is what the hold of that sum in a sandbox is worth. -/
noncomputable def Try.pinned : Pinned := { name := "ytmbchcenclfjoaa", sum := "c9c1ecded6730b82b271e7d9474fcfae869474611bdac9148775a7e74794d988", checked := Try.checked }
namespace Rows
def none {H : Type} : Left H := { results := [], args := [] }

/-- 'laws.FnExactIsPlan': WHATEVER THE INPUT: true; the input reads as it did. -/
def fnExactIsPlanSpec : ChangeSpec := { name := "fnExactIsPlan", fn := fun _ => fun
  | [d] => { results := [.lit (.bool true)], args := [d] }
  | _ => none }
def fnExactIsPlanRow : OpenClaim := { program := "ytmbchcenclfjoaa", sum := "c9c1ecded6730b82b271e7d9474fcfae869474611bdac9148775a7e74794d988", func := "loop.example/g00916/laws.FnExactIsPlan", spec := "fnExactIsPlan", unfollowed := true, recurses := true, apart := false }
def FnExactIsPlanSaid : Prop := fnExactIsPlanRow.holds Try.pinned (OpenSpec.ofChange fnExactIsPlanSpec)

/-- ITS FALSE NEIGHBOUR: 'it returns false'. Refute it at one input. -/
def fnExactIsPlanWrong : ChangeSpec := { name := "fnExactIsPlan", fn := fun _ => fun
  | [d] => { results := [.lit (.bool false)], args := [d] }
  | _ => none }
def FnExactIsPlanWrongFalsely : Prop := fnExactIsPlanRow.holds Try.pinned (OpenSpec.ofChange fnExactIsPlanWrong)

/-- 'laws.FnExactAreLocks': WHATEVER THE INPUT: true; the input reads as it did. -/
def fnExactAreLocksSpec : ChangeSpec := { name := "fnExactAreLocks", fn := fun _ => fun
  | [d] => { results := [.lit (.bool true)], args := [d] }
  | _ => none }
def fnExactAreLocksRow : OpenClaim := { program := "ytmbchcenclfjoaa", sum := "c9c1ecded6730b82b271e7d9474fcfae869474611bdac9148775a7e74794d988", func := "loop.example/g00916/laws.FnExactAreLocks", spec := "fnExactAreLocks", apart := false }
def FnExactAreLocksSaid : Prop := fnExactAreLocksRow.holds Try.pinned (OpenSpec.ofChange fnExactAreLocksSpec)

/-- ITS FALSE NEIGHBOUR: 'it returns false'. Refute it at one input. -/
def fnExactAreLocksWrong : ChangeSpec := { name := "fnExactAreLocks", fn := fun _ => fun
  | [d] => { results := [.lit (.bool false)], args := [d] }
  | _ => none }
def FnExactAreLocksWrongFalsely : Prop := fnExactAreLocksRow.holds Try.pinned (OpenSpec.ofChange fnExactAreLocksWrong)

/-- 'laws.FnExactNextDueDay': WHATEVER THE INPUT: true; the input reads as it did. -/
def fnExactNextDueDaySpec : ChangeSpec := { name := "fnExactNextDueDay", fn := fun _ => fun
  | [d] => { results := [.lit (.bool true)], args := [d] }
  | _ => none }
def fnExactNextDueDayRow : OpenClaim := { program := "ytmbchcenclfjoaa", sum := "c9c1ecded6730b82b271e7d9474fcfae869474611bdac9148775a7e74794d988", func := "loop.example/g00916/laws.FnExactNextDueDay", spec := "fnExactNextDueDay", unfollowed := true, recurses := true, apart := false }
def FnExactNextDueDaySaid : Prop := fnExactNextDueDayRow.holds Try.pinned (OpenSpec.ofChange fnExactNextDueDaySpec)

/-- ITS FALSE NEIGHBOUR: 'it returns false'. Refute it at one input. -/
def fnExactNextDueDayWrong : ChangeSpec := { name := "fnExactNextDueDay", fn := fun _ => fun
  | [d] => { results := [.lit (.bool false)], args := [d] }
  | _ => none }
def FnExactNextDueDayWrongFalsely : Prop := fnExactNextDueDayRow.holds Try.pinned (OpenSpec.ofChange fnExactNextDueDayWrong)

/-- 'laws.FnExactPerformTask': WHATEVER THE INPUT: true; the input reads as it did. -/
def fnExactPerformTaskSpec : ChangeSpec := { name := "fnExactPerformTask", fn := fun _ => fun
  | [d1, d2, d3] => { results := [.lit (.bool true)], args := [d1, d2, d3] }
  | _ => none }
def fnExactPerformTaskRow : OpenClaim := { program := "ytmbchcenclfjoaa", sum := "c9c1ecded6730b82b271e7d9474fcfae869474611bdac9148775a7e74794d988", func := "loop.example/g00916/laws.FnExactPerformTask", spec := "fnExactPerformTask", unfollowed := true, recurses := true, apart := false }
def FnExactPerformTaskSaid : Prop := fnExactPerformTaskRow.holds Try.pinned (OpenSpec.ofChange fnExactPerformTaskSpec)

/-- ITS FALSE NEIGHBOUR: 'it returns false'. Refute it at one input. -/
def fnExactPerformTaskWrong : ChangeSpec := { name := "fnExactPerformTask", fn := fun _ => fun
  | [d1, d2, d3] => { results := [.lit (.bool false)], args := [d1, d2, d3] }
  | _ => none }
def FnExactPerformTaskWrongFalsely : Prop := fnExactPerformTaskRow.holds Try.pinned (OpenSpec.ofChange fnExactPerformTaskWrong)

/-- 'laws.FnExactDueTasks': WHATEVER THE INPUT: true; the input reads as it did. -/
def fnExactDueTasksSpec : ChangeSpec := { name := "fnExactDueTasks", fn := fun _ => fun
  | [d1, d2] => { results := [.lit (.bool true)], args := [d1, d2] }
  | _ => none }
def fnExactDueTasksRow : OpenClaim := { program := "ytmbchcenclfjoaa", sum := "c9c1ecded6730b82b271e7d9474fcfae869474611bdac9148775a7e74794d988", func := "loop.example/g00916/laws.FnExactDueTasks", spec := "fnExactDueTasks", unfollowed := true, recurses := true, apart := false }
def FnExactDueTasksSaid : Prop := fnExactDueTasksRow.holds Try.pinned (OpenSpec.ofChange fnExactDueTasksSpec)

/-- ITS FALSE NEIGHBOUR: 'it returns false'. Refute it at one input. -/
def fnExactDueTasksWrong : ChangeSpec := { name := "fnExactDueTasks", fn := fun _ => fun
  | [d1, d2] => { results := [.lit (.bool false)], args := [d1, d2] }
  | _ => none }
def FnExactDueTasksWrongFalsely : Prop := fnExactDueTasksRow.holds Try.pinned (OpenSpec.ofChange fnExactDueTasksWrong)

/-- 'laws.FnExactAddLock': WHATEVER THE INPUT: true; the input reads as it did. -/
def fnExactAddLockSpec : ChangeSpec := { name := "fnExactAddLock", fn := fun _ => fun
  | [d1, d2, d3] => { results := [.lit (.bool true)], args := [d1, d2, d3] }
  | _ => none }
def fnExactAddLockRow : OpenClaim := { program := "ytmbchcenclfjoaa", sum := "c9c1ecded6730b82b271e7d9474fcfae869474611bdac9148775a7e74794d988", func := "loop.example/g00916/laws.FnExactAddLock", spec := "fnExactAddLock", apart := false }
def FnExactAddLockSaid : Prop := fnExactAddLockRow.holds Try.pinned (OpenSpec.ofChange fnExactAddLockSpec)

/-- ITS FALSE NEIGHBOUR: 'it returns false'. Refute it at one input. -/
def fnExactAddLockWrong : ChangeSpec := { name := "fnExactAddLock", fn := fun _ => fun
  | [d1, d2, d3] => { results := [.lit (.bool false)], args := [d1, d2, d3] }
  | _ => none }
def FnExactAddLockWrongFalsely : Prop := fnExactAddLockRow.holds Try.pinned (OpenSpec.ofChange fnExactAddLockWrong)

/-- 'laws.FnExactRemoveLock': WHATEVER THE INPUT: true; the input reads as it did. -/
def fnExactRemoveLockSpec : ChangeSpec := { name := "fnExactRemoveLock", fn := fun _ => fun
  | [d1, d2, d3] => { results := [.lit (.bool true)], args := [d1, d2, d3] }
  | _ => none }
def fnExactRemoveLockRow : OpenClaim := { program := "ytmbchcenclfjoaa", sum := "c9c1ecded6730b82b271e7d9474fcfae869474611bdac9148775a7e74794d988", func := "loop.example/g00916/laws.FnExactRemoveLock", spec := "fnExactRemoveLock", apart := false }
def FnExactRemoveLockSaid : Prop := fnExactRemoveLockRow.holds Try.pinned (OpenSpec.ofChange fnExactRemoveLockSpec)

/-- ITS FALSE NEIGHBOUR: 'it returns false'. Refute it at one input. -/
def fnExactRemoveLockWrong : ChangeSpec := { name := "fnExactRemoveLock", fn := fun _ => fun
  | [d1, d2, d3] => { results := [.lit (.bool false)], args := [d1, d2, d3] }
  | _ => none }
def FnExactRemoveLockWrongFalsely : Prop := fnExactRemoveLockRow.holds Try.pinned (OpenSpec.ofChange fnExactRemoveLockWrong)

/-- 'laws.FnExactMayOperate': WHATEVER THE INPUT: true; the input reads as it did. -/
def fnExactMayOperateSpec : ChangeSpec := { name := "fnExactMayOperate", fn := fun _ => fun
  | [d1, d2, d3] => { results := [.lit (.bool true)], args := [d1, d2, d3] }
  | _ => none }
def fnExactMayOperateRow : OpenClaim := { program := "ytmbchcenclfjoaa", sum := "c9c1ecded6730b82b271e7d9474fcfae869474611bdac9148775a7e74794d988", func := "loop.example/g00916/laws.FnExactMayOperate", spec := "fnExactMayOperate", unfollowed := true, recurses := true, apart := false }
def FnExactMayOperateSaid : Prop := fnExactMayOperateRow.holds Try.pinned (OpenSpec.ofChange fnExactMayOperateSpec)

/-- ITS FALSE NEIGHBOUR: 'it returns false'. Refute it at one input. -/
def fnExactMayOperateWrong : ChangeSpec := { name := "fnExactMayOperate", fn := fun _ => fun
  | [d1, d2, d3] => { results := [.lit (.bool false)], args := [d1, d2, d3] }
  | _ => none }
def FnExactMayOperateWrongFalsely : Prop := fnExactMayOperateRow.holds Try.pinned (OpenSpec.ofChange fnExactMayOperateWrong)

/-- 'laws.FnDueTasks': WHATEVER THE INPUT: true; the input reads as it did. -/
def fnDueTasksSpec : ChangeSpec := { name := "fnDueTasks", fn := fun _ => fun
  | [d] => { results := [.lit (.bool true)], args := [d] }
  | _ => none }
def fnDueTasksRow : OpenClaim := { program := "ytmbchcenclfjoaa", sum := "c9c1ecded6730b82b271e7d9474fcfae869474611bdac9148775a7e74794d988", func := "loop.example/g00916/laws.FnDueTasks", spec := "fnDueTasks", unfollowed := true, recurses := true, apart := false }
def FnDueTasksSaid : Prop := fnDueTasksRow.holds Try.pinned (OpenSpec.ofChange fnDueTasksSpec)

/-- ITS FALSE NEIGHBOUR: 'it returns false'. Refute it at one input. -/
def fnDueTasksWrong : ChangeSpec := { name := "fnDueTasks", fn := fun _ => fun
  | [d] => { results := [.lit (.bool false)], args := [d] }
  | _ => none }
def FnDueTasksWrongFalsely : Prop := fnDueTasksRow.holds Try.pinned (OpenSpec.ofChange fnDueTasksWrong)

/-- 'laws.FnLockouts': WHATEVER THE INPUT: true; the input reads as it did. -/
def fnLockoutsSpec : ChangeSpec := { name := "fnLockouts", fn := fun _ => fun
  | [d] => { results := [.lit (.bool true)], args := [d] }
  | _ => none }
def fnLockoutsRow : OpenClaim := { program := "ytmbchcenclfjoaa", sum := "c9c1ecded6730b82b271e7d9474fcfae869474611bdac9148775a7e74794d988", func := "loop.example/g00916/laws.FnLockouts", spec := "fnLockouts", unfollowed := true, recurses := true, apart := false }
def FnLockoutsSaid : Prop := fnLockoutsRow.holds Try.pinned (OpenSpec.ofChange fnLockoutsSpec)

/-- ITS FALSE NEIGHBOUR: 'it returns false'. Refute it at one input. -/
def fnLockoutsWrong : ChangeSpec := { name := "fnLockouts", fn := fun _ => fun
  | [d] => { results := [.lit (.bool false)], args := [d] }
  | _ => none }
def FnLockoutsWrongFalsely : Prop := fnLockoutsRow.holds Try.pinned (OpenSpec.ofChange fnLockoutsWrong)

/-- 'laws.FnVisits': WHATEVER THE INPUT: true; the input reads as it did. -/
def fnVisitsSpec : ChangeSpec := { name := "fnVisits", fn := fun _ => fun
  | [d] => { results := [.lit (.bool true)], args := [d] }
  | _ => none }
def fnVisitsRow : OpenClaim := { program := "ytmbchcenclfjoaa", sum := "c9c1ecded6730b82b271e7d9474fcfae869474611bdac9148775a7e74794d988", func := "loop.example/g00916/laws.FnVisits", spec := "fnVisits", unfollowed := true, recurses := true, apart := false }
def FnVisitsSaid : Prop := fnVisitsRow.holds Try.pinned (OpenSpec.ofChange fnVisitsSpec)

/-- ITS FALSE NEIGHBOUR: 'it returns false'. Refute it at one input. -/
def fnVisitsWrong : ChangeSpec := { name := "fnVisits", fn := fun _ => fun
  | [d] => { results := [.lit (.bool false)], args := [d] }
  | _ => none }
def FnVisitsWrongFalsely : Prop := fnVisitsRow.holds Try.pinned (OpenSpec.ofChange fnVisitsWrong)

/-- 'laws.FnExactVisitDays': WHATEVER THE INPUT: true; the input reads as it did. -/
def fnExactVisitDaysSpec : ChangeSpec := { name := "fnExactVisitDays", fn := fun _ => fun
  | [d1, d2] => { results := [.lit (.bool true)], args := [d1, d2] }
  | _ => none }
def fnExactVisitDaysRow : OpenClaim := { program := "ytmbchcenclfjoaa", sum := "c9c1ecded6730b82b271e7d9474fcfae869474611bdac9148775a7e74794d988", func := "loop.example/g00916/laws.FnExactVisitDays", spec := "fnExactVisitDays", unfollowed := true, recurses := true, apart := false }
def FnExactVisitDaysSaid : Prop := fnExactVisitDaysRow.holds Try.pinned (OpenSpec.ofChange fnExactVisitDaysSpec)

/-- ITS FALSE NEIGHBOUR: 'it returns false'. Refute it at one input. -/
def fnExactVisitDaysWrong : ChangeSpec := { name := "fnExactVisitDays", fn := fun _ => fun
  | [d1, d2] => { results := [.lit (.bool false)], args := [d1, d2] }
  | _ => none }
def FnExactVisitDaysWrongFalsely : Prop := fnExactVisitDaysRow.holds Try.pinned (OpenSpec.ofChange fnExactVisitDaysWrong)

/- THE SECOND FORM. 'bulk': how many values and letters a reading holds, each counted each time it is reached (what is shared counts as often as it is met; a slice's spare places count too). A statement '..UptoSaid' is the law's where the arguments, and the package variables that the reading takes, are together of bulk at most 1048576: NARROWER than '..Said'. Prove '..Said' where nothing that the law and all that it calls make is longer than what came in: it says more and counts as full. Else prove '..UptoSaid'. A law counts once. -/
mutual
def uptoBulk {H : Type} : DataW H → Nat
  | .lit (.string bytes) => bytes.length + 1
  | .lit _ => 1
  | .nil => 1
  | .ptr d => uptoBulk d + 1
  | .slice elems spare => uptoBulkAll elems + uptoBulkAll spare + 1
  | .agg parts => uptoBulkAll parts + 1
  | .iface _ d => uptoBulk d + 1
  | .map entries => uptoBulkEntries entries + 1
  | .held _ => 1
def uptoBulkAll {H : Type} : List (DataW H) → Nat
  | [] => 0
  | d :: r => uptoBulk d + uptoBulkAll r
def uptoBulkEntries {H : Type} : List (Lit × DataW H) → Nat
  | [] => 0
  | x :: r => uptoBulkEntry x + uptoBulkEntries r
def uptoBulkEntry {H : Type} : Lit × DataW H → Nat
  | (.string bytes, d) => bytes.length + uptoBulk d + 1
  | (_, d) => uptoBulk d + 1
 end
def uptoSmall : (H : Type) → List (DataW H) → Bool := fun _ ds => decide (uptoBulkAll ds ≤ 1048576)
def OpenSpec.upto (s : _root_.Go.ChangeSpec) : _root_.Go.OpenSpec := { _root_.Go.OpenSpec.ofChange s with cond := some uptoSmall }

/-- 'laws.FnExactIsPlan', WHERE WHAT IT READS IS OF BULK AT MOST 1048576: true; the input reads as it did. -/
def fnExactIsPlanUptoRow : OpenClaim := { program := "ytmbchcenclfjoaa", sum := "c9c1ecded6730b82b271e7d9474fcfae869474611bdac9148775a7e74794d988", func := "loop.example/g00916/laws.FnExactIsPlan", spec := "fnExactIsPlan", unfollowed := true, recurses := true, apart := false, narrowed := true }
def FnExactIsPlanUptoSaid : Prop := fnExactIsPlanUptoRow.holds Try.pinned (OpenSpec.upto fnExactIsPlanSpec)

/-- 'laws.FnExactAreLocks', WHERE WHAT IT READS IS OF BULK AT MOST 1048576: true; the input reads as it did. -/
def fnExactAreLocksUptoRow : OpenClaim := { program := "ytmbchcenclfjoaa", sum := "c9c1ecded6730b82b271e7d9474fcfae869474611bdac9148775a7e74794d988", func := "loop.example/g00916/laws.FnExactAreLocks", spec := "fnExactAreLocks", apart := false, narrowed := true }
def FnExactAreLocksUptoSaid : Prop := fnExactAreLocksUptoRow.holds Try.pinned (OpenSpec.upto fnExactAreLocksSpec)

/-- 'laws.FnExactNextDueDay', WHERE WHAT IT READS IS OF BULK AT MOST 1048576: true; the input reads as it did. -/
def fnExactNextDueDayUptoRow : OpenClaim := { program := "ytmbchcenclfjoaa", sum := "c9c1ecded6730b82b271e7d9474fcfae869474611bdac9148775a7e74794d988", func := "loop.example/g00916/laws.FnExactNextDueDay", spec := "fnExactNextDueDay", unfollowed := true, recurses := true, apart := false, narrowed := true }
def FnExactNextDueDayUptoSaid : Prop := fnExactNextDueDayUptoRow.holds Try.pinned (OpenSpec.upto fnExactNextDueDaySpec)

/-- 'laws.FnExactPerformTask', WHERE WHAT IT READS IS OF BULK AT MOST 1048576: true; the input reads as it did. -/
def fnExactPerformTaskUptoRow : OpenClaim := { program := "ytmbchcenclfjoaa", sum := "c9c1ecded6730b82b271e7d9474fcfae869474611bdac9148775a7e74794d988", func := "loop.example/g00916/laws.FnExactPerformTask", spec := "fnExactPerformTask", unfollowed := true, recurses := true, apart := false, narrowed := true }
def FnExactPerformTaskUptoSaid : Prop := fnExactPerformTaskUptoRow.holds Try.pinned (OpenSpec.upto fnExactPerformTaskSpec)

/-- 'laws.FnExactDueTasks', WHERE WHAT IT READS IS OF BULK AT MOST 1048576: true; the input reads as it did. -/
def fnExactDueTasksUptoRow : OpenClaim := { program := "ytmbchcenclfjoaa", sum := "c9c1ecded6730b82b271e7d9474fcfae869474611bdac9148775a7e74794d988", func := "loop.example/g00916/laws.FnExactDueTasks", spec := "fnExactDueTasks", unfollowed := true, recurses := true, apart := false, narrowed := true }
def FnExactDueTasksUptoSaid : Prop := fnExactDueTasksUptoRow.holds Try.pinned (OpenSpec.upto fnExactDueTasksSpec)

/-- 'laws.FnExactAddLock', WHERE WHAT IT READS IS OF BULK AT MOST 1048576: true; the input reads as it did. -/
def fnExactAddLockUptoRow : OpenClaim := { program := "ytmbchcenclfjoaa", sum := "c9c1ecded6730b82b271e7d9474fcfae869474611bdac9148775a7e74794d988", func := "loop.example/g00916/laws.FnExactAddLock", spec := "fnExactAddLock", apart := false, narrowed := true }
def FnExactAddLockUptoSaid : Prop := fnExactAddLockUptoRow.holds Try.pinned (OpenSpec.upto fnExactAddLockSpec)

/-- 'laws.FnExactRemoveLock', WHERE WHAT IT READS IS OF BULK AT MOST 1048576: true; the input reads as it did. -/
def fnExactRemoveLockUptoRow : OpenClaim := { program := "ytmbchcenclfjoaa", sum := "c9c1ecded6730b82b271e7d9474fcfae869474611bdac9148775a7e74794d988", func := "loop.example/g00916/laws.FnExactRemoveLock", spec := "fnExactRemoveLock", apart := false, narrowed := true }
def FnExactRemoveLockUptoSaid : Prop := fnExactRemoveLockUptoRow.holds Try.pinned (OpenSpec.upto fnExactRemoveLockSpec)

/-- 'laws.FnExactMayOperate', WHERE WHAT IT READS IS OF BULK AT MOST 1048576: true; the input reads as it did. -/
def fnExactMayOperateUptoRow : OpenClaim := { program := "ytmbchcenclfjoaa", sum := "c9c1ecded6730b82b271e7d9474fcfae869474611bdac9148775a7e74794d988", func := "loop.example/g00916/laws.FnExactMayOperate", spec := "fnExactMayOperate", unfollowed := true, recurses := true, apart := false, narrowed := true }
def FnExactMayOperateUptoSaid : Prop := fnExactMayOperateUptoRow.holds Try.pinned (OpenSpec.upto fnExactMayOperateSpec)

/-- 'laws.FnDueTasks', WHERE WHAT IT READS IS OF BULK AT MOST 1048576: true; the input reads as it did. -/
def fnDueTasksUptoRow : OpenClaim := { program := "ytmbchcenclfjoaa", sum := "c9c1ecded6730b82b271e7d9474fcfae869474611bdac9148775a7e74794d988", func := "loop.example/g00916/laws.FnDueTasks", spec := "fnDueTasks", unfollowed := true, recurses := true, apart := false, narrowed := true }
def FnDueTasksUptoSaid : Prop := fnDueTasksUptoRow.holds Try.pinned (OpenSpec.upto fnDueTasksSpec)

/-- 'laws.FnLockouts', WHERE WHAT IT READS IS OF BULK AT MOST 1048576: true; the input reads as it did. -/
def fnLockoutsUptoRow : OpenClaim := { program := "ytmbchcenclfjoaa", sum := "c9c1ecded6730b82b271e7d9474fcfae869474611bdac9148775a7e74794d988", func := "loop.example/g00916/laws.FnLockouts", spec := "fnLockouts", unfollowed := true, recurses := true, apart := false, narrowed := true }
def FnLockoutsUptoSaid : Prop := fnLockoutsUptoRow.holds Try.pinned (OpenSpec.upto fnLockoutsSpec)

/-- 'laws.FnVisits', WHERE WHAT IT READS IS OF BULK AT MOST 1048576: true; the input reads as it did. -/
def fnVisitsUptoRow : OpenClaim := { program := "ytmbchcenclfjoaa", sum := "c9c1ecded6730b82b271e7d9474fcfae869474611bdac9148775a7e74794d988", func := "loop.example/g00916/laws.FnVisits", spec := "fnVisits", unfollowed := true, recurses := true, apart := false, narrowed := true }
def FnVisitsUptoSaid : Prop := fnVisitsUptoRow.holds Try.pinned (OpenSpec.upto fnVisitsSpec)

/-- 'laws.FnExactVisitDays', WHERE WHAT IT READS IS OF BULK AT MOST 1048576: true; the input reads as it did. -/
def fnExactVisitDaysUptoRow : OpenClaim := { program := "ytmbchcenclfjoaa", sum := "c9c1ecded6730b82b271e7d9474fcfae869474611bdac9148775a7e74794d988", func := "loop.example/g00916/laws.FnExactVisitDays", spec := "fnExactVisitDays", unfollowed := true, recurses := true, apart := false, narrowed := true }
def FnExactVisitDaysUptoSaid : Prop := fnExactVisitDaysUptoRow.holds Try.pinned (OpenSpec.upto fnExactVisitDaysSpec)

end Rows
end Go.Proofs.Ytmbchcenclfjoaa
