/-
  No cell of these rows narrows 'for every input' (looked for: loops, veiled, ifaces, maps, wideKeys, modest, calm, conditions, laid).
  DERIVED. THE GIVEN ROWS OF THIS SEAT. 9 by the template 'for every input the law returns true; each argument reads behind the call as it read before'; 0 by the template 'total and deterministic' (their statements: YtjohpakfaommgaaTotals.lean).
  GIVEN WITH THE SEED: the statements are not yours to turn. If you find one false, say at which input.
  Laid BY PROGRAM, IN A SANDBOX (cutbox-rows.mjs): the forced cells as the released guide's own fill.sh prints them over the translation 8715003c2e3a23d5… (all of the seat's roots in one cut). By AI agents, Wed Nov 11 2026. No macro, syntax, notation, axiom, sorry.
-/
import Derived.Test.YtjohpakfaommgaaChecked
import GoSem.Claim
import GoSem.ClaimJoined
import GoSem.ClaimMapViews
import Derived.JoinedTies
import Derived.KernelRfl
namespace Go.Proofs.Ytjohpakfaommgaa
/- THE CELL 'sum', in the pinned program and in every row, IS THE sha256 OF THE DUMP (.gsa) THAT YtjohpakfaommgaaProg.lean LOADS. Nothing in Lean hashes anything: it is a label: what it is worth is what the hold of that sum in a sandbox is worth. -/
noncomputable def Try.pinned : Pinned := { name := "ytjohpakfaommgaa", sum := "8715003c2e3a23d5c9081ce18c2d299e496388709d64107091c3541ac22e8446", checked := Try.checked }
namespace Rows
def none {H : Type} : Left H := { results := [], args := [] }

/-- 'laws.FnExactChecksum16': WHATEVER THE INPUT: true; the input reads as it did. -/
def fnExactChecksum16Spec : ChangeSpec := { name := "fnExactChecksum16", fn := fun _ => fun
  | [d] => { results := [.lit (.bool true)], args := [d] }
  | _ => none }
def fnExactChecksum16Row : OpenClaim := { program := "ytjohpakfaommgaa", sum := "8715003c2e3a23d5c9081ce18c2d299e496388709d64107091c3541ac22e8446", func := "loop.example/g00916/laws.FnExactChecksum16", spec := "fnExactChecksum16", unfollowed := true, recurses := true, apart := false }
def FnExactChecksum16Said : Prop := fnExactChecksum16Row.holds Try.pinned (OpenSpec.ofChange fnExactChecksum16Spec)

/-- ITS FALSE NEIGHBOUR: 'it returns false'. Refute it at one input. -/
def fnExactChecksum16Wrong : ChangeSpec := { name := "fnExactChecksum16", fn := fun _ => fun
  | [d] => { results := [.lit (.bool false)], args := [d] }
  | _ => none }
def FnExactChecksum16WrongFalsely : Prop := fnExactChecksum16Row.holds Try.pinned (OpenSpec.ofChange fnExactChecksum16Wrong)

/-- 'laws.FnExactCutJournal': WHATEVER THE INPUT: true; the input reads as it did. -/
def fnExactCutJournalSpec : ChangeSpec := { name := "fnExactCutJournal", fn := fun _ => fun
  | [d1, d2, d3] => { results := [.lit (.bool true)], args := [d1, d2, d3] }
  | _ => none }
def fnExactCutJournalRow : OpenClaim := { program := "ytjohpakfaommgaa", sum := "8715003c2e3a23d5c9081ce18c2d299e496388709d64107091c3541ac22e8446", func := "loop.example/g00916/laws.FnExactCutJournal", spec := "fnExactCutJournal", unfollowed := true, recurses := true, apart := false }
def FnExactCutJournalSaid : Prop := fnExactCutJournalRow.holds Try.pinned (OpenSpec.ofChange fnExactCutJournalSpec)

/-- ITS FALSE NEIGHBOUR: 'it returns false'. Refute it at one input. -/
def fnExactCutJournalWrong : ChangeSpec := { name := "fnExactCutJournal", fn := fun _ => fun
  | [d1, d2, d3] => { results := [.lit (.bool false)], args := [d1, d2, d3] }
  | _ => none }
def FnExactCutJournalWrongFalsely : Prop := fnExactCutJournalRow.holds Try.pinned (OpenSpec.ofChange fnExactCutJournalWrong)

/-- 'laws.FnExactEncodeRecord': WHATEVER THE INPUT: true; the input reads as it did. -/
def fnExactEncodeRecordSpec : ChangeSpec := { name := "fnExactEncodeRecord", fn := fun _ => fun
  | [d1, d2] => { results := [.lit (.bool true)], args := [d1, d2] }
  | _ => none }
def fnExactEncodeRecordRow : OpenClaim := { program := "ytjohpakfaommgaa", sum := "8715003c2e3a23d5c9081ce18c2d299e496388709d64107091c3541ac22e8446", func := "loop.example/g00916/laws.FnExactEncodeRecord", spec := "fnExactEncodeRecord", apart := false }
def FnExactEncodeRecordSaid : Prop := fnExactEncodeRecordRow.holds Try.pinned (OpenSpec.ofChange fnExactEncodeRecordSpec)

/-- ITS FALSE NEIGHBOUR: 'it returns false'. Refute it at one input. -/
def fnExactEncodeRecordWrong : ChangeSpec := { name := "fnExactEncodeRecord", fn := fun _ => fun
  | [d1, d2] => { results := [.lit (.bool false)], args := [d1, d2] }
  | _ => none }
def FnExactEncodeRecordWrongFalsely : Prop := fnExactEncodeRecordRow.holds Try.pinned (OpenSpec.ofChange fnExactEncodeRecordWrong)

/-- 'laws.FnExactDecodeRecord': WHATEVER THE INPUT: true; the input reads as it did. -/
def fnExactDecodeRecordSpec : ChangeSpec := { name := "fnExactDecodeRecord", fn := fun _ => fun
  | [d] => { results := [.lit (.bool true)], args := [d] }
  | _ => none }
def fnExactDecodeRecordRow : OpenClaim := { program := "ytjohpakfaommgaa", sum := "8715003c2e3a23d5c9081ce18c2d299e496388709d64107091c3541ac22e8446", func := "loop.example/g00916/laws.FnExactDecodeRecord", spec := "fnExactDecodeRecord", unfollowed := true, recurses := true, apart := false }
def FnExactDecodeRecordSaid : Prop := fnExactDecodeRecordRow.holds Try.pinned (OpenSpec.ofChange fnExactDecodeRecordSpec)

/-- ITS FALSE NEIGHBOUR: 'it returns false'. Refute it at one input. -/
def fnExactDecodeRecordWrong : ChangeSpec := { name := "fnExactDecodeRecord", fn := fun _ => fun
  | [d] => { results := [.lit (.bool false)], args := [d] }
  | _ => none }
def FnExactDecodeRecordWrongFalsely : Prop := fnExactDecodeRecordRow.holds Try.pinned (OpenSpec.ofChange fnExactDecodeRecordWrong)

/-- 'laws.FnExactJournalOf': WHATEVER THE INPUT: true; the input reads as it did. -/
def fnExactJournalOfSpec : ChangeSpec := { name := "fnExactJournalOf", fn := fun _ => fun
  | [d] => { results := [.lit (.bool true)], args := [d] }
  | _ => none }
def fnExactJournalOfRow : OpenClaim := { program := "ytjohpakfaommgaa", sum := "8715003c2e3a23d5c9081ce18c2d299e496388709d64107091c3541ac22e8446", func := "loop.example/g00916/laws.FnExactJournalOf", spec := "fnExactJournalOf", unfollowed := true, recurses := true, apart := false }
def FnExactJournalOfSaid : Prop := fnExactJournalOfRow.holds Try.pinned (OpenSpec.ofChange fnExactJournalOfSpec)

/-- ITS FALSE NEIGHBOUR: 'it returns false'. Refute it at one input. -/
def fnExactJournalOfWrong : ChangeSpec := { name := "fnExactJournalOf", fn := fun _ => fun
  | [d] => { results := [.lit (.bool false)], args := [d] }
  | _ => none }
def FnExactJournalOfWrongFalsely : Prop := fnExactJournalOfRow.holds Try.pinned (OpenSpec.ofChange fnExactJournalOfWrong)

/-- 'laws.FnExactRecoverJournal': WHATEVER THE INPUT: true; the input reads as it did. -/
def fnExactRecoverJournalSpec : ChangeSpec := { name := "fnExactRecoverJournal", fn := fun _ => fun
  | [d] => { results := [.lit (.bool true)], args := [d] }
  | _ => none }
def fnExactRecoverJournalRow : OpenClaim := { program := "ytjohpakfaommgaa", sum := "8715003c2e3a23d5c9081ce18c2d299e496388709d64107091c3541ac22e8446", func := "loop.example/g00916/laws.FnExactRecoverJournal", spec := "fnExactRecoverJournal", unfollowed := true, recurses := true, apart := false }
def FnExactRecoverJournalSaid : Prop := fnExactRecoverJournalRow.holds Try.pinned (OpenSpec.ofChange fnExactRecoverJournalSpec)

/-- ITS FALSE NEIGHBOUR: 'it returns false'. Refute it at one input. -/
def fnExactRecoverJournalWrong : ChangeSpec := { name := "fnExactRecoverJournal", fn := fun _ => fun
  | [d] => { results := [.lit (.bool false)], args := [d] }
  | _ => none }
def FnExactRecoverJournalWrongFalsely : Prop := fnExactRecoverJournalRow.holds Try.pinned (OpenSpec.ofChange fnExactRecoverJournalWrong)

/-- 'laws.FnExactAppendRecord': WHATEVER THE INPUT: true; the input reads as it did. -/
def fnExactAppendRecordSpec : ChangeSpec := { name := "fnExactAppendRecord", fn := fun _ => fun
  | [d1, d2] => { results := [.lit (.bool true)], args := [d1, d2] }
  | _ => none }
def fnExactAppendRecordRow : OpenClaim := { program := "ytjohpakfaommgaa", sum := "8715003c2e3a23d5c9081ce18c2d299e496388709d64107091c3541ac22e8446", func := "loop.example/g00916/laws.FnExactAppendRecord", spec := "fnExactAppendRecord", unfollowed := true, recurses := true, apart := false }
def FnExactAppendRecordSaid : Prop := fnExactAppendRecordRow.holds Try.pinned (OpenSpec.ofChange fnExactAppendRecordSpec)

/-- ITS FALSE NEIGHBOUR: 'it returns false'. Refute it at one input. -/
def fnExactAppendRecordWrong : ChangeSpec := { name := "fnExactAppendRecord", fn := fun _ => fun
  | [d1, d2] => { results := [.lit (.bool false)], args := [d1, d2] }
  | _ => none }
def FnExactAppendRecordWrongFalsely : Prop := fnExactAppendRecordRow.holds Try.pinned (OpenSpec.ofChange fnExactAppendRecordWrong)

/-- 'laws.FnRecords': WHATEVER THE INPUT: true; the input reads as it did. -/
def fnRecordsSpec : ChangeSpec := { name := "fnRecords", fn := fun _ => fun
  | [d] => { results := [.lit (.bool true)], args := [d] }
  | _ => none }
def fnRecordsRow : OpenClaim := { program := "ytjohpakfaommgaa", sum := "8715003c2e3a23d5c9081ce18c2d299e496388709d64107091c3541ac22e8446", func := "loop.example/g00916/laws.FnRecords", spec := "fnRecords", unfollowed := true, recurses := true, apart := false }
def FnRecordsSaid : Prop := fnRecordsRow.holds Try.pinned (OpenSpec.ofChange fnRecordsSpec)

/-- ITS FALSE NEIGHBOUR: 'it returns false'. Refute it at one input. -/
def fnRecordsWrong : ChangeSpec := { name := "fnRecords", fn := fun _ => fun
  | [d] => { results := [.lit (.bool false)], args := [d] }
  | _ => none }
def FnRecordsWrongFalsely : Prop := fnRecordsRow.holds Try.pinned (OpenSpec.ofChange fnRecordsWrong)

/-- 'laws.FnJournals': WHATEVER THE INPUT: true; the input reads as it did. -/
def fnJournalsSpec : ChangeSpec := { name := "fnJournals", fn := fun _ => fun
  | [d] => { results := [.lit (.bool true)], args := [d] }
  | _ => none }
def fnJournalsRow : OpenClaim := { program := "ytjohpakfaommgaa", sum := "8715003c2e3a23d5c9081ce18c2d299e496388709d64107091c3541ac22e8446", func := "loop.example/g00916/laws.FnJournals", spec := "fnJournals", unfollowed := true, recurses := true, apart := false }
def FnJournalsSaid : Prop := fnJournalsRow.holds Try.pinned (OpenSpec.ofChange fnJournalsSpec)

/-- ITS FALSE NEIGHBOUR: 'it returns false'. Refute it at one input. -/
def fnJournalsWrong : ChangeSpec := { name := "fnJournals", fn := fun _ => fun
  | [d] => { results := [.lit (.bool false)], args := [d] }
  | _ => none }
def FnJournalsWrongFalsely : Prop := fnJournalsRow.holds Try.pinned (OpenSpec.ofChange fnJournalsWrong)

/- THE SECOND FORM. 'bulk': how many values and letters a reading holds, each counted each time it is reached (what is shared counts as often as it is met; a slice's spare places count too). A statement '..UptoSaid' is the law's where the arguments, and the package variables that the reading takes, are together of bulk at most 1048576: NARROWER than '..Said'. Prove '..Said' where nothing that the law and all that it calls make is longer than what came in: it says more and counts as full. Else prove '..UptoSaid'. A law counts once. -/
mutual
def uptoBulk {H : Type} : DataW H → Nat
  | .lit (.string bytes) => bytes.length + 1
  | .lit _ => 1
  | .nil => 1
  | .ptr d => uptoBulk d + 1
  | .slice elems spare => uptoBulkAll elems + uptoBulkAll spare + 1
  | .agg parts => uptoBulkAll parts + 1
  | .iface _ d => uptoBulk d + 1
  | .map entries => uptoBulkEntries entries + 1
  | .held _ => 1
def uptoBulkAll {H : Type} : List (DataW H) → Nat
  | [] => 0
  | d :: r => uptoBulk d + uptoBulkAll r
def uptoBulkEntries {H : Type} : List (Lit × DataW H) → Nat
  | [] => 0
  | x :: r => uptoBulkEntry x + uptoBulkEntries r
def uptoBulkEntry {H : Type} : Lit × DataW H → Nat
  | (.string bytes, d) => bytes.length + uptoBulk d + 1
  | (_, d) => uptoBulk d + 1
 end
def uptoSmall : (H : Type) → List (DataW H) → Bool := fun _ ds => decide (uptoBulkAll ds ≤ 1048576)
def OpenSpec.upto (s : _root_.Go.ChangeSpec) : _root_.Go.OpenSpec := { _root_.Go.OpenSpec.ofChange s with cond := some uptoSmall }

/-- 'laws.FnExactChecksum16', WHERE WHAT IT READS IS OF BULK AT MOST 1048576: true; the input reads as it did. -/
def fnExactChecksum16UptoRow : OpenClaim := { program := "ytjohpakfaommgaa", sum := "8715003c2e3a23d5c9081ce18c2d299e496388709d64107091c3541ac22e8446", func := "loop.example/g00916/laws.FnExactChecksum16", spec := "fnExactChecksum16", unfollowed := true, recurses := true, apart := false, narrowed := true }
def FnExactChecksum16UptoSaid : Prop := fnExactChecksum16UptoRow.holds Try.pinned (OpenSpec.upto fnExactChecksum16Spec)

/-- 'laws.FnExactCutJournal', WHERE WHAT IT READS IS OF BULK AT MOST 1048576: true; the input reads as it did. -/
def fnExactCutJournalUptoRow : OpenClaim := { program := "ytjohpakfaommgaa", sum := "8715003c2e3a23d5c9081ce18c2d299e496388709d64107091c3541ac22e8446", func := "loop.example/g00916/laws.FnExactCutJournal", spec := "fnExactCutJournal", unfollowed := true, recurses := true, apart := false, narrowed := true }
def FnExactCutJournalUptoSaid : Prop := fnExactCutJournalUptoRow.holds Try.pinned (OpenSpec.upto fnExactCutJournalSpec)

/-- 'laws.FnExactEncodeRecord', WHERE WHAT IT READS IS OF BULK AT MOST 1048576: true; the input reads as it did. -/
def fnExactEncodeRecordUptoRow : OpenClaim := { program := "ytjohpakfaommgaa", sum := "8715003c2e3a23d5c9081ce18c2d299e496388709d64107091c3541ac22e8446", func := "loop.example/g00916/laws.FnExactEncodeRecord", spec := "fnExactEncodeRecord", apart := false, narrowed := true }
def FnExactEncodeRecordUptoSaid : Prop := fnExactEncodeRecordUptoRow.holds Try.pinned (OpenSpec.upto fnExactEncodeRecordSpec)

/-- 'laws.FnExactDecodeRecord', WHERE WHAT IT READS IS OF BULK AT MOST 1048576: true; the input reads as it did. -/
def fnExactDecodeRecordUptoRow : OpenClaim := { program := "ytjohpakfaommgaa", sum := "8715003c2e3a23d5c9081ce18c2d299e496388709d64107091c3541ac22e8446", func := "loop.example/g00916/laws.FnExactDecodeRecord", spec := "fnExactDecodeRecord", unfollowed := true, recurses := true, apart := false, narrowed := true }
def FnExactDecodeRecordUptoSaid : Prop := fnExactDecodeRecordUptoRow.holds Try.pinned (OpenSpec.upto fnExactDecodeRecordSpec)

/-- 'laws.FnExactJournalOf', WHERE WHAT IT READS IS OF BULK AT MOST 1048576: true; the input reads as it did. -/
def fnExactJournalOfUptoRow : OpenClaim := { program := "ytjohpakfaommgaa", sum := "8715003c2e3a23d5c9081ce18c2d299e496388709d64107091c3541ac22e8446", func := "loop.example/g00916/laws.FnExactJournalOf", spec := "fnExactJournalOf", unfollowed := true, recurses := true, apart := false, narrowed := true }
def FnExactJournalOfUptoSaid : Prop := fnExactJournalOfUptoRow.holds Try.pinned (OpenSpec.upto fnExactJournalOfSpec)

/-- 'laws.FnExactRecoverJournal', WHERE WHAT IT READS IS OF BULK AT MOST 1048576: true; the input reads as it did. -/
def fnExactRecoverJournalUptoRow : OpenClaim := { program := "ytjohpakfaommgaa", sum := "8715003c2e3a23d5c9081ce18c2d299e496388709d64107091c3541ac22e8446", func := "loop.example/g00916/laws.FnExactRecoverJournal", spec := "fnExactRecoverJournal", unfollowed := true, recurses := true, apart := false, narrowed := true }
def FnExactRecoverJournalUptoSaid : Prop := fnExactRecoverJournalUptoRow.holds Try.pinned (OpenSpec.upto fnExactRecoverJournalSpec)

/-- 'laws.FnExactAppendRecord', WHERE WHAT IT READS IS OF BULK AT MOST 1048576: true; the input reads as it did. -/
def fnExactAppendRecordUptoRow : OpenClaim := { program := "ytjohpakfaommgaa", sum := "8715003c2e3a23d5c9081ce18c2d299e496388709d64107091c3541ac22e8446", func := "loop.example/g00916/laws.FnExactAppendRecord", spec := "fnExactAppendRecord", unfollowed := true, recurses := true, apart := false, narrowed := true }
def FnExactAppendRecordUptoSaid : Prop := fnExactAppendRecordUptoRow.holds Try.pinned (OpenSpec.upto fnExactAppendRecordSpec)

/-- 'laws.FnRecords', WHERE WHAT IT READS IS OF BULK AT MOST 1048576: true; the input reads as it did. -/
def fnRecordsUptoRow : OpenClaim := { program := "ytjohpakfaommgaa", sum := "8715003c2e3a23d5c9081ce18c2d299e496388709d64107091c3541ac22e8446", func := "loop.example/g00916/laws.FnRecords", spec := "fnRecords", unfollowed := true, recurses := true, apart := false, narrowed := true }
def FnRecordsUptoSaid : Prop := fnRecordsUptoRow.holds Try.pinned (OpenSpec.upto fnRecordsSpec)

/-- 'laws.FnJournals', WHERE WHAT IT READS IS OF BULK AT MOST 1048576: true; the input reads as it did. -/
def fnJournalsUptoRow : OpenClaim := { program := "ytjohpakfaommgaa", sum := "8715003c2e3a23d5c9081ce18c2d299e496388709d64107091c3541ac22e8446", func := "loop.example/g00916/laws.FnJournals", spec := "fnJournals", unfollowed := true, recurses := true, apart := false, narrowed := true }
def FnJournalsUptoSaid : Prop := fnJournalsUptoRow.holds Try.pinned (OpenSpec.upto fnJournalsSpec)

end Rows
end Go.Proofs.Ytjohpakfaommgaa
