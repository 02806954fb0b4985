/-
  DERIVED. GIVEN WITH THE SEED: THE CARDS: each row of YtakchdkoildkbaaDoorRows.lean that lists a variable, with what it lists TIED to the program's text (the seventh form; the later family's looks); each row that meets fmt, with fmt's text TOLD by the authors' own Lean function (tested against real Go, not proved from fmt's source: count such statements apart). THE CARD IS WHAT COUNTS. Prove the row's statement (the work); the ties are given (YtakchdkoildkbaaDoorTie.lean); close each card by the builder's one call (the guide's Derived/Test/ToyasCard.lean, 'card_holds'). Laid BY PROGRAM, IN A SANDBOX (cutbox-door.mjs). By AI agents, Wed Nov 11 2026. No macro, syntax, notation, axiom, sorry.
-/
import Derived.Test.YtakchdkoildkbaaDoorRows
import GoSem.ClaimSeven
namespace Go.Proofs.YtakchdkoildkbaaDoor
namespace Rows

/-- THE TIED CARD OF 'laws.FnExactReachableModes'. -/
def fnExactReachableModesCard : Claim7 := { stood := { row := fnExactReachableModesRow, standIns := [], harness := (true, "63a3f48be728628bfeec9ca333e4a5f74db2a920a1ebf5fdcdec17f420939112"), looks := false }, kinds := [], alts := [], laidByText := true, laidKinds := [.data], laidTests := true, laidLooks := .later }
def FnExactReachableModesCardSaid : Prop := Claim7.holds Tryd.pinned (.plain (OpenSpec.ofChange fnExactReachableModesSpec)) fnExactReachableModesCard

/-- THE TIED CARD OF 'laws.FnCommands'. -/
def fnCommandsCard : Claim7 := { stood := { row := fnCommandsRow, standIns := [], harness := (true, "63a3f48be728628bfeec9ca333e4a5f74db2a920a1ebf5fdcdec17f420939112"), looks := false }, kinds := [], alts := [], laidByText := true, laidKinds := [.data], laidTests := true, laidLooks := .later }
def FnCommandsCardSaid : Prop := Claim7.holds Tryd.pinned (.plain (OpenSpec.ofChange fnCommandsSpec)) fnCommandsCard

/-- THE TIED CARD OF 'laws.FnResets'. -/
def fnResetsCard : Claim7 := { stood := { row := fnResetsRow, standIns := [], harness := (true, "63a3f48be728628bfeec9ca333e4a5f74db2a920a1ebf5fdcdec17f420939112"), looks := false }, kinds := [], alts := [], laidByText := true, laidKinds := [.data], laidTests := true, laidLooks := .later }
def FnResetsCardSaid : Prop := Claim7.holds Tryd.pinned (.plain (OpenSpec.ofChange fnResetsSpec)) fnResetsCard

/-- THE TIED CARD OF 'laws.FnExactRunCommands'. -/
def fnExactRunCommandsCard : Claim7 := { stood := { row := fnExactRunCommandsRow, standIns := [], harness := (true, "63a3f48be728628bfeec9ca333e4a5f74db2a920a1ebf5fdcdec17f420939112"), looks := false }, kinds := [], alts := [], laidByText := true, laidKinds := [.data], laidTests := true, laidLooks := .later }
def FnExactRunCommandsCardSaid : Prop := Claim7.holds Tryd.pinned (.plain (OpenSpec.ofChange fnExactRunCommandsSpec)) fnExactRunCommandsCard

/-- THE TIED CARD OF 'laws.FnModeWays'. -/
def fnModeWaysCard : Claim7 := { stood := { row := fnModeWaysRow, standIns := [], harness := (true, "63a3f48be728628bfeec9ca333e4a5f74db2a920a1ebf5fdcdec17f420939112"), looks := false }, kinds := [], alts := [], laidByText := true, laidKinds := [.data], laidTests := true, laidLooks := .later }
def FnModeWaysCardSaid : Prop := Claim7.holds Tryd.pinned (.plain (OpenSpec.ofChange fnModeWaysSpec)) fnModeWaysCard

/-- THE SECOND FORM's CARD OF 'laws.FnExactReachableModes'. -/
def fnExactReachableModesUptoCard : Claim7 := { stood := { row := fnExactReachableModesUptoRow, standIns := [], harness := (true, "63a3f48be728628bfeec9ca333e4a5f74db2a920a1ebf5fdcdec17f420939112"), looks := false }, kinds := [], alts := [], laidByText := true, laidKinds := [.data], laidTests := true, laidLooks := .later }
def FnExactReachableModesUptoCardSaid : Prop := Claim7.holds Tryd.pinned (.plain (OpenSpec.upto fnExactReachableModesSpec)) fnExactReachableModesUptoCard

/-- THE SECOND FORM's CARD OF 'laws.FnCommands'. -/
def fnCommandsUptoCard : Claim7 := { stood := { row := fnCommandsUptoRow, standIns := [], harness := (true, "63a3f48be728628bfeec9ca333e4a5f74db2a920a1ebf5fdcdec17f420939112"), looks := false }, kinds := [], alts := [], laidByText := true, laidKinds := [.data], laidTests := true, laidLooks := .later }
def FnCommandsUptoCardSaid : Prop := Claim7.holds Tryd.pinned (.plain (OpenSpec.upto fnCommandsSpec)) fnCommandsUptoCard

/-- THE SECOND FORM's CARD OF 'laws.FnResets'. -/
def fnResetsUptoCard : Claim7 := { stood := { row := fnResetsUptoRow, standIns := [], harness := (true, "63a3f48be728628bfeec9ca333e4a5f74db2a920a1ebf5fdcdec17f420939112"), looks := false }, kinds := [], alts := [], laidByText := true, laidKinds := [.data], laidTests := true, laidLooks := .later }
def FnResetsUptoCardSaid : Prop := Claim7.holds Tryd.pinned (.plain (OpenSpec.upto fnResetsSpec)) fnResetsUptoCard

/-- THE SECOND FORM's CARD OF 'laws.FnExactRunCommands'. -/
def fnExactRunCommandsUptoCard : Claim7 := { stood := { row := fnExactRunCommandsUptoRow, standIns := [], harness := (true, "63a3f48be728628bfeec9ca333e4a5f74db2a920a1ebf5fdcdec17f420939112"), looks := false }, kinds := [], alts := [], laidByText := true, laidKinds := [.data], laidTests := true, laidLooks := .later }
def FnExactRunCommandsUptoCardSaid : Prop := Claim7.holds Tryd.pinned (.plain (OpenSpec.upto fnExactRunCommandsSpec)) fnExactRunCommandsUptoCard

/-- THE SECOND FORM's CARD OF 'laws.FnModeWays'. -/
def fnModeWaysUptoCard : Claim7 := { stood := { row := fnModeWaysUptoRow, standIns := [], harness := (true, "63a3f48be728628bfeec9ca333e4a5f74db2a920a1ebf5fdcdec17f420939112"), looks := false }, kinds := [], alts := [], laidByText := true, laidKinds := [.data], laidTests := true, laidLooks := .later }
def FnModeWaysUptoCardSaid : Prop := Claim7.holds Tryd.pinned (.plain (OpenSpec.upto fnModeWaysSpec)) fnModeWaysUptoCard
end Rows
end Go.Proofs.YtakchdkoildkbaaDoor
