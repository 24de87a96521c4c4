/-
  DERIVED. GIVEN WITH THE SEED: THE CARDS: each row of YtbobiiodbbcodaaDoorRows.lean that lists a variable, with what it lists TIED to the program's text (the seventh form; the later family's looks); each row that meets fmt, with fmt's text TOLD by the authors' own Lean function (tested against real Go, not proved from fmt's source: count such statements apart). THE CARD IS WHAT COUNTS. Prove the row's statement (the work); the ties are given (YtbobiiodbbcodaaDoorTie.lean); close each card by the builder's one call (the guide's Derived/Test/ToyasCard.lean, 'card_holds'). Laid BY PROGRAM, IN A SANDBOX (cutbox-door.mjs). By AI agents, Wed Nov 11 2026. No macro, syntax, notation, axiom, sorry.
-/
import Derived.Test.YtbobiiodbbcodaaDoorRows
import GoSem.ClaimSeven
namespace Go.Proofs.YtbobiiodbbcodaaDoor
namespace Rows

/-- THE TIED CARD OF 'laws.FnLogs'. -/
def fnLogsCard : Claim7 := { stood := { row := fnLogsRow, standIns := [], harness := (true, "edbdcd583c0c26a73ed7a6c015a7f2cb1fb0a83cea3b792aa02cfe74c5b6a55a"), looks := false }, kinds := [], alts := [], laidByText := true, laidKinds := [.data, .data, .data], laidTests := true, laidLooks := .later }
def FnLogsCardSaid : Prop := Claim7.holds Tryd.pinned (.plain (OpenSpec.ofChange fnLogsSpec)) fnLogsCard

/-- THE TIED CARD OF 'laws.FnCrashes'. -/
def fnCrashesCard : Claim7 := { stood := { row := fnCrashesRow, standIns := [], harness := (true, "edbdcd583c0c26a73ed7a6c015a7f2cb1fb0a83cea3b792aa02cfe74c5b6a55a"), looks := false }, kinds := [], alts := [], laidByText := true, laidKinds := [.data, .data, .data], laidTests := true, laidLooks := .later }
def FnCrashesCardSaid : Prop := Claim7.holds Tryd.pinned (.plain (OpenSpec.ofChange fnCrashesSpec)) fnCrashesCard

/-- THE SECOND FORM's CARD OF 'laws.FnLogs'. -/
def fnLogsUptoCard : Claim7 := { stood := { row := fnLogsUptoRow, standIns := [], harness := (true, "edbdcd583c0c26a73ed7a6c015a7f2cb1fb0a83cea3b792aa02cfe74c5b6a55a"), looks := false }, kinds := [], alts := [], laidByText := true, laidKinds := [.data, .data, .data], laidTests := true, laidLooks := .later }
def FnLogsUptoCardSaid : Prop := Claim7.holds Tryd.pinned (.plain (OpenSpec.upto fnLogsSpec)) fnLogsUptoCard

/-- THE SECOND FORM's CARD OF 'laws.FnCrashes'. -/
def fnCrashesUptoCard : Claim7 := { stood := { row := fnCrashesUptoRow, standIns := [], harness := (true, "edbdcd583c0c26a73ed7a6c015a7f2cb1fb0a83cea3b792aa02cfe74c5b6a55a"), looks := false }, kinds := [], alts := [], laidByText := true, laidKinds := [.data, .data, .data], laidTests := true, laidLooks := .later }
def FnCrashesUptoCardSaid : Prop := Claim7.holds Tryd.pinned (.plain (OpenSpec.upto fnCrashesSpec)) fnCrashesUptoCard
end Rows
end Go.Proofs.YtbobiiodbbcodaaDoor
