/-
  DERIVED. GIVEN WITH THE SEED: THE CARDS: each row of YtnndaemmgbkjbaaGreatDoorRows.lean that lists a variable, with what it lists TIED to the program's text (the seventh form; the later family's looks); each row that meets fmt, with fmt's text TOLD by the authors' own Lean function (tested against real Go, not proved from fmt's source: count such statements apart). THE CARD IS WHAT COUNTS. Prove the row's statement (the work); the ties are given (YtnndaemmgbkjbaaGreatDoorTie.lean); close each card by the builder's one call (the guide's Derived/Test/ToyasCard.lean, 'card_holds'). Laid BY PROGRAM, IN A SANDBOX (cutbox-door.mjs). By AI agents, Wed Nov 11 2026. No macro, syntax, notation, axiom, sorry.
-/
import Derived.Test.YtnndaemmgbkjbaaGreatDoorRows
import GoSem.ClaimSeven
namespace Go.Proofs.YtnndaemmgbkjbaaGreatDoor
namespace Rows

/-- THE TIED CARD OF 'electionlaw45.ConsoleParse'. -/
def consoleParseCard : Claim7 := { stood := { row := consoleParseRow, standIns := [], harness := (true, "37e8bdf73576a2cb062c5d5f5e4b38d3b79ef384603a2789e2d8014c3273442e"), looks := false }, kinds := [], alts := [], laidByText := true, laidKinds := [.data, .data, .data, .data, .pinned], laidTests := true, laidLooks := .later }
def ConsoleParseCardSaid : Prop := Claim7.holds Tryz.pinned (.plain (OpenSpec.ofChange consoleParseSpec)) consoleParseCard

/-- THE TIED CARD OF 'electionlaw45.ConsolePrint'. -/
def consolePrintCard : Claim7 := { stood := { row := consolePrintRow, standIns := [], harness := (true, "37e8bdf73576a2cb062c5d5f5e4b38d3b79ef384603a2789e2d8014c3273442e"), looks := false }, kinds := [], alts := [], laidByText := true, laidKinds := [.data, .data, .data, .data, .pinned], laidTests := true, laidLooks := .later }
def ConsolePrintCardSaid : Prop := Claim7.holds Tryz.pinned (.plain (OpenSpec.ofChange consolePrintSpec)) consolePrintCard

/-- THE TIED CARD OF 'electionlaw45.ConsoleRound'. -/
def consoleRoundCard : Claim7 := { stood := { row := consoleRoundRow, standIns := [], harness := (true, "37e8bdf73576a2cb062c5d5f5e4b38d3b79ef384603a2789e2d8014c3273442e"), looks := false }, kinds := [], alts := [], laidByText := true, laidKinds := [.data, .data, .data, .data, .pinned], laidTests := true, laidLooks := .later }
def ConsoleRoundCardSaid : Prop := Claim7.holds Tryz.pinned (.plain (OpenSpec.ofChange consoleRoundSpec)) consoleRoundCard

/-- THE SECOND FORM's CARD OF 'electionlaw45.ConsoleParse'. -/
def consoleParseUptoCard : Claim7 := { stood := { row := consoleParseUptoRow, standIns := [], harness := (true, "37e8bdf73576a2cb062c5d5f5e4b38d3b79ef384603a2789e2d8014c3273442e"), looks := false }, kinds := [], alts := [], laidByText := true, laidKinds := [.data, .data, .data, .data, .pinned], laidTests := true, laidLooks := .later }
def ConsoleParseUptoCardSaid : Prop := Claim7.holds Tryz.pinned (.plain (OpenSpec.upto consoleParseSpec)) consoleParseUptoCard

/-- THE SECOND FORM's CARD OF 'electionlaw45.ConsolePrint'. -/
def consolePrintUptoCard : Claim7 := { stood := { row := consolePrintUptoRow, standIns := [], harness := (true, "37e8bdf73576a2cb062c5d5f5e4b38d3b79ef384603a2789e2d8014c3273442e"), looks := false }, kinds := [], alts := [], laidByText := true, laidKinds := [.data, .data, .data, .data, .pinned], laidTests := true, laidLooks := .later }
def ConsolePrintUptoCardSaid : Prop := Claim7.holds Tryz.pinned (.plain (OpenSpec.upto consolePrintSpec)) consolePrintUptoCard

/-- THE SECOND FORM's CARD OF 'electionlaw45.ConsoleRound'. -/
def consoleRoundUptoCard : Claim7 := { stood := { row := consoleRoundUptoRow, standIns := [], harness := (true, "37e8bdf73576a2cb062c5d5f5e4b38d3b79ef384603a2789e2d8014c3273442e"), looks := false }, kinds := [], alts := [], laidByText := true, laidKinds := [.data, .data, .data, .data, .pinned], laidTests := true, laidLooks := .later }
def ConsoleRoundUptoCardSaid : Prop := Claim7.holds Tryz.pinned (.plain (OpenSpec.upto consoleRoundSpec)) consoleRoundUptoCard
end Rows
end Go.Proofs.YtnndaemmgbkjbaaGreatDoor
