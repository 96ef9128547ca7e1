/-
  DERIVED. GIVEN WITH THE SEED: THE CARDS: each row of YtnndaemmgbkjbaaDoorRows.lean that lists a variable, with what it lists TIED to the program's text (the seventh form; the later family's looks); each row that meets fmt, with fmt's text TOLD by the authors' own Lean function (tested against real Go, not proved from fmt's source: count such statements apart). THE CARD IS WHAT COUNTS. Prove the row's statement (the work); the ties are given (YtnndaemmgbkjbaaDoorTie.lean); close each card by the builder's one call (the guide's Derived/Test/ToyasCard.lean, 'card_holds'). Laid BY PROGRAM, IN A SANDBOX (cutbox-door.mjs). By AI agents, Wed Nov 11 2026. No macro, syntax, notation, axiom, sorry.
-/
import Derived.Test.YtnndaemmgbkjbaaDoorRows
import GoSem.ClaimSeven
namespace Go.Proofs.YtnndaemmgbkjbaaDoor
namespace Rows

/-- THE TIED CARD OF 'electionlaw45.ConsoleError'. -/
def consoleErrorCard : Claim7 := { stood := { row := consoleErrorRow, standIns := [], harness := (true, "48a2ae1ca909f2033343ceee35525c3a887011d0a18fde71b54d8d296b8a11d3"), looks := false }, kinds := [], alts := [], laidByText := true, laidKinds := [.data, .data, .data, .data, .pinned], laidTests := true, laidLooks := .later }
def ConsoleErrorCardSaid : Prop := Claim7.holds Tryd.pinned (.plain (OpenSpec.ofChange consoleErrorSpec)) consoleErrorCard

/-- THE SECOND FORM's CARD OF 'electionlaw45.ConsoleError'. -/
def consoleErrorUptoCard : Claim7 := { stood := { row := consoleErrorUptoRow, standIns := [], harness := (true, "48a2ae1ca909f2033343ceee35525c3a887011d0a18fde71b54d8d296b8a11d3"), looks := false }, kinds := [], alts := [], laidByText := true, laidKinds := [.data, .data, .data, .data, .pinned], laidTests := true, laidLooks := .later }
def ConsoleErrorUptoCardSaid : Prop := Claim7.holds Tryd.pinned (.plain (OpenSpec.upto consoleErrorSpec)) consoleErrorUptoCard
end Rows
end Go.Proofs.YtnndaemmgbkjbaaDoor
