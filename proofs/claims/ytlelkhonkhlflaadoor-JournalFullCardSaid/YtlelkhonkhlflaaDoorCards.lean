/-
  DERIVED. GIVEN WITH THE SEED: THE CARDS: each row of YtlelkhonkhlflaaDoorRows.lean that lists a variable, with what it lists TIED to the program's text (the seventh form; the later family's looks); each row that meets fmt, with fmt's text TOLD by the authors' own Lean function (tested against real Go, not proved from fmt's source: count such statements apart). THE CARD IS WHAT COUNTS. Prove the row's statement (the work); the ties are given (YtlelkhonkhlflaaDoorTie.lean); close each card by the builder's one call (the guide's Derived/Test/ToyasCard.lean, 'card_holds'). Laid BY PROGRAM, IN A SANDBOX (cutbox-door.mjs). By AI agents, Wed Nov 11 2026. No macro, syntax, notation, axiom, sorry.
-/
import Derived.Test.YtlelkhonkhlflaaDoorRows
import GoSem.ClaimSeven
namespace Go.Proofs.YtlelkhonkhlflaaDoor
namespace Rows

/-- THE TIED CARD OF 'electionlaw16.JournalOwn'. -/
def journalOwnCard : Claim7 := { stood := { row := journalOwnRow, standIns := [], harness := (true, "69b1b46d63cce88984703cc0d1ca8e3b7ac35e1ef83dc4f250a8435cbb4d0659"), looks := false }, kinds := [], alts := [], laidByText := true, laidKinds := [.data], laidTests := true, laidLooks := .later }
def JournalOwnCardSaid : Prop := Claim7.holds Tryd.pinned (.plain (OpenSpec.ofChange journalOwnSpec)) journalOwnCard

/-- THE TIED CARD OF 'electionlaw16.JournalTorn'. -/
def journalTornCard : Claim7 := { stood := { row := journalTornRow, standIns := [], harness := (true, "69b1b46d63cce88984703cc0d1ca8e3b7ac35e1ef83dc4f250a8435cbb4d0659"), looks := false }, kinds := [], alts := [], laidByText := true, laidKinds := [.data], laidTests := true, laidLooks := .later }
def JournalTornCardSaid : Prop := Claim7.holds Tryd.pinned (.plain (OpenSpec.ofChange journalTornSpec)) journalTornCard

/-- THE TIED CARD OF 'electionlaw16.JournalFormat'. -/
def journalFormatCard : Claim7 := { stood := { row := journalFormatRow, standIns := [], harness := (true, "69b1b46d63cce88984703cc0d1ca8e3b7ac35e1ef83dc4f250a8435cbb4d0659"), looks := false }, kinds := [], alts := [], laidByText := true, laidKinds := [.data], laidTests := true, laidLooks := .later }
def JournalFormatCardSaid : Prop := Claim7.holds Tryd.pinned (.plain (OpenSpec.ofChange journalFormatSpec)) journalFormatCard

/-- THE TIED CARD OF 'electionlaw16.JournalFull'. -/
def journalFullCard : Claim7 := { stood := { row := journalFullRow, standIns := [], harness := (true, "69b1b46d63cce88984703cc0d1ca8e3b7ac35e1ef83dc4f250a8435cbb4d0659"), looks := false }, kinds := [], alts := [], laidByText := true, laidKinds := [.data], laidTests := true, laidLooks := .later }
def JournalFullCardSaid : Prop := Claim7.holds Tryd.pinned (.plain (OpenSpec.ofChange journalFullSpec)) journalFullCard

/-- THE TIED CARD OF 'electionlaw16.JournalScript'. -/
def journalScriptCard : Claim7 := { stood := { row := journalScriptRow, standIns := [], harness := (true, "69b1b46d63cce88984703cc0d1ca8e3b7ac35e1ef83dc4f250a8435cbb4d0659"), looks := false }, kinds := [], alts := [], laidByText := true, laidKinds := [.data], laidTests := true, laidLooks := .later }
def JournalScriptCardSaid : Prop := Claim7.holds Tryd.pinned (.plain (OpenSpec.ofChange journalScriptSpec)) journalScriptCard

/-- THE TIED CARD OF 'electionlaw16.JournalNone'. -/
def journalNoneCard : Claim7 := { stood := { row := journalNoneRow, standIns := [], harness := (true, "69b1b46d63cce88984703cc0d1ca8e3b7ac35e1ef83dc4f250a8435cbb4d0659"), looks := false }, kinds := [], alts := [], laidByText := true, laidKinds := [.data], laidTests := true, laidLooks := .later }
def JournalNoneCardSaid : Prop := Claim7.holds Tryd.pinned (.plain (OpenSpec.ofChange journalNoneSpec)) journalNoneCard

/-- THE SECOND FORM's CARD OF 'electionlaw16.JournalOwn'. -/
def journalOwnUptoCard : Claim7 := { stood := { row := journalOwnUptoRow, standIns := [], harness := (true, "69b1b46d63cce88984703cc0d1ca8e3b7ac35e1ef83dc4f250a8435cbb4d0659"), looks := false }, kinds := [], alts := [], laidByText := true, laidKinds := [.data], laidTests := true, laidLooks := .later }
def JournalOwnUptoCardSaid : Prop := Claim7.holds Tryd.pinned (.plain (OpenSpec.upto journalOwnSpec)) journalOwnUptoCard

/-- THE SECOND FORM's CARD OF 'electionlaw16.JournalTorn'. -/
def journalTornUptoCard : Claim7 := { stood := { row := journalTornUptoRow, standIns := [], harness := (true, "69b1b46d63cce88984703cc0d1ca8e3b7ac35e1ef83dc4f250a8435cbb4d0659"), looks := false }, kinds := [], alts := [], laidByText := true, laidKinds := [.data], laidTests := true, laidLooks := .later }
def JournalTornUptoCardSaid : Prop := Claim7.holds Tryd.pinned (.plain (OpenSpec.upto journalTornSpec)) journalTornUptoCard

/-- THE SECOND FORM's CARD OF 'electionlaw16.JournalFormat'. -/
def journalFormatUptoCard : Claim7 := { stood := { row := journalFormatUptoRow, standIns := [], harness := (true, "69b1b46d63cce88984703cc0d1ca8e3b7ac35e1ef83dc4f250a8435cbb4d0659"), looks := false }, kinds := [], alts := [], laidByText := true, laidKinds := [.data], laidTests := true, laidLooks := .later }
def JournalFormatUptoCardSaid : Prop := Claim7.holds Tryd.pinned (.plain (OpenSpec.upto journalFormatSpec)) journalFormatUptoCard

/-- THE SECOND FORM's CARD OF 'electionlaw16.JournalFull'. -/
def journalFullUptoCard : Claim7 := { stood := { row := journalFullUptoRow, standIns := [], harness := (true, "69b1b46d63cce88984703cc0d1ca8e3b7ac35e1ef83dc4f250a8435cbb4d0659"), looks := false }, kinds := [], alts := [], laidByText := true, laidKinds := [.data], laidTests := true, laidLooks := .later }
def JournalFullUptoCardSaid : Prop := Claim7.holds Tryd.pinned (.plain (OpenSpec.upto journalFullSpec)) journalFullUptoCard

/-- THE SECOND FORM's CARD OF 'electionlaw16.JournalScript'. -/
def journalScriptUptoCard : Claim7 := { stood := { row := journalScriptUptoRow, standIns := [], harness := (true, "69b1b46d63cce88984703cc0d1ca8e3b7ac35e1ef83dc4f250a8435cbb4d0659"), looks := false }, kinds := [], alts := [], laidByText := true, laidKinds := [.data], laidTests := true, laidLooks := .later }
def JournalScriptUptoCardSaid : Prop := Claim7.holds Tryd.pinned (.plain (OpenSpec.upto journalScriptSpec)) journalScriptUptoCard

/-- THE SECOND FORM's CARD OF 'electionlaw16.JournalNone'. -/
def journalNoneUptoCard : Claim7 := { stood := { row := journalNoneUptoRow, standIns := [], harness := (true, "69b1b46d63cce88984703cc0d1ca8e3b7ac35e1ef83dc4f250a8435cbb4d0659"), looks := false }, kinds := [], alts := [], laidByText := true, laidKinds := [.data], laidTests := true, laidLooks := .later }
def JournalNoneUptoCardSaid : Prop := Claim7.holds Tryd.pinned (.plain (OpenSpec.upto journalNoneSpec)) journalNoneUptoCard
end Rows
end Go.Proofs.YtlelkhonkhlflaaDoor
