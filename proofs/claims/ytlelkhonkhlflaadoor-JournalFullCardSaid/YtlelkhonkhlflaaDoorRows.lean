/-
  NARROWER THAN 'FOR EVERY INPUT', by the rows' own cells (each row's printed sentence says how): JournalOwn: laid · JournalTorn: laid · JournalFormat: laid · JournalFull: laid · JournalScript: laid · JournalNone: laid.
  DERIVED. THE GIVEN ROWS OF THIS SEAT. 6 by the template 'for every input the law returns true; each argument reads behind the call as it read before'; 0 by the template 'total and deterministic' (their statements: YtlelkhonkhlflaaDoorTotals.lean).
  GIVEN WITH THE SEED: the statements are not yours to turn. If you find one false, say at which input.
  Laid BY PROGRAM, IN A SANDBOX (cutbox-rows.mjs): the forced cells as the released guide's own fill.sh prints them over the translation 066717414cd7f83c… (all of the seat's roots in one cut). By AI agents, Wed Nov 11 2026. No macro, syntax, notation, axiom, sorry.
-/
import Derived.Test.YtlelkhonkhlflaaDoorChecked
import GoSem.Claim
import GoSem.ClaimJoined
import GoSem.ClaimMapViews
import Derived.JoinedTies
import Derived.KernelRfl
namespace Go.Proofs.YtlelkhonkhlflaaDoor
/- THE CELL 'sum', in the pinned program and in every row, IS THE sha256 OF THE DUMP (.gsa) THAT YtlelkhonkhlflaaDoorProg.lean LOADS. Nothing in Lean hashes anything: it is a label: what it is worth is what the hold of that sum in a sandbox is worth. -/
noncomputable def Tryd.pinned : Pinned := { name := "ytlelkhonkhlflaadoor", sum := "066717414cd7f83cdeaf3bf0fcf5967785c4dcff9f5217de8f0c546557f90390", checked := Tryd.checked }
namespace Rows
def none {H : Type} : Left H := { results := [], args := [] }

/- WHAT THE LISTED PACKAGE-LEVEL VARIABLES READ AS WHEN THE CALL BEGINS. Each datum BY PROGRAM (the guide's laid-datum.mjs) off the statement by which the dump's own 'gosem.cut.vars' lays the variable. In a bare row this is a premise. The card (YtlelkhonkhlflaaDoorCards.lean) ties it to the program's text. -/
def laid_election_digest_constants {H : Type} : DataW H := .agg [.lit (.int .u32 1116352408), .lit (.int .u32 1899447441), .lit (.int .u32 3049323471), .lit (.int .u32 3921009573), .lit (.int .u32 961987163), .lit (.int .u32 1508970993), .lit (.int .u32 2453635748), .lit (.int .u32 2870763221), .lit (.int .u32 3624381080), .lit (.int .u32 310598401), .lit (.int .u32 607225278), .lit (.int .u32 1426881987), .lit (.int .u32 1925078388), .lit (.int .u32 2162078206), .lit (.int .u32 2614888103), .lit (.int .u32 3248222580), .lit (.int .u32 3835390401), .lit (.int .u32 4022224774), .lit (.int .u32 264347078), .lit (.int .u32 604807628), .lit (.int .u32 770255983), .lit (.int .u32 1249150122), .lit (.int .u32 1555081692), .lit (.int .u32 1996064986), .lit (.int .u32 2554220882), .lit (.int .u32 2821834349), .lit (.int .u32 2952996808), .lit (.int .u32 3210313671), .lit (.int .u32 3336571891), .lit (.int .u32 3584528711), .lit (.int .u32 113926993), .lit (.int .u32 338241895), .lit (.int .u32 666307205), .lit (.int .u32 773529912), .lit (.int .u32 1294757372), .lit (.int .u32 1396182291), .lit (.int .u32 1695183700), .lit (.int .u32 1986661051), .lit (.int .u32 2177026350), .lit (.int .u32 2456956037), .lit (.int .u32 2730485921), .lit (.int .u32 2820302411), .lit (.int .u32 3259730800), .lit (.int .u32 3345764771), .lit (.int .u32 3516065817), .lit (.int .u32 3600352804), .lit (.int .u32 4094571909), .lit (.int .u32 275423344), .lit (.int .u32 430227734), .lit (.int .u32 506948616), .lit (.int .u32 659060556), .lit (.int .u32 883997877), .lit (.int .u32 958139571), .lit (.int .u32 1322822218), .lit (.int .u32 1537002063), .lit (.int .u32 1747873779), .lit (.int .u32 1955562222), .lit (.int .u32 2024104815), .lit (.int .u32 2227730452), .lit (.int .u32 2361852424), .lit (.int .u32 2428436474), .lit (.int .u32 2756734187), .lit (.int .u32 3204031479), .lit (.int .u32 3329325298)]

/-- 'electionlaw16.JournalOwn': WHATEVER THE INPUT: true; the input reads as it did. -/
def journalOwnSpec : ChangeSpec := { name := "journalOwn", fn := fun _ => fun
  | [d] => { results := [.lit (.bool true)], args := [d] }
  | _ => none }
def journalOwnRow : OpenClaim := { program := "ytlelkhonkhlflaadoor", sum := "066717414cd7f83cdeaf3bf0fcf5967785c4dcff9f5217de8f0c546557f90390", func := "election/electionlaw16.JournalOwn", spec := "journalOwn", inPlace := ["internal/bytealg.Count", "internal/bytealg.IndexByte", "internal/bytealg.Index"], unfollowed := true, recurses := true, named := ["election/digest.constants", "internal/bytealg.MaxLen"], apart := false, laid := [("election/digest.constants", laid_election_digest_constants)] }
def JournalOwnSaid : Prop := journalOwnRow.holds Tryd.pinned (OpenSpec.ofChange journalOwnSpec)

/-- ITS FALSE NEIGHBOUR: 'it returns false'. Refute it at one input. -/
def journalOwnWrong : ChangeSpec := { name := "journalOwn", fn := fun _ => fun
  | [d] => { results := [.lit (.bool false)], args := [d] }
  | _ => none }
def JournalOwnWrongFalsely : Prop := journalOwnRow.holds Tryd.pinned (OpenSpec.ofChange journalOwnWrong)

/-- 'electionlaw16.JournalTorn': WHATEVER THE INPUT: true; the input reads as it did. -/
def journalTornSpec : ChangeSpec := { name := "journalTorn", fn := fun _ => fun
  | [d] => { results := [.lit (.bool true)], args := [d] }
  | _ => none }
def journalTornRow : OpenClaim := { program := "ytlelkhonkhlflaadoor", sum := "066717414cd7f83cdeaf3bf0fcf5967785c4dcff9f5217de8f0c546557f90390", func := "election/electionlaw16.JournalTorn", spec := "journalTorn", inPlace := ["internal/bytealg.Count", "internal/bytealg.IndexByte", "internal/bytealg.Index"], unfollowed := true, recurses := true, named := ["election/digest.constants", "internal/bytealg.MaxLen"], apart := false, laid := [("election/digest.constants", laid_election_digest_constants)] }
def JournalTornSaid : Prop := journalTornRow.holds Tryd.pinned (OpenSpec.ofChange journalTornSpec)

/-- ITS FALSE NEIGHBOUR: 'it returns false'. Refute it at one input. -/
def journalTornWrong : ChangeSpec := { name := "journalTorn", fn := fun _ => fun
  | [d] => { results := [.lit (.bool false)], args := [d] }
  | _ => none }
def JournalTornWrongFalsely : Prop := journalTornRow.holds Tryd.pinned (OpenSpec.ofChange journalTornWrong)

/-- 'electionlaw16.JournalFormat': WHATEVER THE INPUT: true; the input reads as it did. -/
def journalFormatSpec : ChangeSpec := { name := "journalFormat", fn := fun _ => fun
  | [d1, d2, d3] => { results := [.lit (.bool true)], args := [d1, d2, d3] }
  | _ => none }
def journalFormatRow : OpenClaim := { program := "ytlelkhonkhlflaadoor", sum := "066717414cd7f83cdeaf3bf0fcf5967785c4dcff9f5217de8f0c546557f90390", func := "election/electionlaw16.JournalFormat", spec := "journalFormat", inPlace := ["internal/bytealg.Count", "internal/bytealg.IndexByte", "internal/bytealg.Index"], unfollowed := true, recurses := true, named := ["election/digest.constants", "internal/bytealg.MaxLen"], apart := false, laid := [("election/digest.constants", laid_election_digest_constants)] }
def JournalFormatSaid : Prop := journalFormatRow.holds Tryd.pinned (OpenSpec.ofChange journalFormatSpec)

/-- ITS FALSE NEIGHBOUR: 'it returns false'. Refute it at one input. -/
def journalFormatWrong : ChangeSpec := { name := "journalFormat", fn := fun _ => fun
  | [d1, d2, d3] => { results := [.lit (.bool false)], args := [d1, d2, d3] }
  | _ => none }
def JournalFormatWrongFalsely : Prop := journalFormatRow.holds Tryd.pinned (OpenSpec.ofChange journalFormatWrong)

/-- 'electionlaw16.JournalFull': WHATEVER THE INPUT: true; the input reads as it did. -/
def journalFullSpec : ChangeSpec := { name := "journalFull", fn := fun _ => fun
  | [d1, d2] => { results := [.lit (.bool true)], args := [d1, d2] }
  | _ => none }
def journalFullRow : OpenClaim := { program := "ytlelkhonkhlflaadoor", sum := "066717414cd7f83cdeaf3bf0fcf5967785c4dcff9f5217de8f0c546557f90390", func := "election/electionlaw16.JournalFull", spec := "journalFull", inPlace := ["internal/bytealg.Count", "internal/bytealg.IndexByte", "internal/bytealg.Index"], unfollowed := true, recurses := true, named := ["election/digest.constants", "internal/bytealg.MaxLen"], apart := false, laid := [("election/digest.constants", laid_election_digest_constants)] }
def JournalFullSaid : Prop := journalFullRow.holds Tryd.pinned (OpenSpec.ofChange journalFullSpec)

/-- ITS FALSE NEIGHBOUR: 'it returns false'. Refute it at one input. -/
def journalFullWrong : ChangeSpec := { name := "journalFull", fn := fun _ => fun
  | [d1, d2] => { results := [.lit (.bool false)], args := [d1, d2] }
  | _ => none }
def JournalFullWrongFalsely : Prop := journalFullRow.holds Tryd.pinned (OpenSpec.ofChange journalFullWrong)

/-- 'electionlaw16.JournalScript': WHATEVER THE INPUT: true; the input reads as it did. -/
def journalScriptSpec : ChangeSpec := { name := "journalScript", fn := fun _ => fun
  | [d1, d2] => { results := [.lit (.bool true)], args := [d1, d2] }
  | _ => none }
def journalScriptRow : OpenClaim := { program := "ytlelkhonkhlflaadoor", sum := "066717414cd7f83cdeaf3bf0fcf5967785c4dcff9f5217de8f0c546557f90390", func := "election/electionlaw16.JournalScript", spec := "journalScript", inPlace := ["internal/bytealg.Count", "internal/bytealg.IndexByte", "internal/bytealg.Index"], unfollowed := true, recurses := true, named := ["election/digest.constants", "internal/bytealg.MaxLen"], apart := false, laid := [("election/digest.constants", laid_election_digest_constants)] }
def JournalScriptSaid : Prop := journalScriptRow.holds Tryd.pinned (OpenSpec.ofChange journalScriptSpec)

/-- ITS FALSE NEIGHBOUR: 'it returns false'. Refute it at one input. -/
def journalScriptWrong : ChangeSpec := { name := "journalScript", fn := fun _ => fun
  | [d1, d2] => { results := [.lit (.bool false)], args := [d1, d2] }
  | _ => none }
def JournalScriptWrongFalsely : Prop := journalScriptRow.holds Tryd.pinned (OpenSpec.ofChange journalScriptWrong)

/-- 'electionlaw16.JournalNone': WHATEVER THE INPUT: true; the input reads as it did. -/
def journalNoneSpec : ChangeSpec := { name := "journalNone", fn := fun _ => fun
  | [] => { results := [.lit (.bool true)], args := [] }
  | _ => none }
def journalNoneRow : OpenClaim := { program := "ytlelkhonkhlflaadoor", sum := "066717414cd7f83cdeaf3bf0fcf5967785c4dcff9f5217de8f0c546557f90390", func := "election/electionlaw16.JournalNone", spec := "journalNone", inPlace := ["internal/bytealg.Count", "internal/bytealg.IndexByte", "internal/bytealg.Index"], unfollowed := true, recurses := true, named := ["election/digest.constants", "internal/bytealg.MaxLen"], apart := false, laid := [("election/digest.constants", laid_election_digest_constants)] }
def JournalNoneSaid : Prop := journalNoneRow.holds Tryd.pinned (OpenSpec.ofChange journalNoneSpec)

/-- ITS FALSE NEIGHBOUR: 'it returns false'. Refute it at one input. -/
def journalNoneWrong : ChangeSpec := { name := "journalNone", fn := fun _ => fun
  | [] => { results := [.lit (.bool false)], args := [] }
  | _ => none }
def JournalNoneWrongFalsely : Prop := journalNoneRow.holds Tryd.pinned (OpenSpec.ofChange journalNoneWrong)

/- THE SECOND FORM. 'bulk': how many values and letters a reading holds, each counted each time it is reached (what is shared counts as often as it is met; a slice's spare places count too). A statement '..UptoSaid' is the law's where the arguments, and the package variables that the reading takes, are together of bulk at most 1048576: NARROWER than '..Said'. Prove '..Said' where nothing that the law and all that it calls make is longer than what came in: it says more and counts as full. Else prove '..UptoSaid'. A law counts once. -/
mutual
def uptoBulk {H : Type} : DataW H → Nat
  | .lit (.string bytes) => bytes.length + 1
  | .lit _ => 1
  | .nil => 1
  | .ptr d => uptoBulk d + 1
  | .slice elems spare => uptoBulkAll elems + uptoBulkAll spare + 1
  | .agg parts => uptoBulkAll parts + 1
  | .iface _ d => uptoBulk d + 1
  | .map entries => uptoBulkEntries entries + 1
  | .held _ => 1
def uptoBulkAll {H : Type} : List (DataW H) → Nat
  | [] => 0
  | d :: r => uptoBulk d + uptoBulkAll r
def uptoBulkEntries {H : Type} : List (Lit × DataW H) → Nat
  | [] => 0
  | x :: r => uptoBulkEntry x + uptoBulkEntries r
def uptoBulkEntry {H : Type} : Lit × DataW H → Nat
  | (.string bytes, d) => bytes.length + uptoBulk d + 1
  | (_, d) => uptoBulk d + 1
 end
def uptoSmall : (H : Type) → List (DataW H) → Bool := fun _ ds => decide (uptoBulkAll ds ≤ 1048576)
def OpenSpec.upto (s : _root_.Go.ChangeSpec) : _root_.Go.OpenSpec := { _root_.Go.OpenSpec.ofChange s with cond := some uptoSmall }

/-- 'electionlaw16.JournalOwn', WHERE WHAT IT READS IS OF BULK AT MOST 1048576: true; the input reads as it did. -/
def journalOwnUptoRow : OpenClaim := { program := "ytlelkhonkhlflaadoor", sum := "066717414cd7f83cdeaf3bf0fcf5967785c4dcff9f5217de8f0c546557f90390", func := "election/electionlaw16.JournalOwn", spec := "journalOwn", inPlace := ["internal/bytealg.Count", "internal/bytealg.IndexByte", "internal/bytealg.Index"], unfollowed := true, recurses := true, named := ["election/digest.constants", "internal/bytealg.MaxLen"], apart := false, laid := [("election/digest.constants", laid_election_digest_constants)], narrowed := true }
def JournalOwnUptoSaid : Prop := journalOwnUptoRow.holds Tryd.pinned (OpenSpec.upto journalOwnSpec)

/-- 'electionlaw16.JournalTorn', WHERE WHAT IT READS IS OF BULK AT MOST 1048576: true; the input reads as it did. -/
def journalTornUptoRow : OpenClaim := { program := "ytlelkhonkhlflaadoor", sum := "066717414cd7f83cdeaf3bf0fcf5967785c4dcff9f5217de8f0c546557f90390", func := "election/electionlaw16.JournalTorn", spec := "journalTorn", inPlace := ["internal/bytealg.Count", "internal/bytealg.IndexByte", "internal/bytealg.Index"], unfollowed := true, recurses := true, named := ["election/digest.constants", "internal/bytealg.MaxLen"], apart := false, laid := [("election/digest.constants", laid_election_digest_constants)], narrowed := true }
def JournalTornUptoSaid : Prop := journalTornUptoRow.holds Tryd.pinned (OpenSpec.upto journalTornSpec)

/-- 'electionlaw16.JournalFormat', WHERE WHAT IT READS IS OF BULK AT MOST 1048576: true; the input reads as it did. -/
def journalFormatUptoRow : OpenClaim := { program := "ytlelkhonkhlflaadoor", sum := "066717414cd7f83cdeaf3bf0fcf5967785c4dcff9f5217de8f0c546557f90390", func := "election/electionlaw16.JournalFormat", spec := "journalFormat", inPlace := ["internal/bytealg.Count", "internal/bytealg.IndexByte", "internal/bytealg.Index"], unfollowed := true, recurses := true, named := ["election/digest.constants", "internal/bytealg.MaxLen"], apart := false, laid := [("election/digest.constants", laid_election_digest_constants)], narrowed := true }
def JournalFormatUptoSaid : Prop := journalFormatUptoRow.holds Tryd.pinned (OpenSpec.upto journalFormatSpec)

/-- 'electionlaw16.JournalFull', WHERE WHAT IT READS IS OF BULK AT MOST 1048576: true; the input reads as it did. -/
def journalFullUptoRow : OpenClaim := { program := "ytlelkhonkhlflaadoor", sum := "066717414cd7f83cdeaf3bf0fcf5967785c4dcff9f5217de8f0c546557f90390", func := "election/electionlaw16.JournalFull", spec := "journalFull", inPlace := ["internal/bytealg.Count", "internal/bytealg.IndexByte", "internal/bytealg.Index"], unfollowed := true, recurses := true, named := ["election/digest.constants", "internal/bytealg.MaxLen"], apart := false, laid := [("election/digest.constants", laid_election_digest_constants)], narrowed := true }
def JournalFullUptoSaid : Prop := journalFullUptoRow.holds Tryd.pinned (OpenSpec.upto journalFullSpec)

/-- 'electionlaw16.JournalScript', WHERE WHAT IT READS IS OF BULK AT MOST 1048576: true; the input reads as it did. -/
def journalScriptUptoRow : OpenClaim := { program := "ytlelkhonkhlflaadoor", sum := "066717414cd7f83cdeaf3bf0fcf5967785c4dcff9f5217de8f0c546557f90390", func := "election/electionlaw16.JournalScript", spec := "journalScript", inPlace := ["internal/bytealg.Count", "internal/bytealg.IndexByte", "internal/bytealg.Index"], unfollowed := true, recurses := true, named := ["election/digest.constants", "internal/bytealg.MaxLen"], apart := false, laid := [("election/digest.constants", laid_election_digest_constants)], narrowed := true }
def JournalScriptUptoSaid : Prop := journalScriptUptoRow.holds Tryd.pinned (OpenSpec.upto journalScriptSpec)

/-- 'electionlaw16.JournalNone', WHERE WHAT IT READS IS OF BULK AT MOST 1048576: true; the input reads as it did. -/
def journalNoneUptoRow : OpenClaim := { program := "ytlelkhonkhlflaadoor", sum := "066717414cd7f83cdeaf3bf0fcf5967785c4dcff9f5217de8f0c546557f90390", func := "election/electionlaw16.JournalNone", spec := "journalNone", inPlace := ["internal/bytealg.Count", "internal/bytealg.IndexByte", "internal/bytealg.Index"], unfollowed := true, recurses := true, named := ["election/digest.constants", "internal/bytealg.MaxLen"], apart := false, laid := [("election/digest.constants", laid_election_digest_constants)], narrowed := true }
def JournalNoneUptoSaid : Prop := journalNoneUptoRow.holds Tryd.pinned (OpenSpec.upto journalNoneSpec)

end Rows
end Go.Proofs.YtlelkhonkhlflaaDoor
