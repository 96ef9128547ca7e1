/-
  No cell of these rows narrows 'for every input' (looked for: loops, veiled, ifaces, maps, wideKeys, modest, calm, conditions, laid).
  DERIVED. THE GIVEN ROWS OF THIS SEAT. 7 by the template 'for every input the law returns true; each argument reads behind the call as it read before'; 0 by the template 'total and deterministic' (their statements: YthhelhggggbaiaaTotals.lean).
  GIVEN WITH THE SEED: the statements are not yours to turn. If you find one false, say at which input.
  Laid BY PROGRAM, IN A SANDBOX (cutbox-rows.mjs): the forced cells as the released guide's own fill.sh prints them over the translation 6346f4e0c19fcd9c… (all of the seat's roots in one cut). By AI agents, Wed Nov 11 2026. No macro, syntax, notation, axiom, sorry.
-/
import Derived.Test.YthhelhggggbaiaaChecked
import GoSem.Claim
import GoSem.ClaimJoined
import GoSem.ClaimMapViews
import Derived.JoinedTies
import Derived.KernelRfl
namespace Go.Proofs.Ythhelhggggbaiaa
/- THE CELL 'sum', in the pinned program and in every row, IS THE sha256 OF THE DUMP (.gsa) THAT YthhelhggggbaiaaProg.lean LOADS. Nothing in Lean hashes anything: it is a label: what it is worth is what the hold of that sum in a sandbox is worth. -/
noncomputable def Try.pinned : Pinned := { name := "ythhelhggggbaiaa", sum := "6346f4e0c19fcd9cde2c1f7317c70c07ec0bddc8a11f7ebf0f38263f287a5a82", checked := Try.checked }
namespace Rows
def none {H : Type} : Left H := { results := [], args := [] }

/-- 'electionlaw21.LinkSender': WHATEVER THE INPUT: true; the input reads as it did. -/
def linkSenderSpec : ChangeSpec := { name := "linkSender", fn := fun _ => fun
  | [d1, d2, d3] => { results := [.lit (.bool true)], args := [d1, d2, d3] }
  | _ => none }
def linkSenderRow : OpenClaim := { program := "ythhelhggggbaiaa", sum := "6346f4e0c19fcd9cde2c1f7317c70c07ec0bddc8a11f7ebf0f38263f287a5a82", func := "election/electionlaw21.LinkSender", spec := "linkSender", apart := false }
def LinkSenderSaid : Prop := linkSenderRow.holds Try.pinned (OpenSpec.ofChange linkSenderSpec)

/-- ITS FALSE NEIGHBOUR: 'it returns false'. Refute it at one input. -/
def linkSenderWrong : ChangeSpec := { name := "linkSender", fn := fun _ => fun
  | [d1, d2, d3] => { results := [.lit (.bool false)], args := [d1, d2, d3] }
  | _ => none }
def LinkSenderWrongFalsely : Prop := linkSenderRow.holds Try.pinned (OpenSpec.ofChange linkSenderWrong)

/-- 'electionlaw21.LinkOwn': WHATEVER THE INPUT: true; the input reads as it did. -/
def linkOwnSpec : ChangeSpec := { name := "linkOwn", fn := fun _ => fun
  | [d] => { results := [.lit (.bool true)], args := [d] }
  | _ => none }
def linkOwnRow : OpenClaim := { program := "ythhelhggggbaiaa", sum := "6346f4e0c19fcd9cde2c1f7317c70c07ec0bddc8a11f7ebf0f38263f287a5a82", func := "election/electionlaw21.LinkOwn", spec := "linkOwn", apart := false }
def LinkOwnSaid : Prop := linkOwnRow.holds Try.pinned (OpenSpec.ofChange linkOwnSpec)

/-- ITS FALSE NEIGHBOUR: 'it returns false'. Refute it at one input. -/
def linkOwnWrong : ChangeSpec := { name := "linkOwn", fn := fun _ => fun
  | [d] => { results := [.lit (.bool false)], args := [d] }
  | _ => none }
def LinkOwnWrongFalsely : Prop := linkOwnRow.holds Try.pinned (OpenSpec.ofChange linkOwnWrong)

/-- 'electionlaw21.LinkReceiver': WHATEVER THE INPUT: true; the input reads as it did. -/
def linkReceiverSpec : ChangeSpec := { name := "linkReceiver", fn := fun _ => fun
  | [d1, d2] => { results := [.lit (.bool true)], args := [d1, d2] }
  | _ => none }
def linkReceiverRow : OpenClaim := { program := "ythhelhggggbaiaa", sum := "6346f4e0c19fcd9cde2c1f7317c70c07ec0bddc8a11f7ebf0f38263f287a5a82", func := "election/electionlaw21.LinkReceiver", spec := "linkReceiver", apart := false }
def LinkReceiverSaid : Prop := linkReceiverRow.holds Try.pinned (OpenSpec.ofChange linkReceiverSpec)

/-- ITS FALSE NEIGHBOUR: 'it returns false'. Refute it at one input. -/
def linkReceiverWrong : ChangeSpec := { name := "linkReceiver", fn := fun _ => fun
  | [d1, d2] => { results := [.lit (.bool false)], args := [d1, d2] }
  | _ => none }
def LinkReceiverWrongFalsely : Prop := linkReceiverRow.holds Try.pinned (OpenSpec.ofChange linkReceiverWrong)

/-- 'electionlaw21.LinkPrefix': WHATEVER THE INPUT: true; the input reads as it did. -/
def linkPrefixSpec : ChangeSpec := { name := "linkPrefix", fn := fun _ => fun
  | [d1, d2, d3] => { results := [.lit (.bool true)], args := [d1, d2, d3] }
  | _ => none }
def linkPrefixRow : OpenClaim := { program := "ythhelhggggbaiaa", sum := "6346f4e0c19fcd9cde2c1f7317c70c07ec0bddc8a11f7ebf0f38263f287a5a82", func := "election/electionlaw21.LinkPrefix", spec := "linkPrefix", apart := false }
def LinkPrefixSaid : Prop := linkPrefixRow.holds Try.pinned (OpenSpec.ofChange linkPrefixSpec)

/-- ITS FALSE NEIGHBOUR: 'it returns false'. Refute it at one input. -/
def linkPrefixWrong : ChangeSpec := { name := "linkPrefix", fn := fun _ => fun
  | [d1, d2, d3] => { results := [.lit (.bool false)], args := [d1, d2, d3] }
  | _ => none }
def LinkPrefixWrongFalsely : Prop := linkPrefixRow.holds Try.pinned (OpenSpec.ofChange linkPrefixWrong)

/-- 'electionlaw21.LinkEnds': WHATEVER THE INPUT: true; the input reads as it did. -/
def linkEndsSpec : ChangeSpec := { name := "linkEnds", fn := fun _ => fun
  | [d1, d2, d3] => { results := [.lit (.bool true)], args := [d1, d2, d3] }
  | _ => none }
def linkEndsRow : OpenClaim := { program := "ythhelhggggbaiaa", sum := "6346f4e0c19fcd9cde2c1f7317c70c07ec0bddc8a11f7ebf0f38263f287a5a82", func := "election/electionlaw21.LinkEnds", spec := "linkEnds", apart := false }
def LinkEndsSaid : Prop := linkEndsRow.holds Try.pinned (OpenSpec.ofChange linkEndsSpec)

/-- ITS FALSE NEIGHBOUR: 'it returns false'. Refute it at one input. -/
def linkEndsWrong : ChangeSpec := { name := "linkEnds", fn := fun _ => fun
  | [d1, d2, d3] => { results := [.lit (.bool false)], args := [d1, d2, d3] }
  | _ => none }
def LinkEndsWrongFalsely : Prop := linkEndsRow.holds Try.pinned (OpenSpec.ofChange linkEndsWrong)

/-- 'electionlaw21.LinkNone': WHATEVER THE INPUT: true; the input reads as it did. -/
def linkNoneSpec : ChangeSpec := { name := "linkNone", fn := fun _ => fun
  | [d1, d2] => { results := [.lit (.bool true)], args := [d1, d2] }
  | _ => none }
def linkNoneRow : OpenClaim := { program := "ythhelhggggbaiaa", sum := "6346f4e0c19fcd9cde2c1f7317c70c07ec0bddc8a11f7ebf0f38263f287a5a82", func := "election/electionlaw21.LinkNone", spec := "linkNone", apart := false }
def LinkNoneSaid : Prop := linkNoneRow.holds Try.pinned (OpenSpec.ofChange linkNoneSpec)

/-- ITS FALSE NEIGHBOUR: 'it returns false'. Refute it at one input. -/
def linkNoneWrong : ChangeSpec := { name := "linkNone", fn := fun _ => fun
  | [d1, d2] => { results := [.lit (.bool false)], args := [d1, d2] }
  | _ => none }
def LinkNoneWrongFalsely : Prop := linkNoneRow.holds Try.pinned (OpenSpec.ofChange linkNoneWrong)

/-- 'electionlaw21.LinkSplit': WHATEVER THE INPUT: true; the input reads as it did. -/
def linkSplitSpec : ChangeSpec := { name := "linkSplit", fn := fun _ => fun
  | [d1, d2] => { results := [.lit (.bool true)], args := [d1, d2] }
  | _ => none }
def linkSplitRow : OpenClaim := { program := "ythhelhggggbaiaa", sum := "6346f4e0c19fcd9cde2c1f7317c70c07ec0bddc8a11f7ebf0f38263f287a5a82", func := "election/electionlaw21.LinkSplit", spec := "linkSplit", inPlace := ["internal/bytealg.MakeNoZero"], apart := false }
def LinkSplitSaid : Prop := linkSplitRow.holds Try.pinned (OpenSpec.ofChange linkSplitSpec)

/-- ITS FALSE NEIGHBOUR: 'it returns false'. Refute it at one input. -/
def linkSplitWrong : ChangeSpec := { name := "linkSplit", fn := fun _ => fun
  | [d1, d2] => { results := [.lit (.bool false)], args := [d1, d2] }
  | _ => none }
def LinkSplitWrongFalsely : Prop := linkSplitRow.holds Try.pinned (OpenSpec.ofChange linkSplitWrong)

/- THE SECOND FORM. 'bulk': how many values and letters a reading holds, each counted each time it is reached (what is shared counts as often as it is met; a slice's spare places count too). A statement '..UptoSaid' is the law's where the arguments, and the package variables that the reading takes, are together of bulk at most 1048576: NARROWER than '..Said'. Prove '..Said' where nothing that the law and all that it calls make is longer than what came in: it says more and counts as full. Else prove '..UptoSaid'. A law counts once. -/
mutual
def uptoBulk {H : Type} : DataW H → Nat
  | .lit (.string bytes) => bytes.length + 1
  | .lit _ => 1
  | .nil => 1
  | .ptr d => uptoBulk d + 1
  | .slice elems spare => uptoBulkAll elems + uptoBulkAll spare + 1
  | .agg parts => uptoBulkAll parts + 1
  | .iface _ d => uptoBulk d + 1
  | .map entries => uptoBulkEntries entries + 1
  | .held _ => 1
def uptoBulkAll {H : Type} : List (DataW H) → Nat
  | [] => 0
  | d :: r => uptoBulk d + uptoBulkAll r
def uptoBulkEntries {H : Type} : List (Lit × DataW H) → Nat
  | [] => 0
  | x :: r => uptoBulkEntry x + uptoBulkEntries r
def uptoBulkEntry {H : Type} : Lit × DataW H → Nat
  | (.string bytes, d) => bytes.length + uptoBulk d + 1
  | (_, d) => uptoBulk d + 1
 end
def uptoSmall : (H : Type) → List (DataW H) → Bool := fun _ ds => decide (uptoBulkAll ds ≤ 1048576)
def OpenSpec.upto (s : _root_.Go.ChangeSpec) : _root_.Go.OpenSpec := { _root_.Go.OpenSpec.ofChange s with cond := some uptoSmall }

/-- 'electionlaw21.LinkSender', WHERE WHAT IT READS IS OF BULK AT MOST 1048576: true; the input reads as it did. -/
def linkSenderUptoRow : OpenClaim := { program := "ythhelhggggbaiaa", sum := "6346f4e0c19fcd9cde2c1f7317c70c07ec0bddc8a11f7ebf0f38263f287a5a82", func := "election/electionlaw21.LinkSender", spec := "linkSender", apart := false, narrowed := true }
def LinkSenderUptoSaid : Prop := linkSenderUptoRow.holds Try.pinned (OpenSpec.upto linkSenderSpec)

/-- 'electionlaw21.LinkOwn', WHERE WHAT IT READS IS OF BULK AT MOST 1048576: true; the input reads as it did. -/
def linkOwnUptoRow : OpenClaim := { program := "ythhelhggggbaiaa", sum := "6346f4e0c19fcd9cde2c1f7317c70c07ec0bddc8a11f7ebf0f38263f287a5a82", func := "election/electionlaw21.LinkOwn", spec := "linkOwn", apart := false, narrowed := true }
def LinkOwnUptoSaid : Prop := linkOwnUptoRow.holds Try.pinned (OpenSpec.upto linkOwnSpec)

/-- 'electionlaw21.LinkReceiver', WHERE WHAT IT READS IS OF BULK AT MOST 1048576: true; the input reads as it did. -/
def linkReceiverUptoRow : OpenClaim := { program := "ythhelhggggbaiaa", sum := "6346f4e0c19fcd9cde2c1f7317c70c07ec0bddc8a11f7ebf0f38263f287a5a82", func := "election/electionlaw21.LinkReceiver", spec := "linkReceiver", apart := false, narrowed := true }
def LinkReceiverUptoSaid : Prop := linkReceiverUptoRow.holds Try.pinned (OpenSpec.upto linkReceiverSpec)

/-- 'electionlaw21.LinkPrefix', WHERE WHAT IT READS IS OF BULK AT MOST 1048576: true; the input reads as it did. -/
def linkPrefixUptoRow : OpenClaim := { program := "ythhelhggggbaiaa", sum := "6346f4e0c19fcd9cde2c1f7317c70c07ec0bddc8a11f7ebf0f38263f287a5a82", func := "election/electionlaw21.LinkPrefix", spec := "linkPrefix", apart := false, narrowed := true }
def LinkPrefixUptoSaid : Prop := linkPrefixUptoRow.holds Try.pinned (OpenSpec.upto linkPrefixSpec)

/-- 'electionlaw21.LinkEnds', WHERE WHAT IT READS IS OF BULK AT MOST 1048576: true; the input reads as it did. -/
def linkEndsUptoRow : OpenClaim := { program := "ythhelhggggbaiaa", sum := "6346f4e0c19fcd9cde2c1f7317c70c07ec0bddc8a11f7ebf0f38263f287a5a82", func := "election/electionlaw21.LinkEnds", spec := "linkEnds", apart := false, narrowed := true }
def LinkEndsUptoSaid : Prop := linkEndsUptoRow.holds Try.pinned (OpenSpec.upto linkEndsSpec)

/-- 'electionlaw21.LinkNone', WHERE WHAT IT READS IS OF BULK AT MOST 1048576: true; the input reads as it did. -/
def linkNoneUptoRow : OpenClaim := { program := "ythhelhggggbaiaa", sum := "6346f4e0c19fcd9cde2c1f7317c70c07ec0bddc8a11f7ebf0f38263f287a5a82", func := "election/electionlaw21.LinkNone", spec := "linkNone", apart := false, narrowed := true }
def LinkNoneUptoSaid : Prop := linkNoneUptoRow.holds Try.pinned (OpenSpec.upto linkNoneSpec)

/-- 'electionlaw21.LinkSplit', WHERE WHAT IT READS IS OF BULK AT MOST 1048576: true; the input reads as it did. -/
def linkSplitUptoRow : OpenClaim := { program := "ythhelhggggbaiaa", sum := "6346f4e0c19fcd9cde2c1f7317c70c07ec0bddc8a11f7ebf0f38263f287a5a82", func := "election/electionlaw21.LinkSplit", spec := "linkSplit", inPlace := ["internal/bytealg.MakeNoZero"], apart := false, narrowed := true }
def LinkSplitUptoSaid : Prop := linkSplitUptoRow.holds Try.pinned (OpenSpec.upto linkSplitSpec)

end Rows
end Go.Proofs.Ythhelhggggbaiaa
