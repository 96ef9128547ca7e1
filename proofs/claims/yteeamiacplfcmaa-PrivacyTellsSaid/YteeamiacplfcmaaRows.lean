/-
  No cell of these rows narrows 'for every input' (looked for: loops, veiled, ifaces, maps, wideKeys, modest, calm, conditions, laid).
  DERIVED. THE GIVEN ROWS OF THIS SEAT. 3 by the template 'for every input the law returns true; each argument reads behind the call as it read before'; 0 by the template 'total and deterministic' (their statements: YteeamiacplfcmaaTotals.lean).
  GIVEN WITH THE SEED: the statements are not yours to turn. If you find one false, say at which input.
  Laid BY PROGRAM, IN A SANDBOX (cutbox-rows.mjs): the forced cells as the released guide's own fill.sh prints them over the translation 3416f8c7fba5523d… (all of the seat's roots in one cut). By AI agents, Wed Nov 11 2026. No macro, syntax, notation, axiom, sorry.
-/
import Derived.Test.YteeamiacplfcmaaChecked
import GoSem.Claim
import GoSem.ClaimJoined
import GoSem.ClaimMapViews
import Derived.JoinedTies
import Derived.KernelRfl
namespace Go.Proofs.Yteeamiacplfcmaa
/- THE CELL 'sum', in the pinned program and in every row, IS THE sha256 OF THE DUMP (.gsa) THAT YteeamiacplfcmaaProg.lean LOADS. Nothing in Lean hashes anything: it is a label: what it is worth is what the hold of that sum in a sandbox is worth. -/
noncomputable def Try.pinned : Pinned := { name := "yteeamiacplfcmaa", sum := "3416f8c7fba5523daf63f582070bb85a271d9e1d08898d2a0f7d44ac4fb312ae", checked := Try.checked }
namespace Rows
def none {H : Type} : Left H := { results := [], args := [] }

/-- 'electionlaw42.PrivacyStays': WHATEVER THE INPUT: true; the input reads as it did. -/
def privacyStaysSpec : ChangeSpec := { name := "privacyStays", fn := fun _ => fun
  | [d1, d2, d3, d4] => { results := [.lit (.bool true)], args := [d1, d2, d3, d4] }
  | _ => none }
def privacyStaysRow : OpenClaim := { program := "yteeamiacplfcmaa", sum := "3416f8c7fba5523daf63f582070bb85a271d9e1d08898d2a0f7d44ac4fb312ae", func := "election/electionlaw42.PrivacyStays", spec := "privacyStays", unfollowed := true, recurses := true, apart := false }
def PrivacyStaysSaid : Prop := privacyStaysRow.holds Try.pinned (OpenSpec.ofChange privacyStaysSpec)

/-- ITS FALSE NEIGHBOUR: 'it returns false'. Refute it at one input. -/
def privacyStaysWrong : ChangeSpec := { name := "privacyStays", fn := fun _ => fun
  | [d1, d2, d3, d4] => { results := [.lit (.bool false)], args := [d1, d2, d3, d4] }
  | _ => none }
def PrivacyStaysWrongFalsely : Prop := privacyStaysRow.holds Try.pinned (OpenSpec.ofChange privacyStaysWrong)

/-- 'electionlaw42.PrivacyTells': WHATEVER THE INPUT: true; the input reads as it did. -/
def privacyTellsSpec : ChangeSpec := { name := "privacyTells", fn := fun _ => fun
  | [d1, d2, d3, d4, d5, d6] => { results := [.lit (.bool true)], args := [d1, d2, d3, d4, d5, d6] }
  | _ => none }
def privacyTellsRow : OpenClaim := { program := "yteeamiacplfcmaa", sum := "3416f8c7fba5523daf63f582070bb85a271d9e1d08898d2a0f7d44ac4fb312ae", func := "election/electionlaw42.PrivacyTells", spec := "privacyTells", unfollowed := true, recurses := true, apart := false }
def PrivacyTellsSaid : Prop := privacyTellsRow.holds Try.pinned (OpenSpec.ofChange privacyTellsSpec)

/-- ITS FALSE NEIGHBOUR: 'it returns false'. Refute it at one input. -/
def privacyTellsWrong : ChangeSpec := { name := "privacyTells", fn := fun _ => fun
  | [d1, d2, d3, d4, d5, d6] => { results := [.lit (.bool false)], args := [d1, d2, d3, d4, d5, d6] }
  | _ => none }
def PrivacyTellsWrongFalsely : Prop := privacyTellsRow.holds Try.pinned (OpenSpec.ofChange privacyTellsWrong)

/-- 'electionlaw42.PrivacySafe': WHATEVER THE INPUT: true; the input reads as it did. -/
def privacySafeSpec : ChangeSpec := { name := "privacySafe", fn := fun _ => fun
  | [d1, d2, d3, d4] => { results := [.lit (.bool true)], args := [d1, d2, d3, d4] }
  | _ => none }
def privacySafeRow : OpenClaim := { program := "yteeamiacplfcmaa", sum := "3416f8c7fba5523daf63f582070bb85a271d9e1d08898d2a0f7d44ac4fb312ae", func := "election/electionlaw42.PrivacySafe", spec := "privacySafe", unfollowed := true, recurses := true, apart := false }
def PrivacySafeSaid : Prop := privacySafeRow.holds Try.pinned (OpenSpec.ofChange privacySafeSpec)

/-- ITS FALSE NEIGHBOUR: 'it returns false'. Refute it at one input. -/
def privacySafeWrong : ChangeSpec := { name := "privacySafe", fn := fun _ => fun
  | [d1, d2, d3, d4] => { results := [.lit (.bool false)], args := [d1, d2, d3, d4] }
  | _ => none }
def PrivacySafeWrongFalsely : Prop := privacySafeRow.holds Try.pinned (OpenSpec.ofChange privacySafeWrong)

/- THE SECOND FORM. 'bulk': how many values and letters a reading holds, each counted each time it is reached (what is shared counts as often as it is met; a slice's spare places count too). A statement '..UptoSaid' is the law's where the arguments, and the package variables that the reading takes, are together of bulk at most 1048576: NARROWER than '..Said'. Prove '..Said' where nothing that the law and all that it calls make is longer than what came in: it says more and counts as full. Else prove '..UptoSaid'. A law counts once. -/
mutual
def uptoBulk {H : Type} : DataW H → Nat
  | .lit (.string bytes) => bytes.length + 1
  | .lit _ => 1
  | .nil => 1
  | .ptr d => uptoBulk d + 1
  | .slice elems spare => uptoBulkAll elems + uptoBulkAll spare + 1
  | .agg parts => uptoBulkAll parts + 1
  | .iface _ d => uptoBulk d + 1
  | .map entries => uptoBulkEntries entries + 1
  | .held _ => 1
def uptoBulkAll {H : Type} : List (DataW H) → Nat
  | [] => 0
  | d :: r => uptoBulk d + uptoBulkAll r
def uptoBulkEntries {H : Type} : List (Lit × DataW H) → Nat
  | [] => 0
  | x :: r => uptoBulkEntry x + uptoBulkEntries r
def uptoBulkEntry {H : Type} : Lit × DataW H → Nat
  | (.string bytes, d) => bytes.length + uptoBulk d + 1
  | (_, d) => uptoBulk d + 1
 end
def uptoSmall : (H : Type) → List (DataW H) → Bool := fun _ ds => decide (uptoBulkAll ds ≤ 1048576)
def OpenSpec.upto (s : _root_.Go.ChangeSpec) : _root_.Go.OpenSpec := { _root_.Go.OpenSpec.ofChange s with cond := some uptoSmall }

/-- 'electionlaw42.PrivacyStays', WHERE WHAT IT READS IS OF BULK AT MOST 1048576: true; the input reads as it did. -/
def privacyStaysUptoRow : OpenClaim := { program := "yteeamiacplfcmaa", sum := "3416f8c7fba5523daf63f582070bb85a271d9e1d08898d2a0f7d44ac4fb312ae", func := "election/electionlaw42.PrivacyStays", spec := "privacyStays", unfollowed := true, recurses := true, apart := false, narrowed := true }
def PrivacyStaysUptoSaid : Prop := privacyStaysUptoRow.holds Try.pinned (OpenSpec.upto privacyStaysSpec)

/-- 'electionlaw42.PrivacyTells', WHERE WHAT IT READS IS OF BULK AT MOST 1048576: true; the input reads as it did. -/
def privacyTellsUptoRow : OpenClaim := { program := "yteeamiacplfcmaa", sum := "3416f8c7fba5523daf63f582070bb85a271d9e1d08898d2a0f7d44ac4fb312ae", func := "election/electionlaw42.PrivacyTells", spec := "privacyTells", unfollowed := true, recurses := true, apart := false, narrowed := true }
def PrivacyTellsUptoSaid : Prop := privacyTellsUptoRow.holds Try.pinned (OpenSpec.upto privacyTellsSpec)

/-- 'electionlaw42.PrivacySafe', WHERE WHAT IT READS IS OF BULK AT MOST 1048576: true; the input reads as it did. -/
def privacySafeUptoRow : OpenClaim := { program := "yteeamiacplfcmaa", sum := "3416f8c7fba5523daf63f582070bb85a271d9e1d08898d2a0f7d44ac4fb312ae", func := "election/electionlaw42.PrivacySafe", spec := "privacySafe", unfollowed := true, recurses := true, apart := false, narrowed := true }
def PrivacySafeUptoSaid : Prop := privacySafeUptoRow.holds Try.pinned (OpenSpec.upto privacySafeSpec)

end Rows
end Go.Proofs.Yteeamiacplfcmaa
