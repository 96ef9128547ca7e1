/-
  console.name: a name as it is written in commands.
-/
import Derived.Test.YtnndaemmgbkjbaaDoorParse
namespace Go.Proofs.YtnndaemmgbkjbaaDoor
open Go.RowKit
set_option linter.unusedVariables false
set_option linter.unusedSimpArgs false

def nameV (l : List ByteArray) (i : Int) : ByteArray := if i < 0 ∨ (l.length : Int) ≤ i then ⟨#[37]⟩ else escS (l.getD i.toNat default)
set_option maxHeartbeats 2000000 in
set_option maxRecDepth 100000 in
theorem name_any {A : Option Addr} {c : Nat} {l : List ByteArray} {i : Int} {w : World} (h : Strs w A l) (hn : ∀ n ∈ l, n.size ≤ 3000000) (hM : Max w) :
    Calls Tryd.prog 34 #[.slice A l.length c, .int .i64 i] w fun e w' => e = .returned (.string (nameV l i)) ∧ Below w.heap.size w w' := by
  by_cases hi : i < 0 ∨ (l.length : Int) ≤ i
  · have hv : nameV l i = ⟨#[37]⟩ := if_pos hi
    have HV := hide hv
    clear hv
    go_enter Tryd.func34, Tryd.ntmps34
    rcases hi with hi | hi
    · go_wp2_with fail
      go_ret
      exact ⟨by rw [HV.out]; rfl, Below.refl _ _⟩
    · have hi0 : ¬ i < 0 := by omega
      go_wp2_with fail
      go_ret
      exact ⟨by rw [HV.out]; rfl, Below.refl _ _⟩
  · obtain ⟨k, rfl⟩ : ∃ k : Nat, i = (k : Int) := ⟨i.toNat, by omega⟩
    have hk : k < l.length := by omega
    have hv : nameV l (k : Int) = escS (l.getD k default) := by unfold nameV; rw [if_neg hi]; rfl
    have HV := hide hv
    obtain ⟨b, off, rfl, hb, h0⟩ := h.at_ hk
    have HE := hide (escape_any (w := w) (hn _ (getD_memD hk)) hM)
    clear hv h hn hM hi
    generalize l.getD k default = nm at *
    go_enter Tryd.func34, Tryd.ntmps34
    go_wp2_with fail
    refine HE.out.mono ?_
    rintro e w1 ⟨rfl, hb1⟩
    have HB1 := hide hb1
    clear hb1
    go_wp2_with fail
    go_ret
    exact ⟨by rw [HV.out]; rfl, HB1.out⟩
end Go.Proofs.YtnndaemmgbkjbaaDoor
