/-
  Plain: two piles joined.
-/
import Derived.Test.YteeamiacplfcmaaAdd
namespace Go.Proofs.Yteeamiacplfcmaa
open Go.RowKit
set_option linter.unusedVariables false
set_option linter.unusedSimpArgs false

/-- the ballots of b are added to a -/
def joinG (a b : List Grp) : List Grp := b.foldl (fun acc g => addG g.1 g.2 acc) a
theorem sumN_cons (g : Grp) (r : List Grp) : sumN (g :: r) = g.2 + sumN r := by simp [sumN]
theorem sumN_addG (p : List Int) (n : Int) : ∀ gs, sumN (addG p n gs) = sumN gs + n
  | [] => by simp [addG, sumN]
  | g :: r => by
    rw [addG]
    split
    · rw [sumN_cons, sumN_addG p n r, sumN_cons]; omega
    · split
      · simp only [sumN_cons]; omega
      · simp only [sumN_cons]; omega
theorem joinG_snoc (a b : List Grp) (g : Grp) : joinG a (b ++ [g]) = addG g.1 g.2 (joinG a b) := by simp [joinG]
theorem sumN_joinG (a : List Grp) : ∀ b, sumN (joinG a b) = sumN a + sumN b := by
  intro b
  induction b generalizing a with
  | nil => simp [joinG, sumN]
  | cons g r ih =>
    show sumN (joinG (addG g.1 g.2 a) r) = _
    rw [ih, sumN_addG, sumN_cons]; omega
/-- all numbers are at least 1 -/
def Pos (gs : List Grp) : Prop := ∀ g ∈ gs, 1 ≤ g.2
theorem Pos.addG {p : List Int} {n : Int} (hn : 1 ≤ n) : ∀ {gs : List Grp}, Pos gs → Pos (addG p n gs)
  | [], _ => fun g hg => by simp [Go.Proofs.Yteeamiacplfcmaa.addG] at hg; rw [hg]; exact hn
  | g :: r, h => by
    rw [Go.Proofs.Yteeamiacplfcmaa.addG]
    have h1 := h g (by simp)
    have h2 : Pos r := fun x hx => h x (by simp [hx])
    split
    · intro x hx
      rw [List.mem_cons] at hx
      rcases hx with rfl | hx
      · exact h1
      · exact h2.addG hn x hx
    · split
      · intro x hx
        rw [List.mem_cons] at hx
        rcases hx with rfl | hx
        · simp only []; omega
        · exact h2 x hx
      · intro x hx
        rw [List.mem_cons] at hx
        rcases hx with rfl | hx
        · exact hn
        · exact h x hx
theorem Pos.sum {gs : List Grp} (h : Pos gs) : (gs.length : Int) ≤ sumN gs ∧ ∀ g ∈ gs, g.2 ≤ sumN gs := by
  induction gs with
  | nil => simp [sumN]
  | cons a r ih =>
    have h1 := h a (by simp)
    obtain ⟨i1, i2⟩ := ih fun x hx => h x (by simp [hx])
    rw [sumN_cons, List.length_cons]
    refine ⟨by omega, fun g hg => ?_⟩
    rw [List.mem_cons] at hg
    rcases hg with rfl | hg
    · omega
    · have := i2 g hg
      omega
end Go.Proofs.Yteeamiacplfcmaa
