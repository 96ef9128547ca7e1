/-
  Small functions of the link.
-/
import Derived.Test.YthhelhggggbaiaaEq
namespace Go.Proofs.Ythhelhggggbaiaa
open Go.RowKit
set_option linter.unusedVariables false
set_option linter.unusedSimpArgs false

theorem possible_any (k : Int) (w : World) : Calls Try.prog 32 #[.int .i64 k] w fun e w' => e = .returned (.bool (decide (1 ≤ k) && decide (k ≤ 8))) ∧ w' = w := by
  by_cases h1 : 1 ≤ k
  · go_enter Try.func32, Try.ntmps32
    go_wp2_with fail
    go_ret
    exact ⟨by simp [h1], rfl⟩
  · go_enter Try.func32, Try.ntmps32
    go_wp2_with fail
    go_ret
    exact ⟨by rw [decide_eq_false (show ¬ 1 ≤ k by omega)]; rfl, rfl⟩
end Go.Proofs.Ythhelhggggbaiaa
