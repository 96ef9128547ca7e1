/-
  math/bits.RotateLeft32.
-/
import Derived.Test.YtlelkhonkhlflaaDoorMem
import Derived.Laws.BitsLemmas
namespace Go.Proofs.YtlelkhonkhlflaaDoor
open Go.RowKit
set_option linter.unusedVariables false
set_option linter.unusedSimpArgs false

/-- x turned left by s -/
def rotV (x s : Int) : Int := bits .or .u32 (IntKind.u32.wrap (x * 2 ^ s.toNat)) (x / 2 ^ (32 - s).toNat)
theorem or_u32 (a b : Int) : 0 ≤ bits .or .u32 a b ∧ bits .or .u32 a b < 4294967296 := by
  show 0 ≤ IntKind.u32.wrap _ ∧ IntKind.u32.wrap _ < 4294967296
  rw [show ∀ z, IntKind.u32.wrap z = z % 4294967296 from fun z => rfl]
  omega
theorem rot_any (x k s : Int) (hx : 0 ≤ x) (hx2 : x < 4294967296) (hs : bits .and .u64 (IntKind.u64.wrap k) 31 = s) (h0 : 0 ≤ s) (h32 : s ≤ 31) (w : World) : Calls Tryd.prog 55 #[.int .u32 x, .int .i64 k] w fun e w' => e = .returned (.int .u32 (rotV x s)) ∧ w = w' := by
  have h1 : s ≤ 32 := by omega
  have h2 : 0 ≤ 32 - s := by omega
  have h3 : 32 - s ≤ 32 := by omega
  have h4 : IntKind.u64.wrap (32 - s) = 32 - s := by
    rw [show IntKind.u64.wrap (32 - s) = (32 - s) % 18446744073709551616 from rfl]
    omega
  go_enter Tryd.func55, Tryd.ntmps55
  go_wp2_with fail
  go_ret
  exact ⟨rfl, rfl⟩
end Go.Proofs.YtlelkhonkhlflaaDoor
