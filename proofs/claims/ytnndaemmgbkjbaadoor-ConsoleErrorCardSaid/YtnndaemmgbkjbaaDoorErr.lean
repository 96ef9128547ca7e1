/-
  console.Error, electionref45.Error: the table of errors.
-/
import Derived.Test.YtnndaemmgbkjbaaDoorSample
namespace Go.Proofs.YtnndaemmgbkjbaaDoor
open Go.RowKit
set_option linter.unusedVariables false
set_option linter.unusedSimpArgs false

def errTab : List ByteArray := [(⟨#[111, 107]⟩ : ByteArray), (⟨#[115, 121, 110, 116, 97, 120]⟩ : ByteArray), (⟨#[110, 97, 109, 101]⟩ : ByteArray), (⟨#[100, 117, 112, 108, 105, 99, 97, 116, 101]⟩ : ByteArray), (⟨#[114, 97, 110, 103, 101]⟩ : ByteArray), (⟨#[107, 105, 110, 100]⟩ : ByteArray), (⟨#[109, 105, 115, 115, 105, 110, 103]⟩ : ByteArray), (⟨#[108, 101, 110, 103, 116, 104]⟩ : ByteArray), (⟨#[102, 111, 114, 109]⟩ : ByteArray), (⟨#[100, 105, 103, 101, 115, 116]⟩ : ByteArray), (⟨#[102, 117, 108, 108]⟩ : ByteArray), (⟨#[99, 108, 111, 115, 101, 100]⟩ : ByteArray), (⟨#[100, 111, 119, 110]⟩ : ByteArray), (⟨#[111, 114, 100, 101, 114]⟩ : ByteArray), (⟨#[115, 116, 101, 112]⟩ : ByteArray), (⟨#[98, 111, 117, 110, 100]⟩ : ByteArray), (⟨#[112, 101, 110, 100, 105, 110, 103]⟩ : ByteArray), (⟨#[105, 109, 112, 114, 105, 110, 116]⟩ : ByteArray), (⟨#[105, 109, 97, 103, 101]⟩ : ByteArray), (⟨#[119, 105, 110, 110, 101, 114]⟩ : ByteArray)]
def errS (n : Int) : ByteArray := if n < 0 ∨ 20 ≤ n then ⟨#[117, 110, 107, 110, 111, 119, 110]⟩ else errTab.getD n.toNat default
theorem err_cell (w : World) {k : Nat} (hk : k < 20) : (w.alloc (.cells #[.string ⟨#[111, 107]⟩, .string ⟨#[115, 121, 110, 116, 97, 120]⟩, .string ⟨#[110, 97, 109, 101]⟩, .string ⟨#[100, 117, 112, 108, 105, 99, 97, 116, 101]⟩, .string ⟨#[114, 97, 110, 103, 101]⟩, .string ⟨#[107, 105, 110, 100]⟩, .string ⟨#[109, 105, 115, 115, 105, 110, 103]⟩, .string ⟨#[108, 101, 110, 103, 116, 104]⟩, .string ⟨#[102, 111, 114, 109]⟩, .string ⟨#[100, 105, 103, 101, 115, 116]⟩, .string ⟨#[102, 117, 108, 108]⟩, .string ⟨#[99, 108, 111, 115, 101, 100]⟩, .string ⟨#[100, 111, 119, 110]⟩, .string ⟨#[111, 114, 100, 101, 114]⟩, .string ⟨#[115, 116, 101, 112]⟩, .string ⟨#[98, 111, 117, 110, 100]⟩, .string ⟨#[112, 101, 110, 100, 105, 110, 103]⟩, .string ⟨#[105, 109, 112, 114, 105, 110, 116]⟩, .string ⟨#[105, 109, 97, 103, 101]⟩, .string ⟨#[119, 105, 110, 110, 101, 114]⟩] 9)).cell? ⟨w.heap.size, k, none⟩ = some (.string (errTab.getD k default)) := by
  rw [(Box.new w 9 #[.string ⟨#[111, 107]⟩, .string ⟨#[115, 121, 110, 116, 97, 120]⟩, .string ⟨#[110, 97, 109, 101]⟩, .string ⟨#[100, 117, 112, 108, 105, 99, 97, 116, 101]⟩, .string ⟨#[114, 97, 110, 103, 101]⟩, .string ⟨#[107, 105, 110, 100]⟩, .string ⟨#[109, 105, 115, 115, 105, 110, 103]⟩, .string ⟨#[108, 101, 110, 103, 116, 104]⟩, .string ⟨#[102, 111, 114, 109]⟩, .string ⟨#[100, 105, 103, 101, 115, 116]⟩, .string ⟨#[102, 117, 108, 108]⟩, .string ⟨#[99, 108, 111, 115, 101, 100]⟩, .string ⟨#[100, 111, 119, 110]⟩, .string ⟨#[111, 114, 100, 101, 114]⟩, .string ⟨#[115, 116, 101, 112]⟩, .string ⟨#[98, 111, 117, 110, 100]⟩, .string ⟨#[112, 101, 110, 100, 105, 110, 103]⟩, .string ⟨#[105, 109, 112, 114, 105, 110, 116]⟩, .string ⟨#[105, 109, 97, 103, 101]⟩, .string ⟨#[119, 105, 110, 110, 101, 114]⟩]).cell]
  match k, hk with
  | 0, _ => rfl
  | 1, _ => rfl
  | 2, _ => rfl
  | 3, _ => rfl
  | 4, _ => rfl
  | 5, _ => rfl
  | 6, _ => rfl
  | 7, _ => rfl
  | 8, _ => rfl
  | 9, _ => rfl
  | 10, _ => rfl
  | 11, _ => rfl
  | 12, _ => rfl
  | 13, _ => rfl
  | 14, _ => rfl
  | 15, _ => rfl
  | 16, _ => rfl
  | 17, _ => rfl
  | 18, _ => rfl
  | 19, _ => rfl
  | k + 20, h => exact absurd h (by omega)
set_option maxHeartbeats 4000000 in
set_option maxRecDepth 100000 in
theorem err_any {n : Int} {w : World} (hn : InI n) :
    Calls Tryd.prog 5 #[.int .i64 n] w fun e w' => e = .returned (.string (errS n)) ∧ Below w.heap.size w w' := by
  obtain ⟨w1, hw1⟩ : ∃ q, w.alloc (.cells #[.string ⟨#[111, 107]⟩, .string ⟨#[115, 121, 110, 116, 97, 120]⟩, .string ⟨#[110, 97, 109, 101]⟩, .string ⟨#[100, 117, 112, 108, 105, 99, 97, 116, 101]⟩, .string ⟨#[114, 97, 110, 103, 101]⟩, .string ⟨#[107, 105, 110, 100]⟩, .string ⟨#[109, 105, 115, 115, 105, 110, 103]⟩, .string ⟨#[108, 101, 110, 103, 116, 104]⟩, .string ⟨#[102, 111, 114, 109]⟩, .string ⟨#[100, 105, 103, 101, 115, 116]⟩, .string ⟨#[102, 117, 108, 108]⟩, .string ⟨#[99, 108, 111, 115, 101, 100]⟩, .string ⟨#[100, 111, 119, 110]⟩, .string ⟨#[111, 114, 100, 101, 114]⟩, .string ⟨#[115, 116, 101, 112]⟩, .string ⟨#[98, 111, 117, 110, 100]⟩, .string ⟨#[112, 101, 110, 100, 105, 110, 103]⟩, .string ⟨#[105, 109, 112, 114, 105, 110, 116]⟩, .string ⟨#[105, 109, 97, 103, 101]⟩, .string ⟨#[119, 105, 110, 110, 101, 114]⟩] 9) = q := ⟨_, rfl⟩
  have hb1 : Below w.heap.size w w1 := by rw [← hw1]; exact (Below.refl _ _).alloc (Nat.le_refl _) _
  have HW1 := hide hw1
  have HB1 := hide hb1
  by_cases h : n < 0 ∨ 20 ≤ n
  · have hv : errS n = ⟨#[117, 110, 107, 110, 111, 119, 110]⟩ := if_pos h
    have HV := hide hv
    clear hv hw1 hb1 hn
    go_enter Tryd.func5, Tryd.ntmps5
    go_upto_region 2 with (fail)
    rw [HW1.out]
    rcases h with h | h
    · go_wp2_with fail
      go_ret
      exact ⟨by rw [HV.out]; rfl, HB1.out⟩
    · have h0 : ¬ n < 0 := by omega
      go_wp2_with fail
      go_ret
      exact ⟨by rw [HV.out]; rfl, HB1.out⟩
  · obtain ⟨k, rfl⟩ : ∃ k : Nat, n = (k : Int) := ⟨n.toNat, by omega⟩
    have hk : k < 20 := by omega
    have hv : errS (k : Int) = errTab.getD k default := by unfold errS; rw [if_neg h]; rfl
    have hc := err_cell w hk
    rw [hw1] at hc
    have HV := hide hv
    clear hv hw1 hb1 hn h
    generalize errTab.getD k default = s at *
    go_enter Tryd.func5, Tryd.ntmps5
    go_upto_region 2 with (fail)
    rw [HW1.out]
    go_wp2_with fail
    go_ret
    exact ⟨by rw [HV.out]; rfl, HB1.out⟩
set_option maxHeartbeats 4000000 in
set_option maxRecDepth 100000 in
theorem rerr_any {n : Int} {w : World} (hn : InI n) :
    Calls Tryd.prog 6 #[.int .i64 n] w fun e w' => e = .returned (.string (errS n)) ∧ Below w.heap.size w w' := by
  obtain ⟨w1, hw1⟩ : ∃ q, w.alloc (.cells #[.string ⟨#[111, 107]⟩, .string ⟨#[115, 121, 110, 116, 97, 120]⟩, .string ⟨#[110, 97, 109, 101]⟩, .string ⟨#[100, 117, 112, 108, 105, 99, 97, 116, 101]⟩, .string ⟨#[114, 97, 110, 103, 101]⟩, .string ⟨#[107, 105, 110, 100]⟩, .string ⟨#[109, 105, 115, 115, 105, 110, 103]⟩, .string ⟨#[108, 101, 110, 103, 116, 104]⟩, .string ⟨#[102, 111, 114, 109]⟩, .string ⟨#[100, 105, 103, 101, 115, 116]⟩, .string ⟨#[102, 117, 108, 108]⟩, .string ⟨#[99, 108, 111, 115, 101, 100]⟩, .string ⟨#[100, 111, 119, 110]⟩, .string ⟨#[111, 114, 100, 101, 114]⟩, .string ⟨#[115, 116, 101, 112]⟩, .string ⟨#[98, 111, 117, 110, 100]⟩, .string ⟨#[112, 101, 110, 100, 105, 110, 103]⟩, .string ⟨#[105, 109, 112, 114, 105, 110, 116]⟩, .string ⟨#[105, 109, 97, 103, 101]⟩, .string ⟨#[119, 105, 110, 110, 101, 114]⟩] 9) = q := ⟨_, rfl⟩
  have hb1 : Below w.heap.size w w1 := by rw [← hw1]; exact (Below.refl _ _).alloc (Nat.le_refl _) _
  have HW1 := hide hw1
  have HB1 := hide hb1
  by_cases h : n < 0 ∨ 20 ≤ n
  · have hv : errS n = ⟨#[117, 110, 107, 110, 111, 119, 110]⟩ := if_pos h
    have HV := hide hv
    clear hv hw1 hb1 hn
    go_enter Tryd.func6, Tryd.ntmps6
    go_upto_region 2 with (fail)
    rw [HW1.out]
    rcases h with h | h
    · go_wp2_with fail
      go_ret
      exact ⟨by rw [HV.out]; rfl, HB1.out⟩
    · have h0 : ¬ n < 0 := by omega
      go_wp2_with fail
      go_ret
      exact ⟨by rw [HV.out]; rfl, HB1.out⟩
  · obtain ⟨k, rfl⟩ : ∃ k : Nat, n = (k : Int) := ⟨n.toNat, by omega⟩
    have hk : k < 20 := by omega
    have hv : errS (k : Int) = errTab.getD k default := by unfold errS; rw [if_neg h]; rfl
    have hc := err_cell w hk
    rw [hw1] at hc
    have HV := hide hv
    clear hv hw1 hb1 hn h
    generalize errTab.getD k default = s at *
    go_enter Tryd.func6, Tryd.ntmps6
    go_upto_region 2 with (fail)
    rw [HW1.out]
    go_wp2_with fail
    go_ret
    exact ⟨by rw [HV.out]; rfl, HB1.out⟩
end Go.Proofs.YtnndaemmgbkjbaaDoor
