/-
  Valid agrees with the reference: the law ImageValid returns true for every input.
-/
import Derived.Test.YtebahhmajllmnaaOpen
import Derived.Deep.RegionHeld3
namespace Go.Proofs.Ytebahhmajllmnaa.lawValid
open Go.ChangeShapes Go.WideShapes Go.ChangeAt Go.RowKit Go.Proofs.Ytebahhmajllmnaa
set_option linter.unusedVariables false
set_option linter.unusedSimpArgs false

set_option maxHeartbeats 1600000 in
theorem walk (W H : Int) (A : Option Addr) (c : Nat) (bs : List UInt8) (w : World) (hb : Bys w A bs) (hm : bs.length ≤ maxLen) :
    Calls Try.prog 4 #[.agg #[.int .i64 W, .int .i64 H, .slice A bs.length c]] w fun e w' => e = .returned (.bool true) ∧ Below w.heap.size w w' := by
  have HA := hide (fun w => awake_any w)
  have HV := hide (fun w hb => valid_any W H A c bs w hb hm)
  have HR := hide (fun w hb => refvalid_any W H A c bs w hb hm)
  have S := hide (ImgSt.start (W := W) (H := H) (c := c) hb).drew
  clear hb
  go_enter Try.func4, Try.ntmps4
  go_wp2_with fail
  go_region_held3 (fun v => v.cell? ⟨w.heap.size, 0, none⟩ = some (.int .i64 W) ∧ v.cell? ⟨w.heap.size, 1, none⟩ = some (.int .i64 H) ∧ v.cell? ⟨w.heap.size, 2, none⟩ = some (.slice A bs.length c))
    (go_keep)
    (first
     | (go_at_call 14; refine (HA.out _).mono ?_; rintro e w1 ⟨rfl, hb1⟩; have S' := hide (S.out.next hb1); clear S; have S := hide S'.out; clear S'; obtain ⟨q0, q1, q2⟩ := S.out.cells; clear hb1)
     | (go_at_call 16; refine (HV.out _ S.out.2.1).mono ?_; rintro e w1 ⟨rfl, hb1⟩; have S' := hide (S.out.next hb1); clear S; have S := hide S'.out; clear S'; obtain ⟨q0, q1, q2⟩ := S.out.cells; clear hb1)
     | (go_at_call 17; refine (HR.out _ S.out.2.1).mono ?_; rintro e w1 ⟨rfl, hb1⟩; have S' := hide (S.out.next hb1); clear S; have S := hide S'.out; clear S'; obtain ⟨q0, q1, q2⟩ := S.out.cells; clear hb1))
  all_goals
    go_wp2_with fail
    go_ret
    exact ⟨by simp, S.out.2.2⟩

set_option maxRecDepth 100000 in
theorem lifted (os : Os) (started : os.Started) (H : Type) (enc : TypeId × Value → H) :
    ReturnsInHanded {} Try.checked os 4 .any (Rows.imageValidSpec.pre6 enc Try.prog Try.f4 Rows.imageValidRow.domain false) (Rows.imageValidSpec.post enc Try.prog Try.f4 false true false false) := by
  refine returnsInHanded_of_change (C := Try.checked) own started (by kernel_rfl) Try.func4
    (ChangeSpec.witness6 (enc := enc) (C := Try.checked) false ⟨#[], #[.agg #[.int .i64 0, .int .i64 0, .slice none 0 0]], []⟩ 8 (by kernel_rfl) (by kernel_rfl) (by kernel_rfl) (by kernel_rfl)) ?_
  intro W base args ds gs before hval0 hW hcnd _
  have hval : ∀ (j : Nat) t v, Try.f4.params[j]? = some t → args[j]? = some v → Value.okWide Try.prog W .any base t v := hval0
  have hW' := hW
  obtain ⟨p, q, hA0, hV, rfl, hfz, hnd⟩ := hW
  have hA : DataW.TrodAll enc Try.prog W 0 (fun _ => true) true Try.f4.params.toList args.toList ds p := hA0
  rw [Try.params4] at hA hval
  obtain ⟨v0, vs0, d0, ds0, p0, q0, hargs, rfl, rfl, h0, r0⟩ := trodAll_cons hA
  obtain ⟨rfl, rfl, rfl⟩ := trodAll_nil r0
  obtain rfl : args = #[v0] := by cases args; simp_all
  obtain ⟨W0, H0, A0, c0, bs0, rfl, hb0, hm0⟩ := open_image (hval 0 24 v0 rfl rfl) h0
  refine (walk W0 H0 A0 c0 bs0 W hb0 hm0).mono fun e W' ⟨he, hb⟩ => ?_
  subst he
  exact ⟨_, rfl, post_law hW' rfl hb (by rw [Try.params4]; exact params_ok (by kernel_rfl)) rfl rfl⟩

theorem over : Rows.imageValidRow.holds Try.pinned (OpenSpec.ofChange Rows.imageValidSpec) :=
  OpenClaim.holds_of_wide 4 Try.f4 rfl rfl rfl rfl rfl rfl rfl ⟨rfl, rfl, rfl, rfl, rfl⟩ rfl rfl rfl rfl rfl (by kernel_rfl) Try.func4 (by kernel_rfl)
    (of_decide_eq_true (by kernel_rfl)) (by unfold Func.isWrapper; first | (rw [if_pos (by decide +kernel)]; kernel_rfl) | (rw [if_neg (by decide +kernel)]; exact ⟨rfl, rfl⟩))
    (fun os started H enc _ => lifted os started H enc)

theorem proved : Rows.ImageValidSaid := over
end Go.Proofs.Ytebahhmajllmnaa.lawValid
