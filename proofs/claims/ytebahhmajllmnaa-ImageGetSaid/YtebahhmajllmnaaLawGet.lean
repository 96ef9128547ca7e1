/-
  Get agrees with the reference, inside and outside of a valid image of up to 24 columns and rows: the law ImageGet returns true for every input.
-/
import Derived.Test.YtebahhmajllmnaaOpen
import Derived.Deep.RegionHeld3
namespace Go.Proofs.Ytebahhmajllmnaa.lawGet
open Go.ChangeShapes Go.WideShapes Go.ChangeAt Go.RowKit Go.Proofs.Ytebahhmajllmnaa
set_option linter.unusedVariables false
set_option linter.unusedSimpArgs false

theorem walk_no (W H : Int) (A : Option Addr) (c : Nat) (bs : List UInt8) (x y : Int) (w : World) (hb : Bys w A bs) (hm : bs.length ≤ maxLen) (hs : smallB W H bs = false) :
    Calls Try.prog 5 #[.agg #[.int .i64 W, .int .i64 H, .slice A bs.length c], .int .i64 x, .int .i64 y] w fun e w' => e = .returned (.bool true) ∧ Below w.heap.size w w' := by
  have HS := hide hs
  have HB := hide hb
  clear hs hb
  go_enter Try.func5, Try.ntmps5
  go_wp2_with fail
  refine (small_any _ _ _ _ bs _ (HB.out.alloc _) hm).mono ?_
  rw [HS.out]
  rintro e w1 ⟨rfl, hb1⟩
  have B1 := hide (below_box hb1)
  clear hb1
  go_wp2_with fail
  refine (awake_any _).mono ?_
  rintro e w2 ⟨rfl, hb2⟩
  have B2 := hide hb2
  clear hb2
  go_wp2_with fail
  go_ret
  exact ⟨rfl, below_then B1.out B2.out⟩

set_option maxHeartbeats 1600000 in
theorem walk_yes (W H : Nat) (A : Option Addr) (c : Nat) (f : Nat → Bool) (x y : Int) (w : World) (hb : Bys w A (pack (W * H) f)) (hW1 : 1 ≤ W) (hW : W ≤ 24) (hH1 : 1 ≤ H) (hH : H ≤ 24) :
    Calls Try.prog 5 #[.agg #[.int .i64 (W : Int), .int .i64 (H : Int), .slice A (pack (W * H) f).length c], .int .i64 x, .int .i64 y] w fun e w' => e = .returned (.bool true) ∧ Below w.heap.size w w' := by
  have hm := len_pack_max f (show W ≤ 512 by omega) (show H ≤ 512 by omega)
  have HS : Hid (smallB W H (pack (W * H) f) = true) := by
    unfold Hid smallB
    rw [validB_pack f hW1 (by omega) hH1 (by omega), decide_eq_true (by omega), decide_eq_true (by omega)]
    rfl
  have HA := hide (fun w => awake_any w)
  have HG := hide (fun w hb => get_any W H A c f x y w hb hW1 (by omega) hH1 (by omega))
  have HR := hide (fun w hb => refget_any W H A c f x y w hb (by omega) (by omega))
  have HB := hide hb
  have S0 := hide (ImgSt.start (W := (W : Int)) (H := (H : Int)) (c := c) hb)
  clear hb
  generalize getB W H f x y = r at *
  generalize pack (W * H) f = bs at *
  go_enter Try.func5, Try.ntmps5
  go_wp2_with fail
  refine (small_any _ _ _ _ bs _ (HB.out.alloc _) hm).mono ?_
  rw [HS.out]
  rintro e w1 ⟨rfl, hb1⟩
  have S := hide (S0.out.next hb1).drew
  obtain ⟨q0, q1, q2⟩ := (S0.out.next hb1).cells
  clear hb1 S0
  go_wp2_with fail
  go_region_held3 (fun v => v.cell? ⟨w.heap.size, 0, none⟩ = some (.int .i64 (W : Int)) ∧ v.cell? ⟨w.heap.size, 1, none⟩ = some (.int .i64 (H : Int)) ∧ v.cell? ⟨w.heap.size, 2, none⟩ = some (.slice A bs.length c))
    (go_keep)
    (first
     | (go_at_call 14; refine (HA.out _).mono ?_; rintro e w1 ⟨rfl, hb1⟩; have S' := hide (S.out.next hb1); clear S; have S := hide S'.out; clear S'; obtain ⟨q0, q1, q2⟩ := S.out.cells; clear hb1)
     | (go_at_call 19; refine (HG.out _ S.out.2.1).mono ?_; rintro e w1 ⟨rfl, hb1⟩; have S' := hide (S.out.next hb1); clear S; have S := hide S'.out; clear S'; obtain ⟨q0, q1, q2⟩ := S.out.cells; clear hb1)
     | (go_at_call 20; refine (HR.out _ S.out.2.1).mono ?_; rintro e w1 ⟨rfl, hb1⟩; have S' := hide (S.out.next hb1); clear S; have S := hide S'.out; clear S'; obtain ⟨q0, q1, q2⟩ := S.out.cells; clear hb1))
  all_goals
    go_wp2_with fail
    go_ret
    exact ⟨by simp, S.out.2.2⟩

theorem walk (W H : Int) (A : Option Addr) (c : Nat) (bs : List UInt8) (x y : Int) (w : World) (hb : Bys w A bs) (hm : bs.length ≤ maxLen) :
    Calls Try.prog 5 #[.agg #[.int .i64 W, .int .i64 H, .slice A bs.length c], .int .i64 x, .int .i64 y] w fun e w' => e = .returned (.bool true) ∧ Below w.heap.size w w' := by
  by_cases hs : smallB W H bs = true
  · obtain ⟨W', H', f, rfl, rfl, rfl, h1, h2, h3, h4⟩ := small_form hs
    exact walk_yes W' H' A c f x y w hb h1 h2 h3 h4
  · exact walk_no W H A c bs x y w hb hm (Bool.eq_false_iff.2 hs)

set_option maxRecDepth 100000 in
theorem lifted (os : Os) (started : os.Started) (H : Type) (enc : TypeId × Value → H) :
    ReturnsInHanded {} Try.checked os 5 .any (Rows.imageGetSpec.pre6 enc Try.prog Try.f5 Rows.imageGetRow.domain false) (Rows.imageGetSpec.post enc Try.prog Try.f5 false true false false) := by
  refine returnsInHanded_of_change (C := Try.checked) own started (by kernel_rfl) Try.func5
    (ChangeSpec.witness6 (enc := enc) (C := Try.checked) false ⟨#[], #[.agg #[.int .i64 0, .int .i64 0, .slice none 0 0], .int .i64 0, .int .i64 0], []⟩ 8 (by kernel_rfl) (by kernel_rfl) (by kernel_rfl) (by kernel_rfl)) ?_
  intro W base args ds gs before hval0 hW hcnd _
  have hval : ∀ (j : Nat) t v, Try.f5.params[j]? = some t → args[j]? = some v → Value.okWide Try.prog W .any base t v := hval0
  have hW' := hW
  obtain ⟨p, q, hA0, hV, rfl, hfz, hnd⟩ := hW
  have hA : DataW.TrodAll enc Try.prog W 0 (fun _ => true) true Try.f5.params.toList args.toList ds p := hA0
  rw [Try.params5] at hA hval
  obtain ⟨v0, vs0, d0, ds0, p0, q0, hargs, rfl, rfl, h0, r0⟩ := trodAll_cons hA
  obtain ⟨v1, vs1, d1, ds1, p1, q1, rfl, rfl, rfl, h1, r1⟩ := trodAll_cons r0
  obtain ⟨v2, vs2, d2, ds2, p2, q2, rfl, rfl, rfl, h2, r2⟩ := trodAll_cons r1
  obtain ⟨rfl, rfl, rfl⟩ := trodAll_nil r2
  obtain rfl : args = #[v0, v1, v2] := by cases args; simp_all
  obtain ⟨W0, H0, A0, c0, bs0, rfl, hb0, hm0⟩ := open_image (hval 0 24 v0 rfl rfl) h0
  obtain ⟨a1, rfl, _, _, w1⟩ := open_int Try.underlying3 (hval 1 3 v1 rfl rfl) h1
  obtain ⟨a2, rfl, _, _, w2⟩ := open_int Try.underlying3 (hval 2 3 v2 rfl rfl) h2
  refine (walk W0 H0 A0 c0 bs0 a1 a2 W hb0 hm0).mono fun e W' ⟨he, hb⟩ => ?_
  subst he
  exact ⟨_, rfl, post_law hW' rfl hb (by rw [Try.params5]; exact params_ok (by kernel_rfl)) rfl rfl⟩

theorem over : Rows.imageGetRow.holds Try.pinned (OpenSpec.ofChange Rows.imageGetSpec) :=
  OpenClaim.holds_of_wide 5 Try.f5 rfl rfl rfl rfl rfl rfl rfl ⟨rfl, rfl, rfl, rfl, rfl⟩ rfl rfl rfl rfl rfl (by kernel_rfl) Try.func5 (by kernel_rfl)
    (of_decide_eq_true (by kernel_rfl)) (by unfold Func.isWrapper; first | (rw [if_pos (by decide +kernel)]; kernel_rfl) | (rw [if_neg (by decide +kernel)]; exact ⟨rfl, rfl⟩))
    (fun os started H enc _ => lifted os started H enc)

theorem proved : Rows.ImageGetSaid := over
end Go.Proofs.Ytebahhmajllmnaa.lawGet
