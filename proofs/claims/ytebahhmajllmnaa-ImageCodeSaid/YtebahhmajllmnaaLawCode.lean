/-
  Encode agrees with the reference, and Decode reverses it: the law ImageCode returns true for every input.
-/
import Derived.Test.YtebahhmajllmnaaDecoded
import Derived.Test.YtebahhmajllmnaaOpen
namespace Go.Proofs.Ytebahhmajllmnaa.lawCode
open Go.ChangeShapes Go.WideShapes Go.ChangeAt Go.RowKit Go.Proofs.Ytebahhmajllmnaa
set_option linter.unusedVariables false
set_option linter.unusedSimpArgs false

theorem walk_no (W H : Int) (A : Option Addr) (c : Nat) (bs : List UInt8) (w : World) (hb : Bys w A bs) (hm : bs.length ≤ maxLen) (hs : smallB W H bs = false) :
    Calls Try.prog 10 #[.agg #[.int .i64 W, .int .i64 H, .slice A bs.length c]] w fun e w' => e = .returned (.bool true) ∧ Below w.heap.size w w' := by
  have HS := hide hs
  have HB := hide hb
  clear hs hb
  go_enter Try.func10, Try.ntmps10
  go_wp2_with fail
  refine (small_any _ _ _ _ bs _ (HB.out.alloc _) hm).mono ?_
  rw [HS.out]
  rintro e w1 ⟨rfl, hb1⟩
  have B1 := hide (below_box hb1)
  clear hb1
  go_wp2_with fail
  refine (awake_any _).mono ?_
  rintro e w2 ⟨rfl, hb2⟩
  have B2 := hide hb2
  clear hb2
  go_wp2_with fail
  go_ret
  exact ⟨rfl, below_then B1.out B2.out⟩

/-- the image and its encoding -/
def Cs (w : World) (W H : Nat) (A : Option Addr) (c : Nat) (bs en : List UInt8) (g : Nat) (v : World) : Prop := ImgSt w w.heap.size W H A c bs v ∧ Row v g en
theorem Cs.next {w v v' : World} {W H : Nat} {A : Option Addr} {c : Nat} {bs en : List UInt8} {g : Nat} (h : Cs w W H A c bs en g v) (hb : Below v.heap.size v v') : Cs w W H A c bs en g v' := ⟨h.1.next hb, h.2.kept hb⟩

set_option maxHeartbeats 1600000 in
theorem walk_yes (W H : Nat) (A : Option Addr) (c : Nat) (f : Nat → Bool) (w : World) (hb : Bys w A (pack (W * H) f)) (hW1 : 1 ≤ W) (hW : W ≤ 24) (hH1 : 1 ≤ H) (hH : H ≤ 24) :
    Calls Try.prog 10 #[.agg #[.int .i64 (W : Int), .int .i64 (H : Int), .slice A (pack (W * H) f).length c]] w fun e w' => e = .returned (.bool true) ∧ Below w.heap.size w w' := by
  have hm := len_pack_max f (show W ≤ 512 by omega) (show H ≤ 512 by omega)
  have HS : Hid (smallB W H (pack (W * H) f) = true) := by
    unfold Hid smallB
    rw [validB_pack f hW1 (by omega) hH1 (by omega), decide_eq_true (by omega), decide_eq_true (by omega)]
    rfl
  have HA := hide (fun w => awake_any w)
  have hWl : W ≤ 512 := by omega
  have hHl : H ≤ 512 := by omega
  have HE : Hid (∀ v, Bys v A (pack (W * H) f) → Calls Try.prog 31 #[.agg #[.int .i64 (W : Int), .int .i64 (H : Int), .slice A (pack (W * H) f).length c]] v (FreshB v (encode W H f))) := fun v hb => encode_any W H A c f v hb hW1 hWl hH1 hHl
  have HRE : Hid (∀ v, Bys v A (pack (W * H) f) → Calls Try.prog 33 #[.agg #[.int .i64 (W : Int), .int .i64 (H : Int), .slice A (pack (W * H) f).length c]] v (FreshB v (encode W H f))) := fun v hb => refencode_any W H A c f v hb hW1 hWl hH1 hHl
  have hle := length_encode W H f
  have hN := size_bd hWl hHl
  have hlm : (encode W H f).length ≤ maxLen := by unfold maxLen; omega
  have HDe : Hid (∀ D d v, Bys v D (encode W H f) → (encode W H f).length ≤ d → Calls Try.prog 32 #[.slice D (encode W H f).length d] v (Fresh2 v W H (pack (W * H) f) (.bool true))) := fun D d v hb hd =>
    (decode_any D d (encode W H f) v hb (by omega) hd).mono fun e w' h => decode_code hW1 hWl hH1 hHl h
  have S0 := hide (ImgSt.start (W := (W : Int)) (H := (H : Int)) (c := c) hb)
  have HB := hide (hb.alloc (.cells #[.int .i64 (W : Int), .int .i64 (H : Int), .slice A (pack (W * H) f).length c] 24))
  clear hb hle
  generalize encode W H f = en at *
  generalize pack (W * H) f = bs at *
  go_enter Try.func10, Try.ntmps10
  go_wp2_with fail
  refine (small_any _ _ _ _ bs _ HB.out hm).mono ?_
  rw [HS.out]
  rintro e w1 ⟨rfl, hb1⟩
  have S1 := hide (S0.out.next hb1)
  obtain ⟨q0, q1, q2⟩ := S1.out.cells
  clear hb1 S0
  go_wp2_with fail
  refine (HE.out _ S1.out.2.1).mono ?_
  rintro e w2 ⟨g, gc, hg, hcap, rfl, hr, hb2⟩
  have S2 : Hid (Cs w W H A c bs en g w2) := ⟨S1.out.next hb2, hr⟩
  clear hb2 hr S1 q0 q1 q2 HE hg
  go_wp2_with fail
  refine (HDe.out _ _ _ S2.out.2.bys hcap).mono ?_
  rintro e w3 ⟨g3, gc3, hg3, rfl, hr3, hb3⟩
  have S3' := hide (S2.out.next hb3)
  have n0 : w.heap.size < w3.heap.size := S3'.out.1.1.lt
  have S3 := hide (S3'.out.next ((Below.refl _ _).alloc (Nat.le_refl _) (.cells #[.int .i64 (W : Int), .int .i64 (H : Int), .slice (some ⟨g3, 0, none⟩) bs.length gc3] 24)))
  have R3 := hide (hr3.alloc (.cells #[.int .i64 (W : Int), .int .i64 (H : Int), .slice (some ⟨g3, 0, none⟩) bs.length gc3] 24))
  have Y3 := hide (Box.new w3 24 #[.int .i64 (W : Int), .int .i64 (H : Int), .slice (some ⟨g3, 0, none⟩) bs.length gc3])
  clear hb3 hr3 S2 S3' HDe hg3
  go_wp2_with fail
  refine (HA.out _).mono ?_
  rintro e w4 ⟨rfl, hb4⟩
  have S4 := hide (S3.out.next hb4)
  have R4 := hide (R3.out.kept hb4)
  have Y4 := hide (Y3.out.kept hb4)
  obtain ⟨q0, q1, q2⟩ := S4.out.1.cells
  clear hb4 S3 R3 Y3
  go_wp2_with fail
  refine (HRE.out _ S4.out.1.2.1).mono ?_
  rintro e w5 ⟨g5, gc5, hg5, _, rfl, hr5, hb5⟩
  have S5 := hide (S4.out.next hb5)
  have R5 := hide (R4.out.kept hb5)
  have Y5 := hide (Y4.out.kept hb5)
  have E5 := hide hr5
  clear hb5 hr5 S4 R4 Y4 q0 q1 q2 HRE hg5
  go_wp2_with fail
  refine (eq04_any _ _ _ _ en en _ S5.out.2.bys E5.out.bys hlm hlm).mono ?_
  rw [beq_self_eq_true]
  rintro e w6 ⟨rfl, hb6⟩
  have S6 := hide (S5.out.next hb6)
  have R6 := hide (R5.out.kept hb6)
  have Y6 := hide (Y5.out.kept hb6)
  clear hb6 S5 R5 Y5 E5
  obtain ⟨q0, q1, q2⟩ := S6.out.1.cells
  have k0 : w6.cell? ⟨w3.heap.size, 0, none⟩ = some (.int .i64 (W : Int)) := Y6.out.cell 0
  have k1 : w6.cell? ⟨w3.heap.size, 1, none⟩ = some (.int .i64 (H : Int)) := Y6.out.cell 1
  have k2 : w6.cell? ⟨w3.heap.size, 2, none⟩ = some (.slice (some ⟨g3, 0, none⟩) bs.length gc3) := Y6.out.cell 2
  go_wp2_with fail
  refine (refeq_any W H W H _ _ _ _ bs bs _ R6.out.bys S6.out.1.2.1 hm hm).mono ?_
  rw [eqB_self]
  rintro e w8 ⟨rfl, hb8⟩
  have B8 := hide (S6.out.1.next hb8).2.2
  clear hb8 S6 R6 Y6 k0 k1 k2 q0 q1 q2
  go_wp2_with fail
  go_ret
  exact ⟨rfl, B8.out⟩

theorem walk (W H : Int) (A : Option Addr) (c : Nat) (bs : List UInt8) (w : World) (hb : Bys w A bs) (hm : bs.length ≤ maxLen) :
    Calls Try.prog 10 #[.agg #[.int .i64 W, .int .i64 H, .slice A bs.length c]] w fun e w' => e = .returned (.bool true) ∧ Below w.heap.size w w' := by
  by_cases hs : smallB W H bs = true
  · obtain ⟨W', H', f, rfl, rfl, rfl, h1, h2, h3, h4⟩ := small_form hs
    exact walk_yes W' H' A c f w hb h1 h2 h3 h4
  · exact walk_no W H A c bs w hb hm (Bool.eq_false_iff.2 hs)

set_option maxRecDepth 100000 in
theorem lifted (os : Os) (started : os.Started) (H : Type) (enc : TypeId × Value → H) :
    ReturnsInHanded {} Try.checked os 10 .any (Rows.imageCodeSpec.pre6 enc Try.prog Try.f10 Rows.imageCodeRow.domain false) (Rows.imageCodeSpec.post enc Try.prog Try.f10 false true false false) := by
  refine returnsInHanded_of_change (C := Try.checked) own started (by kernel_rfl) Try.func10
    (ChangeSpec.witness6 (enc := enc) (C := Try.checked) false ⟨#[], #[.agg #[.int .i64 0, .int .i64 0, .slice none 0 0]], []⟩ 8 (by kernel_rfl) (by kernel_rfl) (by kernel_rfl) (by kernel_rfl)) ?_
  intro W base args ds gs before hval0 hW hcnd _
  have hval : ∀ (j : Nat) t v, Try.f10.params[j]? = some t → args[j]? = some v → Value.okWide Try.prog W .any base t v := hval0
  have hW' := hW
  obtain ⟨p, q, hA0, hV, rfl, hfz, hnd⟩ := hW
  have hA : DataW.TrodAll enc Try.prog W 0 (fun _ => true) true Try.f10.params.toList args.toList ds p := hA0
  rw [Try.params10] at hA hval
  obtain ⟨v0, vs0, d0, ds0, p0, q0, hargs, rfl, rfl, h0, r0⟩ := trodAll_cons hA
  obtain ⟨rfl, rfl, rfl⟩ := trodAll_nil r0
  obtain rfl : args = #[v0] := by cases args; simp_all
  obtain ⟨W0, H0, A0, c0, bs0, rfl, hb0, hm0⟩ := open_image (hval 0 24 v0 rfl rfl) h0
  refine (walk W0 H0 A0 c0 bs0 W hb0 hm0).mono fun e W' ⟨he, hb⟩ => ?_
  subst he
  exact ⟨_, rfl, post_law hW' rfl hb (by rw [Try.params10]; exact params_ok (by kernel_rfl)) rfl rfl⟩

theorem over : Rows.imageCodeRow.holds Try.pinned (OpenSpec.ofChange Rows.imageCodeSpec) :=
  OpenClaim.holds_of_wide 10 Try.f10 rfl rfl rfl rfl rfl rfl rfl ⟨rfl, rfl, rfl, rfl, rfl⟩ rfl rfl rfl rfl rfl (by kernel_rfl) Try.func10 (by kernel_rfl)
    (of_decide_eq_true (by kernel_rfl)) (by unfold Func.isWrapper; first | (rw [if_pos (by decide +kernel)]; kernel_rfl) | (rw [if_neg (by decide +kernel)]; exact ⟨rfl, rfl⟩))
    (fun os started H enc _ => lifted os started H enc)

theorem proved : Rows.ImageCodeSaid := over
end Go.Proofs.Ytebahhmajllmnaa.lawCode
