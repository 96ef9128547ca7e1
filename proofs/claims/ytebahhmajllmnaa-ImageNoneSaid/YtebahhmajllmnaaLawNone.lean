/-
  Of an image that is not valid, all functions return zero values: the law ImageNone returns true for every input.
-/
import Derived.Test.YtebahhmajllmnaaEncode
import Derived.Test.YtebahhmajllmnaaOpen
namespace Go.Proofs.Ytebahhmajllmnaa.lawNone
open Go.ChangeShapes Go.WideShapes Go.ChangeAt Go.RowKit Go.Proofs.Ytebahhmajllmnaa
set_option linter.unusedVariables false
set_option linter.unusedSimpArgs false

theorem walk_yes (W H : Int) (A : Option Addr) (c : Nat) (bs : List UInt8) (x y : Int) (w : World) (hb : Bys w A bs) (hm : bs.length ≤ maxLen) (hs : validB W H bs = true) :
    Calls Try.prog 12 #[.agg #[.int .i64 W, .int .i64 H, .slice A bs.length c], .int .i64 x, .int .i64 y] w fun e w' => e = .returned (.bool true) ∧ Below w.heap.size w w' := by
  have HS := hide hs
  have HB := hide hb
  clear hs hb
  go_enter Try.func12, Try.ntmps12
  go_wp2_with fail
  refine (refvalid_any _ _ _ _ bs _ (HB.out.alloc _) hm).mono ?_
  rw [HS.out]
  rintro e w1 ⟨rfl, hb1⟩
  have B1 := hide (below_box hb1)
  clear hb1
  go_wp2_with fail
  refine (awake_any _).mono ?_
  rintro e w2 ⟨rfl, hb2⟩
  have B2 := hide hb2
  clear hb2
  go_wp2_with fail
  go_ret
  exact ⟨rfl, below_then B1.out B2.out⟩

set_option maxHeartbeats 3200000 in
theorem walk_no (W H : Int) (A : Option Addr) (c : Nat) (bs : List UInt8) (x y : Int) (w : World) (hb : Bys w A bs) (hm : bs.length ≤ maxLen) (hv : validB W H bs = false) :
    Calls Try.prog 12 #[.agg #[.int .i64 W, .int .i64 H, .slice A bs.length c], .int .i64 x, .int .i64 y] w fun e w' => e = .returned (.bool true) ∧ Below w.heap.size w w' := by
  have HGet : Hid (∀ v, Bys v A bs → Calls Try.prog 19 #[.agg #[.int .i64 W, .int .i64 H, .slice A bs.length c], .int .i64 x, .int .i64 y] v fun e w' => e = .returned (.bool false) ∧ Below v.heap.size v w') := fun v h => get_no W H A c bs x y v h hm hv
  have HCnt : Hid (∀ v, Bys v A bs → Calls Try.prog 22 #[.agg #[.int .i64 W, .int .i64 H, .slice A bs.length c], .int .i64 x, .int .i64 y, .int .i64 9, .int .i64 9] v fun e w' => e = .returned (.int .i64 0) ∧ Below v.heap.size v w') := fun v h => count_no W H A c bs x y 9 9 v h hm hv
  have HFill : Hid (∀ v, Bys v A bs → Calls Try.prog 21 #[.agg #[.int .i64 W, .int .i64 H, .slice A bs.length c], .int .i64 0, .int .i64 0, .int .i64 3, .int .i64 3, .bool true] v fun e w' => e = .returned (.agg #[.int .i64 0, .int .i64 0, .slice none 0 0]) ∧ Below v.heap.size v w') := fun v h => fill_no W H A c bs 0 0 3 3 true v h hm hv
  have HSh : Hid (∀ v, Bys v A bs → Calls Try.prog 27 #[.agg #[.int .i64 W, .int .i64 H, .slice A bs.length c], .int .i64 1, .int .i64 1] v fun e w' => e = .returned (.agg #[.int .i64 0, .int .i64 0, .slice none 0 0]) ∧ Below v.heap.size v w') := fun v h => shift_no W H A c bs 1 1 v h hm hv
  have HTu : Hid (∀ v, Bys v A bs → Calls Try.prog 29 #[.agg #[.int .i64 W, .int .i64 H, .slice A bs.length c]] v fun e w' => e = .returned (.agg #[.int .i64 0, .int .i64 0, .slice none 0 0]) ∧ Below v.heap.size v w') := fun v h => turn_no W H A c bs v h hm hv
  have HEn : Hid (∀ v, Bys v A bs → Calls Try.prog 31 #[.agg #[.int .i64 W, .int .i64 H, .slice A bs.length c]] v fun e w' => e = .returned (.slice none 0 0) ∧ Below v.heap.size v w') := fun v h => encode_no W H A c bs v h hm hv
  have HX : Hid (∀ v, Bys v A bs → Calls Try.prog 26 #[.agg #[.int .i64 W, .int .i64 H, .slice A bs.length c], .agg #[.int .i64 W, .int .i64 H, .slice A bs.length c]] v fun e w' => e = .returned (.tuple #[(.agg #[.int .i64 0, .int .i64 0, .slice none 0 0]), .bool false]) ∧ Below v.heap.size v w') := fun v h => xor_no W H W H A A c c bs bs v h hm hv
  have HE : Hid (∀ w, Calls Try.prog 15 #[.agg #[.int .i64 0, .int .i64 0, .slice none 0 0], .agg #[.int .i64 0, .int .i64 0, .slice none 0 0]] w fun e w' => e = .returned (.bool true) ∧ Below w.heap.size w w') := fun w =>
    refeq_any 0 0 0 0 none none 0 0 [] [] w (fun h => absurd h (by simp)) (fun h => absurd h (by simp)) (Nat.zero_le _) (Nat.zero_le _)
  have HV := hide hv
  have S0 := hide (ImgSt.start (W := W) (H := H) (c := c) hb)
  clear hb hv
  go_enter Try.func12, Try.ntmps12
  go_wp2_with fail
  refine (refvalid_any _ _ _ _ bs _ S0.out.2.1 hm).mono ?_
  rw [HV.out]
  rintro e w2 ⟨rfl, hb1⟩
  have S2 := hide (S0.out.next hb1)
  obtain ⟨q0, q1, q2⟩ := S2.out.cells
  clear hb1 S0
  go_wp2_with fail
  refine (HX.out _ S2.out.2.1).mono ?_
  rintro e w3 ⟨rfl, hb3⟩
  have S3 := hide (S2.out.next hb3)
  have Y4 := hide (Box.new w3 24 #[.int .i64 0, .int .i64 0, .slice none 0 0])
  have S4 := hide (S3.out.alloc (.cells #[.int .i64 0, .int .i64 0, .slice none 0 0] 24))
  have n0 : w.heap.size < w3.heap.size := S3.out.1.lt
  clear hb3 S2 q0 q1 q2 HX
  obtain ⟨q0, q1, q2⟩ := S3.out.cells
  clear S3
  go_wp2_with fail
  refine (awake_any _).mono ?_
  rintro e w5 ⟨rfl, hb5⟩
  have S5 := hide (S4.out.next hb5)
  have Y5 := hide (Y4.out.kept hb5)
  clear hb5 q0 q1 q2 S4 Y4
  obtain ⟨q0, q1, q2⟩ := S5.out.cells
  have k0 : w5.cell? ⟨w3.heap.size, 0, none⟩ = some (.int .i64 0) := Y5.out.cell 0
  have k1 : w5.cell? ⟨w3.heap.size, 1, none⟩ = some (.int .i64 0) := Y5.out.cell 1
  have k2 : w5.cell? ⟨w3.heap.size, 2, none⟩ = some (.slice none 0 0) := Y5.out.cell 2
  go_wp2_with fail
  refine (HGet.out _ S5.out.2.1).mono ?_
  rintro e w6 ⟨rfl, hb6⟩
  have S6 := hide (S5.out.next hb6)
  have Y6 := hide (Y5.out.kept hb6)
  clear hb6 q0 q1 q2 k0 k1 k2 S5 Y5
  obtain ⟨q0, q1, q2⟩ := S6.out.cells
  have k0 : w6.cell? ⟨w3.heap.size, 0, none⟩ = some (.int .i64 0) := Y6.out.cell 0
  have k1 : w6.cell? ⟨w3.heap.size, 1, none⟩ = some (.int .i64 0) := Y6.out.cell 1
  have k2 : w6.cell? ⟨w3.heap.size, 2, none⟩ = some (.slice none 0 0) := Y6.out.cell 2
  go_wp2_with fail
  refine (HCnt.out _ S6.out.2.1).mono ?_
  rintro e w7 ⟨rfl, hb7⟩
  have S7 := hide (S6.out.next hb7)
  have Y7 := hide (Y6.out.kept hb7)
  clear hb7 q0 q1 q2 k0 k1 k2 S6 Y6
  obtain ⟨q0, q1, q2⟩ := S7.out.cells
  have k0 : w7.cell? ⟨w3.heap.size, 0, none⟩ = some (.int .i64 0) := Y7.out.cell 0
  have k1 : w7.cell? ⟨w3.heap.size, 1, none⟩ = some (.int .i64 0) := Y7.out.cell 1
  have k2 : w7.cell? ⟨w3.heap.size, 2, none⟩ = some (.slice none 0 0) := Y7.out.cell 2
  go_wp2_with fail
  refine (HE.out _).mono ?_
  rintro e w8 ⟨rfl, hb8⟩
  have S8 := hide (S7.out.next hb8)
  clear hb8 q0 q1 q2 k0 k1 k2 S7
  obtain ⟨q0, q1, q2⟩ := S8.out.cells
  go_wp2_with fail
  refine (HFill.out _ S8.out.2.1).mono ?_
  rintro e w9 ⟨rfl, hb9⟩
  have S9 := hide (S8.out.next hb9)
  clear hb9 q0 q1 q2 S8
  obtain ⟨q0, q1, q2⟩ := S9.out.cells
  go_wp2_with fail
  refine (HE.out _).mono ?_
  rintro e w10 ⟨rfl, hb10⟩
  have S10 := hide (S9.out.next hb10)
  clear hb10 q0 q1 q2 S9
  obtain ⟨q0, q1, q2⟩ := S10.out.cells
  go_wp2_with fail
  refine (HSh.out _ S10.out.2.1).mono ?_
  rintro e w11 ⟨rfl, hb11⟩
  have S11 := hide (S10.out.next hb11)
  clear hb11 q0 q1 q2 S10
  obtain ⟨q0, q1, q2⟩ := S11.out.cells
  go_wp2_with fail
  refine (HE.out _).mono ?_
  rintro e w12 ⟨rfl, hb12⟩
  have S12 := hide (S11.out.next hb12)
  clear hb12 q0 q1 q2 S11
  obtain ⟨q0, q1, q2⟩ := S12.out.cells
  go_wp2_with fail
  refine (HTu.out _ S12.out.2.1).mono ?_
  rintro e w13 ⟨rfl, hb13⟩
  have S13 := hide (S12.out.next hb13)
  clear hb13 q0 q1 q2 S12
  obtain ⟨q0, q1, q2⟩ := S13.out.cells
  go_wp2_with fail
  refine (HE.out _).mono ?_
  rintro e w14 ⟨rfl, hb14⟩
  have S14 := hide (S13.out.next hb14)
  clear hb14 q0 q1 q2 S13
  obtain ⟨q0, q1, q2⟩ := S14.out.cells
  go_wp2_with fail
  refine (HEn.out _ S14.out.2.1).mono ?_
  rintro e w15 ⟨rfl, hb15⟩
  have S15 := hide (S14.out.next hb15)
  clear hb15 q0 q1 q2 S14
  obtain ⟨q0, q1, q2⟩ := S15.out.cells
  go_wp2_with fail
  go_ret
  exact ⟨rfl, S15.out.2.2⟩

theorem walk (W H : Int) (A : Option Addr) (c : Nat) (bs : List UInt8) (x y : Int) (w : World) (hb : Bys w A bs) (hm : bs.length ≤ maxLen) :
    Calls Try.prog 12 #[.agg #[.int .i64 W, .int .i64 H, .slice A bs.length c], .int .i64 x, .int .i64 y] w fun e w' => e = .returned (.bool true) ∧ Below w.heap.size w w' := by
  by_cases hs : validB W H bs = true
  · exact walk_yes W H A c bs x y w hb hm hs
  · exact walk_no W H A c bs x y w hb hm (Bool.eq_false_iff.2 hs)

set_option maxRecDepth 100000 in
theorem lifted (os : Os) (started : os.Started) (H : Type) (enc : TypeId × Value → H) :
    ReturnsInHanded {} Try.checked os 12 .any (Rows.imageNoneSpec.pre6 enc Try.prog Try.f12 Rows.imageNoneRow.domain false) (Rows.imageNoneSpec.post enc Try.prog Try.f12 false true false false) := by
  refine returnsInHanded_of_change (C := Try.checked) own started (by kernel_rfl) Try.func12
    (ChangeSpec.witness6 (enc := enc) (C := Try.checked) false ⟨#[], #[.agg #[.int .i64 0, .int .i64 0, .slice none 0 0], .int .i64 0, .int .i64 0], []⟩ 8 (by kernel_rfl) (by kernel_rfl) (by kernel_rfl) (by kernel_rfl)) ?_
  intro W base args ds gs before hval0 hW hcnd _
  have hval : ∀ (j : Nat) t v, Try.f12.params[j]? = some t → args[j]? = some v → Value.okWide Try.prog W .any base t v := hval0
  have hW' := hW
  obtain ⟨p, q, hA0, hV, rfl, hfz, hnd⟩ := hW
  have hA : DataW.TrodAll enc Try.prog W 0 (fun _ => true) true Try.f12.params.toList args.toList ds p := hA0
  rw [Try.params12] at hA hval
  obtain ⟨v0, vs0, d0, ds0, p0, q0, hargs, rfl, rfl, h0, r0⟩ := trodAll_cons hA
  obtain ⟨v1, vs1, d1, ds1, p1, q1, rfl, rfl, rfl, h1, r1⟩ := trodAll_cons r0
  obtain ⟨v2, vs2, d2, ds2, p2, q2, rfl, rfl, rfl, h2, r2⟩ := trodAll_cons r1
  obtain ⟨rfl, rfl, rfl⟩ := trodAll_nil r2
  obtain rfl : args = #[v0, v1, v2] := by cases args; simp_all
  obtain ⟨W0, H0, A0, c0, bs0, rfl, hb0, hm0⟩ := open_image (hval 0 24 v0 rfl rfl) h0
  obtain ⟨a1, rfl, _, _, w1⟩ := open_int Try.underlying3 (hval 1 3 v1 rfl rfl) h1
  obtain ⟨a2, rfl, _, _, w2⟩ := open_int Try.underlying3 (hval 2 3 v2 rfl rfl) h2
  refine (walk W0 H0 A0 c0 bs0 a1 a2 W hb0 hm0).mono fun e W' ⟨he, hb⟩ => ?_
  subst he
  exact ⟨_, rfl, post_law hW' rfl hb (by rw [Try.params12]; exact params_ok (by kernel_rfl)) rfl rfl⟩

theorem over : Rows.imageNoneRow.holds Try.pinned (OpenSpec.ofChange Rows.imageNoneSpec) :=
  OpenClaim.holds_of_wide 12 Try.f12 rfl rfl rfl rfl rfl rfl rfl ⟨rfl, rfl, rfl, rfl, rfl⟩ rfl rfl rfl rfl rfl (by kernel_rfl) Try.func12 (by kernel_rfl)
    (of_decide_eq_true (by kernel_rfl)) (by unfold Func.isWrapper; first | (rw [if_pos (by decide +kernel)]; kernel_rfl) | (rw [if_neg (by decide +kernel)]; exact ⟨rfl, rfl⟩))
    (fun os started H enc _ => lifted os started H enc)

theorem proved : Rows.ImageNoneSaid := over
end Go.Proofs.Ytebahhmajllmnaa.lawNone
