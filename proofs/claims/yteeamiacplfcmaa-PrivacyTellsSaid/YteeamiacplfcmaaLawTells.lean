/-
  PrivacyTells returns true: Valid, Safe, Sum and Merge return what the chapter prescribes, for any cells and numbers. For every argument.
-/
import Derived.Test.YteeamiacplfcmaaShort
namespace Go.Proofs.Yteeamiacplfcmaa.lawTells
open Go.ChangeShapes Go.WideShapes Go.ChangeAt Go.RowKit
set_option linter.unusedVariables false
set_option linter.unusedSimpArgs false

set_option maxHeartbeats 16000000 in
set_option maxRecDepth 100000 in
theorem walk {A0 : Option Addr} {c0 : Nat} {cs0 : List Cel} {a1 : Int} {b2 : Bool} {a3 a5 : Int} {A4 : Option Addr} {c4 : Nat} {xs : List (List (List Int))} {W : World} (h0 : PairsIn CelW (All W) W A0 cs0) (hl0 : cs0.length ≤ 9223372036854775807) (h1 : InI a1) (h3 : InI a3) (hX : Rows3 W A4 xs) (hl : xs.length ≤ 9223372036854775807) (h5 : InI a5) :
    Calls Try.prog 4 #[.slice A0 cs0.length c0, .int .i64 a1, .bool b2, .int .i64 a3, .slice A4 xs.length c4, .int .i64 a5] W fun e W' => e = .returned (.bool true) ∧ Below W.heap.size W W' := by
  have HSh := hide (short_any (c := c0) h0 hl0)
  have H0 := hide h0
  have HMk := hide (fun (wq : World) (hx : Rows3 wq A4 xs) => make_any (c := c4) hx hl h3 h5)
  have HX := hide hX
  have HMo := hide (fun wq => mod_any a1 12 (by omega) (by omega) h1 wq)
  have HI1 := hide h1
  have HAw := hide awake_any
  clear h0 h1 h3 h5 hX
  go_enter Try.func4, Try.ntmps4
  go_wp2_with fail
  refine HSh.out.mono ?_
  rintro e w1 ⟨_, rfl, ⟨bb, rfl, hbb⟩, hd1⟩
  have HD1 := hide hd1
  cases bb with
  | false =>
    clear hbb hd1
    go_wp2_with fail
    refine (HAw.out _).mono ?_
    rintro e w9 ⟨rfl, hb9⟩
    have HB9 := hide (below_then HD1.out.below hb9)
    clear hb9
    go_wp2_with fail
    go_ret
    exact ⟨rfl, HB9.out⟩
  | true =>
    have hsc := hbb rfl
    have hln := hsc.2
    have HC0 := hide ((cels_of H0.out hsc).below hd1.below)
    have HX1 : Hid (Rows3 w1 A4 xs) := fun hp => by
      obtain ⟨b, off, e, hlt, hc⟩ := HX.out hp
      refine ⟨b, off, e, Nat.lt_of_lt_of_le hlt hd1.below.size, fun k hk => ?_⟩
      obtain ⟨Ak, ck, g0, g1, g2⟩ := hc k hk
      exact ⟨Ak, ck, (hd1.below.cell (p := ⟨b, off + k, none⟩) hlt).trans g0, g1, g2.below hd1.below⟩
    have HB1 := hide hd1.below
    clear hbb hd1 hsc HX
    go_upto_if 23 with (fail)
    go_cut [0, 1] (fun v l wx => ∃ (A : Option Addr) (c : Nat) (cs : List Cel) (least : Int), v = .slice A cs.length c ∧ l = .int .i64 least ∧ cs.length ≤ 1000000 ∧ Hid (InI least) ∧ Hid (Cels wx A cs) ∧ Hid (Below W.heap.size W wx))
    case first =>
      cases b2 with
      | true =>
        go_wp2_with fail
        go_meet
        exact ⟨A0, c0, cs0, a1, rfl, rfl, by omega, HI1.out, HC0.out, HB1.out⟩
      | false =>
        go_wp2_with fail
        refine (HMk.out _ HX1.out).mono ?_
        rintro e w2 ⟨v2, cs, rfl, hO2, hv2, hb2⟩
        obtain ⟨A2, c2, rfl, hc2, _, hP2⟩ := hO2.shape goodC
        have hcl := valid_len hv2
        have HB2 := hide (below_then HB1.out hb2)
        have HC2 := hide (show Cels w2 A2 cs from hP2)
        clear hO2 hv2 hb2 hP2 hc2
        go_wp2_with fail
        refine (HMo.out _).mono ?_
        rintro e w3 ⟨r, rfl, ⟨hr0, hr1⟩, rfl⟩
        have hwr : IntKind.i64.wrap (1 + r) = 1 + r := IntWalk.i64_in _ (by omega)
        go_wp2_with fail
        go_meet
        exact ⟨A2, c2, cs, 1 + r, rfl, rfl, by omega, (by rw [Hid]; unfold InI; omega), HC2.out, HB2.out⟩
    case rest =>
      obtain ⟨A, c, cs, least, rfl, rfl, hm, HIl, HC, HBx⟩ := hcut
      have HSf := hide (fun (v0 v1 : Value) (x : Cel) (wq : World) (h : Cell2 wq v0 v1 x) => psafe_any (least := least) h HIl.out)
      have HRf := hide (fun (v0 v1 : Value) (x : Cel) (wq : World) (h : Cell2 wq v0 v1 x) => rsafe_any (least := least) h HIl.out)
      go_wp2_with fail
      go_loopw [13] (fun i wr => ∃ k : Nat, k ≤ cs.length ∧ i = .int .i64 k ∧ Hid (Below wc.heap.size wc wr)) (fun i wr => cs.length - (iOf i).toNat)
      case atStart => exact ⟨0, Nat.zero_le _, rfl, Below.refl _ _⟩
      case round =>
        obtain ⟨k, hk, rfl, HB⟩ := hrel
        by_cases hlt : k < cs.length
        · obtain ⟨b, off, v0, v1, rfl, hb, q0, q1, hE⟩ := PairsIn.at_ HC.out hlt
          have q0 := (HB.out.cell (p := ⟨b, off + k * 2, none⟩) hb).trans q0
          have q1 := (HB.out.cell (p := ⟨b, off + k * 2 + 1, none⟩) hb).trans q1
          have hb' : b < wr.heap.size := Nat.lt_of_lt_of_le hb HB.out.size
          have hE' : Cell2 wr v0 v1 (cs.getD k default) := Cell2.below hE HB.out
          generalize safeC least (cs.getD k default) = z at *
          have HS1 := hide (fun (wq : World) (hd : Drew wr wq) => (HSf.out v0 v1 (cs.getD k default) wq (hE'.below hd.below)).mono (fun e w2 (h : e = .returned (.bool (safeC least (cs.getD k default))) ∧ Below wq.heap.size wq w2) => (show e = .returned (.bool (safeC least (cs.getD k default))) ∧ w2.cell? ⟨b, off + k * 2, none⟩ = some v0 ∧ w2.cell? ⟨b, off + k * 2 + 1, none⟩ = some v1 ∧ Hid (Below wr.heap.size wr w2) from
            have hbw := below_then hd.below h.2
            ⟨h.1, (hbw.cell (p := ⟨b, off + k * 2, none⟩) hb').trans q0, (hbw.cell (p := ⟨b, off + k * 2 + 1, none⟩) hb').trans q1, hbw⟩)))
          have HS2 := hide (fun (wq : World) (hd : Below wr.heap.size wr wq) => (HRf.out v0 v1 (cs.getD k default) wq (hE'.below hd)).mono (fun e w2 (h : e = .returned (.bool (safeC least (cs.getD k default))) ∧ Below wq.heap.size wq w2) => (show e = .returned (.bool (safeC least (cs.getD k default))) ∧ w2.cell? ⟨b, off + k * 2, none⟩ = some v0 ∧ w2.cell? ⟨b, off + k * 2 + 1, none⟩ = some v1 ∧ Hid (Below wr.heap.size wr w2) from
            have hbw := below_then hd h.2
            ⟨h.1, (hbw.cell (p := ⟨b, off + k * 2, none⟩) hb').trans q0, (hbw.cell (p := ⟨b, off + k * 2 + 1, none⟩) hb').trans q1, hbw⟩)))
          clear hE hE'
          generalize safeC least (cs.getD k default) = z at *
          go_upto_region 8 with (fail)
          go_region_held_law (fun w' => w'.cell? ⟨b, off + k * 2, none⟩ = some v0 ∧ w'.cell? ⟨b, off + k * 2 + 1, none⟩ = some v1)
            (first | exact ⟨by assumption, by assumption⟩ | assumption | go_keep)
            (first | (go_at_call 15; refine (HS1.out _ ((Drew.refl _).drew 1)).mono ?_; rintro e w2 ⟨rfl, g0, g1, hb2⟩) | (go_at_call 10; refine (HS2.out _ hb2.out).mono ?_; rintro e w3 ⟨rfl, g2, g3, hb3⟩))
          have HB3 := hide (below_then HB.out hb3.out)
          go_wp2_with fail
          go_roundw
          case rel => exact ⟨k + 1, by omega, by go_num, HB3.out⟩
          case measure => simp [iOf]; omega
        · obtain rfl : k = cs.length := by omega
          have HCr := hide (HC.out.below HB.out)
          have HBr := hide (below_then HBx.out HB.out)
          have HPM := hide (pcmerge_any (c := c) (least := least) HCr.out hm HIl.out)
          have HRM := hide (fun (wq : World) (h : Cels wq A cs) => rmerge_any (c := c) (least := least) h hm HIl.out)
          have hml : (mergeV least cs).1.length ≤ 1000000 := by
            unfold mergeV
            split
            · exact Nat.zero_le _
            · split
              · rename_i hv
                have := valid_len (mergeC_keeps (least := least) hv).1
                show (mergeC least cs).length ≤ _
                omega
              · exact Nat.zero_le _
          have hsl : (sumV cs).length ≤ 1000000 := by
            unfold sumV
            split
            · rename_i hv
              have := (pile_len (sumC_take hv cs.length (Nat.le_refl _)).1).1
              rw [List.take_length] at this
              omega
            · exact Nat.zero_le _
          generalize mergeV least cs = me at *
          obtain ⟨ms, en⟩ := me
          simp only [] at *
          go_wp2_with fail
          refine HPM.out.mono ?_
          rintro e w2 ⟨v2, rfl, hO2, hb2⟩
          obtain ⟨A2, c2, rfl, hc2, _, hP2⟩ := hO2.shape goodC
          have HC2 := hide (show Cels w2 A2 ms from hP2)
          have HB2 := hide hb2
          have HRM2 := hide (HRM.out w2 (HCr.out.below hb2))
          clear hO2 hb2 hP2 hc2
          go_wp2_with fail
          refine HRM2.out.mono ?_
          rintro e w3 ⟨v3, rfl, hO3, hb3⟩
          obtain ⟨A3, c3, rfl, hc3, _, hP3⟩ := hO3.shape goodC
          have HC3 := hide (show Cels w3 A3 ms from hP3)
          have HC23 := hide (HC2.out.below hb3)
          have HB3 := hide (below_then HB2.out hb3)
          clear hO3 hb3 hP3 hc3
          go_wp2_with fail
          refine (HAw.out _).mono ?_
          rintro e w4 ⟨rfl, hb4⟩
          have HB4 := hide (below_then HB3.out hb4)
          have HC4 := hide (HC3.out.below hb4)
          have HC24 := hide (HC23.out.below hb4)
          have HPV := hide (pval_any (c := c) (HCr.out.below HB4.out) hm)
          clear hb4
          go_wp2_with fail
          refine HPV.out.mono ?_
          rintro e w5 ⟨rfl, hb5⟩
          have HB5 := hide (below_then HB4.out hb5)
          have HC5 := hide (HC4.out.below hb5)
          have HC25 := hide (HC24.out.below hb5)
          have HRV := hide (rval_any (c := c) (HCr.out.below HB5.out) hm)
          clear hb5
          generalize validC cs = z at *
          go_wp2_with fail
          refine HRV.out.mono ?_
          rintro e w6 ⟨rfl, hb6⟩
          have HB6 := hide (below_then HB5.out hb6)
          have HSm := hide (same_any (c := c2) (d := c3) (HC25.out.below hb6) (HC5.out.below hb6) hml rfl)
          clear hb6
          go_wp2_with fail
          refine HSm.out.mono ?_
          rintro e w7 ⟨rfl, hd7⟩
          have HB7 := hide (below_then HB6.out hd7.below)
          have HPS := hide (psum_any (c := c) (HCr.out.below HB7.out) hm)
          have HRS := hide (fun (wq : World) (h : Cels wq A cs) => rsum_any (c := c) h hm)
          clear hd7
          generalize sumV cs = ss at *
          go_wp2_with fail
          refine HPS.out.mono ?_
          rintro e w8 ⟨v8, rfl, hO8, hb8⟩
          obtain ⟨A8, c8, rfl, hc8, _, hP8⟩ := hO8.shape goodG
          have HG8 := hide (show Grps w8 A8 ss from hP8)
          have HB8 := hide (below_then HB7.out hb8)
          have HRS8 := hide (HRS.out w8 (HCr.out.below HB8.out))
          clear hO8 hb8 hP8 hc8
          go_wp2_with fail
          refine HRS8.out.mono ?_
          rintro e w9 ⟨v9, rfl, hO9, hb9⟩
          obtain ⟨A9, c9, rfl, hc9, _, hP9⟩ := hO9.shape goodG
          have HSP := hide (samepile_any (c := c8) (d := c9) (HG8.out.below hb9) (show Grps w9 A9 ss from hP9) hsl hsl)
          rw [decide_eq_true rfl] at HSP
          have HB9 := hide (below_then HB8.out hb9)
          clear hO9 hb9 hP9 hc9
          go_wp2_with fail
          refine HSP.out.mono ?_
          rintro e w10 ⟨rfl, hd10⟩
          have HBf := hide (below_then HBr.out (below_then HB9.out hd10.below))
          clear hd10
          go_wp2_with fail
          go_ret
          exact ⟨rfl, HBf.out⟩

set_option maxRecDepth 100000 in
theorem lifted (os : Os) (started : os.Started) (H : Type) (enc : TypeId × Value → H) :
    ReturnsInHanded {} Try.checked os 4 .any (Rows.privacyTellsSpec.pre6 enc Try.prog Try.f4 Rows.privacyTellsRow.domain false) (Rows.privacyTellsSpec.post enc Try.prog Try.f4 false true false false) := by
  refine returnsInHanded_of_change (C := Try.checked) own started (by kernel_rfl) Try.func4
    (ChangeSpec.witness6 (enc := enc) (C := Try.checked) false ⟨#[], #[.slice none 0 0, .int .i64 0, .bool false, .int .i64 0, .slice none 0 0, .int .i64 0], []⟩ 8 (by kernel_rfl) (by kernel_rfl) (by kernel_rfl) (by kernel_rfl)) ?_
  intro W base args ds gs before hval0 hW hcnd _
  have hval : ∀ (j : Nat) t v, Try.f4.params[j]? = some t → args[j]? = some v → Value.okWide Try.prog W .any base t v := hval0
  have hW' := hW
  obtain ⟨p, q, hA0, hV, rfl, hfz, hnd⟩ := hW
  have hA : DataW.TrodAll enc Try.prog W 0 (fun _ => true) true Try.f4.params.toList args.toList ds p := hA0
  rw [Try.params4] at hA hval
  obtain ⟨v0, vs0, d0, ds0, p0, q0, hargs, rfl, rfl, h0, r0⟩ := trodAll_cons hA
  obtain ⟨v1, vs1, d1, ds1, p1, q1, rfl, rfl, rfl, h1, r1⟩ := trodAll_cons r0
  obtain ⟨v2, vs2, d2, ds2, p2, q2, rfl, rfl, rfl, h2, r2⟩ := trodAll_cons r1
  obtain ⟨v3, vs3, d3, ds3, p3, q3, rfl, rfl, rfl, h3, r3⟩ := trodAll_cons r2
  obtain ⟨v4, vs4, d4, ds4, p4, q4, rfl, rfl, rfl, h4, r4⟩ := trodAll_cons r3
  obtain ⟨v5, vs5, d5, ds5, p5, q5, rfl, rfl, rfl, h5, r5⟩ := trodAll_cons r4
  obtain ⟨rfl, rfl, rfl⟩ := trodAll_nil r5
  obtain rfl : args = #[v0, v1, v2, v3, v4, v5] := by cases args; simp_all
  obtain ⟨A0, c0, cs0, rfl, hx0, hl0⟩ := open_cells (hval 0 23 v0 rfl rfl) h0
  obtain ⟨a1, rfl, _, _, w1⟩ := open_int Try.underlying3 (hval 1 3 v1 rfl rfl) h1
  obtain ⟨b2, rfl, _, _⟩ := open_bool Try.underlying4 (hval 2 4 v2 rfl rfl) h2
  obtain ⟨a3, rfl, _, _, w3⟩ := open_int Try.underlying3 (hval 3 3 v3 rfl rfl) h3
  obtain ⟨A4, c4, xs4, rfl, hx4, hl4⟩ := open_rows3 (hval 4 22 v4 rfl rfl) h4
  obtain ⟨a5, rfl, _, _, w5⟩ := open_int Try.underlying3 (hval 5 3 v5 rfl rfl) h5
  refine (walk hx0 hl0 (i64_bd w1) (i64_bd w3) hx4 hl4 (i64_bd w5)).mono fun e W' ⟨he, hb⟩ => ?_
  subst he
  exact ⟨_, rfl, post_law hW' rfl hb (by rw [Try.params4]; exact params_ok (by kernel_rfl)) rfl rfl⟩

theorem over : Rows.privacyTellsRow.holds Try.pinned (OpenSpec.ofChange Rows.privacyTellsSpec) :=
  OpenClaim.holds_of_wide 4 Try.f4 rfl rfl rfl rfl rfl rfl rfl ⟨rfl, rfl, rfl, rfl, rfl⟩ rfl rfl rfl rfl rfl (by kernel_rfl) Try.func4 (by kernel_rfl)
    (of_decide_eq_true (by kernel_rfl)) (by unfold Func.isWrapper; first | (rw [if_pos (by decide +kernel)]; kernel_rfl) | (rw [if_neg (by decide +kernel)]; exact ⟨rfl, rfl⟩))
    (fun os started H enc _ => lifted os started H enc)

theorem proved : Rows.PrivacyTellsSaid := over
end Go.Proofs.Yteeamiacplfcmaa.lawTells
