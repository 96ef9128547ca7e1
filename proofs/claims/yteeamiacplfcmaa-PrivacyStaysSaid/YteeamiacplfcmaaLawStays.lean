/-
  PrivacyStays returns true: a safe cell whose neighbours are safe stays as it is, and merging the result again changes nothing. For every argument.
-/
import Derived.Test.YteeamiacplfcmaaAwake
import Derived.Test.YteeamiacplfcmaaFrame
namespace Go.Proofs.Yteeamiacplfcmaa.lawStays
open Go.ChangeShapes Go.WideShapes Go.ChangeAt Go.RowKit
set_option linter.unusedVariables false
set_option linter.unusedSimpArgs false

/-- cell k of a report in memory, its two parts -/
theorem cel_at {w w' : World} {A : Option Addr} {cs : List Cel} (h : Cels w A cs) (hb : Below w.heap.size w w') {k : Nat} (hk : k < cs.length) : ∃ b off v0 v1, A = some ⟨b, off, none⟩ ∧ w'.cell? ⟨b, off + k * 2, none⟩ = some v0 ∧ w'.cell? ⟨b, off + k * 2 + 1, none⟩ = some v1 ∧ Cell2 w' v0 v1 (cs.getD k default) := by
  obtain ⟨b, off, v0, v1, e, hF, h0, h1, h2⟩ := PairsIn.at_ h hk
  exact ⟨b, off, v0, v1, e, (hb.cell (p := ⟨b, off + k * 2, none⟩) hF).trans h0, (hb.cell (p := ⟨b, off + k * 2 + 1, none⟩) hF).trans h1, Cell2.below h2 hb⟩
theorem mem_step {ms : List Cel} {k : Nat} (hk : k < ms.length) (c : Cel) : decide (c ∈ ms.take (k + 1)) = (decide (c ∈ ms.take k) || (decide ((ms.getD k default).1 = c.1) && decide ((ms.getD k default).2 = c.2))) := by
  rw [take_succC hk]
  generalize ms.getD k default = x
  obtain ⟨a, b⟩ := x
  obtain ⟨p, q⟩ := c
  rw [← Bool.decide_and, ← Bool.decide_or, decide_eq_decide, List.mem_append, List.mem_singleton, Prod.mk.injEq]
  constructor
  · rintro (h | ⟨rfl, rfl⟩)
    · exact .inl h
    · exact .inr ⟨rfl, rfl⟩
  · rintro (h | ⟨rfl, rfl⟩)
    · exact .inl h
    · exact .inr ⟨rfl, rfl⟩
set_option maxHeartbeats 16000000 in
set_option maxRecDepth 100000 in
theorem walk {a0 a1 a3 : Int} {A2 : Option Addr} {c2 : Nat} {xs : List (List (List Int))} {W : World} (h0 : InI a0) (h1 : InI a1) (hX : Rows3 W A2 xs) (hl : xs.length ≤ 9223372036854775807) (h3 : InI a3) :
    Calls Try.prog 3 #[.int .i64 a0, .int .i64 a1, .slice A2 xs.length c2, .int .i64 a3] W fun e W' => e = .returned (.bool true) ∧ Below W.heap.size W W' := by
  have HMk := hide (make_any (c := c2) hX hl h1 h3)
  have HMo := hide (fun wq => mod_any a0 12 (by omega) (by omega) h0 wq)
  clear h0 h1 h3 hX
  go_enter Try.func3, Try.ntmps3
  go_wp2_with fail
  refine HMk.out.mono ?_
  rintro e w1 ⟨v1, cs, rfl, hO1, hv1, hb1⟩
  obtain ⟨A1, c1, rfl, hc1, _, hP1⟩ := hO1.shape goodC
  have hcl := valid_len hv1
  have HB1 := hide hb1
  have HC1 := hide (show Cels w1 A1 cs from hP1)
  have HV1 := hide hv1
  clear hO1 hb1 hP1 hv1 hc1
  go_wp2_with fail
  refine (HMo.out _).mono ?_
  rintro e w2 ⟨r, rfl, ⟨hr0, hr1⟩, rfl⟩
  have hwr : IntKind.i64.wrap (1 + r) = 1 + r := IntWalk.i64_in _ (by omega)
  have HM := hide (pcmerge_any (c := c1) (least := 1 + r) HC1.out (by omega) (by unfold InI; omega))
  rw [mergeV_ok (by omega) HV1.out] at HM
  obtain ⟨hk1, hk2, hk3, hk4, hk5⟩ := mergeC_keeps (least := 1 + r) HV1.out
  have hml := valid_len hk1
  have HSt := hide (fun i (hi : i < cs.length) => mergeC_stays (least := 1 + r) HV1.out hi)
  have hag := mergeC_again (least := 1 + r) HV1.out
  generalize mergeC (1 + r) cs = ms at *
  have HKV := hide hk1
  have HAg := hide hag
  clear hk1 hag hk2 hk3 hk4 hk5
  go_wp2_with fail
  refine HM.out.mono ?_
  rintro e w3 ⟨v3, rfl, hO3, hb3⟩
  obtain ⟨A3, c3, rfl, hc3, _, hP3⟩ := hO3.shape goodC
  have HC3 := hide (show Cels w3 A3 ms from hP3)
  have HB3 := hide hb3
  have HM2 := hide (pcmerge_any (c := c3) (least := 1 + r) HC3.out (by omega) (by unfold InI; omega))
  rw [mergeV_ok (by omega) HKV.out, HAg.out] at HM2
  clear hO3 hb3 hP3 hc3
  go_wp2_with fail
  refine HM2.out.mono ?_
  rintro e w4 ⟨v4, rfl, hO4, hb4⟩
  obtain ⟨A4, c4, rfl, hc4, _, hP4⟩ := hO4.shape goodC
  have HSm := hide (same_any (c := c3) (d := c4) (HC3.out.below hb4) (show Cels w4 A4 ms from hP4) (by omega) rfl)
  have HB4 := hide hb4
  clear hO4 hb4 hP4 hc4
  go_wp2_with fail
  refine HSm.out.mono ?_
  rintro e w5 ⟨rfl, hd5⟩
  have HB5 := hide (below_then HB4.out hd5.below)
  clear hd5
  go_wp2_with fail
  go_loopw [14, 15, 16] (fun i _ _ wr => ∃ k : Nat, k ≤ cs.length ∧ i = .int .i64 k ∧ Hid (Below w3.heap.size w3 wr)) (fun i _ _ wr => cs.length - (iOf i).toNat)
  case atStart => exact ⟨0, Nat.zero_le _, rfl, HB5.out⟩
  case round =>
    obtain ⟨k, hk, rfl, HB⟩ := hrel
    by_cases hlt : k < cs.length
    · have HBc := hide (below_then HB3.out HB.out)
      have HSf := hide (fun (v0 v1 : Value) (c : Cel) (wq : World) (h : Cell2 wq v0 v1 c) => rsafe_any (least := 1 + r) h (by unfold InI; omega))
      go_upto_region 10 with (fail)
      go_cut [91] (fun v wx => ∃ bb : Bool, v = .bool bb ∧ Hid (bb = false → safeC (1 + r) (cs.getD k default) = true ∧ (0 < k → safeC (1 + r) (cs.getD (k - 1) default) = true) ∧ (k + 1 < cs.length → safeC (1 + r) (cs.getD (k + 1) default) = true)) ∧ Hid (Below w3.heap.size w3 wx))
      case first =>
        obtain ⟨cb, coff, cv0, cv1, ce, cq0, cq1, cC⟩ := cel_at HC1.out (below_then HB3.out HB.out) (k := k) hlt
        have cS := hide (HSf.out cv0 cv1 _ wr cC)
        cases ce
        clear cC
        cases hs0 : safeC (1 + r) (cs.getD k default) with
        | false =>
          rw [hs0] at cS
          have HS0 := hide hs0
          clear hs0
          go_wp2_with fail
          refine cS.out.mono ?_
          rintro e w7 ⟨rfl, hw7⟩
          have HB7 := hide (below_then HB.out hw7)
          clear hw7
          go_wp2_with fail
          go_meet
          exact ⟨true, rfl, (fun h => by cases h), HB7.out⟩
        | true =>
          rw [hs0] at cS
          have HS0 := hide hs0
          clear hs0
          by_cases hk0 : 0 < k
          · obtain ⟨j, rfl⟩ : ∃ j, k = j + 1 := ⟨k - 1, by omega⟩
            go_wp2_with fail
            refine cS.out.mono ?_
            rintro e w7 ⟨rfl, hw7⟩
            have HB7 := hide (below_then HB.out hw7)
            clear hw7
            obtain ⟨pb, poff, pv0, pv1, pe, pq0, pq1, pC⟩ := cel_at HC1.out (below_then HB3.out HB7.out) (k := j) (by omega)
            have pS := hide (HSf.out pv0 pv1 _ w7 pC)
            cases pe
            clear pC
            cases hs1 : safeC (1 + r) (cs.getD j default) with
            | false =>
              rw [hs1] at pS
              have HS1 := hide hs1
              clear hs1
              go_wp2_with fail
              refine pS.out.mono ?_
              rintro e w8 ⟨rfl, hw8⟩
              have HB8 := hide (below_then HB7.out hw8)
              clear hw8
              go_wp2_with fail
              go_meet
              exact ⟨true, rfl, (fun h => by cases h), HB8.out⟩
            | true =>
              rw [hs1] at pS
              have HS1 := hide hs1
              clear hs1
              go_wp2_with fail
              refine pS.out.mono ?_
              rintro e w8 ⟨rfl, hw8⟩
              have HB8 := hide (below_then HB7.out hw8)
              clear hw8
              by_cases hn : (j + 1) + 1 < cs.length
              · obtain ⟨nb, noff, nv0, nv1, ne, nq0, nq1, nC⟩ := cel_at HC1.out (below_then HB3.out HB8.out) (k := (j + 1) + 1) hn
                have nS := hide (HSf.out nv0 nv1 _ w8 nC)
                cases ne
                clear nC
                cases hs2 : safeC (1 + r) (cs.getD ((j + 1) + 1) default) with
                | false =>
                  rw [hs2] at nS
                  have HS2 := hide hs2
                  clear hs2
                  go_wp2_with fail
                  refine nS.out.mono ?_
                  rintro e w9 ⟨rfl, hw9⟩
                  have HBn := hide (below_then HB8.out hw9)
                  clear hw9
                  go_wp2_with fail
                  go_meet
                  exact ⟨true, rfl, (fun h => by cases h), HBn.out⟩
                | true =>
                  rw [hs2] at nS
                  have HS2 := hide hs2
                  clear hs2
                  go_wp2_with fail
                  refine nS.out.mono ?_
                  rintro e w9 ⟨rfl, hw9⟩
                  have HBn := hide (below_then HB8.out hw9)
                  clear hw9
                  go_wp2_with fail
                  go_meet
                  exact ⟨false, rfl, (fun _ => ⟨HS0.out, fun _ => HS1.out, fun _ => HS2.out⟩), HBn.out⟩
              · go_wp2_with fail
                go_meet
                exact ⟨false, rfl, (fun _ => ⟨HS0.out, fun _ => HS1.out, fun h => absurd h hn⟩), HB8.out⟩
          · go_wp2_with fail
            refine cS.out.mono ?_
            rintro e w7 ⟨rfl, hw7⟩
            have HB7 := hide (below_then HB.out hw7)
            clear hw7
            by_cases hn : k + 1 < cs.length
            · obtain ⟨nb, noff, nv0, nv1, ne, nq0, nq1, nC⟩ := cel_at HC1.out (below_then HB3.out HB7.out) (k := k + 1) hn
              have nS := hide (HSf.out nv0 nv1 _ w7 nC)
              cases ne
              clear nC
              cases hs2 : safeC (1 + r) (cs.getD (k + 1) default) with
              | false =>
                rw [hs2] at nS
                have HS2 := hide hs2
                clear hs2
                go_wp2_with fail
                refine nS.out.mono ?_
                rintro e w9 ⟨rfl, hw9⟩
                have HBn := hide (below_then HB7.out hw9)
                clear hw9
                go_wp2_with fail
                go_meet
                exact ⟨true, rfl, (fun h => by cases h), HBn.out⟩
              | true =>
                rw [hs2] at nS
                have HS2 := hide hs2
                clear hs2
                go_wp2_with fail
                refine nS.out.mono ?_
                rintro e w9 ⟨rfl, hw9⟩
                have HBn := hide (below_then HB7.out hw9)
                clear hw9
                go_wp2_with fail
                go_meet
                exact ⟨false, rfl, (fun _ => ⟨HS0.out, fun h => absurd h hk0, fun _ => HS2.out⟩), HBn.out⟩
            · go_wp2_with fail
              go_meet
              exact ⟨false, rfl, (fun _ => ⟨HS0.out, fun h => absurd h hk0, fun h => absurd h hn⟩), HB7.out⟩
      case rest =>
        obtain ⟨bb, rfl, HS, HBx⟩ := hcut
        cases bb with
        | true =>
          go_wp2_with fail
          go_roundw
          case rel => exact ⟨k + 1, by omega, by go_num, HBx.out⟩
          case measure => simp [iOf]; omega
        | false =>
          obtain ⟨s1, s2, s3⟩ := HS.out rfl
          have hmem : decide (cs.getD k default ∈ ms) = true := by
            obtain ⟨j, hj, e⟩ := HSt.out k hlt s1 s2 s3
            rw [← e]
            exact decide_eq_true (getD_memC hj)
          have HMem := hide hmem
          clear s1 s2 s3 hmem HS HSt
          have HBcx := hide (below_then HB3.out HBx.out)
          obtain ⟨b, off, Ak, ck, Bk, dk, rfl, hb, q0, q1, hck, hpm, hpi, hpI, hgd, hgl, hgP⟩ := (HC1.out.below HBcx.out).at_ hlt
          generalize cs.getD k default = cc at *
          have HI1 := hide hpI
          have HI2 := hide hpi
          have HG1 := hide hgP
          clear hpI hpi hgP
          go_wp2_with fail
          go_loopw [15, 16] (fun f i wq => ∃ j : Nat, j ≤ ms.length ∧ i = .int .i64 j ∧ f = .bool (decide (cc ∈ ms.take j)) ∧ Hid (Drew wc wq)) (fun _ i _ => ms.length - (iOf i).toNat)
          case atStart => exact ⟨0, Nat.zero_le _, rfl, by rw [List.take_zero, decide_eq_false (List.not_mem_nil)], Drew.refl _⟩
          case round =>
            obtain ⟨j, hj, rfl, rfl, HD⟩ := hrel
            by_cases hjt : j < ms.length
            · obtain ⟨b', off', Ak', ck', Bk', dk', rfl, hb', q0', q1', hck', hpm', hpi', hpI', hgd', hgl', hgP'⟩ := (HC3.out.below (below_then HBx.out HD.out.below)).at_ hjt
              have q0 := (HD.out.below.cell (p := ⟨b, off + k * 2, none⟩) hb).trans q0
              have q1 := (HD.out.below.cell (p := ⟨b, off + k * 2 + 1, none⟩) hb).trans q1
              have hst := mem_step hjt cc
              have HE := hide (fun wq (hq : Drew wr wq) => eq_any (c := ck') (d := ck) (w := wq) (hpI'.drew hq) ((HI1.out.drew HD.out).drew hq) (by omega) (by omega) hpi' HI2.out)
              have HP := hide (fun wq (hq : Drew wr wq) => samepile_any (c := dk') (d := dk) (w := wq) (hgP'.drew hq) ((HG1.out.drew HD.out).drew hq) hgl' hgl)
              clear hpi' hpI' hgP'
              generalize ms.getD j default = x at *
              generalize hf : decide (cc ∈ ms.take j) = f at *
              clear hf
              cases f with
              | true =>
                rw [Bool.true_or] at hst
                have HST := hide hst
                clear hst
                go_upto_region 15 with fail
                go_quiet (fail)
                go_wp2_with fail
                go_roundw
                case rel => exact ⟨j + 1, by omega, by go_num, by rw [HST.out], HD.out.drew _⟩
                case measure => simp [iOf]; omega
              | false =>
                rw [Bool.false_or] at hst
                cases h1 : decide (x.1 = cc.1) with
                | false =>
                  rw [h1, Bool.false_and] at hst
                  have HST := hide hst
                  rw [h1] at HE
                  clear hst h1
                  go_upto_region 15 with fail
                  go_quiet ((go_at_call 11; exact quiet HE.out))
                  go_wp2_with fail
                  go_roundw
                  case rel => exact ⟨j + 1, by omega, by go_num, by rw [HST.out], HD.out.drew _⟩
                  case measure => simp [iOf]; omega
                | true =>
                  rw [h1, Bool.true_and] at hst
                  rw [h1] at HE
                  clear h1
                  generalize decide (x.2 = cc.2) = z at *
                  have HST := hide hst
                  clear hst
                  go_upto_region 15 with fail
                  go_quiet ((first | (go_at_call 11; exact quiet HE.out) | (go_at_call 12; exact quiet HP.out)))
                  go_wp2_with fail
                  go_roundw
                  case rel => exact ⟨j + 1, by omega, by go_num, by rw [HST.out], HD.out.drew _⟩
                  case measure => simp [iOf]; omega
            · obtain rfl : j = ms.length := by omega
              rw [List.take_length, HMem.out]
              have HBf := hide (below_then HBx.out HD.out.below)
              go_wp2_with fail
              go_roundw
              case rel => exact ⟨k + 1, by omega, by go_num, HBf.out⟩
              case measure => simp [iOf]; omega
    · obtain rfl : k = cs.length := by omega
      have HBf := hide (below_then HB1.out (below_then HB3.out HB.out))
      have HAw := hide (awake_any)
      go_wp2_with fail
      refine (HAw.out _).mono ?_
      rintro e w9 ⟨rfl, hb9⟩
      have HBg := hide (below_then HBf.out hb9)
      clear hb9
      go_wp2_with fail
      go_ret
      exact ⟨rfl, HBg.out⟩

set_option maxRecDepth 100000 in
theorem lifted (os : Os) (started : os.Started) (H : Type) (enc : TypeId × Value → H) :
    ReturnsInHanded {} Try.checked os 3 .any (Rows.privacyStaysSpec.pre6 enc Try.prog Try.f3 Rows.privacyStaysRow.domain false) (Rows.privacyStaysSpec.post enc Try.prog Try.f3 false true false false) := by
  refine returnsInHanded_of_change (C := Try.checked) own started (by kernel_rfl) Try.func3
    (ChangeSpec.witness6 (enc := enc) (C := Try.checked) false ⟨#[], #[.int .i64 0, .int .i64 0, .slice none 0 0, .int .i64 0], []⟩ 8 (by kernel_rfl) (by kernel_rfl) (by kernel_rfl) (by kernel_rfl)) ?_
  intro W base args ds gs before hval0 hW hcnd _
  have hval : ∀ (j : Nat) t v, Try.f3.params[j]? = some t → args[j]? = some v → Value.okWide Try.prog W .any base t v := hval0
  have hW' := hW
  obtain ⟨p, q, hA0, hV, rfl, hfz, hnd⟩ := hW
  have hA : DataW.TrodAll enc Try.prog W 0 (fun _ => true) true Try.f3.params.toList args.toList ds p := hA0
  rw [Try.params3] at hA hval
  obtain ⟨v0, vs0, d0, ds0, p0, q0, hargs, rfl, rfl, h0, r0⟩ := trodAll_cons hA
  obtain ⟨v1, vs1, d1, ds1, p1, q1, rfl, rfl, rfl, h1, r1⟩ := trodAll_cons r0
  obtain ⟨v2, vs2, d2, ds2, p2, q2, rfl, rfl, rfl, h2, r2⟩ := trodAll_cons r1
  obtain ⟨v3, vs3, d3, ds3, p3, q3, rfl, rfl, rfl, h3, r3⟩ := trodAll_cons r2
  obtain ⟨rfl, rfl, rfl⟩ := trodAll_nil r3
  obtain rfl : args = #[v0, v1, v2, v3] := by cases args; simp_all
  obtain ⟨a0, rfl, _, _, w0⟩ := open_int Try.underlying3 (hval 0 3 v0 rfl rfl) h0
  obtain ⟨a1, rfl, _, _, w1⟩ := open_int Try.underlying3 (hval 1 3 v1 rfl rfl) h1
  obtain ⟨A2, c2, xs2, rfl, hx2, hl2⟩ := open_rows3 (hval 2 22 v2 rfl rfl) h2
  obtain ⟨a3, rfl, _, _, w3⟩ := open_int Try.underlying3 (hval 3 3 v3 rfl rfl) h3
  refine (walk (i64_bd w0) (i64_bd w1) hx2 hl2 (i64_bd w3)).mono fun e W' ⟨he, hb⟩ => ?_
  subst he
  exact ⟨_, rfl, post_law hW' rfl hb (by rw [Try.params3]; exact params_ok (by kernel_rfl)) rfl rfl⟩

theorem over : Rows.privacyStaysRow.holds Try.pinned (OpenSpec.ofChange Rows.privacyStaysSpec) :=
  OpenClaim.holds_of_wide 3 Try.f3 rfl rfl rfl rfl rfl rfl rfl ⟨rfl, rfl, rfl, rfl, rfl⟩ rfl rfl rfl rfl rfl (by kernel_rfl) Try.func3 (by kernel_rfl)
    (of_decide_eq_true (by kernel_rfl)) (by unfold Func.isWrapper; first | (rw [if_pos (by decide +kernel)]; kernel_rfl) | (rw [if_neg (by decide +kernel)]; exact ⟨rfl, rfl⟩))
    (fun os started H enc _ => lifted os started H enc)

theorem proved : Rows.PrivacyStaysSaid := over
end Go.Proofs.Yteeamiacplfcmaa.lawStays
