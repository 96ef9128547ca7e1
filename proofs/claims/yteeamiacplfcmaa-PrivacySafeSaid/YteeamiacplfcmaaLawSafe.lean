/-
  PrivacySafe returns true: merging a report leaves only safe cells, or a single one; each precinct is in exactly one of them; the sum of all ballots is unchanged. For every argument.
-/
import Derived.Test.YteeamiacplfcmaaAwake
import Derived.Test.YteeamiacplfcmaaFrame
namespace Go.Proofs.Yteeamiacplfcmaa.lawSafe
open Go.ChangeShapes Go.WideShapes Go.ChangeAt Go.RowKit
set_option linter.unusedVariables false
set_option linter.unusedSimpArgs false

theorem pre_take {cs : List Cel} {k : Nat} (hk : k < cs.length) : (preC (cs.take (k + 1))).length = (preC (cs.take k)).length + (cs.getD k default).1.length := by
  rw [take_succC hk, preC_append, List.length_append]
  simp [preC]
theorem pre_le (cs : List Cel) (k : Nat) : (preC (cs.take k)).length ≤ (preC cs).length := by
  conv => rhs; rw [← List.take_append_drop k cs]
  rw [preC_append, List.length_append]
  omega
set_option maxHeartbeats 8000000 in
set_option maxRecDepth 100000 in
theorem walk {a0 a1 a3 : Int} {A2 : Option Addr} {c2 : Nat} {xs : List (List (List Int))} {W : World} (h0 : InI a0) (h1 : InI a1) (hX : Rows3 W A2 xs) (hl : xs.length ≤ 9223372036854775807) (h3 : InI a3) :
    Calls Try.prog 5 #[.int .i64 a0, .int .i64 a1, .slice A2 xs.length c2, .int .i64 a3] W fun e W' => e = .returned (.bool true) ∧ Below W.heap.size W W' := by
  have HMk := hide (make_any (c := c2) hX hl h1 h3)
  have HMo := hide (fun wq => mod_any a0 12 (by omega) (by omega) h0 wq)
  clear h0 h1 h3 hX
  go_enter Try.func5, Try.ntmps5
  go_wp2_with fail
  refine HMk.out.mono ?_
  rintro e w1 ⟨v1, cs, rfl, hO1, hv1, hb1⟩
  obtain ⟨A1, c1, rfl, hc1, _, hP1⟩ := hO1.shape goodC
  have hcl := valid_len hv1
  have HB1 := hide hb1
  have HC1 := hide (show Cels w1 A1 cs from hP1)
  have HV1 := hide hv1
  clear hO1 hb1 hP1 hv1 hc1
  go_wp2_with fail
  refine (HMo.out _).mono ?_
  rintro e w2 ⟨r, rfl, ⟨hr0, hr1⟩, rfl⟩
  have hwr : IntKind.i64.wrap (1 + r) = 1 + r := IntWalk.i64_in _ (by omega)
  have HM := hide (pcmerge_any (c := c1) (least := 1 + r) HC1.out (by omega) (by unfold InI; omega))
  rw [mergeV_ok (by omega) HV1.out] at HM
  obtain ⟨hk1, hk2, hk3, hk4, hk5⟩ := mergeC_keeps (least := 1 + r) HV1.out
  have hml := valid_len hk1
  have hS1 := sumV_yes HV1.out
  have hS2 := sumV_yes hk1
  have hSq : sumV (mergeC (1 + r) cs) = sumV cs := by rw [hS1, hS2, hk4]
  have hsl := (pile_len (sumC_take HV1.out cs.length (Nat.le_refl _)).1).1
  rw [List.take_length, ← hS1] at hsl
  generalize mergeC (1 + r) cs = ms at *
  have HKV := hide hk1
  have HKS := hide hSq
  have HKL := hide hk3
  have HK5 := hide hk5
  have hz : ((ms.length : Int) == 0) = ((cs.length : Int) == 0) := by
    by_cases h : cs.length = 0
    · rw [h, hk2.2 h]
    · have : ms.length ≠ 0 := fun e => h (hk2.1 e)
      rw [show ((ms.length : Int) == 0) = false from beq_eq_false_iff_ne.2 (by omega), show ((cs.length : Int) == 0) = false from beq_eq_false_iff_ne.2 (by omega)]
  have hkz := hide hz
  clear hk1 hSq hk2 hk3 hk4 hk5 hS1 hS2 hz
  go_wp2_with fail
  refine HM.out.mono ?_
  rintro e w3 ⟨v3, rfl, hO3, hb3⟩
  obtain ⟨A3, c3, rfl, hc3, _, hP3⟩ := hO3.shape goodC
  have HC3 := hide (show Cels w3 A3 ms from hP3)
  have HB3 := hide hb3
  have HPV := hide (pval_any (c := c3) HC3.out (by omega))
  rw [HKV.out] at HPV
  clear hO3 hb3 hP3 hc3
  go_wp2_with fail
  refine HPV.out.mono ?_
  rintro e w4 ⟨rfl, hb4⟩
  have HPS := hide (psum_any (c := c3) (HC3.out.below hb4) (by omega))
  have HB4 := hide hb4
  clear hb4
  go_wp2_with fail
  refine HPS.out.mono ?_
  rintro e w5 ⟨v5, rfl, hO5, hb5⟩
  obtain ⟨A5, c5, rfl, hc5, _, hP5⟩ := hO5.shape goodG
  have HG5 := hide (show Grps w5 A5 (sumV ms) from hP5)
  have HB5 := hide (below_then HB3.out (below_then HB4.out hb5))
  have HRS := hide (rsum_any (c := c1) (HC1.out.below HB5.out) (by omega))
  have HBm := hide (below_then HB4.out hb5)
  clear hO5 hb5 hP5 hc5
  go_wp2_with fail
  refine HRS.out.mono ?_
  rintro e w6 ⟨v6, rfl, hO6, hb6⟩
  obtain ⟨A6, c6, rfl, hc6, _, hP6⟩ := hO6.shape goodG
  have HSP := hide (samepile_any (c := c5) (d := c6) (HG5.out.below hb6) (show Grps w6 A6 (sumV cs) from hP6) (by rw [HKS.out]; omega) (by omega))
  rw [show decide (sumV ms = sumV cs) = true from decide_eq_true HKS.out] at HSP
  have HB6 := hide hb6
  clear hO6 hb6 hP6 hc6
  go_wp2_with fail
  refine HSP.out.mono ?_
  rintro e w7 ⟨rfl, hd7⟩
  have HBm7 := hide (below_then HBm.out (below_then HB6.out hd7.below))
  have HB7 := hide (below_then HB5.out (below_then HB6.out hd7.below))
  clear hd7
  have hz := hkz.out
  have HPF := hide (few_seen (cs := ms) (i := ms.length) (Nat.le_refl _) (validC_iff.1 HKV.out).1)
  have HPT := hide (fun k (hk : k < ms.length) => (validC_iff.1 HKV.out).1 k hk)
  have hf1 := (valid_iff.1 HKV.out).2.1.len
  have hf2 := (valid_iff.1 HV1.out).2.1.len
  go_wp2_with fail
  go_loopw [12, 14] (fun c i wr => ∃ k : Nat, k ≤ ms.length ∧ i = .int .i64 k ∧ c = .int .i64 ((preC (ms.take k)).length : Nat) ∧ Hid (Below w3.heap.size w3 wr)) (fun _ i wr => ms.length - (iOf i).toNat)
  case atStart => exact ⟨0, Nat.zero_le _, rfl, rfl, HBm7.out⟩
  case round =>
    obtain ⟨k, hk, rfl, rfl, HB⟩ := hrel
    by_cases hlt : k < ms.length
    · have hp1 := pre_take hlt
      have hp2 := pre_le ms (k + 1)
      obtain ⟨b, off, Ak, ck, Bk, dk, rfl, hb, q0, q1, -, -, -, -, hgd, hgl, hgP⟩ := HC3.out.at_ hlt
      have q0 := (HB.out.cell (p := ⟨b, off + k * 2, none⟩) hb).trans q0
      have q1 := (HB.out.cell (p := ⟨b, off + k * 2 + 1, none⟩) hb).trans q1
      have hpo := (HPT.out k hlt).2.1
      have HTo := hide (total_any (c := dk) (hgP.below HB.out) hpo)
      have hsf : 1 < ms.length → 1 + r ≤ sumN (ms.getD k default).2 ∧ 2 ≤ (ms.getD k default).2.length := fun h1 => by
        rcases HK5.out with h | h
        · omega
        · exact (safe_iff.1 (firstBad_all h hlt)).2
      have HSf := hide hsf
      have hsm := pile_len hpo
      clear hsf hpo hgP
      generalize ms.getD k default = cc at *
      obtain ⟨ps, gs⟩ := cc
      simp only [] at *
      have hwk : IntKind.i64.wrap (((preC (ms.take k)).length : Int) + (ps.length : Int)) = ((preC (ms.take (k + 1))).length : Nat) := by
        rw [hp1]
        exact (IntWalk.i64_in _ (by omega)).trans (by omega)
      have HWK := hide hwk
      have hn0 : ((preC (ms.take k)).length : Int) + (ps.length : Int) ≤ 12 := by omega
      clear hwk hp1
      generalize (preC (ms.take k)).length = nk at *
      by_cases h1 : 1 < ms.length
      · obtain ⟨hs1, hs2⟩ := HSf.out h1
        go_wp2_with fail
        refine HTo.out.mono ?_
        rintro e w8 ⟨rfl, hb8⟩
        have q0 := (hb8.cell (p := ⟨b, off + k * 2, none⟩) (by have := HB.out.size; show b < _; omega)).trans q0
        have q1 := (hb8.cell (p := ⟨b, off + k * 2 + 1, none⟩) (by have := HB.out.size; show b < _; omega)).trans q1
        have HB8 := hide (below_then HB.out hb8)
        clear hb8
        have hwk := HWK.out
        go_wp2_with fail
        go_roundw
        case rel => exact ⟨k + 1, by omega, by go_num, by first | rfl | rw [← hwk], HB8.out⟩
        case measure => simp [iOf]; omega
      · have hwk := HWK.out
        go_wp2_with fail
        go_roundw
        case rel => exact ⟨k + 1, by omega, by go_num, by first | rfl | rw [← hwk], HB.out⟩
        case measure => simp [iOf]; omega
    · obtain rfl : k = ms.length := by omega
      have HB9 := hide (below_then HB1.out (below_then HB3.out HB.out))
      have HBc := hide (below_then HB3.out HB.out)
      have hmm : (preC (ms.take ms.length)).length = (preC cs).length := by rw [List.take_length]; exact HKL.out
      rw [hmm]
      clear HB hmm
      have HBcw := HBc
      go_wp2_with fail
      go_loopw [13, 15] (fun c i wq => ∃ k : Nat, k ≤ cs.length ∧ i = .int .i64 k ∧ c = .int .i64 ((preC (cs.take k)).length : Nat) ∧ wq = wr) (fun _ i wr => cs.length - (iOf i).toNat)
      case atStart => exact ⟨0, Nat.zero_le _, rfl, rfl, rfl⟩
      case round =>
        obtain ⟨k, hk, rfl, rfl, rfl⟩ := hrel
        by_cases hlt : k < cs.length
        · have hp1 := pre_take hlt
          have hp2 := pre_le cs (k + 1)
          obtain ⟨b, off, Ak, ck, Bk, dk, rfl, hb, q0, q1, -, -, -, -, hgd, hgl, hgP⟩ := HC1.out.at_ hlt
          have q0 := (HBc.out.cell (p := ⟨b, off + k * 2, none⟩) hb).trans q0
          clear q1 hgP hgd hgl
          generalize cs.getD k default = cc at *
          obtain ⟨ps, gs⟩ := cc
          simp only [] at *
          have hwk : IntKind.i64.wrap (((preC (cs.take k)).length : Int) + (ps.length : Int)) = ((preC (cs.take (k + 1))).length : Nat) := by
            rw [hp1]
            exact (IntWalk.i64_in _ (by omega)).trans (by omega)
          clear hp1
          generalize (preC (cs.take k)).length = nk at *
          go_wp2_with fail
          go_roundw
          case rel => exact ⟨k + 1, by omega, by go_num, by first | rfl | rw [← hwk], by first | rfl | trivial⟩
          case measure => simp [iOf]; omega
        · obtain rfl : k = cs.length := by omega
          have hmm : (preC (cs.take cs.length)).length = (preC cs).length := by rw [List.take_length]
          rw [hmm]
          clear hmm
          have HAw := hide (awake_any)
          go_wp2_with fail
          refine (HAw.out _).mono ?_
          rintro e w9 ⟨rfl, hb9⟩
          have HBf := hide (below_then HB9.out hb9)
          clear hb9
          go_wp2_with fail
          go_ret
          exact ⟨rfl, HBf.out⟩

set_option maxRecDepth 100000 in
theorem lifted (os : Os) (started : os.Started) (H : Type) (enc : TypeId × Value → H) :
    ReturnsInHanded {} Try.checked os 5 .any (Rows.privacySafeSpec.pre6 enc Try.prog Try.f5 Rows.privacySafeRow.domain false) (Rows.privacySafeSpec.post enc Try.prog Try.f5 false true false false) := by
  refine returnsInHanded_of_change (C := Try.checked) own started (by kernel_rfl) Try.func5
    (ChangeSpec.witness6 (enc := enc) (C := Try.checked) false ⟨#[], #[.int .i64 0, .int .i64 0, .slice none 0 0, .int .i64 0], []⟩ 8 (by kernel_rfl) (by kernel_rfl) (by kernel_rfl) (by kernel_rfl)) ?_
  intro W base args ds gs before hval0 hW hcnd _
  have hval : ∀ (j : Nat) t v, Try.f5.params[j]? = some t → args[j]? = some v → Value.okWide Try.prog W .any base t v := hval0
  have hW' := hW
  obtain ⟨p, q, hA0, hV, rfl, hfz, hnd⟩ := hW
  have hA : DataW.TrodAll enc Try.prog W 0 (fun _ => true) true Try.f5.params.toList args.toList ds p := hA0
  rw [Try.params5] at hA hval
  obtain ⟨v0, vs0, d0, ds0, p0, q0, hargs, rfl, rfl, h0, r0⟩ := trodAll_cons hA
  obtain ⟨v1, vs1, d1, ds1, p1, q1, rfl, rfl, rfl, h1, r1⟩ := trodAll_cons r0
  obtain ⟨v2, vs2, d2, ds2, p2, q2, rfl, rfl, rfl, h2, r2⟩ := trodAll_cons r1
  obtain ⟨v3, vs3, d3, ds3, p3, q3, rfl, rfl, rfl, h3, r3⟩ := trodAll_cons r2
  obtain ⟨rfl, rfl, rfl⟩ := trodAll_nil r3
  obtain rfl : args = #[v0, v1, v2, v3] := by cases args; simp_all
  obtain ⟨a0, rfl, _, _, w0⟩ := open_int Try.underlying3 (hval 0 3 v0 rfl rfl) h0
  obtain ⟨a1, rfl, _, _, w1⟩ := open_int Try.underlying3 (hval 1 3 v1 rfl rfl) h1
  obtain ⟨A2, c2, xs2, rfl, hx2, hl2⟩ := open_rows3 (hval 2 22 v2 rfl rfl) h2
  obtain ⟨a3, rfl, _, _, w3⟩ := open_int Try.underlying3 (hval 3 3 v3 rfl rfl) h3
  refine (walk (i64_bd w0) (i64_bd w1) hx2 hl2 (i64_bd w3)).mono fun e W' ⟨he, hb⟩ => ?_
  subst he
  exact ⟨_, rfl, post_law hW' rfl hb (by rw [Try.params5]; exact params_ok (by kernel_rfl)) rfl rfl⟩

theorem over : Rows.privacySafeRow.holds Try.pinned (OpenSpec.ofChange Rows.privacySafeSpec) :=
  OpenClaim.holds_of_wide 5 Try.f5 rfl rfl rfl rfl rfl rfl rfl ⟨rfl, rfl, rfl, rfl, rfl⟩ rfl rfl rfl rfl rfl (by kernel_rfl) Try.func5 (by kernel_rfl)
    (of_decide_eq_true (by kernel_rfl)) (by unfold Func.isWrapper; first | (rw [if_pos (by decide +kernel)]; kernel_rfl) | (rw [if_neg (by decide +kernel)]; exact ⟨rfl, rfl⟩))
    (fun os started H enc _ => lifted os started H enc)

theorem proved : Rows.PrivacySafeSaid := over
end Go.Proofs.Yteeamiacplfcmaa.lawSafe
