/-
  electionref42.Sum.
-/
import Derived.Test.YteeamiacplfcmaaPlainP
namespace Go.Proofs.Yteeamiacplfcmaa
open Go.RowKit
set_option linter.unusedVariables false
set_option linter.unusedSimpArgs false

/-- Sum -/
def sumV (cs : List Cel) : List Grp := if validC cs = true then sumC cs else []
theorem sumV_no {cs : List Cel} (h : validC cs = false) : sumV cs = [] := by unfold sumV; rw [if_neg (by rw [h]; simp)]
theorem sumV_yes {cs : List Cel} (h : validC cs = true) : sumV cs = sumC cs := by unfold sumV; rw [if_pos h]
theorem sumV_nil : sumV [] = sumC [] := by unfold sumV; split <;> rfl
set_option maxHeartbeats 8000000 in
set_option maxRecDepth 100000 in
theorem rsum_any {A : Option Addr} {c : Nat} {cs : List Cel} {w : World} (h : Cels w A cs) (hm : cs.length ≤ 1000000) :
    Calls Try.prog 20 #[.slice A cs.length c] w fun e w' => ∃ v, e = .returned v ∧ OwnG w.heap.size w' v (sumV cs) ∧ Below w.heap.size w w' := by
  have H := hide h
  have HV := hide (fun wq (hq : Below w.heap.size w wq) => rval_any (c := c) (w := wq) (h.below hq) hm)
  have HT := hide (fun (hv : validC cs = true) k hk => sumC_take hv k hk)
  have HTT := hide (fun (hv : validC cs = true) => validC_iff.1 hv)
  clear h
  go_enter Try.func20, Try.ntmps20
  go_wp2_with fail
  go_loopw [3, 4] (fun o i wr => ∃ k : Nat, k ≤ cs.length ∧ i = .int .i64 k ∧ Hid (0 < k → validC cs = true) ∧ ∃ v : Value, o = v ∧ Hid (OwnG w.heap.size wr v (sumC (cs.take k))) ∧ Hid (Below w.heap.size w wr)) (fun _ i wr => cs.length - (iOf i).toNat)
  case atStart => exact ⟨0, Nat.zero_le _, rfl, fun h => absurd h (by omega), _, rfl, OwnA.nil _ _ _ _, Below.refl _ _⟩
  case round =>
    obtain ⟨k, hk, rfl, hkv, v, rfl, HO, HB⟩ := hrel
    by_cases hlt : k < cs.length
    · have HV1 := hide (HV.out _ HB.out)
      have hsw := HB.out.size
      cases hv : validC cs with
      | false =>
        rw [hv] at HV1
        obtain rfl : k = 0 := by
          rcases Nat.eq_zero_or_pos k with h | h
          · exact h
          · rw [hkv.out h] at hv; cases hv
        have HV0 := hide hv
        clear hv
        go_wp2_with fail
        refine HV1.out.mono ?_
        rintro e w1 ⟨rfl, hb1⟩
        have hO := HO.out.kept goodG hb1
        have HB1 := hide (HB.out.trans (hb1.mono hsw))
        clear hb1
        go_wp2_with fail
        go_ret
        refine ⟨_, rfl, ?_, HB1.out⟩
        rw [sumV_no HV0.out]
        exact hO
      | true =>
        rw [hv] at HV1
        have hT1 := HT.out hv k (by omega)
        have hT2 := HTT.out hv
        have hT3 := totTo_mono (i := k + 1) (by omega) hT2.1
        rw [totTo_succ hlt] at hT3
        have hT4 := hT2.2
        have hgo := (hT2.1 k hlt).2.1
        have HVt := hide hv
        clear hv hT2
        obtain ⟨b0, off, Ak, ck, Bk, dk, rfl, hb0, h0, h1, -, -, -, -, -, -, hgA⟩ := H.out.at_ hlt
        have HC0 := hide h1
        have HGA := hide hgA
        have htk := hide (take_succC hlt)
        clear h0 h1 hgA
        generalize cs.getD k default = cc at *
        obtain ⟨ps, gs⟩ := cc
        simp only [] at *
        go_wp2_with fail
        refine HV1.out.mono ?_
        rintro e w1 ⟨rfl, hb1⟩
        have hO := HO.out.kept goodG hb1
        have HB1 := hide (HB.out.trans (hb1.mono hsw))
        have hs1 := HB1.out.size
        have h1 := (HB1.out.cell (p := ⟨b0, off + k * 2 + 1, none⟩) hb0).trans HC0.out
        obtain ⟨A3, c3, rfl, _, hq, hP⟩ := hO.shape goodG
        have HJ := hide (rjoin_any (c := c3) (d := dk) hP (HGA.out.below HB1.out) hT1.1 hgo (by rw [hT1.2]; omega))
        clear hb1 hP hO
        go_wp2_with fail
        refine HJ.out.mono ?_
        rintro e w2 ⟨v2, rfl, hO2, hb2⟩
        have HO2 := hide (hO2.lower hs1)
        have HB2 := hide (HB1.out.trans (hb2.mono hs1))
        clear hO2 hb2
        go_wp2_with fail
        go_roundw
        case rel => exact ⟨k + 1, by omega, by go_num, (by intro _; first | exact HVt.out | trivial), _, rfl, by rw [htk.out, sumC_snoc]; exact HO2.out, HB2.out⟩
        case measure => simp [iOf]; omega
    · obtain rfl : k = cs.length := by omega
      have hO := HO.out
      rw [List.take_length] at hO
      have HO := hide hO
      clear hO
      go_wp2_with fail
      go_ret
      refine ⟨_, rfl, ?_, HB.out⟩
      rcases Nat.eq_zero_or_pos cs.length with h | h
      · obtain rfl := List.length_eq_zero_iff.1 h
        rw [sumV_nil]
        exact HO.out
      · rw [sumV_yes (hkv.out h)]; exact HO.out
end Go.Proofs.Yteeamiacplfcmaa
