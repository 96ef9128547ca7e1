/-
  privacy.Sum.
-/
import Derived.Test.YteeamiacplfcmaaConcat
namespace Go.Proofs.Yteeamiacplfcmaa
open Go.RowKit
set_option linter.unusedVariables false
set_option linter.unusedSimpArgs false

set_option maxHeartbeats 8000000 in
set_option maxRecDepth 100000 in
theorem psum_any {A : Option Addr} {c : Nat} {cs : List Cel} {w : World} (h : Cels w A cs) (hm : cs.length ≤ 1000000) :
    Calls Try.prog 19 #[.slice A cs.length c] w fun e w' => ∃ v, e = .returned v ∧ OwnG w.heap.size w' v (sumV cs) ∧ Below w.heap.size w w' := by
  have H := hide h
  have HV := hide (pval_any (c := c) h hm)
  clear h
  cases hv : validC cs with
  | false =>
    rw [hv] at HV
    have HN := hide (sumV_no hv)
    clear hv
    go_enter Try.func19, Try.ntmps19
    go_wp2_with fail
    refine HV.out.mono ?_
    rintro e w1 ⟨rfl, hb1⟩
    go_wp2_with fail
    go_ret
    exact ⟨_, rfl, by rw [HN.out]; exact OwnA.nil _ _ _ _, hb1⟩
  | true =>
    rw [hv] at HV
    have HY := hide (sumV_yes hv)
    have HT := hide (fun k hk => sumC_take hv k hk)
    have HTT := hide (validC_iff.1 hv)
    clear hv
    go_enter Try.func19, Try.ntmps19
    go_wp2_with fail
    refine HV.out.mono ?_
    rintro e w1 ⟨rfl, hb1⟩
    have HB1 := hide hb1
    clear hb1
    go_wp2_with fail
    go_loopw [3, 5, 11] (fun o _ i wr => ∃ k : Nat, k ≤ cs.length ∧ i = .int .i64 k ∧ ∃ v : Value, o = v ∧ Hid (OwnG w.heap.size wr v (sumC (cs.take k))) ∧ Hid (Below w.heap.size w wr)) (fun _ _ i wr => cs.length - (iOf i).toNat)
    case atStart => exact ⟨0, Nat.zero_le _, rfl, _, rfl, OwnA.nil _ _ _ _, HB1.out⟩
    case round =>
      obtain ⟨k, hk, rfl, v, rfl, HO, HB⟩ := hrel
      by_cases hlt : k < cs.length
      · have hT1 := HT.out k (by omega)
        have hT2 := HTT.out
        have hT3 := totTo_mono (i := k + 1) (by omega) hT2.1
        rw [totTo_succ hlt] at hT3
        have hT4 := hT2.2
        have hgo := (hT2.1 k hlt).2.1
        clear hT2
        have hsw := HB.out.size
        obtain ⟨b0, off, Ak, ck, Bk, dk, rfl, hb0, h0, h1, -, -, -, -, -, -, hgA⟩ := H.out.at_ hlt
        have h0 := (HB.out.cell (p := ⟨b0, off + k * 2, none⟩) hb0).trans h0
        have h1 := (HB.out.cell (p := ⟨b0, off + k * 2 + 1, none⟩) hb0).trans h1
        have htk := hide (take_succC hlt)
        have hbx : Below wr.heap.size wr (wr.alloc (.cells #[.slice Ak (cs.getD k default).1.length ck, .slice Bk (cs.getD k default).2.length dk] 34)) := (Below.refl _ _).alloc (Nat.le_refl _) _
        have HBx := hide (HB.out.trans (hbx.mono hsw))
        have hO := HO.out.kept goodG hbx
        obtain ⟨A3, c3, rfl, _, hq, hP⟩ := hO.shape goodG
        have HJ := hide (pjoin_any (c := c3) (d := dk) hP (hgA.below HBx.out) hT1.1 hgo (by rw [hT1.2]; omega))
        clear hP hO hgA hbx
        generalize cs.getD k default = cc at *
        obtain ⟨ps, gs⟩ := cc
        simp only [] at *
        go_wp2_with fail
        refine HJ.out.mono ?_
        rintro e w2 ⟨v2, rfl, hO2, hb2⟩
        have hsx := HBx.out.size
        have HO2 := hide ((hO2.own goodG).lower hsx)
        have HB2 := hide (HBx.out.trans (hb2.mono hsx))
        clear hO2 hb2
        go_wp2_with fail
        go_roundw
        case rel => exact ⟨k + 1, by omega, by go_num, _, rfl, by rw [htk.out, sumC_snoc]; exact HO2.out, HB2.out⟩
        case measure => simp [iOf]; omega
      · obtain rfl : k = cs.length := by omega
        have hO := HO.out
        rw [List.take_length] at hO
        have HO := hide hO
        clear hO
        go_wp2_with fail
        go_ret
        exact ⟨_, rfl, by rw [HY.out]; exact HO.out, HB.out⟩
end Go.Proofs.Yteeamiacplfcmaa
