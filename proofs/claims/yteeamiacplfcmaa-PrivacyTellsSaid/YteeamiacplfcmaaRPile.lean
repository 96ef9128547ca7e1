/-
  electionref24.Valid, Pile, Total.
-/
import Derived.Test.YteeamiacplfcmaaCmp
namespace Go.Proofs.Yteeamiacplfcmaa
open Go.RowKit
set_option linter.unusedVariables false
set_option linter.unusedSimpArgs false

theorem groupinfo : (Try.prog.info? 52).map (fun i => (i.zero, i.size, i.bytes)) = some (some (.agg #[.slice none 0 0, .int .i64 0]), 2, 32) := by kernel_rfl
theorem Grps.drew {w w' : World} {A : Option Addr} {gs : List Grp} (h : Grps w A gs) (hd : Drew w w') : Grps w' A gs := h.below hd.below
theorem Cels.drew {w w' : World} {A : Option Addr} {cs : List Cel} (h : Cels w A cs) (hd : Drew w w') : Cels w' A cs := h.below hd.below
set_option maxHeartbeats 8000000 in
theorem rvalid_any {A : Option Addr} {c : Nat} {gs : List Grp} {w : World} (h : Grps w A gs) (hm : gs.length ≤ 1000000) :
    Calls Try.prog 46 #[.int .i64 7, .slice A gs.length c] w fun e w' => e = .returned (.bool (pileOk 7 gs)) ∧ Drew w w' := by
  have H := hide h
  clear h
  go_enter Try.func46, Try.ntmps46
  go_wp2_with fail
  go_loopw [5, 6] (fun r i wr => ∃ k : Nat, k ≤ gs.length ∧ i = .int .i64 k ∧ r = .int .i64 (100000 - sumN (gs.take k)) ∧ Hid (Drew w wr) ∧ Hid (∀ i, i < k → GrpOk 7 gs i)) (fun _ i wr => gs.length - (iOf i).toNat)
  case atStart => exact ⟨0, Nat.zero_le _, rfl, by simp [sumN], Drew.refl _, by intro i hi; omega⟩
  case round =>
    obtain ⟨k, hk, rfl, rfl, HB, HX⟩ := hrel
    by_cases hlt : k < gs.length
    · obtain ⟨b, off, Ak, ck, rfl, hb, h0, h1, hck, hpm, hpi, hni, hpA⟩ := (H.out.drew HB.out).at_ hlt
      have HNo := hide (fun g => pileOk_no (n := 7) (gs := gs) hlt g)
      have hs := sum_bounds hk HX.out
      have HS := hide (sumN_take hlt)
      have HK : Hid (GrpOk 7 gs k → ∀ i, i < k + 1 → GrpOk 7 gs i) := fun e i hi => by
        by_cases e1 : i = k
        · rw [e1]; exact e
        · exact HX.out i (by omega)
      have q0 : (k : Int) < (gs.length : Int) := by omega
      have HCB := hide (fun wq (hq : Drew wr wq) => rballot_any (A := Ak) (c := ck) (n := 7) (w := wq) (hpA.drew hq) (by omega) hck hpi ⟨by omega, by omega⟩)
      by_cases e1 : ballot 7 (gs.getD k default).1 = false
      · have HNo := hide (HNo.out fun g => by unfold GrpOk at g; rw [e1] at g; exact absurd g.1 (by simp))
        rw [e1] at HCB
        clear e1
        generalize gs.getD k default = g at *
        obtain ⟨p, n⟩ := g
        simp only [] at *
        go_upto_region 7 with fail
        go_quiet ((go_at_call 50; exact quiet HCB.out))
        go_wp2_with fail
        go_ret
        exact ⟨by rw [HNo.out]; rfl, HB.out.drew _⟩
      · have e1 : ballot 7 (gs.getD k default).1 = true := by simpa using e1
        by_cases e3 : (gs.getD k default).2 < 1
        · have HNo := hide (HNo.out fun g => by unfold GrpOk at g; omega)
          rw [e1] at HCB
          clear e1
          generalize gs.getD k default = g at *
          generalize 100000 - sumN (gs.take k) = r at *
          obtain ⟨p, n⟩ := g
          simp only [] at *
          unfold InI at hni
          go_upto_region 7 with fail
          go_quiet ((go_at_call 50; exact quiet HCB.out))
          go_wp2_with fail
          go_ret
          exact ⟨by rw [HNo.out]; rfl, HB.out.drew _⟩
        by_cases e4 : 100000 - sumN (gs.take k) < (gs.getD k default).2
        · have HNo := hide (HNo.out fun g => by unfold GrpOk at g; omega)
          rw [e1] at HCB
          clear e1
          generalize gs.getD k default = g at *
          generalize 100000 - sumN (gs.take k) = r at *
          obtain ⟨p, n⟩ := g
          simp only [] at *
          unfold InI at hni
          go_upto_region 7 with fail
          go_quiet ((go_at_call 50; exact quiet HCB.out))
          go_wp2_with fail
          go_ret
          exact ⟨by rw [HNo.out]; rfl, HB.out.drew _⟩
        · rw [e1] at HCB
          have e7 : 1 ≤ (gs.getD k default).2 := by omega
          have hr0 : 0 ≤ 100000 - sumN (gs.take k) := by omega
          have hr1 : 100000 - sumN (gs.take k) ≤ 100000 := by omega
          rcases Nat.eq_zero_or_pos k with e5 | e5
          · subst e5
            have HK := hide (HK.out ⟨e1, by omega, by omega, fun h => absurd h (by omega)⟩)
            have HS := hide (show 100000 - sumN (gs.take (0 + 1)) = 100000 - sumN (gs.take 0) - (gs.getD 0 default).2 by rw [HS.out]; omega)
            clear e1 hs
            generalize gs.getD 0 default = g at *
            generalize 100000 - sumN (gs.take 0) = r at *
            obtain ⟨p, n⟩ := g
            simp only [] at *
            unfold InI at hni
            have e6 : decide ((((0 : Nat)) : Int) > 0) = false := rfl
            rw [Nat.zero_mul, Nat.add_zero] at h0 h1
            go_upto_region 7 with fail
            go_quiet ((go_at_call 50; exact quiet HCB.out))
            go_wp2_with fail
            go_roundw
            case rel => exact ⟨1, by omega, by go_num, by first | (rw [HS.out]; done) | (rw [HS.out]; go_num), HB.out.drew _, HK.out⟩
            case measure => simp [iOf]; omega
          · obtain ⟨b', off', Bk, dk, e, hb', h0', h1', hck', hpm', hpi', hni', hpA'⟩ := (H.out.drew HB.out).at_ (k := k - 1) (by omega)
            cases e
            have HCL := hide (fun wq (hq : Drew wr wq) => less_any (c := dk) (d := ck) (w := wq) (hpA'.drew hq) (hpA.drew hq) (by omega) (by omega) hpi' hpi)
            have HK2 : Hid (lexLt (gs.getD (k - 1) default).1 (gs.getD k default).1 = true → ∀ i, i < k + 1 → GrpOk 7 gs i) := fun h => HK.out ⟨e1, by omega, by omega, fun _ => h⟩
            have HN2 : Hid (lexLt (gs.getD (k - 1) default).1 (gs.getD k default).1 = false → pileOk 7 gs = false) := fun h => HNo.out fun g => by
              have := g.2.2.2 e5
              rw [h] at this
              cases this
            have hk1 : k - 1 < gs.length := by omega
            have HS := hide (show 100000 - sumN (gs.take (k + 1)) = 100000 - sumN (gs.take k) - (gs.getD k default).2 by rw [HS.out]; omega)
            clear e1 HK HNo hs
            generalize gs.getD k default = g at *
            generalize gs.getD (k - 1) default = g' at *
            generalize 100000 - sumN (gs.take k) = r at *
            obtain ⟨p, n⟩ := g
            obtain ⟨p', n'⟩ := g'
            simp only [] at *
            unfold InI at hni
            have q1 : (0 : Int) < (k : Int) := by omega
            have q2 : ((k - 1 : Nat) : Int) < (gs.length : Int) := by omega
            have q3 : (0 : Int) ≤ ((k - 1 : Nat) : Int) := by omega
            have ew : IntKind.i64.wrap ((k : Int) - 1) = ((k - 1 : Nat) : Int) := (IntWalk.i64_in _ (by omega)).trans (by omega)
            cases hq : lexLt p' p with
            | false =>
              have HN2 := hide (HN2.out hq)
              rw [hq] at HCL
              clear hq HK2
              go_upto_region 7 with fail
              go_quiet ((first | (go_at_call 50; exact quiet HCB.out) | (go_at_call 29; exact quiet HCL.out)))
              go_wp2_with fail
              go_ret
              exact ⟨by rw [HN2.out]; rfl, HB.out.drew _⟩
            | true =>
              have HK2 := hide (HK2.out hq)
              rw [hq] at HCL
              clear hq HN2
              go_upto_region 7 with fail
              go_quiet ((first | (go_at_call 50; exact quiet HCB.out) | (go_at_call 29; exact quiet HCL.out)))
              go_wp2_with fail
              go_roundw
              case rel => exact ⟨k + 1, by omega, by go_num, by first | (rw [HS.out]; done) | (rw [HS.out]; go_num), HB.out.drew _, HK2.out⟩
              case measure => simp [iOf]; omega
    · have HR : Hid (pileOk 7 gs = true) := pileOk_yes fun i hi => HX.out i (by omega)
      go_wp2_with fail
      go_ret
      exact ⟨by rw [HR.out]; rfl, HB.out⟩
theorem rpile_any {A : Option Addr} {c : Nat} {gs : List Grp} {w : World} (h : Grps w A gs) (hm : gs.length ≤ 1000000) :
    Calls Try.prog 34 #[.slice A gs.length c] w fun e w' => e = .returned (.bool (pileOk 7 gs)) ∧ Drew w w' := by
  have H := hide (rvalid_any (c := c) h hm)
  clear h
  go_enter Try.func34, Try.ntmps34
  go_wp2_with fail
  refine H.out.mono ?_
  rintro e w1 ⟨rfl, hb⟩
  go_wp2_with fail
  go_ret
  exact ⟨rfl, hb⟩
set_option maxHeartbeats 1000000 in
theorem rtotal_any {A : Option Addr} {c : Nat} {gs : List Grp} {w : World} (h : Grps w A gs) (hp : pileOk 7 gs = true) :
    Calls Try.prog 28 #[.slice A gs.length c] w fun e w' => e = .returned (.int .i64 (sumN gs)) ∧ Drew w w' := by
  have hm := (pile_len hp).1
  have HP := hide (pileOk_iff.1 hp)
  have H := hide h
  have HC := hide (fun wq (hq : Drew w wq) => rpile_any (c := c) (w := wq) (h.drew hq) (by omega))
  rw [hp] at HC
  clear h hp
  go_enter Try.func28, Try.ntmps28
  go_wp2_with fail
  go_loopw [3, 4] (fun r i wr => ∃ k : Nat, k ≤ gs.length ∧ i = .int .i64 k ∧ r = .int .i64 (sumN (gs.take k)) ∧ Hid (Drew w wr)) (fun _ i wr => gs.length - (iOf i).toNat)
  case atStart => exact ⟨0, Nat.zero_le _, rfl, by simp [sumN], Drew.refl _⟩
  case round =>
    obtain ⟨k, hk, rfl, rfl, HB⟩ := hrel
    by_cases hlt : k < gs.length
    · obtain ⟨b, off, Ak, ck, rfl, hb, h0, h1, hck, hpm, hpi, hni, hpA⟩ := (H.out.drew HB.out).at_ hlt
      have hs := sum_bounds hk (fun j hj => HP.out j (by omega))
      have HS := hide (sumN_take hlt)
      have hg : 1 ≤ (gs.getD k default).2 ∧ (gs.getD k default).2 ≤ 100000 - sumN (gs.take k) := ⟨(HP.out k hlt).2.1, (HP.out k hlt).2.2.1⟩
      clear hpi hpA hpm hck h0 Ak ck
      generalize gs.getD k default = g at *
      obtain ⟨p, n⟩ := g
      generalize sumN (gs.take k) = r at *
      simp only [] at *
      clear hni
      go_wp2_with fail
      refine (HC.out _ HB.out).mono ?_
      rintro e w1 ⟨rfl, hb2⟩
      have HB2 := hide (HB.out.trans hb2)
      have h1 : w1.cell? ⟨b, off + k * 2 + 1, none⟩ = some (.int .i64 n) := by
        obtain ⟨m, rfl⟩ := hb2
        exact h1
      clear hb2
      go_wp2_with fail
      go_roundw
      case rel => exact ⟨k + 1, by omega, by go_num, by first | (rw [HS.out]; done) | (rw [HS.out]; go_num), HB2.out⟩
      case measure => simp [iOf]; omega
    · obtain rfl : k = gs.length := by omega
      rw [List.take_length]
      go_wp2_with fail
      go_ret
      exact ⟨rfl, HB.out⟩
end Go.Proofs.Yteeamiacplfcmaa
