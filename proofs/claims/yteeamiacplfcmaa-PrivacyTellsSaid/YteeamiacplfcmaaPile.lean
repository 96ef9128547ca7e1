/-
  pile.isPile, isAny, Valid, Total.
-/
import Derived.Test.YteeamiacplfcmaaRPile
namespace Go.Proofs.Yteeamiacplfcmaa
open Go.RowKit
set_option linter.unusedVariables false
set_option linter.unusedSimpArgs false

theorem box2 {w w1 : World} {v0 v1 : Value} {t : TypeId} (h : Below (w.alloc (.cells #[v0, v1] t)).heap.size (w.alloc (.cells #[v0, v1] t)) w1) :
    w1.cell? ⟨w.heap.size, 0, none⟩ = some v0 ∧ w1.cell? ⟨w.heap.size, 1, none⟩ = some v1 ∧ w1.frozen? ⟨w.heap.size, 0, none⟩ = false ∧ w1.frozen? ⟨w.heap.size, 1, none⟩ = false ∧ w.heap.size < w1.heap.size := by
  have e : ∀ i, (w.alloc (.cells #[v0, v1] t)).frozen? ⟨w.heap.size, i, none⟩ = false := fun i => by
    unfold World.frozen?
    rw [heap_alloc_new w (.cells #[v0, v1] t)]
    simp
  refine ⟨(h.cell (p := ⟨w.heap.size, 0, none⟩) (by simp)).trans ?_, (h.cell (p := ⟨w.heap.size, 1, none⟩) (by simp)).trans ?_, (h.frozen (p := ⟨w.heap.size, 0, none⟩) (by simp)).trans (e 0), (h.frozen (p := ⟨w.heap.size, 1, none⟩) (by simp)).trans (e 1), ?_⟩
  · exact (cell_of_row _ w.heap.size _ _ t (0, 0) (heap_alloc_new w _)).trans rfl
  · exact (cell_of_row _ w.heap.size _ _ t (0, 0) (heap_alloc_new w _)).trans rfl
  · have := h.size
    simp at this
    omega
set_option maxHeartbeats 8000000 in
theorem ispile_any {A : Option Addr} {c : Nat} {gs : List Grp} {w : World} (h : Grps w A gs) (hm : gs.length ≤ 1000000) :
    Calls Try.prog 45 #[.int .i64 7, .slice A gs.length c] w fun e w' => e = .returned (.bool (pileOk 7 gs)) ∧ Below w.heap.size w w' := by
  have H := hide h
  clear h
  go_enter Try.func45, Try.ntmps45
  go_wp2_with fail
  go_loopw [5, 6, 7, 10] (fun r _ _ i wr => ∃ k : Nat, k ≤ gs.length ∧ i = .int .i64 k ∧ r = .int .i64 (sumN (gs.take k)) ∧ Hid (Below w.heap.size w wr) ∧ Hid (∀ i, i < k → GrpOk 7 gs i)) (fun _ _ _ i wr => gs.length - (iOf i).toNat)
  case atStart => exact ⟨0, Nat.zero_le _, rfl, by simp [sumN], Below.refl _ _, by intro i hi; omega⟩
  case round =>
    obtain ⟨k, hk, rfl, rfl, HB, HX⟩ := hrel
    by_cases hlt : k < gs.length
    · obtain ⟨b, off, Ak, ck, rfl, hb, h0, h1, hck, hpm, hpi, hni, hpA⟩ := (H.out.below HB.out).at_ hlt
      have HNo := hide (fun g => pileOk_no (n := 7) (gs := gs) hlt g)
      have hs := sum_bounds hk HX.out
      have HS := hide (sumN_take hlt)
      have HK : Hid (GrpOk 7 gs k → ∀ i, i < k + 1 → GrpOk 7 gs i) := fun e i hi => by
        by_cases e1 : i = k
        · rw [e1]; exact e
        · exact HX.out i (by omega)
      have q0 : (k : Int) < (gs.length : Int) := by omega
      by_cases e3 : (gs.getD k default).2 < 1
      · have HNo := hide (HNo.out fun g => by unfold GrpOk at g; omega)
        generalize gs.getD k default = g at *
        generalize sumN (gs.take k) = r at *
        obtain ⟨p, n⟩ := g
        simp only [] at *
        unfold InI at hni
        go_wp2_with fail
        go_ret
        exact ⟨by rw [HNo.out]; rfl, HB.out.alloc HB.out.size _⟩
      by_cases e4 : 100000 - sumN (gs.take k) < (gs.getD k default).2
      · have HNo := hide (HNo.out fun g => by unfold GrpOk at g; omega)
        generalize gs.getD k default = g at *
        generalize sumN (gs.take k) = r at *
        obtain ⟨p, n⟩ := g
        simp only [] at *
        unfold InI at hni
        go_wp2_with fail
        go_ret
        exact ⟨by rw [HNo.out]; rfl, HB.out.alloc HB.out.size _⟩
      · have HBal : Hid (ballot 7 (gs.getD k default).1 = false → pileOk 7 gs = false) := fun e => HNo.out fun g => by unfold GrpOk at g; rw [e] at g; exact absurd g.1 (by simp)
        have HBd := hide (HB.out.alloc HB.out.size (.cells #[.slice Ak (gs.getD k default).1.length ck, .int .i64 (gs.getD k default).2] 52))
        have hBa : Below wr.heap.size wr (wr.alloc (.cells #[.slice Ak (gs.getD k default).1.length ck, .int .i64 (gs.getD k default).2] 52)) := (Below.refl _ _).alloc (Nat.le_refl _) _
        have HCB := hide (isballot_any (c := ck) (n := 7) (hpA.below hBa) (by omega) hpi ⟨by omega, by omega⟩ (by omega))
        have HAf : Hid (k ≠ 0 → ∃ Bk dk, wr.cell? ⟨b, off + (k - 1) * 2, none⟩ = some (.slice Bk (gs.getD (k - 1) default).1.length dk) ∧ (∀ wq, Below wr.heap.size wr wq → Calls Try.prog 56 #[.slice Bk (gs.getD (k - 1) default).1.length dk, .slice Ak (gs.getD k default).1.length ck] wq fun e w' => e = .returned (.int .i64 (cmpL (gs.getD (k - 1) default).1 (gs.getD k default).1)) ∧ Drew wq w')) := fun e5 => by
          obtain ⟨b', off', Bk, dk, e, hb', h0', h1', hck', hpm', hpi', hni', hpA'⟩ := (H.out.below HB.out).at_ (k := k - 1) (by omega)
          cases e
          refine ⟨Bk, dk, h0', fun wq hq => (compare_any (c := dk) (d := ck) (hpA'.below hq) (hpA.below hq) (by omega) (by omega) hpi' hpi).mono ?_⟩
          rintro e w' ⟨rfl, rfl⟩
          exact ⟨rfl, Drew.refl _⟩
        have HK : Hid (ballot 7 (gs.getD k default).1 = true → (k ≠ 0 → lexLt (gs.getD (k - 1) default).1 (gs.getD k default).1 = true) → ∀ i, i < k + 1 → GrpOk 7 gs i) := fun e1 h => HK.out ⟨e1, by omega, by omega, fun e => h (by omega)⟩
        have HN2 : Hid (k ≠ 0 → lexLt (gs.getD (k - 1) default).1 (gs.getD k default).1 = false → pileOk 7 gs = false) := fun e5 h => HNo.out fun g => by
          have := g.2.2.2 (by omega)
          rw [h] at this
          cases this
        have e7 : 1 ≤ (gs.getD k default).2 := by omega
        clear hpi hpA HNo
        generalize gs.getD k default = g at *
        generalize gs.getD (k - 1) default = g' at *
        generalize sumN (gs.take k) = r at *
        obtain ⟨p, n⟩ := g
        obtain ⟨p', n'⟩ := g'
        simp only [] at *
        unfold InI at hni
        go_wp2_with fail
        refine HCB.out.mono ?_
        rintro e w1 ⟨rfl, hb1⟩
        obtain ⟨hc0, hc1, hf0, hf1, hsz⟩ := box2 hb1
        have HB1 := hide (below_then hBa hb1)
        have HB2 := hide (HB.out.trans (HB1.out.mono HB.out.size))
        clear hb1 hBa
        cases hq : ballot 7 p with
        | false =>
          have HNo := hide (HBal.out hq)
          clear hq
          go_wp2_with fail
          go_ret
          exact ⟨by rw [HNo.out]; rfl, HB2.out⟩
        | true =>
          have HK := hide (HK.out hq)
          clear hq HBal
          by_cases e5 : k = 0
          · subst e5
            have HK := hide (HK.out fun h => absurd rfl h)
            have e6 : decide ((((0 : Nat)) : Int) > 0) = false := rfl
            go_upto_region 7 with fail
            go_quiet (fail)
            go_wp2_with fail
            go_roundw
            case rel => exact ⟨1, by omega, by go_num, by first | (rw [HS.out]; done) | (rw [HS.out]; go_num), below_drew HB2.out _, HK.out⟩
            case measure => simp [iOf]; omega
          · obtain ⟨Bk, dk, h0', hcl⟩ := HAf.out e5
            have h0' : w1.cell? ⟨b, off + (k - 1) * 2, none⟩ = some (.slice Bk p'.length dk) := (HB1.out.cell (p := ⟨b, off + (k - 1) * 2, none⟩) hb).trans h0'
            have HCL := hide (fun wq (hq : Drew w1 wq) => hcl wq (below_then HB1.out hq.below))
            have HN2 := hide (HN2.out e5)
            have HG := hide (cmpL_ge p' p)
            have q1 : (0 : Int) < (k : Int) := by omega
            have q2 : ((k - 1 : Nat) : Int) < (gs.length : Int) := by omega
            have q3 : (0 : Int) ≤ ((k - 1 : Nat) : Int) := by omega
            have q4 : k - 1 < gs.length := by omega
            have q5 : 0 < k := by omega
            have q6 : decide (0 < k) = true := decide_eq_true q5
            have ew : IntKind.i64.wrap ((k : Int) - 1) = ((k - 1 : Nat) : Int) := (IntWalk.i64_in _ (by omega)).trans (by omega)
            clear hcl HAf
            generalize cmpL p' p = z at *
            cases hq : lexLt p' p with
            | false =>
              have HN2 := hide (HN2.out hq)
              have hz : decide (0 ≤ z) = true := by rw [HG.out, hq]; rfl
              clear hq HK
              go_upto_region 7 with fail
              go_quiet ((go_at_call 56; exact quiet HCL.out))
              go_wp2_with fail
              go_ret
              exact ⟨by rw [HN2.out]; rfl, below_drew HB2.out _⟩
            | true =>
              have HK2 := hide (HK.out fun _ => hq)
              have hz : decide (0 ≤ z) = false := by rw [HG.out, hq]; rfl
              clear hq HN2
              go_upto_region 7 with fail
              go_quiet ((go_at_call 56; exact quiet HCL.out))
              go_wp2_with fail
              go_roundw
              case rel => exact ⟨k + 1, by omega, by go_num, by first | (rw [HS.out]; done) | (rw [HS.out]; go_num), below_drew HB2.out _, HK2.out⟩
              case measure => simp [iOf]; omega
    · have HR : Hid (pileOk 7 gs = true) := pileOk_yes fun i hi => HX.out i (by omega)
      go_wp2_with fail
      go_ret
      exact ⟨by rw [HR.out]; rfl, HB.out⟩
theorem isany_any {A : Option Addr} {c : Nat} {gs : List Grp} {w : World} (h : Grps w A gs) (hm : gs.length ≤ 1000000) :
    Calls Try.prog 38 #[.slice A gs.length c] w fun e w' => e = .returned (.bool (pileOk 7 gs)) ∧ Below w.heap.size w w' := by
  have H := hide (ispile_any (c := c) h hm)
  clear h
  go_enter Try.func38, Try.ntmps38
  go_wp2_with fail
  refine H.out.mono ?_
  rintro e w1 ⟨rfl, hb⟩
  go_wp2_with fail
  go_ret
  exact ⟨rfl, hb⟩
theorem pvalid_any {A : Option Addr} {c : Nat} {gs : List Grp} {w : World} (h : Grps w A gs) (hm : gs.length ≤ 1000000) :
    Calls Try.prog 33 #[.int .i64 7, .slice A gs.length c] w fun e w' => e = .returned (.bool (pileOk 7 gs)) ∧ Below w.heap.size w w' := by
  have H := hide (ispile_any (c := c) h hm)
  clear h
  go_enter Try.func33, Try.ntmps33
  go_wp2_with fail
  refine H.out.mono ?_
  rintro e w1 ⟨rfl, hb⟩
  go_wp2_with fail
  go_ret
  exact ⟨rfl, hb⟩
theorem total1_any (v0 : Value) (n : Int) (w : World) : Calls Try.prog 40 #[.agg #[v0, .int .i64 n]] w fun e w' => e = .returned (.int .i64 n) ∧ Below w.heap.size w w' := by
  go_enter Try.func40, Try.ntmps40
  go_wp2_with fail
  go_ret
  exact ⟨rfl, (Below.refl _ _).alloc (Nat.le_refl _) _⟩
set_option maxHeartbeats 2000000 in
theorem sum_any {A : Option Addr} {c : Nat} {gs : List Grp} {w : World} (h : Grps w A gs) (hp : pileOk 7 gs = true) :
    Calls Try.prog 39 #[.slice A gs.length c, .func (.func 40) #[] #[]] w fun e w' => e = .returned (.int .i64 (sumN gs)) ∧ Below w.heap.size w w' := by
  have hm := (pile_len hp).1
  have HP := hide (pileOk_iff.1 hp)
  have H := hide h
  clear h hp
  go_enter Try.func39, Try.ntmps39
  go_wp2_with fail
  go_loopw [5, 7, 10] (fun r _ i wr => ∃ k : Nat, k ≤ gs.length ∧ i = .int .i64 k ∧ r = .int .i64 (sumN (gs.take k)) ∧ Hid (Below w.heap.size w wr)) (fun _ _ i wr => gs.length - (iOf i).toNat)
  case atStart => exact ⟨0, Nat.zero_le _, rfl, by simp [sumN], Below.refl _ _⟩
  case round =>
    obtain ⟨k, hk, rfl, rfl, HB⟩ := hrel
    by_cases hlt : k < gs.length
    · obtain ⟨b, off, Ak, ck, rfl, hb, h0, h1, hck, hpm, hpi, hni, hpA⟩ := (H.out.below HB.out).at_ hlt
      have hs := sum_bounds hk (fun j hj => HP.out j (by omega))
      have HS := hide (sumN_take hlt)
      have hg : 1 ≤ (gs.getD k default).2 ∧ (gs.getD k default).2 ≤ 100000 - sumN (gs.take k) := ⟨(HP.out k hlt).2.1, (HP.out k hlt).2.2.1⟩
      clear hpi hpA hpm hck hni
      generalize gs.getD k default = g at *
      obtain ⟨p, n⟩ := g
      generalize sumN (gs.take k) = r at *
      simp only [] at *
      go_wp2_with fail
      refine (total1_any _ _ _).mono ?_
      rintro e w1 ⟨rfl, hb2⟩
      have HB2 := hide (HB.out.trans (((Below.refl _ _).alloc (Nat.le_refl _) _).trans (hb2.mono (by simp)) |>.mono HB.out.size))
      clear hb2
      go_wp2_with fail
      go_roundw
      case rel => exact ⟨k + 1, by omega, by go_num, by first | (rw [HS.out]; done) | (rw [HS.out]; go_num), HB2.out⟩
      case measure => simp [iOf]; omega
    · obtain rfl : k = gs.length := by omega
      rw [List.take_length]
      go_wp2_with fail
      go_ret
      exact ⟨rfl, HB.out⟩
theorem total_any {A : Option Addr} {c : Nat} {gs : List Grp} {w : World} (h : Grps w A gs) (hp : pileOk 7 gs = true) :
    Calls Try.prog 21 #[.slice A gs.length c] w fun e w' => e = .returned (.int .i64 (sumN gs)) ∧ Below w.heap.size w w' := by
  have hm := (pile_len hp).1
  have H := hide (isany_any (c := c) h (by omega))
  rw [hp] at H
  have H2 := hide (fun w1 hb => sum_any (c := c) (w := w1) (h.below hb) hp)
  clear h hp
  go_enter Try.func21, Try.ntmps21
  go_wp2_with fail
  refine H.out.mono ?_
  rintro e w1 ⟨rfl, hb⟩
  have HB := hide hb
  clear hb
  go_wp2_with fail
  refine (H2.out _ HB.out).mono ?_
  rintro e w2 ⟨rfl, hb⟩
  have HB2 := hide (below_then HB.out hb)
  clear hb
  go_wp2_with fail
  go_ret
  exact ⟨rfl, HB2.out⟩
end Go.Proofs.Yteeamiacplfcmaa
