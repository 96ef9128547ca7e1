/-
  electionref42.Valid.
-/
import Derived.Test.YteeamiacplfcmaaPlainC
namespace Go.Proofs.Yteeamiacplfcmaa
open Go.RowKit
set_option linter.unusedVariables false
set_option linter.unusedSimpArgs false

set_option maxHeartbeats 8000000 in
set_option maxRecDepth 100000 in
theorem rval_any {A : Option Addr} {c : Nat} {cs : List Cel} {w : World} (h : Cels w A cs) (hm : cs.length ≤ 1000000) :
    Calls Try.prog 18 #[.slice A cs.length c] w fun e w' => e = .returned (.bool (validC cs)) ∧ Below w.heap.size w w' := by
  have H := hide h
  clear h
  go_enter Try.func18, Try.ntmps18
  go_wp2_with fail
  go_loopw [3, 4, 5, 6, 7, 8] (fun a r i _ _ _ wr => ∃ k : Nat, k ≤ cs.length ∧ i = .int .i64 k ∧ ∃ u3 u4, a = u3 ∧ r = u4 ∧ u4 = .int .i64 (100000 - totTo cs k) ∧ Hid (totTo cs k ≤ 100000) ∧ Hid (Below w.heap.size w wr) ∧ Hid (OwnI w.heap.size wr u3 (seenTo cs k)) ∧ Hid (∀ j, j < k → CelOk (seenTo cs j) (cs.getD j default))) (fun _ _ i _ _ _ wr => cs.length - (iOf i).toNat)
  case atStart => exact ⟨0, Nat.zero_le _, rfl, _, _, rfl, rfl, by simp [totTo], by simp [Hid, totTo], Below.refl _ _, OwnI.nil _ _, by intro i hi; omega⟩
  case round =>
    obtain ⟨k, hk, rfl, u3, u4, rfl, rfl, rfl, HT, HB, HO, HX⟩ := hrel
    by_cases hlt : k < cs.length
    · obtain ⟨b, off, Ak, ck, Bk, dk, rfl, hb, h0, h1, hck, hpm, hpi, hpA, hdk, hgm, hgB⟩ := H.out.at_ hlt
      have h0 := (HB.out.cell (p := ⟨b, off + k * 2, none⟩) hb).trans h0
      have h1 := (HB.out.cell (p := ⟨b, off + k * 2 + 1, none⟩) hb).trans h1
      have HNo := hide (fun g => validC_no hlt g)
      have HSe := hide (seenTo_succ hlt)
      have HTs := hide (totTo_succ hlt)
      have HOv := hide (fun g => validC_over (cs := cs) (i := k + 1) hlt g)
      have HFw := hide (few_seen hk HX.out)
      have HTb := hide (totTo_bounds hk HX.out)
      have HK : Hid (CelOk (seenTo cs k) (cs.getD k default) → ∀ i, i < k + 1 → CelOk (seenTo cs i) (cs.getD i default)) := fun e i hi => by
        by_cases e1 : i = k
        · rw [e1]; exact e
        · exact HX.out i (by omega)
      have hsw := HB.out.size
      have HCP := hide (fun wq (hq : Below w.heap.size w wq) => rpile_any (c := dk) (w := wq) (hgB.below hq) hgm)
      have HCT := hide (fun wq (hq : Below w.heap.size w wq) hp => rtotal_any (c := dk) (w := wq) (hgB.below hq) hp)
      have HPA := hide hpA
      have hpi := hide hpi
      clear hpA hgB
      generalize cs.getD k default = cc at *
      obtain ⟨ps, gs⟩ := cc
      simp only [] at *
      generalize seenTo cs k = s at *
      generalize totTo cs k = t at *
      by_cases e1 : ps.length = 0
      · have HNo := hide (HNo.out fun g => g.1 e1)
        go_wp2_with fail
        go_ret
        exact ⟨by rw [HNo.out]; rfl, HB.out.alloc (by omega) _⟩
      · have e1b : ((ps.length : Int) == 0) = false := by rw [beq_eq_false_iff_ne]; omega
        have hBox : Below wr.heap.size wr (wr.alloc (.cells #[.slice Ak ps.length ck, .slice Bk gs.length dk] 34)) := (Below.refl _ _).alloc (Nat.le_refl _) _
        have HCP1 := hide (HCP.out _ (HB.out.trans (hBox.mono HB.out.size)))
        go_wp2_with fail
        refine HCP1.out.mono ?_
        rintro e w1 ⟨rfl, hb1⟩
        obtain ⟨hc0, hc1, hf0, hf1, hsz⟩ := box2 hb1.below
        have HB1 := hide (below_then hBox (hb1.below))
        have HBox : Hid (w1.cell? ⟨wr.heap.size, 0, none⟩ = some (.slice Ak ps.length ck) ∧ w1.cell? ⟨wr.heap.size, 1, none⟩ = some (.slice Bk gs.length dk) ∧ wr.heap.size < w1.heap.size) := ⟨hc0, hc1, hsz⟩
        have HBw := hide (HB.out.trans (HB1.out.mono HB.out.size))
        have HO1 := hide (HO.out.kept HB1.out)
        have HNe : Hid (u3.ownBlock ≠ some wr.heap.size) := fun e => by
          obtain ⟨_, _, _, _, _, hq⟩ := HO.out.form
          have := (hq _ e).2
          omega
        clear hb1 hBox hc0 hc1 hf0 hf1 HO
        cases hq : pileOk 7 gs with
        | false =>
          have HNo := hide (HNo.out fun g => by have := g.2.1; rw [hq] at this; cases this)
          clear hq
          go_wp2_with fail
          go_ret
          exact ⟨by rw [HNo.out]; rfl, HBw.out⟩
        | true =>
          have HQ := hide hq
          clear hq
          go_wp2_with fail
          go_loopw [3, 7, 8] (fun a q _ wi => ∃ j : Nat, j ≤ ps.length ∧ q = .int .i64 j ∧ ∃ v3, a = v3 ∧ Hid (Below w.heap.size w wi) ∧ Hid (OwnI w.heap.size wi v3 (s ++ ps.take j)) ∧ Hid (v3.ownBlock ≠ some wr.heap.size) ∧ Hid (wi.cell? ⟨wr.heap.size, 0, none⟩ = some (.slice Ak ps.length ck) ∧ wi.cell? ⟨wr.heap.size, 1, none⟩ = some (.slice Bk gs.length dk) ∧ wr.heap.size < wi.heap.size) ∧ Hid (∀ i, i < j → PreOk s ps i) ∧ Hid (Few (s ++ ps.take j))) (fun _ q _ wi => ps.length - (iOf q).toNat)
          case atStart => exact ⟨0, Nat.zero_le _, rfl, _, rfl, HBw.out, by simpa using HO1, HNe, HBox, by intro i hi; omega, by simpa using HFw⟩
          case round =>
            obtain ⟨j, hj, rfl, v3, rfl, HBi, HOi, HNi, HCi, HPi, HFi⟩ := hrel
            obtain ⟨hc0, hc1, hsz⟩ := HCi.out
            by_cases hjl : j < ps.length
            · obtain ⟨b1, o1, rfl, hb1, hp⟩ := HPA.out.at_ hjl
              have hp := (HBi.out.cell (p := ⟨b1, o1 + j, none⟩) hb1).trans hp
              have hpr : j ≠ 0 → wr.cell? ⟨b1, o1 + (j - 1), none⟩ = some (.int .i64 (ps.getD (j - 1) 0)) ∧ InI (ps.getD (j - 1) 0) := fun e => by
                obtain ⟨b2, o2, e2, hb2, hp2⟩ := HPA.out.at_ (k := j - 1) (by omega)
                cases e2
                exact ⟨(HBi.out.cell (p := ⟨b1, o1 + (j - 1), none⟩) hb1).trans hp2, hpi.out _ (getD_mem (by omega))⟩
              have hpy := hpi.out _ (getD_mem hjl)
              have HNp : Hid (¬ PreOk s ps j → validC cs = false) := fun g => HNo.out fun g2 => g (g2.2.2 j hjl)
              have HSn := hide (fun g => HFi.out.snoc hjl g)
              have HPs : Hid (PreOk s ps j → ∀ i, i < j + 1 → PreOk s ps i) := fun e i hi => by
                by_cases e1 : i = j
                · rw [e1]; exact e
                · exact HPi.out i (by omega)
              have HL2 : Hid ((s ++ ps.take j) ++ [ps.getD j 0] = s ++ ps.take (j + 1)) := by rw [Hid, List.append_assoc, take_snoc hjl]
              have hLl := HFi.out.len
              obtain ⟨A3, c3, hv3, hlc, hI3, hq3⟩ := HOi.out.form
              subst hv3
              have HH := hide (fun x (hx : InI x) => has_any (c := c3) (x := x) HOi.out.ints (by omega) HFi.out.inI hx)
              have hPre : PreOk s ps j ↔ 0 ≤ ps.getD j 0 ∧ ps.getD j 0 < 12 ∧ ps.getD j 0 ∉ s ++ ps.take j ∧ (0 < j → ps.getD (j - 1) 0 < ps.getD j 0) := Iff.rfl
              have HPre := hide hPre
              have hbi := HBi.out.size
              have HPush := hide (fun y => push_int HOi.out hbi (by omega) 31 y)
              clear hPre hI3
              generalize s ++ ps.take j = L at *
              generalize ps.getD j 0 = p at *
              generalize ps.getD (j - 1) 0 = p' at *
              have HHp := hide (HH.out p hpy)
              have hpy' := hide hpy
              unfold InI at hpy
              by_cases e2 : p < 0
              · have HNo := hide (HNp.out fun g => by have := (HPre.out.1 g).1; omega)
                go_wp2_with fail
                go_ret
                exact ⟨by rw [HNo.out]; rfl, HBi.out⟩
              by_cases e3 : 12 ≤ p
              · have HNo := hide (HNp.out fun g => by have := (HPre.out.1 g).2.1; omega)
                go_wp2_with fail
                go_ret
                exact ⟨by rw [HNo.out]; rfl, HBi.out⟩
              go_wp2_with fail
              refine HHp.out.mono ?_
              rintro e wj ⟨rfl, rfl⟩
              by_cases e4 : p ∈ L
              · have HNo := hide (HNp.out fun g => (HPre.out.1 g).2.2.1 e4)
                have e5 : decide (p ∈ L) = true := decide_eq_true e4
                clear e4
                go_wp2_with fail
                go_ret
                exact ⟨by rw [HNo.out]; rfl, HBi.out⟩
              have e5 : decide (p ∈ L) = false := decide_eq_false e4
              obtain ⟨A4, c4, w4, hr4, hO4, hg4, hor4⟩ := HPush.out p
              rw [HL2.out] at hO4
              have HR4 := hide hr4
              have HO4 := hide hO4
              have HB4 := hide (HBi.out.trans (own_by hbi HOi.out.lo hg4))
              have HC4 : Hid (w4.cell? _ = some _ ∧ w4.cell? _ = some _ ∧ _ < w4.heap.size) := ⟨hg4.cell hc0 (fun e => HNi.out e.symm), hg4.cell hc1 (fun e => HNi.out e.symm), Nat.lt_of_lt_of_le hsz hg4.size⟩
              have HN4 : Hid ((Value.slice A4 (L.length + 1) c4).ownBlock ≠ some _) := fun e => by
                rcases hor4 with e1 | ⟨g, e1, e2⟩
                · exact HNi.out (e1.symm.trans e)
                · have := e1.symm.trans e
                  injection this with this
                  exact absurd e2 (by rw [this]; exact Nat.not_le_of_lt hsz)
              clear hr4 hO4 hg4 hor4 HPush
              rcases Nat.eq_zero_or_pos j with e6 | e6
              · subst e6
                have hok := HPre.out.2 ⟨by omega, by omega, e4, fun h => absurd h (by omega)⟩
                have HPs := hide (HPs.out hok)
                have HSn := hide (HSn.out hok)
                clear e4 hok
                go_wp2_with ((with_reducible refine wpList_gives (o := ⟨some 69, _, _, _, _, _⟩) (v := Value.slice A4 (L.length + 1) c4) (w' := w4) ?_ ?_ ?_); rfl; exact gives_append rfl rfl rfl HR4.out)
                go_roundw
                case rel => exact ⟨1, by omega, by go_num, _, rfl, HB4.out, HO4.out, HN4.out, HC4.out, HPs.out, HSn.out⟩
                case measure => simp [iOf]; omega
              · obtain ⟨hp', hpi'⟩ := hpr (by omega)
                have q1 : (0 : Int) < (j : Int) := by omega
                have q2 : ((j - 1 : Nat) : Int) < (ps.length : Int) := by omega
                have q3 : (0 : Int) ≤ ((j - 1 : Nat) : Int) := by omega
                have q4 : j - 1 < ps.length := by omega
                have q6 : decide (0 < j) = true := decide_eq_true e6
                have ew : IntKind.i64.wrap ((j : Int) - 1) = ((j - 1 : Nat) : Int) := (IntWalk.i64_in _ (by omega)).trans (by omega)
                unfold InI at hpi'
                by_cases e7 : p ≤ p'
                · have HNo := hide (HNp.out fun g => by have := (HPre.out.1 g).2.2.2 e6; omega)
                  clear e4
                  go_wp2_with fail
                  go_ret
                  exact ⟨by rw [HNo.out]; rfl, HBi.out⟩
                · have hok := HPre.out.2 ⟨by omega, by omega, e4, fun h => by omega⟩
                  have HPs := hide (HPs.out hok)
                  have HSn := hide (HSn.out hok)
                  clear e4 hok
                  go_wp2_with ((with_reducible refine wpList_gives (o := ⟨some 69, _, _, _, _, _⟩) (v := Value.slice A4 (L.length + 1) c4) (w' := w4) ?_ ?_ ?_); rfl; exact gives_append rfl rfl rfl HR4.out)
                  go_roundw
                  case rel => exact ⟨j + 1, by omega, by go_num, _, rfl, HB4.out, HO4.out, HN4.out, HC4.out, HPs.out, HSn.out⟩
                  case measure => simp [iOf]; omega
            · obtain rfl : j = ps.length := by omega
              have HCT1 := hide (HCT.out _ HBi.out HQ.out)
              have HK := hide (HK.out ⟨e1, HQ.out, HPi.out⟩)
              have HO5 := HOi.out
              rw [List.take_length, ← HSe.out] at HO5
              have HO5 := hide HO5
              have hsum := pile_len HQ.out
              go_wp2_with fail
              refine HCT1.out.mono ?_
              rintro e w5 ⟨rfl, hb5⟩
              have HB5 := hide (HBi.out.trans (hb5.below.mono HBi.out.size))
              have HO6 := hide (HO5.out.kept hb5.below)
              generalize sumN gs = z at *
              have hT := HT.out
              have hTb := HTb.out
              by_cases e8 : 100000 < t + z
              · have HNo := hide (HOv.out (by rw [HTs.out]; exact e8))
                go_wp2_with fail
                go_ret
                exact ⟨by rw [HNo.out]; rfl, HB5.out⟩
              · go_wp2_with fail
                go_roundw
                case rel => exact ⟨k + 1, by omega, by go_num, _, _, rfl, rfl, by rw [HTs.out]; go_num, by rw [Hid, HTs.out]; omega, HB5.out, HO6.out, HK.out⟩
                case measure => simp [iOf]; omega
    · have HR : Hid (validC cs = true) := by
        obtain rfl : k = cs.length := by omega
        exact validC_iff.2 ⟨HX.out, HT.out⟩
      go_wp2_with fail
      go_ret
      exact ⟨by rw [HR.out]; rfl, HB.out⟩
end Go.Proofs.Yteeamiacplfcmaa
