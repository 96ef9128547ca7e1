/-
  privacy.Valid.
-/
import Derived.Test.YteeamiacplfcmaaRVal
namespace Go.Proofs.Yteeamiacplfcmaa
open Go.RowKit
set_option linter.unusedVariables false
set_option linter.unusedSimpArgs false

theorem cellinfo : (Try.prog.info? 34).map (fun i => (i.zero, i.size, i.bytes)) = some (some (.agg #[.slice none 0 0, .slice none 0 0]), 2, 48) := by kernel_rfl
theorem below_cells {B : Nat} {w w1 : World} {g : Nat} {v0 v1 : Value} (h : Below B w w1) (hg : g < B) (h0 : w.cell? ⟨g, 0, none⟩ = some v0) (h1 : w.cell? ⟨g, 1, none⟩ = some v1) : w1.cell? ⟨g, 0, none⟩ = some v0 ∧ w1.cell? ⟨g, 1, none⟩ = some v1 :=
  ⟨(h.cell (p := ⟨g, 0, none⟩) hg).trans h0, (h.cell (p := ⟨g, 1, none⟩) hg).trans h1⟩
set_option maxHeartbeats 8000000 in
set_option maxRecDepth 100000 in
theorem pval_any {A : Option Addr} {c : Nat} {cs : List Cel} {w : World} (h : Cels w A cs) (hm : cs.length ≤ 1000000) :
    Calls Try.prog 17 #[.slice A cs.length c] w fun e w' => e = .returned (.bool (validC cs)) ∧ Below w.heap.size w w' := by
  have H := hide h
  clear h
  go_enter Try.func17, Try.ntmps17
  go_wp2_with fail
  go_loopw [4, 6, 7, 8, 11] (fun r _ _ _ i wr => ∃ k : Nat, k ≤ cs.length ∧ i = .int .i64 k ∧ r = .int .i64 (totTo cs k) ∧ Hid (Below w.heap.size w wr) ∧ Hid (Box wr w.heap.size 55 (flags 12 (seenTo cs k))) ∧ Hid (∀ j, j < k → CelOk (seenTo cs j) (cs.getD j default))) (fun _ _ _ _ i wr => cs.length - (iOf i).toNat)
  case atStart => exact ⟨0, Nat.zero_le _, rfl, by simp [totTo], (Below.refl _ _).alloc (Nat.le_refl _) _, Box.new _ _ _, by intro i hi; omega⟩
  case round =>
    obtain ⟨k, hk, rfl, rfl, HB, HG, HX⟩ := hrel
    by_cases hlt : k < cs.length
    · obtain ⟨b, off, Ak, ck, Bk, dk, rfl, hb, h0, h1, hck, hpm, hpi, hpA, hdk, hgm, hgB⟩ := H.out.at_ hlt
      have h0 := (HB.out.cell (p := ⟨b, off + k * 2, none⟩) hb).trans h0
      have h1 := (HB.out.cell (p := ⟨b, off + k * 2 + 1, none⟩) hb).trans h1
      have HNo := hide (fun g => validC_no hlt g)
      have HSe := hide (seenTo_succ hlt)
      have HTs := hide (totTo_succ hlt)
      have HFw := hide (few_seen hk HX.out)
      have HTb := hide (totTo_bounds hk HX.out)
      have HK : Hid (CelOk (seenTo cs k) (cs.getD k default) → ∀ i, i < k + 1 → CelOk (seenTo cs i) (cs.getD i default)) := fun e i hi => by
        by_cases e1 : i = k
        · rw [e1]; exact e
        · exact HX.out i (by omega)
      have hsw := HB.out.size
      have HCP := hide (fun wq (hq : Below w.heap.size w wq) => pvalid_any (c := dk) (w := wq) (hgB.below hq) hgm)
      have HCT := hide (fun wq (hq : Below w.heap.size w wq) hp => total_any (c := dk) (w := wq) (hgB.below hq) hp)
      have HPA := hide hpA
      have hpi := hide hpi
      clear hpA hgB
      generalize cs.getD k default = cc at *
      obtain ⟨ps, gs⟩ := cc
      simp only [] at *
      generalize seenTo cs k = s at *
      generalize totTo cs k = t at *
      by_cases e1 : ps.length = 0
      · have HNo := hide (HNo.out fun g => g.1 e1)
        go_wp2_with fail
        go_ret
        exact ⟨by rw [HNo.out]; rfl, HB.out.alloc (by omega) _⟩
      · have e1b : ((ps.length : Int) == 0) = false := by rw [beq_eq_false_iff_ne]; omega
        have hBox : Below wr.heap.size wr (wr.alloc (.cells #[.slice Ak ps.length ck, .slice Bk gs.length dk] 34)) := (Below.refl _ _).alloc (Nat.le_refl _) _
        have HCP1 := hide (HCP.out _ (HB.out.trans (hBox.mono HB.out.size)))
        go_wp2_with fail
        refine HCP1.out.mono ?_
        rintro e w1 ⟨rfl, hb1⟩
        obtain ⟨hc0, hc1, hf0, hf1, hsz⟩ := box2 hb1
        have HB1 := hide (below_then hBox hb1)
        have HBox : Hid (w1.cell? ⟨wr.heap.size, 0, none⟩ = some (.slice Ak ps.length ck) ∧ w1.cell? ⟨wr.heap.size, 1, none⟩ = some (.slice Bk gs.length dk) ∧ wr.heap.size < w1.heap.size) := ⟨hc0, hc1, hsz⟩
        have HBw := hide (HB.out.trans (HB1.out.mono HB.out.size))
        have hgl := HG.out.lt
        have HG1 := hide (HG.out.kept HB1.out)
        clear hb1 hBox hf0 hf1 HG
        cases hq : pileOk 7 gs with
        | false =>
          have HNo := hide (HNo.out fun g => by have := g.2.1; rw [hq] at this; cases this)
          clear hq
          go_wp2_with fail
          go_ret
          exact ⟨by rw [HNo.out]; rfl, HBw.out⟩
        | true =>
          have HQ := hide hq
          clear hq
          go_wp2_with fail
          clear hc0 hc1
          go_loopw [7, 8, 28] (fun _ _ q wi => ∃ j : Nat, j ≤ ps.length ∧ q = .int .i64 j ∧ Hid (Below w.heap.size w wi) ∧ Hid (Box wi w.heap.size 55 (flags 12 (s ++ ps.take j))) ∧ Hid (wi.cell? ⟨wr.heap.size, 0, none⟩ = some (.slice Ak ps.length ck) ∧ wi.cell? ⟨wr.heap.size, 1, none⟩ = some (.slice Bk gs.length dk) ∧ wr.heap.size < wi.heap.size) ∧ Hid (∀ i, i < j → PreOk s ps i) ∧ Hid (Few (s ++ ps.take j))) (fun _ _ q wi => ps.length - (iOf q).toNat)
          case atStart => exact ⟨0, Nat.zero_le _, rfl, HBw.out, by simpa using HG1, HBox, by intro i hi; omega, by simpa using HFw⟩
          case round =>
            obtain ⟨j, hj, rfl, HBi, HGi, HCi, HPi, HFi⟩ := hrel
            obtain ⟨hc0, hc1, hsz⟩ := HCi.out
            by_cases hjl : j < ps.length
            · obtain ⟨b1, o1, rfl, hb1, hp⟩ := HPA.out.at_ hjl
              have hp := (HBi.out.cell (p := ⟨b1, o1 + j, none⟩) hb1).trans hp
              have hpr : j ≠ 0 → wr.cell? ⟨b1, o1 + (j - 1), none⟩ = some (.int .i64 (ps.getD (j - 1) 0)) ∧ InI (ps.getD (j - 1) 0) := fun e => by
                obtain ⟨b2, o2, e2, hb2, hp2⟩ := HPA.out.at_ (k := j - 1) (by omega)
                cases e2
                exact ⟨(HBi.out.cell (p := ⟨b1, o1 + (j - 1), none⟩) hb1).trans hp2, hpi.out _ (getD_mem (by omega))⟩
              have hpy := hpi.out _ (getD_mem hjl)
              have HNp : Hid (¬ PreOk s ps j → validC cs = false) := fun g => HNo.out fun g2 => g (g2.2.2 j hjl)
              have HSn := hide (fun g => HFi.out.snoc hjl g)
              have HPs : Hid (PreOk s ps j → ∀ i, i < j + 1 → PreOk s ps i) := fun e i hi => by
                by_cases e1 : i = j
                · rw [e1]; exact e
                · exact HPi.out i (by omega)
              have HL2 : Hid ((s ++ ps.take j) ++ [ps.getD j 0] = s ++ ps.take (j + 1)) := by rw [Hid, List.append_assoc, take_snoc hjl]
              have hPre : PreOk s ps j ↔ 0 ≤ ps.getD j 0 ∧ ps.getD j 0 < 12 ∧ ps.getD j 0 ∉ s ++ ps.take j ∧ (0 < j → ps.getD (j - 1) 0 < ps.getD j 0) := Iff.rfl
              have HPre := hide hPre
              clear hPre
              generalize s ++ ps.take j = L at *
              generalize ps.getD j 0 = p at *
              generalize ps.getD (j - 1) 0 = p' at *
              unfold InI at hpy
              by_cases e2 : p < 0
              · have HNo := hide (HNp.out fun g => by have := (HPre.out.1 g).1; omega)
                go_wp2_with fail
                go_ret
                exact ⟨by rw [HNo.out]; rfl, HBi.out⟩
              by_cases e3 : 12 ≤ p
              · have HNo := hide (HNp.out fun g => by have := (HPre.out.1 g).2.1; omega)
                go_wp2_with fail
                go_ret
                exact ⟨by rw [HNo.out]; rfl, HBi.out⟩
              obtain ⟨q, rfl⟩ : ∃ q : Nat, p = q := ⟨p.toNat, by omega⟩
              have hq12 : q < 12 := by omega
              have hcf := (HGi.out.cell q).trans (flags_get hq12)
              have hfz := HGi.out.frozen q
              by_cases e4 : (q : Int) ∈ L
              · have HNo := hide (HNp.out fun g => (HPre.out.1 g).2.2.1 e4)
                rw [decide_eq_true e4] at hcf
                clear e4
                go_wp2_with fail
                go_ret
                exact ⟨by rw [HNo.out]; rfl, HBi.out⟩
              rw [decide_eq_false e4] at hcf
              have HG2 := HGi.out.set q (.bool true)
              rw [flags_set hq12, HL2.out] at HG2
              have HG2 := hide HG2
              have HB2 := hide (HBi.out.setCell (p := ⟨w.heap.size, q, none⟩) (Nat.le_refl _) (.bool true))
              have hCx : ∀ g i v, g ≠ w.heap.size → wr.cell? ⟨g, i, none⟩ = some v → (wr.setCell ⟨w.heap.size, q, none⟩ (.bool true)).cell? ⟨g, i, none⟩ = some v := fun g i v hg hc => (World.cell?_of_block (Below.heap_setCell _ _ _ _ hg)).trans hc
              have HC2 : Hid ((wr.setCell ⟨w.heap.size, q, none⟩ (.bool true)).cell? _ = some _ ∧ (wr.setCell ⟨w.heap.size, q, none⟩ (.bool true)).cell? _ = some _ ∧ _ < (wr.setCell ⟨w.heap.size, q, none⟩ (.bool true)).heap.size) := ⟨hCx _ _ _ (Nat.ne_of_gt hgl) hc0, hCx _ _ _ (Nat.ne_of_gt hgl) hc1, by simp only [World.setCell, Array.size_modify]; exact hsz⟩
              clear hCx
              rcases Nat.eq_zero_or_pos j with e6 | e6
              · subst e6
                rw [Nat.add_zero] at hp
                have hok := HPre.out.2 ⟨by omega, by omega, e4, fun h => absurd h (by omega)⟩
                have HPs := hide (HPs.out hok)
                have HSn := hide (HSn.out hok)
                clear e4 hok
                go_wp2_with fail
                go_roundw
                case rel => exact ⟨1, by omega, by go_num, HB2.out, HG2.out, HC2.out, HPs.out, HSn.out⟩
                case measure => simp [iOf]; omega
              · obtain ⟨hp', hpi'⟩ := hpr (by omega)
                have q1 : (0 : Int) < (j : Int) := by omega
                have q2 : ((j - 1 : Nat) : Int) < (ps.length : Int) := by omega
                have q3 : (0 : Int) ≤ ((j - 1 : Nat) : Int) := by omega
                have q4 : j - 1 < ps.length := by omega
                have q6 : decide (0 < j) = true := decide_eq_true e6
                have ew : IntKind.i64.wrap ((j : Int) - 1) = ((j - 1 : Nat) : Int) := (IntWalk.i64_in _ (by omega)).trans (by omega)
                unfold InI at hpi'
                by_cases e7 : (q : Int) ≤ p'
                · have HNo := hide (HNp.out fun g => by have := (HPre.out.1 g).2.2.2 e6; omega)
                  clear e4
                  go_wp2_with fail
                  go_ret
                  exact ⟨by rw [HNo.out]; rfl, HBi.out⟩
                · have hok := HPre.out.2 ⟨by omega, by omega, e4, fun h => by omega⟩
                  have HPs := hide (HPs.out hok)
                  have HSn := hide (HSn.out hok)
                  clear e4 hok
                  go_wp2_with fail
                  go_roundw
                  case rel => exact ⟨j + 1, by omega, by go_num, HB2.out, HG2.out, HC2.out, HPs.out, HSn.out⟩
                  case measure => simp [iOf]; omega
            · obtain rfl : j = ps.length := by omega
              have HCT1 := hide (HCT.out _ HBi.out HQ.out)
              have HK := hide (HK.out ⟨e1, HQ.out, HPi.out⟩)
              have HG5 := HGi.out
              rw [List.take_length, ← HSe.out] at HG5
              have HG5 := hide HG5
              have hsum := pile_len HQ.out
              go_wp2_with fail
              refine HCT1.out.mono ?_
              rintro e w5 ⟨rfl, hb5⟩
              have HB5 := hide (HBi.out.trans (hb5.mono HBi.out.size))
              have HG6 := hide (HG5.out.kept hb5)
              generalize sumN gs = z at *
              have hTb := HTb.out
              go_wp2_with fail
              go_roundw
              case rel => exact ⟨k + 1, by omega, by go_num, by first | (rw [HTs.out]; done) | (rw [HTs.out]; go_num), HB5.out, HG6.out, HK.out⟩
              case measure => simp [iOf]; omega
    · have HR : Hid (decide (totTo cs k ≤ 100000) = validC cs) := by
        obtain rfl : k = cs.length := by omega
        unfold validC
        exact decide_eq_decide.2 ⟨fun h => ⟨HX.out, h⟩, fun h => h.2⟩
      go_wp2_with fail
      go_ret
      exact ⟨by rw [← HR.out]; rfl, HB.out⟩
end Go.Proofs.Yteeamiacplfcmaa
