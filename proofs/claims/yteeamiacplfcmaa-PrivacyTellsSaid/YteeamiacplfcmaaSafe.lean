/-
  privacy.Safe, electionref42.Safe; SamePile, Same.
-/
import Derived.Test.YteeamiacplfcmaaPVal
namespace Go.Proofs.Yteeamiacplfcmaa
open Go.RowKit
set_option linter.unusedVariables false
set_option linter.unusedSimpArgs false

/-- the two values read as the cell c -/
def Cell2 (w : World) (v0 v1 : Value) (c : Cel) : Prop := CelE (All w) w v0 v1 c
theorem Cell2.below {w w' : World} {v0 v1 : Value} {c : Cel} (h : Cell2 w v0 v1 c) (hb : Below w.heap.size w w') : Cell2 w' v0 v1 c :=
  goodC.mono (goodC.agree h (Agree.all hb)) fun _ hi => Nat.lt_of_lt_of_le hi hb.size
theorem one_cell {w : World} {v0 v1 : Value} {c : Cel} {b : Nat} (h : Cell2 w v0 v1 c) (h0 : w.cell? ⟨b, 0, none⟩ = some v0) (h1 : w.cell? ⟨b, 1, none⟩ = some v1) (hb : b < w.heap.size) : Cels w (some ⟨b, 0, none⟩) [c] := fun _ =>
  ⟨b, 0, rfl, hb, fun k hk => by
    obtain rfl : k = 0 := by simpa using hk
    exact ⟨v0, v1, by simpa using h0, by simpa using h1, h⟩⟩
/-- a cell that can be reported by itself -/
def safeC (least : Int) (c : Cel) : Bool := validC [c] && decide (least ≤ sumN c.2) && decide (2 ≤ c.2.length)
theorem validC_one {c : Cel} (h : validC [c] = true) : pileOk 7 c.2 = true := ((validC_iff.1 h).1 0 (by simp)).2.1
set_option maxHeartbeats 1000000 in
theorem psafe_any {v0 v1 : Value} {c : Cel} {least : Int} {w : World} (h : Cell2 w v0 v1 c) (hi : InI least) :
    Calls Try.prog 15 #[.agg #[v0, v1], .int .i64 least] w fun e w' => e = .returned (.bool (safeC least c)) ∧ Below w.heap.size w w' := by
  obtain ⟨A, ca, B, d, rfl, hca, hpm, hpi, hpA, rfl, hd, hgm, hgB⟩ := id h
  have hb1 : Below w.heap.size w (w.alloc (.cells #[.slice A c.1.length ca, .slice B c.2.length d] 34)) := (Below.refl _ _).alloc (Nat.le_refl _) _
  have hb2 : Below w.heap.size w ((w.alloc (.cells #[.slice A c.1.length ca, .slice B c.2.length d] 34)).alloc (.cells #[.slice A c.1.length ca, .slice B c.2.length d] 34)) := hb1.alloc (by simp) _
  have HV := hide (pval_any (A := some ⟨w.heap.size + 1, 0, none⟩) (c := 1) (cs := [c]) (one_cell (h.below hb2) (by simp) (by simp) (by simp)) (by simp))
  rw [List.length_singleton] at HV
  have HT := hide (fun wq (hq : Below w.heap.size w wq) hp => total_any (c := d) (w := wq) (Grps.below hgB hq) hp)
  have HB2 := hide hb2
  have HG := hide hgB
  have hx : safeC least c = (validC [c] && decide (least ≤ sumN c.2) && decide (2 ≤ c.2.length)) := rfl
  have HX := hide hx
  have HO := hide (fun h => validC_one (c := c) h)
  have HP := hide (fun h => pile_len (n := 7) (gs := c.2) h)
  clear hpA hgB h hb1 hb2 hx
  generalize validC [c] = b at *
  go_enter Try.func15, Try.ntmps15
  go_wp2_with fail
  refine HV.out.mono ?_
  rintro e w1 ⟨rfl, hb3⟩
  have hc1 : w1.cell? ⟨w.heap.size, 1, none⟩ = some (.slice B c.2.length d) := (hb3.cell (p := ⟨w.heap.size, 1, none⟩) (by simp; omega)).trans (by simp)
  have HB3 := hide (below_then HB2.out hb3)
  have hsz : w.heap.size < w1.heap.size := by
    have := hb3.size
    simp at this
    omega
  clear hb3
  cases b with
  | false =>
    have HX2 : Hid (safeC least c = false) := by rw [Hid, HX.out]; rfl
    go_wp2_with fail
    go_ret
    exact ⟨by rw [HX2.out]; rfl, HB3.out⟩
  | true =>
    have HT1 := hide (HT.out _ HB3.out (HO.out rfl))
    have hp := HP.out (HO.out rfl)
    generalize hz : sumN c.2 = z at *
    clear hz
    unfold InI at hi
    go_wp2_with fail
    refine HT1.out.mono ?_
    rintro e w2 ⟨rfl, hb4⟩
    have hc2 : w2.cell? ⟨w.heap.size, 1, none⟩ = some (.slice B c.2.length d) := (hb4.cell (p := ⟨w.heap.size, 1, none⟩) hsz).trans hc1
    have HB4 := hide (below_then HB3.out hb4)
    clear hb4
    by_cases e1 : least ≤ z
    · have HX2 : Hid (safeC least c = decide (2 ≤ c.2.length)) := by rw [Hid, HX.out, decide_eq_true e1]; rfl
      go_wp2_with fail
      go_ret
      refine ⟨?_, HB4.out⟩
      rw [HX2.out]
      simp
      try omega
    · have HX2 : Hid (safeC least c = false) := by rw [Hid, HX.out, decide_eq_false e1]; rfl
      go_wp2_with fail
      go_ret
      exact ⟨by rw [HX2.out]; rfl, HB4.out⟩
set_option maxHeartbeats 1000000 in
theorem rsafe_any {v0 v1 : Value} {c : Cel} {least : Int} {w : World} (h : Cell2 w v0 v1 c) (hi : InI least) :
    Calls Try.prog 10 #[.agg #[v0, v1], .int .i64 least] w fun e w' => e = .returned (.bool (safeC least c)) ∧ Below w.heap.size w w' := by
  obtain ⟨A, ca, B, d, rfl, hca, hpm, hpi, hpA, rfl, hd, hgm, hgB⟩ := id h
  have hb1 : Below w.heap.size w (w.alloc (.cells #[.slice A c.1.length ca, .slice B c.2.length d] 34)) := (Below.refl _ _).alloc (Nat.le_refl _) _
  have hb2 : Below w.heap.size w ((w.alloc (.cells #[.slice A c.1.length ca, .slice B c.2.length d] 34)).alloc (.cells #[.slice A c.1.length ca, .slice B c.2.length d] 34)) := hb1.alloc (by simp) _
  have HV := hide (rval_any (A := some ⟨w.heap.size + 1, 0, none⟩) (c := 1) (cs := [c]) (one_cell (h.below hb2) (by simp) (by simp) (by simp)) (by simp))
  rw [List.length_singleton] at HV
  have HT := hide (fun wq (hq : Below w.heap.size w wq) hp => rtotal_any (c := d) (w := wq) (Grps.below hgB hq) hp)
  have HB2 := hide hb2
  have HG := hide hgB
  have hx : safeC least c = (validC [c] && decide (least ≤ sumN c.2) && decide (2 ≤ c.2.length)) := rfl
  have HX := hide hx
  have HO := hide (fun h => validC_one (c := c) h)
  have HP := hide (fun h => pile_len (n := 7) (gs := c.2) h)
  clear hpA hgB h hb1 hb2 hx
  generalize validC [c] = b at *
  go_enter Try.func10, Try.ntmps10
  go_wp2_with fail
  refine HV.out.mono ?_
  rintro e w1 ⟨rfl, hb3⟩
  have hc1 : w1.cell? ⟨w.heap.size, 1, none⟩ = some (.slice B c.2.length d) := (hb3.cell (p := ⟨w.heap.size, 1, none⟩) (by simp; omega)).trans (by simp)
  have HB3 := hide (below_then HB2.out hb3)
  have hsz : w.heap.size < w1.heap.size := by
    have := hb3.size
    simp at this
    omega
  clear hb3
  cases b with
  | false =>
    have HX2 : Hid (safeC least c = false) := by rw [Hid, HX.out]; rfl
    go_wp2_with fail
    go_ret
    exact ⟨by rw [HX2.out]; rfl, HB3.out⟩
  | true =>
    have HT1 := hide (HT.out _ HB3.out (HO.out rfl))
    have hp := HP.out (HO.out rfl)
    generalize hz : sumN c.2 = z at *
    clear hz
    unfold InI at hi
    go_wp2_with fail
    refine HT1.out.mono ?_
    rintro e w2 ⟨rfl, hb4⟩
    replace hb4 := hb4.below
    have hc2 : w2.cell? ⟨w.heap.size, 1, none⟩ = some (.slice B c.2.length d) := (hb4.cell (p := ⟨w.heap.size, 1, none⟩) hsz).trans hc1
    have HB4 := hide (below_then HB3.out hb4)
    clear hb4
    by_cases e1 : least ≤ z
    · have HX2 : Hid (safeC least c = decide (2 ≤ c.2.length)) := by rw [Hid, HX.out, decide_eq_true e1]; rfl
      go_wp2_with fail
      go_ret
      refine ⟨?_, HB4.out⟩
      rw [HX2.out]
      simp
      try omega
    · have HX2 : Hid (safeC least c = false) := by rw [Hid, HX.out, decide_eq_false e1]; rfl
      go_wp2_with fail
      go_ret
      exact ⟨by rw [HX2.out]; rfl, HB4.out⟩
theorem ext_getD {α : Type} [Inhabited α] {xs ys : List α} (hl : xs.length = ys.length) (h : ∀ i, i < xs.length → xs.getD i default = ys.getD i default) : xs = ys :=
  List.ext_getElem hl fun i h1 h2 => by
    have := h i h1
    rwa [List.getD_eq_getElem?_getD, List.getD_eq_getElem?_getD, List.getElem?_eq_getElem h1, List.getElem?_eq_getElem h2, Option.getD_some, Option.getD_some] at this
set_option maxHeartbeats 4000000 in
theorem samepile_any {A B : Option Addr} {c d : Nat} {xs ys : List Grp} {w : World} (h : Grps w A xs) (h' : Grps w B ys) (hm : xs.length ≤ 1000000) (hm' : ys.length ≤ 1000000) :
    Calls Try.prog 12 #[.slice A xs.length c, .slice B ys.length d] w fun e w' => e = .returned (.bool (decide (xs = ys))) ∧ Drew w w' := by
  have H := hide h
  have H' := hide h'
  clear h h'
  by_cases hl : xs.length = ys.length
  · have t : ((xs.length : Int) != (ys.length : Int)) = false := by rw [bne_eq_false_iff_eq]; omega
    have HExt := hide (fun h => ext_getD hl h)
    have HNo : Hid (∀ k, xs.getD k default ≠ ys.getD k default → decide (xs = ys) = false) := fun k h => decide_eq_false fun e => h (by rw [e])
    have hl1 : xs.length ≤ ys.length := by omega
    have hl2 : ys.length ≤ xs.length := by omega
    clear hl
    go_enter Try.func12, Try.ntmps12
    go_wp2_with fail
    go_loopw [5] (fun i wr => ∃ k : Nat, k ≤ xs.length ∧ i = .int .i64 k ∧ Hid (Drew w wr) ∧ Hid (∀ i, i < k → xs.getD i default = ys.getD i default)) (fun i wr => xs.length - (iOf i).toNat)
    case atStart => exact ⟨0, Nat.zero_le _, rfl, Drew.refl _, by intro i hi; omega⟩
    case round =>
      obtain ⟨k, hk, rfl, HB, HX⟩ := hrel
      by_cases hlt : k < xs.length
      · obtain ⟨b, off, Ak, ck, rfl, hb, h0, h1, hck, hpm, hpi, hni, hpA⟩ := (H.out.drew HB.out).at_ hlt
        have hlt2 : k < ys.length := by omega
        obtain ⟨b', off', Bk, dk, rfl, hb', h0', h1', hck', hpm', hpi', hni', hpA'⟩ := (H'.out.drew HB.out).at_ hlt2
        have HC := hide (fun wq (hq : Drew wr wq) => eq_any (c := ck) (d := dk) (w := wq) (hpA.drew hq) (hpA'.drew hq) (by omega) (by omega) hpi hpi')
        have q0 : (k : Int) < (xs.length : Int) := by omega
        have q1 : (k : Int) < (ys.length : Int) := by omega
        have HN := hide (HNo.out k)
        have HY : Hid (xs.getD k default = ys.getD k default → ∀ i, i < k + 1 → xs.getD i default = ys.getD i default) := fun e i hi => by
          by_cases e1 : i = k
          · rw [e1]; exact e
          · exact HX.out i (by omega)
        clear hpi hpA hpi' hpA'
        generalize xs.getD k default = g at *
        generalize ys.getD k default = g' at *
        obtain ⟨p, n⟩ := g
        obtain ⟨p', n'⟩ := g'
        simp only [] at *
        by_cases e1 : n = n'
        · have tn : (n != n') = false := by rw [bne_eq_false_iff_eq]; exact e1
          by_cases e2 : p = p'
          · have HY := hide (HY.out (by rw [e1, e2]))
            rw [decide_eq_true e2] at HC
            clear e1 e2
            go_upto_region 6 with fail
            go_quiet ((go_at_call 11; exact quiet HC.out))
            go_wp2_with fail
            go_roundw
            case rel => exact ⟨k + 1, by omega, by go_num, HB.out.drew _, HY.out⟩
            case measure => simp [iOf]; omega
          · have HN := hide (HN.out fun e => e2 (congrArg Prod.fst e))
            rw [decide_eq_false e2] at HC
            clear e1 e2
            go_upto_region 6 with fail
            go_quiet ((go_at_call 11; exact quiet HC.out))
            go_wp2_with fail
            go_ret
            exact ⟨by rw [HN.out]; rfl, HB.out.drew _⟩
        · have tn : (n != n') = true := by rw [bne_iff_ne]; exact e1
          have HN := hide (HN.out fun e => e1 (congrArg Prod.snd e))
          clear e1
          go_upto_region 6 with fail
          go_quiet (fail)
          go_wp2_with fail
          go_ret
          exact ⟨by rw [HN.out]; rfl, HB.out.drew _⟩
      · have HR : Hid (decide (xs = ys) = true) := decide_eq_true (HExt.out fun i hi => HX.out i (by omega))
        go_wp2_with fail
        go_ret
        exact ⟨by rw [HR.out]; rfl, HB.out⟩
  · have t : ((xs.length : Int) != (ys.length : Int)) = true := by rw [bne_iff_ne]; omega
    have HN : Hid (decide (xs = ys) = false) := decide_eq_false fun e => hl (by rw [e])
    clear hl
    go_enter Try.func12, Try.ntmps12
    go_wp2_with fail
    go_ret
    exact ⟨by rw [HN.out]; rfl, Drew.refl _⟩
set_option maxHeartbeats 2000000 in
theorem same_any {A B : Option Addr} {c d : Nat} {xs ys : List Cel} {w : World} (h : Cels w A xs) (h' : Cels w B ys) (hm : xs.length ≤ 1000000) (he : ys = xs) :
    Calls Try.prog 9 #[.slice A xs.length c, .slice B ys.length d] w fun e w' => e = .returned (.bool true) ∧ Drew w w' := by
  subst he
  have t : ((ys.length : Int) != (ys.length : Int)) = false := by rw [bne_eq_false_iff_eq]
  have H := hide h
  have H' := hide h'
  clear h h'
  go_enter Try.func9, Try.ntmps9
  go_wp2_with fail
  go_loopw [5] (fun i wr => ∃ k : Nat, k ≤ ys.length ∧ i = .int .i64 k ∧ Hid (Drew w wr)) (fun i wr => ys.length - (iOf i).toNat)
  case atStart => exact ⟨0, Nat.zero_le _, rfl, Drew.refl _⟩
  case round =>
    obtain ⟨k, hk, rfl, HB⟩ := hrel
    by_cases hlt : k < ys.length
    · obtain ⟨b, off, Ak, ck, Ek, ek, rfl, hb, h0, h1, hck, hpm, hpi, hpA, hek, hgm, hgA⟩ := (H.out.drew HB.out).at_ hlt
      obtain ⟨b', off', Bk, dk, Fk, fk, rfl, hb', h0', h1', hck', hpm', hpi', hpA', hek', hgm', hgA'⟩ := (H'.out.drew HB.out).at_ hlt
      have HC := hide (fun wq (hq : Drew wr wq) => eq_any (c := ck) (d := dk) (w := wq) (hpA.drew hq) (hpA'.drew hq) (by omega) (by omega) hpi hpi')
      have HD := hide (fun wq (hq : Drew wr wq) => samepile_any (c := ek) (d := fk) (w := wq) (hgA.drew hq) (hgA'.drew hq) hgm hgm')
      rw [decide_eq_true rfl] at HC HD
      have q0 : (k : Int) < (ys.length : Int) := by omega
      clear hpi hpA hpi' hpA' hgA hgA'
      generalize ys.getD k default = g at *
      obtain ⟨p, n⟩ := g
      simp only [] at *
      go_upto_region 6 with fail
      go_quiet ((first | (go_at_call 11; exact quiet HC.out) | (go_at_call 12; exact quiet HD.out)))
      go_wp2_with fail
      go_roundw
      case rel => exact ⟨k + 1, by omega, by go_num, HB.out.drew _⟩
      case measure => simp [iOf]; omega
    · go_wp2_with fail
      go_ret
      exact ⟨rfl, HB.out⟩
end Go.Proofs.Yteeamiacplfcmaa
