/-
  slices.Equal over numbers and over choices; console.same of equal operations.
-/
import Derived.Test.YtnndaemmgbkjbaaDoorWrit
namespace Go.Proofs.YtnndaemmgbkjbaaDoor
open Go.RowKit
set_option linter.unusedVariables false
set_option linter.unusedSimpArgs false

theorem ext_getD {α : Type} [Inhabited α] {xs ys : List α} (hl : xs.length = ys.length) (h : ∀ i, i < xs.length → xs.getD i default = ys.getD i default) : xs = ys := by
  refine List.ext_getElem hl fun i h1 h2 => ?_
  have := h i h1
  rw [List.getD_eq_getElem?_getD, List.getD_eq_getElem?_getD, List.getElem?_eq_getElem h1, List.getElem?_eq_getElem h2] at this
  exact this
set_option maxHeartbeats 2000000 in
set_option maxRecDepth 100000 in
theorem eqI_any {A B : Option Addr} {c d : Nat} {l m : List Int} {w : World} (h : ListIn iv (All w) w A l) (h' : ListIn iv (All w) w B m) (hl : l.length ≤ 1000000) (hm : m.length ≤ 1000000) :
    Calls Tryd.prog 36 #[.slice A l.length c, .slice B m.length d] w fun e w' => e = .returned (.bool (decide (l = m))) ∧ Drew w w' := by
  have H := hide h
  have H' := hide h'
  clear h h'
  go_enter Tryd.func36, Tryd.ntmps36
  by_cases hlm : l.length = m.length
  · have HLM := hide hlm
    have hb : ((l.length : Int) != (l.length : Int)) = false := by simp
    rw [← hlm]
    clear hlm
    go_wp2_with fail
    go_loopw [5, 13] (fun _ i wr => ∃ k : Nat, k ≤ l.length ∧ i = .int .i64 k ∧ Hid (∀ j, j < k → l.getD j default = m.getD j default) ∧ Hid (Drew w wr)) (fun _ i _ => l.length - (iOf i).toNat)
    case atStart => exact ⟨0, Nat.zero_le _, rfl, (fun j hj => absurd hj (by omega)), Drew.refl _⟩
    case round =>
      obtain ⟨k, hk, rfl, HA, HD⟩ := hrel
      by_cases hlt : k < l.length
      · obtain ⟨b, off, rfl, hb1, h0⟩ := H.out.at_ hlt
        obtain ⟨b', off', rfl, hb2, h0'⟩ := H'.out.at_ (show k < m.length by have := HLM.out; omega)
        have h0 := (HD.out.below.cell (p := ⟨b, off + k, none⟩) hb1).trans h0
        have h0' := (HD.out.below.cell (p := ⟨b', off' + k, none⟩) hb2).trans h0'
        have HY : Hid (l.getD k default = m.getD k default → ∀ j, j < k + 1 → l.getD j default = m.getD j default) := fun e j hj => by
          by_cases e2 : j = k
          · rw [e2]; exact e
          · exact HA.out j (by omega)
        have HN : Hid (¬ l.getD k default = m.getD k default → decide (l = m) = false) := fun e => decide_eq_false fun e2 => e (by rw [e2])
        simp only [iv] at h0 h0'
        generalize l.getD k default = x at *
        generalize m.getD k default = y at *
        by_cases e : x = y
        · have hy := hide (HY.out e)
          have hne : (x != y) = false := by rw [e]; simp
          clear e
          go_upto_region 6 with (fail)
          go_quiet (fail)
          go_wp2_with fail
          go_roundw
          case rel => exact ⟨k + 1, by omega, by go_num, hy.out, HD.out.drew _⟩
          case measure => simp [iOf]; omega
        · have hn := hide (HN.out e)
          have hne : (x != y) = true := bne_iff_ne.2 e
          clear e
          go_upto_region 6 with (fail)
          go_quiet (fail)
          go_wp2_with fail
          go_ret
          exact ⟨by rw [hn.out]; rfl, HD.out.drew _⟩
      · obtain rfl : k = l.length := by omega
        have HE : Hid (decide (l = m) = true) := decide_eq_true (ext_getD HLM.out HA.out)
        go_wp2_with fail
        go_ret
        exact ⟨by rw [HE.out]; rfl, HD.out⟩
  · have hb : ((l.length : Int) != (m.length : Int)) = true := bne_iff_ne.2 (by omega)
    have HN : Hid (decide (l = m) = false) := decide_eq_false fun e => hlm (by rw [e])
    clear hlm
    go_wp2_with fail
    go_ret
    exact ⟨by rw [HN.out]; rfl, Drew.refl _⟩
set_option maxHeartbeats 2000000 in
set_option maxRecDepth 100000 in
theorem eqB_any {A B : Option Addr} {c d : Nat} {l m : List Bool} {w : World} (h : ListIn Value.bool (All w) w A l) (h' : ListIn Value.bool (All w) w B m) (hl : l.length ≤ 1000000) (hm : m.length ≤ 1000000) :
    Calls Tryd.prog 37 #[.slice A l.length c, .slice B m.length d] w fun e w' => e = .returned (.bool (decide (l = m))) ∧ Drew w w' := by
  have H := hide h
  have H' := hide h'
  clear h h'
  go_enter Tryd.func37, Tryd.ntmps37
  by_cases hlm : l.length = m.length
  · have HLM := hide hlm
    have hb : ((l.length : Int) != (l.length : Int)) = false := by simp
    rw [← hlm]
    clear hlm
    go_wp2_with fail
    go_loopw [5, 13] (fun _ i wr => ∃ k : Nat, k ≤ l.length ∧ i = .int .i64 k ∧ Hid (∀ j, j < k → l.getD j default = m.getD j default) ∧ Hid (Drew w wr)) (fun _ i _ => l.length - (iOf i).toNat)
    case atStart => exact ⟨0, Nat.zero_le _, rfl, (fun j hj => absurd hj (by omega)), Drew.refl _⟩
    case round =>
      obtain ⟨k, hk, rfl, HA, HD⟩ := hrel
      by_cases hlt : k < l.length
      · obtain ⟨b, off, rfl, hb1, h0⟩ := H.out.at_ hlt
        obtain ⟨b', off', rfl, hb2, h0'⟩ := H'.out.at_ (show k < m.length by have := HLM.out; omega)
        have h0 := (HD.out.below.cell (p := ⟨b, off + k, none⟩) hb1).trans h0
        have h0' := (HD.out.below.cell (p := ⟨b', off' + k, none⟩) hb2).trans h0'
        have HY : Hid (l.getD k default = m.getD k default → ∀ j, j < k + 1 → l.getD j default = m.getD j default) := fun e j hj => by
          by_cases e2 : j = k
          · rw [e2]; exact e
          · exact HA.out j (by omega)
        have HN : Hid (¬ l.getD k default = m.getD k default → decide (l = m) = false) := fun e => decide_eq_false fun e2 => e (by rw [e2])
        skip
        generalize l.getD k default = x at *
        generalize m.getD k default = y at *
        cases x <;> cases y
        · have hy := hide (HY.out rfl)
          go_upto_region 6 with (fail)
          go_quiet (fail)
          go_wp2_with fail
          go_roundw
          case rel => exact ⟨k + 1, by omega, by go_num, hy.out, HD.out.drew _⟩
          case measure => simp [iOf]; omega
        · have hn := hide (HN.out (by simp))
          go_upto_region 6 with (fail)
          go_quiet (fail)
          go_wp2_with fail
          go_ret
          exact ⟨by rw [hn.out]; rfl, HD.out.drew _⟩
        · have hn := hide (HN.out (by simp))
          go_upto_region 6 with (fail)
          go_quiet (fail)
          go_wp2_with fail
          go_ret
          exact ⟨by rw [hn.out]; rfl, HD.out.drew _⟩
        · have hy := hide (HY.out rfl)
          go_upto_region 6 with (fail)
          go_quiet (fail)
          go_wp2_with fail
          go_roundw
          case rel => exact ⟨k + 1, by omega, by go_num, hy.out, HD.out.drew _⟩
          case measure => simp [iOf]; omega
      · obtain rfl : k = l.length := by omega
        have HE : Hid (decide (l = m) = true) := decide_eq_true (ext_getD HLM.out HA.out)
        go_wp2_with fail
        go_ret
        exact ⟨by rw [HE.out]; rfl, HD.out⟩
  · have hb : ((l.length : Int) != (m.length : Int)) = true := bne_iff_ne.2 (by omega)
    have HN : Hid (decide (l = m) = false) := decide_eq_false fun e => hlm (by rw [e])
    clear hlm
    go_wp2_with fail
    go_ret
    exact ⟨by rw [HN.out]; rfl, Drew.refl _⟩
/-- two operations of equal parts in memory: same says so -/
theorem op_boxes {w : World} {a b : Opn} {A : Option Addr} {c : Nat} {D : Option Addr} {d : Nat} {A' : Option Addr} {c' : Nat} {D' : Option Addr} {d' : Nat} : ∃ w1, (w.alloc (.cells (a.cells A c D d) 39)).alloc (.cells (b.cells A' c' D' d') 39) = w1 ∧ Below w.heap.size w w1 ∧ Box w1 w.heap.size 39 (a.cells A c D d) ∧ Box w1 (w.heap.size + 1) 39 (b.cells A' c' D' d') := by
  refine ⟨_, rfl, ((Below.refl _ _).alloc (Nat.le_refl _) _).alloc (by simp) _, (Box.new _ _ _).alloc _, ?_⟩
  have := Box.new (w.alloc (.cells (a.cells A c D d) 39)) 39 (b.cells A' c' D' d')
  rwa [World.size_alloc] at this
set_option maxHeartbeats 8000000 in
set_option maxRecDepth 100000 in
theorem same_eq {o : Opn} {u v : Value} {w : World} (hu : OpV (All w) w u o) (hv : OpV (All w) w v o) (hm : o.marks.length ≤ 1000000) (hk : o.keep.length ≤ 1000000) :
    Calls Tryd.prog 17 #[u, v] w fun e w' => e = .returned (.bool true) ∧ Below w.heap.size w w' := by
  obtain ⟨A, c, D, d, rfl, hA, _, hD, _⟩ := hu
  obtain ⟨A', c', D', d', rfl, hA', _, hD', _⟩ := hv
  obtain ⟨w1, hw1, hb1, hX, hY⟩ := op_boxes (w := w) (a := o) (b := o) (A := A) (c := c) (D := D) (d := d) (A' := A') (c' := c') (D' := D') (d' := d')
  have HI := hide (fun (wq : World) (hq : Drew w1 wq) => eqI_any (c := c) (d := c') (w := wq) (ListIn.below hA (hb1.trans (hq.below.mono hb1.size))) (ListIn.below hA' (hb1.trans (hq.below.mono hb1.size))) hm hm)
  have HB := hide (fun (wq : World) (hq : Drew w1 wq) => eqB_any (c := d) (d := d') (w := wq) (ListIn.below hD (hb1.trans (hq.below.mono hb1.size))) (ListIn.below hD' (hb1.trans (hq.below.mono hb1.size))) hk hk)
  rw [decide_eq_true rfl] at HI HB
  have HB1 := hide hb1
  have HW1 := hide hw1
  have HX := hide hX
  have HY := hide hY
  clear hA hA' hD hD' hw1 hb1 hX hY hm hk
  obtain ⟨kind, prec, cont, scan, n, lie, marks, keep, lose, deaf, twice, text⟩ := o
  unfold Opn.cells at *
  simp only [] at *
  have x0 := HX.out.cell 0
  have x1 := HX.out.cell 1
  have x2 := HX.out.cell 2
  have x3 := HX.out.cell 3
  have x4 := HX.out.cell 4
  have x5 := HX.out.cell 5
  have x6 := HX.out.cell 6
  have x7 := HX.out.cell 7
  have x8 := HX.out.cell 8
  have x9 := HX.out.cell 9
  have x10 := HX.out.cell 10
  have x11 := HX.out.cell 11
  have y0 := HY.out.cell 0
  have y1 := HY.out.cell 1
  have y2 := HY.out.cell 2
  have y3 := HY.out.cell 3
  have y4 := HY.out.cell 4
  have y5 := HY.out.cell 5
  have y6 := HY.out.cell 6
  have y7 := HY.out.cell 7
  have y8 := HY.out.cell 8
  have y9 := HY.out.cell 9
  have y10 := HY.out.cell 10
  have y11 := HY.out.cell 11
  simp at x0 x1 x2 x3 x4 x5 x6 x7 x8 x9 x10 x11 y0 y1 y2 y3 y4 y5 y6 y7 y8 y9 y10 y11
  go_enter Tryd.func17, Tryd.ntmps17
  go_upto_region 1 with (fail)
  rw [HW1.out]
  go_wp2_with fail
  refine (HI.out w1 (Drew.refl _)).mono ?_
  rintro e w2 ⟨rfl, hd2⟩
  have HX2 := HX.out.kept hd2.below
  have HY2 := HY.out.kept hd2.below
  have x7 := HX2.cell 7
  have x8 := HX2.cell 8
  have x9 := HX2.cell 9
  have x10 := HX2.cell 10
  have x11 := HX2.cell 11
  have y7 := HY2.cell 7
  have y8 := HY2.cell 8
  have y9 := HY2.cell 9
  have y10 := HY2.cell 10
  have y11 := HY2.cell 11
  simp at x7 y7 x8 y8 x9 y9 x10 y10 x11 y11
  have HD2 := hide hd2
  clear hd2 HX2 HY2
  go_wp2_with fail
  refine (HB.out w2 HD2.out).mono ?_
  rintro e w3 ⟨rfl, hd3⟩
  have HX3 := HX.out.kept (HD2.out.trans hd3).below
  have HY3 := HY.out.kept (HD2.out.trans hd3).below
  have x8 := HX3.cell 8
  have x9 := HX3.cell 9
  have x10 := HX3.cell 10
  have x11 := HX3.cell 11
  have y8 := HY3.cell 8
  have y9 := HY3.cell 9
  have y10 := HY3.cell 10
  have y11 := HY3.cell 11
  simp at x8 y8 x9 y9 x10 y10 x11 y11
  have HD3 := hide (HD2.out.trans hd3)
  clear hd3 HX3 HY3
  go_wp2_with fail
  go_ret
  exact ⟨rfl, HB1.out.trans (HD3.out.below.mono HB1.out.size)⟩
end Go.Proofs.YtnndaemmgbkjbaaDoor
