/-
  privacy.join, privacy.clone.
-/
import Derived.Test.YteeamiacplfcmaaPSum
namespace Go.Proofs.Yteeamiacplfcmaa
open Go.RowKit
set_option linter.unusedVariables false
set_option linter.unusedSimpArgs false

/-- a cell in blocks not below B -/
def Cell3 (B : Nat) (w : World) (v0 v1 : Value) (c : Cel) : Prop := CelE (fun i => B ≤ i ∧ i < w.heap.size) w v0 v1 c
theorem uniP_sort_len (a b : List Int) : (uniP a b 12).length ≤ 12 := uniP_len a b 12
set_option maxHeartbeats 8000000 in
set_option maxRecDepth 100000 in
theorem join_any {v0 v1 u0 u1 : Value} {a b : Cel} {w : World} (h : Cell2 w v0 v1 a) (h' : Cell2 w u0 u1 b) (ha : 0 < a.1.length) (hf : Few (a.1 ++ b.1)) (hp : pileOk 7 a.2 = true) (hp' : pileOk 7 b.2 = true) (hs : sumN a.2 + sumN b.2 ≤ 100000) :
    Calls Try.prog 26 #[.agg #[v0, v1], .agg #[u0, u1]] w fun e w' => ∃ x0 x1, e = .returned (.agg #[x0, x1]) ∧ Cell3 w.heap.size w' x0 x1 (uniteC a b) ∧ Below w.heap.size w w' := by
  obtain ⟨A, ca, B, da, rfl, hca, hpm, hpi, hpA, rfl, hda, hgm, hgB⟩ := h
  obtain ⟨A', cb, B', db, rfl, hcb, hpm', hpi', hpA', rfl, hdb, hgm', hgB'⟩ := h'
  have hlf := hf.len
  rw [List.length_append] at hlf
  have HI1 := hide (fun wq (hq : Below w.heap.size w wq) => Ints.below hpA hq)
  have HI2 := hide (fun wq (hq : Below w.heap.size w wq) => Ints.below hpA' hq)
  have HJ := hide (fun wq (hq : Below w.heap.size w wq) => pjoin_any (c := da) (d := db) (w := wq) (Grps.below hgB hq) (Grps.below hgB' hq) hp hp' hs)
  have HLn := hide (pile_len (pile_joinG hp hp' hs))
  have HU : Hid (uniteC a b = (uniP a.1 b.1 12, joinG a.2 b.2)) := rfl
  have HSU := hide (sort_uni hf)
  have hul := uniP_len a.1 b.1 12
  obtain ⟨pa, ga⟩ := a
  obtain ⟨pb, gb⟩ := b
  simp only [] at *
  clear hpA hgB hpA' hgB' hp hp' hs hpi hpi' hf
  have X0 := (((Box.new w 34 #[.slice A pa.length ca, .slice B ga.length da]).alloc (.cells #[.slice A' pb.length cb, .slice B' gb.length db] 34)).alloc (.cells #[.slice none 0 0, .slice none 0 0] 34))
  have X1 := ((Box.new (w.alloc (.cells #[.slice A pa.length ca, .slice B ga.length da] 34)) 34 #[.slice A' pb.length cb, .slice B' gb.length db]).alloc (.cells #[.slice none 0 0, .slice none 0 0] 34))
  have X2 := (Box.new ((w.alloc (.cells #[.slice A pa.length ca, .slice B ga.length da] 34)).alloc (.cells #[.slice A' pb.length cb, .slice B' gb.length db] 34)) 34 #[.slice none 0 0, .slice none 0 0])
  have hB3 := ((((Below.refl w.heap.size w).alloc (Nat.le_refl _) (.cells #[.slice A pa.length ca, .slice B ga.length da] 34)).alloc (by simp) (.cells #[.slice A' pb.length cb, .slice B' gb.length db] 34)).alloc (by simp; omega) (.cells #[.slice none 0 0, .slice none 0 0] 34))
  simp only [World.size_alloc] at X0 X1 X2
  obtain ⟨w3, hw3⟩ : ∃ x, x = (((w.alloc (.cells #[.slice A pa.length ca, .slice B ga.length da] 34)).alloc (.cells #[.slice A' pb.length cb, .slice B' gb.length db] 34)).alloc (.cells #[.slice none 0 0, .slice none 0 0] 34)) := ⟨_, rfl⟩
  have hs3 : w3.heap.size = w.heap.size + 1 + 1 + 1 := by rw [hw3]; simp
  rw [← hw3] at X0 X1 X2 hB3
  have HW3 := hide hw3
  have HB3 := hide hB3
  have HJ3 := hide (HJ.out w3 hB3)
  clear hw3 hB3
  have a0 := X0.cell 0
  have a1 := X0.cell 1
  have b0 := X1.cell 0
  have b1 := X1.cell 1
  simp at a0 a1 b0 b1
  have X0 := hide X0
  have X1 := hide X1
  have X2 := hide X2
  go_enter Try.func26, Try.ntmps26
  go_wp2_with fail
  rw [← HW3.out]
  refine HJ3.out.mono ?_
  rintro e w4 ⟨vg, rfl, hOg, hb4⟩
  obtain ⟨Ag, cg, rfl, hcg, _, _⟩ := hOg.pairs goodG
  have Y0 := X0.out.kept hb4
  have Y1 := X1.out.kept hb4
  have Y2 := hide (X2.out.kept hb4)
  have d0 := Y0.cell 0
  have d1 := Y1.cell 0
  simp at d0 d1
  have hs4 := hb4.size
  have HB4 := hide (HB3.out.trans (hb4.mono (by omega)))
  have hb5 : Below w4.heap.size w4 (w4.alloc (.cells #[.slice A pa.length ca, .slice A' pb.length cb] 31)) := (Below.refl _ _).alloc (Nat.le_refl _) _
  have hX5 : Box (w4.alloc (.cells #[.slice A pa.length ca, .slice A' pb.length cb] 31)) w4.heap.size 31 #[.slice A pa.length ca, .slice A' pb.length cb] := Box.new _ _ _
  have hB5 := HB4.out.trans (hb5.mono (by omega))
  have HC := hide (concat_any hX5 (HI1.out _ hB5) (HI2.out _ hB5) ha (by omega) (by omega))
  have HOg := hide hOg
  have HB5 := hide hb5
  have HBw5 := hide hB5
  have hs5 := hb5.size
  clear hOg hb4 Y0 Y1 hb5 hX5 hB5 a0 a1 b0 b1
  go_wp2_with fail
  refine HC.out.mono ?_
  rintro e w6 ⟨vp, rfl, hOp, hb6⟩
  have HB6 := hide hb6
  have hlen : (pa ++ pb).length = pa.length + pb.length := List.length_append
  have HSo := hide (sortint_any hOp (by omega) (by omega))
  have hlo := hide hOp.lo
  obtain ⟨Ap, cp, rfl, hcp, _⟩ := hOp.form
  rw [HSU.out] at HSo
  clear hOp hb6
  generalize (pa ++ pb).length = n at *
  have Hlen := hide hlen
  clear hlen
  go_wp2_with fail
  refine HSo.out.mono ?_
  rintro e w7 ⟨rfl, hOs, hg7⟩
  have hs6 := HB6.out.size
  have hb7 : Below w4.heap.size w4 w7 := (HB5.out.trans (HB6.out.mono hs5)).trans ((own_by hs6 hlo.out hg7).mono hs5)
  have hOg7 := HOg.out.kept goodG hb7
  have Y7 := Y2.out.kept hb7
  have hB7 := HB4.out.trans (hb7.mono (by omega))
  obtain ⟨Aq, cq, eq, hcq, hIq, _⟩ := hOs.form
  injection eq with q1 q2 q3
  subst q1 q3
  obtain ⟨Ah, ch, eh, hch, _, hPh⟩ := hOg7.pairs goodG
  injection eh with r1 r2 r3
  subst r1 r3
  rw [q2]
  rw [q2] at hcp
  have t0 := Y7.cell 0
  have t1 := Y7.cell 1
  have tf0 := Y7.frozen 0
  have tf1 := Y7.frozen 1
  simp at t0 t1
  have HCE : Hid (CelE (fun i => w.heap.size + 1 + 1 + 1 ≤ i ∧ i < w7.heap.size) w7 (.slice Ap (uniP pa pb 12).length cp) (.slice Ag (joinG ga gb).length cg) (uniteC (pa, ga) (pb, gb))) := by
    rw [Hid, HU.out]
    exact ⟨Ap, cp, Ag, cg, rfl, hcq, by simp only []; omega, uniP_inI (by omega), hIq.mono fun i hi => ⟨by have := hi.2.1; omega, hi.1⟩, rfl, hcg, by have := HLn.out; simp only []; omega, hPh.mono goodG fun i hi => ⟨by omega, hi.2⟩⟩
  have HY7 := hide Y7
  have HB7 := hide hB7
  clear hOs hg7 hb7 hOg7 Y7 hIq hPh hB7
  go_wp2_with fail
  have W2 := hide ((HY7.out.set 0 (.slice Ap (uniP pa pb 12).length cp)).set 1 (.slice Ag (joinG ga gb).length cg))
  have s0 := W2.out.cell 0
  have s1 := W2.out.cell 1
  simp at s0 s1
  refine bodyPost_ret (v := .agg #[.slice Ap (uniP pa pb 12).length cp, .slice Ag (joinG ga gb).length cg]) (by simp [results, Try.results26, go_sem, s0, s1]) rfl ?_
  refine ⟨_, _, rfl, ?_, (HB7.out.setCell (by simp <;> omega) _).setCell (by simp <;> omega) _⟩
  refine goodC.mono (goodC.agree HCE.out fun i hi => ?_) fun i hi => ⟨by omega, by simpa [World.setCell] using hi.2⟩
  have n2 : i ≠ w.heap.size + 1 + 1 := by have := hi.1; omega
  exact (Below.heap_setCell _ _ _ i n2).trans (Below.heap_setCell _ _ _ i n2)
theorem uniP_self {l : List Int} (h : Few l) (hs : SortI l) : uniP l [] 12 = l :=
  sortI_ext (uniP_sort _ _ _) hs fun x => by rw [uniP_mem (by rw [List.append_nil]; exact h), List.append_nil]
set_option maxHeartbeats 4000000 in
set_option maxRecDepth 100000 in
theorem pclone_any {v0 v1 : Value} {a : Cel} {w : World} (h : Cell2 w v0 v1 a) (ho : OneC a) (hf : Few a.1) :
    Calls Try.prog 23 #[.agg #[v0, v1]] w fun e w' => ∃ x0 x1, e = .returned (.agg #[x0, x1]) ∧ Cell3 w.heap.size w' x0 x1 a ∧ Below w.heap.size w w' := by
  have hlp := pile_len ho.2.2
  have hn : Cell2 w (.slice none 0 0) (.slice none 0 0) ([], []) := ⟨none, 0, none, 0, rfl, Nat.le_refl _, by simp, by simp, IntsIn.nil _ _ _, rfl, Nat.le_refl _, by simp, PairsIn.nil _ _ _ _⟩
  have hx : uniteC a ([], []) = a := by
    unfold uniteC
    simp only []
    rw [uniP_self hf ho.2.1]
    rfl
  have hJ := fun wq (hq : Below w.heap.size w wq) => join_any (w := wq) (h.below hq) (hn.below hq) (List.length_pos_iff.2 ho.1) (by simpa using hf) ho.2.2 pile_nil (by rw [sumN_nil]; omega)
  rw [hx] at hJ
  obtain ⟨A, ca, B, d, rfl, hca, hpm, hpi, hpA, rfl, hd, hgm, hgB⟩ := id h
  have HJ := hide hJ
  have HO : Hid (a = a) := rfl
  obtain ⟨pa, ga⟩ := a
  simp only [] at *
  clear hpA hgB hJ hx hn h hf ho hlp
  obtain ⟨w2, hw2⟩ : ∃ x, x = ((w.alloc (.cells #[.slice A pa.length ca, .slice B ga.length d] 34)).alloc (.cells #[.slice none 0 0, .slice none 0 0] 34)) := ⟨_, rfl⟩
  have hs2 : w2.heap.size = w.heap.size + 1 + 1 := by rw [hw2]; simp
  have X1 : Hid (Box w2 (w.heap.size + 1) 34 #[.slice none 0 0, .slice none 0 0]) := by
    have := Box.new (w.alloc (.cells #[.slice A pa.length ca, .slice B ga.length d] 34)) 34 #[.slice none 0 0, .slice none 0 0]
    rw [World.size_alloc] at this
    rw [Hid, hw2]; exact this
  have HB2 : Hid (Below w.heap.size w w2) := by rw [Hid, hw2]; exact ((Below.refl _ _).alloc (Nat.le_refl _) _).alloc (by simp) _
  have HJ2 := hide (HJ.out w2 HB2.out)
  have HW2 := hide hw2
  clear hw2 HJ
  go_enter Try.func23, Try.ntmps23
  go_wp2_with fail
  rw [← HW2.out]
  refine HJ2.out.mono ?_
  rintro e w3 ⟨x0, x1, rfl, hX, hb3⟩
  have hX' := hX
  obtain ⟨A1, c1, B1, d1, rfl, _, _, _, _, rfl, _⟩ := hX'
  have Y := X1.out.kept hb3
  have t0 := Y.cell 0
  have t1 := Y.cell 1
  have tf0 := Y.frozen 0
  have tf1 := Y.frozen 1
  simp at t0 t1
  have HY := hide Y
  have HX := hide hX
  have hB3 := HB2.out.trans (hb3.mono (by omega))
  have HB3 := hide hB3
  clear hb3 Y hX hB3
  go_wp2_with fail
  have W2 := hide ((HY.out.set 0 (.slice A1 pa.length c1)).set 1 (.slice B1 ga.length d1))
  have s0 := W2.out.cell 0
  have s1 := W2.out.cell 1
  simp at s0 s1
  refine bodyPost_ret (v := .agg #[.slice A1 pa.length c1, .slice B1 ga.length d1]) (by simp [results, Try.results23, go_sem, s0, s1]) rfl ?_
  refine ⟨_, _, rfl, ?_, (HB3.out.setCell (by simp <;> omega) _).setCell (by simp <;> omega) _⟩
  refine goodC.mono (goodC.agree HX.out fun i hi => ?_) fun i hi => ⟨by omega, by simpa [World.setCell] using hi.2⟩
  have n2 : i ≠ w.heap.size + 1 := by have := hi.1; omega
  exact (Below.heap_setCell _ _ _ i n2).trans (Below.heap_setCell _ _ _ i n2)
end Go.Proofs.Yteeamiacplfcmaa
