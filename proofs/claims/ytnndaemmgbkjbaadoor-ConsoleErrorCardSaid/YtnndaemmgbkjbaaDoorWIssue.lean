/-
  console.words: 'issue'.
-/
import Derived.Test.YtnndaemmgbkjbaaDoorCounted
namespace Go.Proofs.YtnndaemmgbkjbaaDoor
open Go.RowKit
set_option linter.unusedVariables false
set_option linter.unusedSimpArgs false

/-- the world behind the boxes of words: the election, the result, the operation -/
theorem words_boxes {w : World} {e : EV} {p c : Nat} : ∃ w1, ((w.alloc (.cells (e.cells p c) 34)).alloc (.cells (zeroO.cells none 0 none 0) 39)).alloc (.cells (zeroO.cells none 0 none 0) 39) = w1 ∧ w1.heap.size = w.heap.size + 1 + 1 + 1 ∧ Below w.heap.size w w1 ∧
    Box w1 w.heap.size 34 (e.cells p c) ∧ Box w1 (w.heap.size + 1) 39 (zeroO.cells none 0 none 0) ∧ Box w1 (w.heap.size + 1 + 1) 39 (zeroO.cells none 0 none 0) := by
  refine ⟨_, rfl, by simp, (((Below.refl _ _).alloc (Nat.le_refl _) _).alloc (by simp) _).alloc (by simp; omega) _, ?_, ?_, ?_⟩
  · exact ((Box.new _ _ _).alloc _).alloc _
  · have := (Box.new (w.alloc (.cells (e.cells p c) 34)) 39 (zeroO.cells none 0 none 0)).alloc (.cells (zeroO.cells none 0 none 0) 39)
    rwa [World.size_alloc] at this
  · have := Box.new ((w.alloc (.cells (e.cells p c) 34)).alloc (.cells (zeroO.cells none 0 none 0) 39)) 39 (zeroO.cells none 0 none 0)
    rwa [World.size_alloc, World.size_alloc] at this
def issueO (P : List ByteArray) (x : ByteArray) (r : List ByteArray) : Opn := { zeroO with kind := 1, prec := idxN P x, marks := (numsV r).1 }
set_option maxHeartbeats 8000000 in
set_option maxRecDepth 100000 in
theorem words_issue {e : EV} {P C : List ByteArray} {B : Option Addr} {d : Nat} {r : List ByteArray} {x word : ByteArray} {w : World} (hword : word.toList = [105, 115, 115, 117, 101]) (hE : Elec w e P C) (hP : P.length ≤ 1000000) (hPn : ∀ n ∈ P, n.size ≤ 3000000) (hM : Max w) (hr : Strs w B (x :: r)) (hd : r.length + 1 ≤ d) (hd2 : d ≤ 1000000) (hx : ∀ s ∈ r, s.size ≤ 1000000) :
    Calls Tryd.prog 14 #[.agg (e.cells P.length C.length), .string word, .slice B (r.length + 1) d] w fun en w' => ∃ v, en = .returned (.tuple #[v, .bool (decide (0 ≤ idxN P x) && (numsV r).2)]) ∧ OpV (fun i => w.heap.size ≤ i ∧ i < w'.heap.size) w' v (issueO P x r) ∧ Below w.heap.size w w' := by
  obtain ⟨w1, hw1, hs1, hb1, hXe, hXr, hXo⟩ := words_boxes (w := w) (e := e) (p := P.length) (c := C.length)
  have hw : (word.toList == [105, 115, 115, 117, 101]) = true := by rw [hword]; rfl
  -- the kind is stored
  obtain ⟨w2, hw2⟩ : ∃ q, w1.setCell ⟨w.heap.size + 1 + 1, 0, none⟩ (.int .i64 1) = q := ⟨_, rfl⟩
  have hXo2 := hXo.set 0 (.int .i64 1)
  have hXr2 := hXr.far (p := ⟨w.heap.size + 1 + 1, 0, none⟩) (by show w.heap.size + 1 ≠ w.heap.size + 1 + 1; omega) (.int .i64 1)
  have hXe2 := hXe.far (p := ⟨w.heap.size + 1 + 1, 0, none⟩) (by show w.heap.size ≠ w.heap.size + 1 + 1; omega) (.int .i64 1)
  have hb2 : Below w.heap.size w (w1.setCell ⟨w.heap.size + 1 + 1, 0, none⟩ (.int .i64 1)) := below_grown hb1 (grown_set _ _ _ _) (by omega)
  rw [hw2] at hXo2 hXr2 hXe2 hb2
  have o0 := hXo.cell 0
  have of0 := hXo.frozen 0
  have hN := named_cons (A := e.pa) (c := e.pc) (names := P) (g := w.heap.size + 1 + 1) (o := 1) (u := .int .i64 0) (ListIn.below hE.1 hb2) hP hPn (hM.below hb2) (ListIn.below hr hb2) hd hd2 hx (by rw [hXo2.cell 1]; rfl) (hXo2.frozen 1)
  have e4 := hXe2.cell 4
  have HN := hide hN
  have HX2 := hide hXo2
  have HR2 := hide hXr2
  have HB2 := hide hb2
  have HW1 := hide hw1
  have HW2 := hide hw2
  have hs2 : w2.heap.size = w1.heap.size := by rw [← hw2]; simp [World.setCell]
  have HS2 := hide (hs2.trans hs1)
  clear hword hE hP hPn hM hr hx hw1 hs1 hb1 hXe hXr hXo hXo2 hXr2 hXe2 hb2 hN hw2 hs2
  have HI : Hid (issueO P x r = { zeroO with kind := 1, prec := idxN P x, marks := (numsV r).1 }) := rfl
  generalize idxN P x = i at *
  generalize numsV r = q at *
  obtain ⟨ns, ok⟩ := q
  obtain ⟨title, dots, blank, marked, pa, pc, ca, cc, sa, sn, sc, scanners, batch, neg, na, nn, nc, da, dn, dc, cell, seed⟩ := e
  unfold EV.cells at *
  simp only [] at *
  simp [Opn.cells, zeroO] at o0 e4
  go_enter Tryd.func14, Tryd.ntmps14
  go_upto_region 2 with (fail)
  rw [show ((w.alloc (.cells #[.string title, .int .i64 dots, .int .i64 blank, .int .i64 marked, .slice pa P.length pc, .slice ca C.length cc, .slice sa sn sc, .int .i64 scanners, .int .i64 batch, .bool neg, .slice na nn nc, .slice da dn dc, .int .i64 cell, .string seed] 34)).alloc (.cells #[.int .i64 0, .int .i64 0, .int .i64 0, .int .i64 0, .int .i64 0, .int .i64 0, .slice none 0 0, .slice none 0 0, .bool false, .bool false, .bool false, .string ⟨#[]⟩] 39)).alloc (.cells #[.int .i64 0, .int .i64 0, .int .i64 0, .int .i64 0, .int .i64 0, .int .i64 0, .slice none 0 0, .slice none 0 0, .bool false, .bool false, .bool false, .string ⟨#[]⟩] 39) = w1 from HW1.out]
  go_upto_region 7 with (fail)
  rw [HW2.out]
  go_wp2_with fail
  refine HN.out.mono ?_
  rintro en w4 ⟨v, w3, rfl, hw4, hO3, hb3⟩
  obtain ⟨A3, c3, rfl, hc3, hL3, _⟩ := hO3.form
  have hs3 := hb3.size
  have hx3 := HX2.out.kept hb3
  have hr3 := HR2.out.kept hb3
  have hx4 := hx3.set 1 (.int .i64 i)
  have hr4 := hr3.far (p := ⟨w.heap.size + 1 + 1, 1, none⟩) (by show w.heap.size + 1 ≠ w.heap.size + 1 + 1; omega) (.int .i64 i)
  have hl3 : ListIn iv (fun b => w2.heap.size ≤ b ∧ b < w3.heap.size) w3 A3 ns := hL3.mono fun b hb => ⟨hb.2.1, hb.1⟩
  have hne : ¬ (w2.heap.size ≤ w.heap.size + 1 + 1 ∧ w.heap.size + 1 + 1 < w3.heap.size) := by have := HS2.out; omega
  have hl4 := list_set hl3 hne 1 (.int .i64 i)
  have hb4 : Below w.heap.size w (w3.setCell ⟨w.heap.size + 1 + 1, 1, none⟩ (.int .i64 i)) := below_grown (HB2.out.trans (hb3.mono HB2.out.size)) (grown_set _ _ _ _) (by omega)
  have hsz4 : (w3.setCell ⟨w.heap.size + 1 + 1, 1, none⟩ (.int .i64 i)).heap.size = w3.heap.size := by simp [World.setCell]
  rw [← hw4] at hx4 hr4 hl4 hb4 hsz4
  have q6 := hx4.cell 6
  have qf := hx4.frozen 6
  simp [Opn.cells, zeroO] at q6
  obtain ⟨w5, hw5⟩ : ∃ q, w4.setCell ⟨w.heap.size + 1 + 1, 6, none⟩ (.slice A3 ns.length c3) = q := ⟨_, rfl⟩
  have hx5 := hx4.set 6 (.slice A3 ns.length c3)
  have hr5 := hr4.far (p := ⟨w.heap.size + 1 + 1, 6, none⟩) (by show w.heap.size + 1 ≠ w.heap.size + 1 + 1; omega) (.slice A3 ns.length c3)
  have hl5 := list_set hl4 hne 6 (.slice A3 ns.length c3)
  have hb5 : Below w.heap.size w (w4.setCell ⟨w.heap.size + 1 + 1, 6, none⟩ (.slice A3 ns.length c3)) := below_grown hb4 (grown_set _ _ _ _) (by omega)
  have hsz5 : (w4.setCell ⟨w.heap.size + 1 + 1, 6, none⟩ (.slice A3 ns.length c3)).heap.size = w4.heap.size := by simp [World.setCell]
  rw [hw5] at hx5 hr5 hl5 hb5 hsz5
  obtain ⟨o, ho⟩ : ∃ o : Opn, o = { zeroO with kind := 1, prec := i, marks := ns } := ⟨_, rfl⟩
  have hx5 : Box w5 (w.heap.size + 1 + 1) 39 (o.cells A3 c3 none 0) := by rw [ho]; exact hx5
  obtain ⟨w6, hst, hx6, hg6⟩ := box_store aggOp hr5 rfl rfl (Opn.one o A3 c3 none 0)
  have hl6 : ListIn iv (fun b => w2.heap.size ≤ b ∧ b < w3.heap.size) w6 A3 ns := hl5.agree fun b hb => hg6.block b (by omega) (fun e => by have := Option.some.inj e; have := HS2.out; omega)
  have hom : o.marks = ns := by rw [ho]
  have hok : o.keep = [] := by rw [ho]; rfl
  have hV : OpV (fun b => w.heap.size ≤ b ∧ b < w6.heap.size) w6 (.agg (o.cells A3 c3 none 0)) o := by
    refine ⟨A3, c3, none, 0, rfl, ?_, ?_, ?_, ?_⟩
    · rw [hom]; exact hl6.mono fun b hb => ⟨by have := HS2.out; omega, by have := hg6.size; omega⟩
    · rw [hom]; exact hc3
    · rw [hok]; exact ListIn.nil _ _ _ _
    · rw [hok]; exact Nat.le_refl _
  have HV := hide hV
  have HLd := hide (box_load aggOp hx5 rfl)
  have HSt := hide hst
  have HX6 := hide hx6
  have HB6 := hide (below_grown hb5 hg6 (Nat.le_succ _))
  have HW4 := hide hw4
  have HW5 := hide hw5
  have HO := hide ho
  clear hx3 hr3 hx4 hr4 hl3 hl4 hb4 hsz4 hw5 hx5 hr5 hl5 hb5 hsz5 hst hx6 hg6 hl6 hV hom hok hO3 hb3 hL3 ho hw4
  go_upto_region 40 with (fail)
  rw [HW5.out]
  go_wp2_with (first | ((with_reducible refine wpList_gives (o := ⟨some 154, _, _, _, _, _⟩) (v := .agg (o.cells A3 c3 none 0)) (w' := w5) ?_ ?_ ?_); rfl; exact gives_load rfl rfl HLd.out) | ((with_reducible refine wpList_does (o := ⟨none, _, _, _, _, _⟩) (w' := w6) ?_ ?_ ?_); rfl; exact does_store rfl rfl rfl HSt.out))
  refine bodyPost_ret (v := .tuple #[.agg (o.cells A3 c3 none 0), .bool (decide (0 ≤ i) && ok)]) (by refine results_ct (p := 6) (q := 7) ?_ ?_ (box_load aggOp HX6.out rfl) <;> rfl) rfl ?_
  exact ⟨_, rfl, by rw [HI.out, ← HO.out]; exact HV.out, HB6.out⟩
end Go.Proofs.YtnndaemmgbkjbaaDoor
