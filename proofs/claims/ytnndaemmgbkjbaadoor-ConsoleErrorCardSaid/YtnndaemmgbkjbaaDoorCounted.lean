/-
  console.counted: the commands whose words are numbers only.
-/
import Derived.Test.YtnndaemmgbkjbaaDoorOp
namespace Go.Proofs.YtnndaemmgbkjbaaDoor
open Go.RowKit
set_option linter.unusedVariables false
set_option linter.unusedSimpArgs false

def isW (word : ByteArray) (l : List UInt8) : Bool := word.toList == l
def okTwo (q : List Int × Bool) : Bool := q.2 && decide (q.1.length = 2)
def okOne (q : List Int × Bool) : Bool := q.2 && decide (q.1.length = 1)
theorem below_grown {g : Nat} {w a b : World} (h : Below w.heap.size w a) (k : a.grownBy b (some g)) (hg : w.heap.size ≤ g) : Below w.heap.size w b :=
  ⟨k.os.trans h.os, k.tape.trans h.tape, k.output.trans h.output, Nat.le_trans h.size k.size, fun i hi => (k.block i (Nat.lt_of_lt_of_le hi h.size) (fun e => by have := Option.some.inj e; omega)).trans (h.block i hi)⟩
theorem opv_nil {F : Nat → Prop} {w : World} {o : Opn} (hm : o.marks = []) (hk : o.keep = []) : OpV F w (.agg (o.cells none 0 none 0)) o := by
  refine ⟨none, 0, none, 0, rfl, ?_, ?_, ?_, ?_⟩
  · rw [hm]; exact ListIn.nil _ _ _ _
  · rw [hm]; exact Nat.le_refl _
  · rw [hk]; exact ListIn.nil _ _ _ _
  · rw [hk]; exact Nat.le_refl _
theorem len_two {ns : List Int} (h : ns.length = 2) : ∃ a b, ns = [a, b] := by
  match ns, h with
  | [a, b], _ => exact ⟨a, b, rfl⟩
theorem len_one {ns : List Int} (h : ns.length = 1) : ∃ a, ns = [a] := by
  match ns, h with
  | [a], _ => exact ⟨a, rfl⟩
/-- the commands whose words are numbers only -/
def cntV (word : ByteArray) (l : List ByteArray) : Opn × Bool :=
  if isW word [102, 101, 101, 100] = true ∧ okTwo (numsV l) = true then ({ zeroO with kind := 3, scan := (numsV l).1.getD 0 0, n := (numsV l).1.getD 1 0 }, true) else
  if isW word [102, 117, 115, 101] = true ∧ okTwo (numsV l) = true then ({ zeroO with kind := 4, scan := (numsV l).1.getD 0 0, n := (numsV l).1.getD 1 0 }, true) else
  if isW word [99, 108, 111, 115, 101] = true ∧ okOne (numsV l) = true then ({ zeroO with kind := 6, scan := (numsV l).1.getD 0 0 }, true) else
  if isW word [102, 105, 110, 97, 108] = true ∧ okOne (numsV l) = true then ({ zeroO with kind := 6, scan := (numsV l).1.getD 0 0, n := 1 }, true) else
  if isW word [118, 97, 110, 105, 115, 104] = true ∧ okOne (numsV l) = true then ({ zeroO with kind := 9, n := (numsV l).1.getD 0 0 }, true) else
  if isW word [99, 111, 117, 110, 116] = true ∧ l.length = 0 then ({ zeroO with kind := 10 }, true) else
  if isW word [102, 105, 110, 105, 115, 104] = true ∧ l.length = 0 then ({ zeroO with kind := 13 }, true) else
  (zeroO, false)
theorem word_ne {word : ByteArray} {a b : List UInt8} (h : word.toList = a) (hn : (a == b) = false) : (word.toList == b) = false := by rw [h]; exact hn
theorem cnt_none {word : ByteArray} {l : List ByteArray} (h0 : isW word [102, 101, 101, 100] = true → ¬ okTwo (numsV l) = true) (h1 : isW word [102, 117, 115, 101] = true → ¬ okTwo (numsV l) = true) (h2 : isW word [99, 108, 111, 115, 101] = true → ¬ okOne (numsV l) = true) (h3 : isW word [102, 105, 110, 97, 108] = true → ¬ okOne (numsV l) = true) (h4 : isW word [118, 97, 110, 105, 115, 104] = true → ¬ okOne (numsV l) = true) (h5 : isW word [99, 111, 117, 110, 116] = true → ¬ l.length = 0) (h6 : isW word [102, 105, 110, 105, 115, 104] = true → ¬ l.length = 0) : cntV word l = (zeroO, false) := by
  unfold cntV
  rw [if_neg (fun e => h0 e.1 e.2), if_neg (fun e => h1 e.1 e.2), if_neg (fun e => h2 e.1 e.2), if_neg (fun e => h3 e.1 e.2), if_neg (fun e => h4 e.1 e.2), if_neg (fun e => h5 e.1 e.2), if_neg (fun e => h6 e.1 e.2)]
set_option maxHeartbeats 8000000 in
set_option maxRecDepth 100000 in
theorem counted_any {B : Option Addr} {d : Nat} {l : List ByteArray} {word : ByteArray} {w : World} (h : Strs w B l) (hm : l.length ≤ 1000000) (hs : ∀ s ∈ l, s.size ≤ 1000000) :
    Calls Tryd.prog 29 #[.string word, .slice B l.length d] w fun e w' => ∃ v, e = .returned (.tuple #[v, .bool (cntV word l).2]) ∧ OpV (fun i => w.heap.size ≤ i ∧ i < w'.heap.size) w' v (cntV word l).1 ∧ Below w.heap.size w w' := by
  obtain ⟨w1, hw1⟩ : ∃ x, w.alloc (.cells (zeroO.cells none 0 none 0) 39) = x := ⟨_, rfl⟩
  have hb1 : Below w.heap.size w w1 := by rw [← hw1]; exact (Below.refl _ _).alloc (Nat.le_refl _) _
  have hX1 : Box w1 w.heap.size 39 (zeroO.cells none 0 none 0) := by rw [← hw1]; exact Box.new _ _ _
  have HN := hide (numbers_any (c := d) (ListIn.below h hb1) hm hs)
  have HX1 := hide hX1
  have HB1 := hide hb1
  have HW1 := hide hw1
  obtain ⟨q, hq2⟩ : ∃ q, numsV l = q := ⟨_, rfl⟩
  have HQ := hide hq2
  rw [hq2] at HN
  clear h hs hb1 hX1 hw1 hq2
  obtain ⟨ns, ok⟩ := q
  simp only [] at HN
  go_enter Tryd.func29, Tryd.ntmps29
  go_upto_region 1 with (fail)
  rw [show w.alloc (.cells #[.int .i64 0, .int .i64 0, .int .i64 0, .int .i64 0, .int .i64 0, .int .i64 0, .slice none 0 0, .slice none 0 0, .bool false, .bool false, .bool false, .string ⟨#[]⟩] 39) = w1 from HW1.out]
  go_wp2_with fail
  refine HN.out.mono ?_
  rintro e w2 ⟨v2, rfl, hO2, hb2⟩
  have hX2 := HX1.out.kept hb2
  have HX2 := hide hX2
  have hg2 := hX2.lt
  have HB2 := hide (HB1.out.trans (hb2.mono HB1.out.size))
  obtain ⟨A2, c2, rfl, hc2, hL2, hq2⟩ := hO2.form
  have HL2 := hide hL2
  clear hX2 hO2 hb2 hL2 hq2
  obtain ⟨wz, hsz, hXz, hgz⟩ := box_store aggOp HX2.out rfl rfl (Opn.one zeroO none 0 none 0)
  have HSz := hide hsz
  have HXz := hide hXz
  have HBz := hide (below_grown HB2.out hgz (Nat.le_refl _))
  clear hsz hXz hgz
  go_upto_region 2 with (fail)
  go_cut [8] (fun v wx => v = .bool (okTwo (ns, ok)) ∧ wx = w2)
  case first =>
    cases ok with
    | false =>
      go_wp2_with fail
      go_meet
      exact ⟨rfl, rfl⟩
    | true =>
      match ns with
      | [] =>
        go_wp2_with fail
        go_meet
        exact ⟨rfl, rfl⟩
      | [a] =>
        go_wp2_with fail
        go_meet
        exact ⟨rfl, rfl⟩
      | [a, b] =>
        go_wp2_with fail
        go_meet
        exact ⟨rfl, rfl⟩
      | a :: b :: c :: r =>
        have e1 : (((a :: b :: c :: r).length : Int) == 1) = false := beq_eq_false_iff_ne.2 (by simp; omega)
        have e2 : (((a :: b :: c :: r).length : Int) == 2) = false := beq_eq_false_iff_ne.2 (by simp; omega)
        have e3 : Hid (okTwo (a :: b :: c :: r, true) = false) := by rw [Hid, okTwo, decide_eq_false (by simp)]; rfl
        have e4 : Hid (okOne (a :: b :: c :: r, true) = false) := by rw [Hid, okOne, decide_eq_false (by simp)]; rfl
        generalize a :: b :: c :: r = ns at *
        go_wp2_with fail
        go_meet
        exact ⟨by rw [e3.out], rfl⟩
  case rest =>
    obtain ⟨rfl, hww⟩ := hcut
    have hww := hww.symm
    subst hww
    go_upto_region 3 with (fail)
    go_cut [9] (fun v wx => v = .bool (okOne (ns, ok)) ∧ wx = w2)
    case first =>
      cases ok with
      | false =>
        go_wp2_with fail
        go_meet
        exact ⟨rfl, rfl⟩
      | true =>
        match ns with
        | [] =>
          go_wp2_with fail
          go_meet
          exact ⟨rfl, rfl⟩
        | [a] =>
          go_wp2_with fail
          go_meet
          exact ⟨rfl, rfl⟩
        | [a, b] =>
          go_wp2_with fail
          go_meet
          exact ⟨rfl, rfl⟩
        | a :: b :: c :: r =>
          have e1 : (((a :: b :: c :: r).length : Int) == 1) = false := beq_eq_false_iff_ne.2 (by simp; omega)
          have e2 : (((a :: b :: c :: r).length : Int) == 2) = false := beq_eq_false_iff_ne.2 (by simp; omega)
          have e3 : Hid (okTwo (a :: b :: c :: r, true) = false) := by rw [Hid, okTwo, decide_eq_false (by simp)]; rfl
          have e4 : Hid (okOne (a :: b :: c :: r, true) = false) := by rw [Hid, okOne, decide_eq_false (by simp)]; rfl
          generalize a :: b :: c :: r = ns at *
          go_wp2_with fail
          go_meet
          exact ⟨by rw [e4.out], rfl⟩
    case rest =>
      obtain ⟨rfl, hww⟩ := hcut
      have hww := hww.symm
      subst hww
      by_cases hw0 : word.toList = [102, 101, 101, 100]
      · have h0 : (word.toList == [102, 101, 101, 100]) = true := by rw [hw0]; rfl
        have h1 : (word.toList == [102, 117, 115, 101]) = false := by rw [hw0]; rfl
        have h2 : (word.toList == [99, 108, 111, 115, 101]) = false := by rw [hw0]; rfl
        have h3 : (word.toList == [102, 105, 110, 97, 108]) = false := by rw [hw0]; rfl
        have h4 : (word.toList == [118, 97, 110, 105, 115, 104]) = false := by rw [hw0]; rfl
        have h5 : (word.toList == [99, 111, 117, 110, 116]) = false := by rw [hw0]; rfl
        have h6 : (word.toList == [102, 105, 110, 105, 115, 104]) = false := by rw [hw0]; rfl
        clear hw0
        cases hz : okTwo (ns, ok) with
        | false =>
          have hv := hide (cnt_none (l := l) (fun _ e => by rw [HQ.out] at e; rw [hz] at e; cases e) (fun e => by rw [isW, h1] at e; cases e) (fun e => by rw [isW, h2] at e; cases e) (fun e => by rw [isW, h3] at e; cases e) (fun e => by rw [isW, h4] at e; cases e) (fun e => by rw [isW, h5] at e; cases e) (fun e => by rw [isW, h6] at e; cases e))
          go_wp2_with ((with_reducible refine wpList_does (o := ⟨none, _, _, _, _, _⟩) (w' := wz) ?_ ?_ ?_); rfl; exact does_store rfl rfl rfl HSz.out)
          refine bodyPost_ret (v := .tuple #[.agg (zeroO.cells none 0 none 0), .bool false]) (by refine results_ct (p := 4) (q := 5) ?_ ?_ (box_load aggOp HXz.out rfl) <;> rfl) rfl ?_
          exact ⟨_, by rw [hv.out], by rw [hv.out]; exact opv_nil rfl rfl, HBz.out⟩
        | true =>
          have hok : ok = true := by unfold okTwo at hz; simp only [Bool.and_eq_true] at hz; exact hz.1
          have hln : ns.length = 2 := by unfold okTwo at hz; simp only [Bool.and_eq_true, decide_eq_true_eq] at hz; exact hz.2
          subst hok
          obtain ⟨a, b, rfl⟩ : ∃ a b, ns = [a, b] := len_two hln
          obtain ⟨nb, noff, rfl, _, n0⟩ := HL2.out.at_ (k := 0) (by simp)
          obtain ⟨nb', noff', e, _, n1⟩ := HL2.out.at_ (k := 1) (by simp)
          cases e
          simp [iv] at n0 n1
          have hv : Hid (cntV word l = ({ zeroO with kind := 3, scan := a, n := b }, true)) := by rw [Hid]; unfold cntV; rw [if_pos ⟨h0, by rw [HQ.out]; exact hz⟩, HQ.out]; rfl
          obtain ⟨w5, hst, hX5, hg5⟩ := box_store aggOp (HX2.out.drew) rfl rfl (Opn.one ({ zeroO with kind := 3, scan := a, n := b }) none 0 none 0)
          have HS5 := hide hst
          have HX5 := hide hX5
          have HB5 := hide (below_grown (below_drew HB2.out 1) hg5 (Nat.le_refl _))
          clear hst hX5 hg5
          go_upto_region 5 with (fail)
          go_still_tail 7, (by kernel_rfl)
          change wpList _ _ _ _ _ w2.drew
          go_wp2_with ((with_reducible refine wpList_does (o := ⟨none, _, _, _, _, _⟩) (w' := w5) ?_ ?_ ?_); rfl; exact does_store rfl rfl rfl HS5.out)
          refine bodyPost_ret (v := .tuple #[.agg (({ zeroO with kind := 3, scan := a, n := b } : Opn).cells none 0 none 0), .bool true]) (by refine results_ct (p := 4) (q := 5) ?_ ?_ (box_load aggOp HX5.out rfl) <;> rfl) rfl ?_
          exact ⟨_, by rw [hv.out], by rw [hv.out]; exact opv_nil rfl rfl, HB5.out⟩
      by_cases hw1 : word.toList = [102, 117, 115, 101]
      · have h0 : (word.toList == [102, 101, 101, 100]) = false := by rw [hw1]; rfl
        have h1 : (word.toList == [102, 117, 115, 101]) = true := by rw [hw1]; rfl
        have h2 : (word.toList == [99, 108, 111, 115, 101]) = false := by rw [hw1]; rfl
        have h3 : (word.toList == [102, 105, 110, 97, 108]) = false := by rw [hw1]; rfl
        have h4 : (word.toList == [118, 97, 110, 105, 115, 104]) = false := by rw [hw1]; rfl
        have h5 : (word.toList == [99, 111, 117, 110, 116]) = false := by rw [hw1]; rfl
        have h6 : (word.toList == [102, 105, 110, 105, 115, 104]) = false := by rw [hw1]; rfl
        clear hw1 hw0
        cases hz : okTwo (ns, ok) with
        | false =>
          have hv := hide (cnt_none (l := l) (fun e => by rw [isW, h0] at e; cases e) (fun _ e => by rw [HQ.out] at e; rw [hz] at e; cases e) (fun e => by rw [isW, h2] at e; cases e) (fun e => by rw [isW, h3] at e; cases e) (fun e => by rw [isW, h4] at e; cases e) (fun e => by rw [isW, h5] at e; cases e) (fun e => by rw [isW, h6] at e; cases e))
          go_wp2_with ((with_reducible refine wpList_does (o := ⟨none, _, _, _, _, _⟩) (w' := wz) ?_ ?_ ?_); rfl; exact does_store rfl rfl rfl HSz.out)
          refine bodyPost_ret (v := .tuple #[.agg (zeroO.cells none 0 none 0), .bool false]) (by refine results_ct (p := 4) (q := 5) ?_ ?_ (box_load aggOp HXz.out rfl) <;> rfl) rfl ?_
          exact ⟨_, by rw [hv.out], by rw [hv.out]; exact opv_nil rfl rfl, HBz.out⟩
        | true =>
          have hok : ok = true := by unfold okTwo at hz; simp only [Bool.and_eq_true] at hz; exact hz.1
          have hln : ns.length = 2 := by unfold okTwo at hz; simp only [Bool.and_eq_true, decide_eq_true_eq] at hz; exact hz.2
          subst hok
          obtain ⟨a, b, rfl⟩ : ∃ a b, ns = [a, b] := len_two hln
          obtain ⟨nb, noff, rfl, _, n0⟩ := HL2.out.at_ (k := 0) (by simp)
          obtain ⟨nb', noff', e, _, n1⟩ := HL2.out.at_ (k := 1) (by simp)
          cases e
          simp [iv] at n0 n1
          have hv : Hid (cntV word l = ({ zeroO with kind := 4, scan := a, n := b }, true)) := by rw [Hid]; unfold cntV; rw [if_neg (fun e => by have := e.1; rw [isW, h0] at this; cases this), if_pos ⟨h1, by rw [HQ.out]; exact hz⟩, HQ.out]; rfl
          obtain ⟨w5, hst, hX5, hg5⟩ := box_store aggOp (HX2.out.drew) rfl rfl (Opn.one ({ zeroO with kind := 4, scan := a, n := b }) none 0 none 0)
          have HS5 := hide hst
          have HX5 := hide hX5
          have HB5 := hide (below_grown (below_drew HB2.out 1) hg5 (Nat.le_refl _))
          clear hst hX5 hg5
          go_upto_region 7 with (fail)
          go_still_tail 7, (by kernel_rfl)
          change wpList _ _ _ _ _ w2.drew
          go_wp2_with ((with_reducible refine wpList_does (o := ⟨none, _, _, _, _, _⟩) (w' := w5) ?_ ?_ ?_); rfl; exact does_store rfl rfl rfl HS5.out)
          refine bodyPost_ret (v := .tuple #[.agg (({ zeroO with kind := 4, scan := a, n := b } : Opn).cells none 0 none 0), .bool true]) (by refine results_ct (p := 4) (q := 5) ?_ ?_ (box_load aggOp HX5.out rfl) <;> rfl) rfl ?_
          exact ⟨_, by rw [hv.out], by rw [hv.out]; exact opv_nil rfl rfl, HB5.out⟩
      by_cases hw2 : word.toList = [99, 108, 111, 115, 101]
      · have h0 : (word.toList == [102, 101, 101, 100]) = false := by rw [hw2]; rfl
        have h1 : (word.toList == [102, 117, 115, 101]) = false := by rw [hw2]; rfl
        have h2 : (word.toList == [99, 108, 111, 115, 101]) = true := by rw [hw2]; rfl
        have h3 : (word.toList == [102, 105, 110, 97, 108]) = false := by rw [hw2]; rfl
        have h4 : (word.toList == [118, 97, 110, 105, 115, 104]) = false := by rw [hw2]; rfl
        have h5 : (word.toList == [99, 111, 117, 110, 116]) = false := by rw [hw2]; rfl
        have h6 : (word.toList == [102, 105, 110, 105, 115, 104]) = false := by rw [hw2]; rfl
        clear hw2 hw0 hw1
        cases hz : okOne (ns, ok) with
        | false =>
          have hv := hide (cnt_none (l := l) (fun e => by rw [isW, h0] at e; cases e) (fun e => by rw [isW, h1] at e; cases e) (fun _ e => by rw [HQ.out] at e; rw [hz] at e; cases e) (fun e => by rw [isW, h3] at e; cases e) (fun e => by rw [isW, h4] at e; cases e) (fun e => by rw [isW, h5] at e; cases e) (fun e => by rw [isW, h6] at e; cases e))
          go_wp2_with ((with_reducible refine wpList_does (o := ⟨none, _, _, _, _, _⟩) (w' := wz) ?_ ?_ ?_); rfl; exact does_store rfl rfl rfl HSz.out)
          refine bodyPost_ret (v := .tuple #[.agg (zeroO.cells none 0 none 0), .bool false]) (by refine results_ct (p := 4) (q := 5) ?_ ?_ (box_load aggOp HXz.out rfl) <;> rfl) rfl ?_
          exact ⟨_, by rw [hv.out], by rw [hv.out]; exact opv_nil rfl rfl, HBz.out⟩
        | true =>
          have hok : ok = true := by unfold okOne at hz; simp only [Bool.and_eq_true] at hz; exact hz.1
          have hln : ns.length = 1 := by unfold okOne at hz; simp only [Bool.and_eq_true, decide_eq_true_eq] at hz; exact hz.2
          subst hok
          obtain ⟨a, rfl⟩ : ∃ a, ns = [a] := len_one hln
          obtain ⟨nb, noff, rfl, _, n0⟩ := HL2.out.at_ (k := 0) (by simp)
          simp [iv] at n0
          have hv : Hid (cntV word l = ({ zeroO with kind := 6, scan := a }, true)) := by rw [Hid]; unfold cntV; rw [if_neg (fun e => by have := e.1; rw [isW, h0] at this; cases this), if_neg (fun e => by have := e.1; rw [isW, h1] at this; cases this), if_pos ⟨h2, by rw [HQ.out]; exact hz⟩, HQ.out]; rfl
          obtain ⟨w5, hst, hX5, hg5⟩ := box_store aggOp HX2.out rfl rfl (Opn.one ({ zeroO with kind := 6, scan := a }) none 0 none 0)
          have HS5 := hide hst
          have HX5 := hide hX5
          have HB5 := hide (below_grown HB2.out hg5 (Nat.le_refl _))
          clear hst hX5 hg5
          go_wp2_with ((with_reducible refine wpList_does (o := ⟨none, _, _, _, _, _⟩) (w' := w5) ?_ ?_ ?_); rfl; exact does_store rfl rfl rfl HS5.out)
          refine bodyPost_ret (v := .tuple #[.agg (({ zeroO with kind := 6, scan := a } : Opn).cells none 0 none 0), .bool true]) (by refine results_ct (p := 4) (q := 5) ?_ ?_ (box_load aggOp HX5.out rfl) <;> rfl) rfl ?_
          exact ⟨_, by rw [hv.out], by rw [hv.out]; exact opv_nil rfl rfl, HB5.out⟩
      by_cases hw3 : word.toList = [102, 105, 110, 97, 108]
      · have h0 : (word.toList == [102, 101, 101, 100]) = false := by rw [hw3]; rfl
        have h1 : (word.toList == [102, 117, 115, 101]) = false := by rw [hw3]; rfl
        have h2 : (word.toList == [99, 108, 111, 115, 101]) = false := by rw [hw3]; rfl
        have h3 : (word.toList == [102, 105, 110, 97, 108]) = true := by rw [hw3]; rfl
        have h4 : (word.toList == [118, 97, 110, 105, 115, 104]) = false := by rw [hw3]; rfl
        have h5 : (word.toList == [99, 111, 117, 110, 116]) = false := by rw [hw3]; rfl
        have h6 : (word.toList == [102, 105, 110, 105, 115, 104]) = false := by rw [hw3]; rfl
        clear hw3 hw0 hw1 hw2
        cases hz : okOne (ns, ok) with
        | false =>
          have hv := hide (cnt_none (l := l) (fun e => by rw [isW, h0] at e; cases e) (fun e => by rw [isW, h1] at e; cases e) (fun e => by rw [isW, h2] at e; cases e) (fun _ e => by rw [HQ.out] at e; rw [hz] at e; cases e) (fun e => by rw [isW, h4] at e; cases e) (fun e => by rw [isW, h5] at e; cases e) (fun e => by rw [isW, h6] at e; cases e))
          go_wp2_with ((with_reducible refine wpList_does (o := ⟨none, _, _, _, _, _⟩) (w' := wz) ?_ ?_ ?_); rfl; exact does_store rfl rfl rfl HSz.out)
          refine bodyPost_ret (v := .tuple #[.agg (zeroO.cells none 0 none 0), .bool false]) (by refine results_ct (p := 4) (q := 5) ?_ ?_ (box_load aggOp HXz.out rfl) <;> rfl) rfl ?_
          exact ⟨_, by rw [hv.out], by rw [hv.out]; exact opv_nil rfl rfl, HBz.out⟩
        | true =>
          have hok : ok = true := by unfold okOne at hz; simp only [Bool.and_eq_true] at hz; exact hz.1
          have hln : ns.length = 1 := by unfold okOne at hz; simp only [Bool.and_eq_true, decide_eq_true_eq] at hz; exact hz.2
          subst hok
          obtain ⟨a, rfl⟩ : ∃ a, ns = [a] := len_one hln
          obtain ⟨nb, noff, rfl, _, n0⟩ := HL2.out.at_ (k := 0) (by simp)
          simp [iv] at n0
          have hv : Hid (cntV word l = ({ zeroO with kind := 6, scan := a, n := 1 }, true)) := by rw [Hid]; unfold cntV; rw [if_neg (fun e => by have := e.1; rw [isW, h0] at this; cases this), if_neg (fun e => by have := e.1; rw [isW, h1] at this; cases this), if_neg (fun e => by have := e.1; rw [isW, h2] at this; cases this), if_pos ⟨h3, by rw [HQ.out]; exact hz⟩, HQ.out]; rfl
          obtain ⟨w5, hst, hX5, hg5⟩ := box_store aggOp HX2.out rfl rfl (Opn.one ({ zeroO with kind := 6, scan := a, n := 1 }) none 0 none 0)
          have HS5 := hide hst
          have HX5 := hide hX5
          have HB5 := hide (below_grown HB2.out hg5 (Nat.le_refl _))
          clear hst hX5 hg5
          go_wp2_with ((with_reducible refine wpList_does (o := ⟨none, _, _, _, _, _⟩) (w' := w5) ?_ ?_ ?_); rfl; exact does_store rfl rfl rfl HS5.out)
          refine bodyPost_ret (v := .tuple #[.agg (({ zeroO with kind := 6, scan := a, n := 1 } : Opn).cells none 0 none 0), .bool true]) (by refine results_ct (p := 4) (q := 5) ?_ ?_ (box_load aggOp HX5.out rfl) <;> rfl) rfl ?_
          exact ⟨_, by rw [hv.out], by rw [hv.out]; exact opv_nil rfl rfl, HB5.out⟩
      by_cases hw4 : word.toList = [118, 97, 110, 105, 115, 104]
      · have h0 : (word.toList == [102, 101, 101, 100]) = false := by rw [hw4]; rfl
        have h1 : (word.toList == [102, 117, 115, 101]) = false := by rw [hw4]; rfl
        have h2 : (word.toList == [99, 108, 111, 115, 101]) = false := by rw [hw4]; rfl
        have h3 : (word.toList == [102, 105, 110, 97, 108]) = false := by rw [hw4]; rfl
        have h4 : (word.toList == [118, 97, 110, 105, 115, 104]) = true := by rw [hw4]; rfl
        have h5 : (word.toList == [99, 111, 117, 110, 116]) = false := by rw [hw4]; rfl
        have h6 : (word.toList == [102, 105, 110, 105, 115, 104]) = false := by rw [hw4]; rfl
        clear hw4 hw0 hw1 hw2 hw3
        cases hz : okOne (ns, ok) with
        | false =>
          have hv := hide (cnt_none (l := l) (fun e => by rw [isW, h0] at e; cases e) (fun e => by rw [isW, h1] at e; cases e) (fun e => by rw [isW, h2] at e; cases e) (fun e => by rw [isW, h3] at e; cases e) (fun _ e => by rw [HQ.out] at e; rw [hz] at e; cases e) (fun e => by rw [isW, h5] at e; cases e) (fun e => by rw [isW, h6] at e; cases e))
          go_wp2_with ((with_reducible refine wpList_does (o := ⟨none, _, _, _, _, _⟩) (w' := wz) ?_ ?_ ?_); rfl; exact does_store rfl rfl rfl HSz.out)
          refine bodyPost_ret (v := .tuple #[.agg (zeroO.cells none 0 none 0), .bool false]) (by refine results_ct (p := 4) (q := 5) ?_ ?_ (box_load aggOp HXz.out rfl) <;> rfl) rfl ?_
          exact ⟨_, by rw [hv.out], by rw [hv.out]; exact opv_nil rfl rfl, HBz.out⟩
        | true =>
          have hok : ok = true := by unfold okOne at hz; simp only [Bool.and_eq_true] at hz; exact hz.1
          have hln : ns.length = 1 := by unfold okOne at hz; simp only [Bool.and_eq_true, decide_eq_true_eq] at hz; exact hz.2
          subst hok
          obtain ⟨a, rfl⟩ : ∃ a, ns = [a] := len_one hln
          obtain ⟨nb, noff, rfl, _, n0⟩ := HL2.out.at_ (k := 0) (by simp)
          simp [iv] at n0
          have hv : Hid (cntV word l = ({ zeroO with kind := 9, n := a }, true)) := by rw [Hid]; unfold cntV; rw [if_neg (fun e => by have := e.1; rw [isW, h0] at this; cases this), if_neg (fun e => by have := e.1; rw [isW, h1] at this; cases this), if_neg (fun e => by have := e.1; rw [isW, h2] at this; cases this), if_neg (fun e => by have := e.1; rw [isW, h3] at this; cases this), if_pos ⟨h4, by rw [HQ.out]; exact hz⟩, HQ.out]; rfl
          obtain ⟨w5, hst, hX5, hg5⟩ := box_store aggOp HX2.out rfl rfl (Opn.one ({ zeroO with kind := 9, n := a }) none 0 none 0)
          have HS5 := hide hst
          have HX5 := hide hX5
          have HB5 := hide (below_grown HB2.out hg5 (Nat.le_refl _))
          clear hst hX5 hg5
          go_wp2_with ((with_reducible refine wpList_does (o := ⟨none, _, _, _, _, _⟩) (w' := w5) ?_ ?_ ?_); rfl; exact does_store rfl rfl rfl HS5.out)
          refine bodyPost_ret (v := .tuple #[.agg (({ zeroO with kind := 9, n := a } : Opn).cells none 0 none 0), .bool true]) (by refine results_ct (p := 4) (q := 5) ?_ ?_ (box_load aggOp HX5.out rfl) <;> rfl) rfl ?_
          exact ⟨_, by rw [hv.out], by rw [hv.out]; exact opv_nil rfl rfl, HB5.out⟩
      by_cases hw5 : word.toList = [99, 111, 117, 110, 116]
      · have h0 : (word.toList == [102, 101, 101, 100]) = false := by rw [hw5]; rfl
        have h1 : (word.toList == [102, 117, 115, 101]) = false := by rw [hw5]; rfl
        have h2 : (word.toList == [99, 108, 111, 115, 101]) = false := by rw [hw5]; rfl
        have h3 : (word.toList == [102, 105, 110, 97, 108]) = false := by rw [hw5]; rfl
        have h4 : (word.toList == [118, 97, 110, 105, 115, 104]) = false := by rw [hw5]; rfl
        have h5 : (word.toList == [99, 111, 117, 110, 116]) = true := by rw [hw5]; rfl
        have h6 : (word.toList == [102, 105, 110, 105, 115, 104]) = false := by rw [hw5]; rfl
        clear hw5 hw0 hw1 hw2 hw3 hw4
        by_cases hl : l.length = 0
        · have hv : Hid (cntV word l = ({ zeroO with kind := 10 }, true)) := by rw [Hid]; unfold cntV; rw [if_neg (fun e => by have := e.1; rw [isW, h0] at this; cases this), if_neg (fun e => by have := e.1; rw [isW, h1] at this; cases this), if_neg (fun e => by have := e.1; rw [isW, h2] at this; cases this), if_neg (fun e => by have := e.1; rw [isW, h3] at this; cases this), if_neg (fun e => by have := e.1; rw [isW, h4] at this; cases this), if_pos ⟨h5, hl⟩]
          obtain ⟨w5, hst, hX5, hg5⟩ := box_store aggOp HX2.out rfl rfl (Opn.one ({ zeroO with kind := 10 }) none 0 none 0)
          have HS5 := hide hst
          have HX5 := hide hX5
          have HB5 := hide (below_grown HB2.out hg5 (Nat.le_refl _))
          clear hst hX5 hg5
          go_wp2_with ((with_reducible refine wpList_does (o := ⟨none, _, _, _, _, _⟩) (w' := w5) ?_ ?_ ?_); rfl; exact does_store rfl rfl rfl HS5.out)
          refine bodyPost_ret (v := .tuple #[.agg (({ zeroO with kind := 10 } : Opn).cells none 0 none 0), .bool true]) (by refine results_ct (p := 4) (q := 5) ?_ ?_ (box_load aggOp HX5.out rfl) <;> rfl) rfl ?_
          exact ⟨_, by rw [hv.out], by rw [hv.out]; exact opv_nil rfl rfl, HB5.out⟩
        · have hl2 : ((l.length : Int) == 0) = false := beq_eq_false_iff_ne.2 (by omega)
          have hv := hide (cnt_none (l := l) (fun e => by rw [isW, h0] at e; cases e) (fun e => by rw [isW, h1] at e; cases e) (fun e => by rw [isW, h2] at e; cases e) (fun e => by rw [isW, h3] at e; cases e) (fun e => by rw [isW, h4] at e; cases e) (fun _ e => hl e) (fun e => by rw [isW, h6] at e; cases e))
          go_wp2_with ((with_reducible refine wpList_does (o := ⟨none, _, _, _, _, _⟩) (w' := wz) ?_ ?_ ?_); rfl; exact does_store rfl rfl rfl HSz.out)
          refine bodyPost_ret (v := .tuple #[.agg (zeroO.cells none 0 none 0), .bool false]) (by refine results_ct (p := 4) (q := 5) ?_ ?_ (box_load aggOp HXz.out rfl) <;> rfl) rfl ?_
          exact ⟨_, by rw [hv.out], by rw [hv.out]; exact opv_nil rfl rfl, HBz.out⟩
      by_cases hw6 : word.toList = [102, 105, 110, 105, 115, 104]
      · have h0 : (word.toList == [102, 101, 101, 100]) = false := by rw [hw6]; rfl
        have h1 : (word.toList == [102, 117, 115, 101]) = false := by rw [hw6]; rfl
        have h2 : (word.toList == [99, 108, 111, 115, 101]) = false := by rw [hw6]; rfl
        have h3 : (word.toList == [102, 105, 110, 97, 108]) = false := by rw [hw6]; rfl
        have h4 : (word.toList == [118, 97, 110, 105, 115, 104]) = false := by rw [hw6]; rfl
        have h5 : (word.toList == [99, 111, 117, 110, 116]) = false := by rw [hw6]; rfl
        have h6 : (word.toList == [102, 105, 110, 105, 115, 104]) = true := by rw [hw6]; rfl
        clear hw6 hw0 hw1 hw2 hw3 hw4 hw5
        by_cases hl : l.length = 0
        · have hv : Hid (cntV word l = ({ zeroO with kind := 13 }, true)) := by rw [Hid]; unfold cntV; rw [if_neg (fun e => by have := e.1; rw [isW, h0] at this; cases this), if_neg (fun e => by have := e.1; rw [isW, h1] at this; cases this), if_neg (fun e => by have := e.1; rw [isW, h2] at this; cases this), if_neg (fun e => by have := e.1; rw [isW, h3] at this; cases this), if_neg (fun e => by have := e.1; rw [isW, h4] at this; cases this), if_neg (fun e => by have := e.1; rw [isW, h5] at this; cases this), if_pos ⟨h6, hl⟩]
          obtain ⟨w5, hst, hX5, hg5⟩ := box_store aggOp HX2.out rfl rfl (Opn.one ({ zeroO with kind := 13 }) none 0 none 0)
          have HS5 := hide hst
          have HX5 := hide hX5
          have HB5 := hide (below_grown HB2.out hg5 (Nat.le_refl _))
          clear hst hX5 hg5
          go_wp2_with ((with_reducible refine wpList_does (o := ⟨none, _, _, _, _, _⟩) (w' := w5) ?_ ?_ ?_); rfl; exact does_store rfl rfl rfl HS5.out)
          refine bodyPost_ret (v := .tuple #[.agg (({ zeroO with kind := 13 } : Opn).cells none 0 none 0), .bool true]) (by refine results_ct (p := 4) (q := 5) ?_ ?_ (box_load aggOp HX5.out rfl) <;> rfl) rfl ?_
          exact ⟨_, by rw [hv.out], by rw [hv.out]; exact opv_nil rfl rfl, HB5.out⟩
        · have hl2 : ((l.length : Int) == 0) = false := beq_eq_false_iff_ne.2 (by omega)
          have hv := hide (cnt_none (l := l) (fun e => by rw [isW, h0] at e; cases e) (fun e => by rw [isW, h1] at e; cases e) (fun e => by rw [isW, h2] at e; cases e) (fun e => by rw [isW, h3] at e; cases e) (fun e => by rw [isW, h4] at e; cases e) (fun e => by rw [isW, h5] at e; cases e) (fun _ e => hl e))
          go_wp2_with ((with_reducible refine wpList_does (o := ⟨none, _, _, _, _, _⟩) (w' := wz) ?_ ?_ ?_); rfl; exact does_store rfl rfl rfl HSz.out)
          refine bodyPost_ret (v := .tuple #[.agg (zeroO.cells none 0 none 0), .bool false]) (by refine results_ct (p := 4) (q := 5) ?_ ?_ (box_load aggOp HXz.out rfl) <;> rfl) rfl ?_
          exact ⟨_, by rw [hv.out], by rw [hv.out]; exact opv_nil rfl rfl, HBz.out⟩
      have h0 : (word.toList == [102, 101, 101, 100]) = false := beq_eq_false_iff_ne.2 hw0
      have h1 : (word.toList == [102, 117, 115, 101]) = false := beq_eq_false_iff_ne.2 hw1
      have h2 : (word.toList == [99, 108, 111, 115, 101]) = false := beq_eq_false_iff_ne.2 hw2
      have h3 : (word.toList == [102, 105, 110, 97, 108]) = false := beq_eq_false_iff_ne.2 hw3
      have h4 : (word.toList == [118, 97, 110, 105, 115, 104]) = false := beq_eq_false_iff_ne.2 hw4
      have h5 : (word.toList == [99, 111, 117, 110, 116]) = false := beq_eq_false_iff_ne.2 hw5
      have h6 : (word.toList == [102, 105, 110, 105, 115, 104]) = false := beq_eq_false_iff_ne.2 hw6
      clear hw0 hw1 hw2 hw3 hw4 hw5 hw6
      have hv := hide (cnt_none (l := l) (fun e => by rw [isW, h0] at e; cases e) (fun e => by rw [isW, h1] at e; cases e) (fun e => by rw [isW, h2] at e; cases e) (fun e => by rw [isW, h3] at e; cases e) (fun e => by rw [isW, h4] at e; cases e) (fun e => by rw [isW, h5] at e; cases e) (fun e => by rw [isW, h6] at e; cases e))
      go_wp2_with ((with_reducible refine wpList_does (o := ⟨none, _, _, _, _, _⟩) (w' := wz) ?_ ?_ ?_); rfl; exact does_store rfl rfl rfl HSz.out)
      refine bodyPost_ret (v := .tuple #[.agg (zeroO.cells none 0 none 0), .bool false]) (by refine results_ct (p := 4) (q := 5) ?_ ?_ (box_load aggOp HXz.out rfl) <;> rfl) rfl ?_
      exact ⟨_, by rw [hv.out], by rw [hv.out]; exact opv_nil rfl rfl, HBz.out⟩
end Go.Proofs.YtnndaemmgbkjbaaDoor
