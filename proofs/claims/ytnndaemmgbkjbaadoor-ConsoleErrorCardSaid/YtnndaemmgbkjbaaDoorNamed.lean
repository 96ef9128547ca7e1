/-
  console.named: a name and numbers.
-/
import Derived.Test.YtnndaemmgbkjbaaDoorIndex
namespace Go.Proofs.YtnndaemmgbkjbaaDoor
open Go.RowKit
set_option linter.unusedVariables false
set_option linter.unusedSimpArgs false

theorem frozen_below {w w' : World} {g o : Nat} (hb : Below w.heap.size w w') (hlt : g < w.heap.size) (hf : w.frozen? ⟨g, o, none⟩ = false) : w'.frozen? ⟨g, o, none⟩ = false := by
  unfold World.frozen? at hf ⊢
  rw [hb.block g hlt]
  exact hf
set_option maxHeartbeats 2000000 in
set_option maxRecDepth 100000 in
theorem named_nil {vn p : Value} {B : Option Addr} {d : Nat} {w : World} :
    Calls Tryd.prog 21 #[vn, .slice B 0 d, p] w fun e w' => e = .returned (.tuple #[.slice none 0 0, .bool false]) ∧ w' = w := by
  go_enter Tryd.func21, Tryd.ntmps21
  go_wp2_with fail
  go_ret2
  exact ⟨rfl, rfl⟩
set_option maxHeartbeats 2000000 in
set_option maxRecDepth 100000 in
theorem named_cons {A B : Option Addr} {c d g o : Nat} {u : Value} {names r : List ByteArray} {x : ByteArray} {w : World} (h : Strs w A names) (hm : names.length ≤ 1000000) (hn : ∀ n ∈ names, n.size ≤ 3000000) (hM : Max w) (hr : Strs w B (x :: r)) (hd : r.length + 1 ≤ d) (hd2 : d ≤ 1000000) (hx : ∀ s ∈ r, s.size ≤ 1000000)
    (hc : w.cell? ⟨g, o, none⟩ = some u) (hf : w.frozen? ⟨g, o, none⟩ = false) :
    Calls Tryd.prog 21 #[.slice A names.length c, .slice B (r.length + 1) d, .pointer (some ⟨g, o, none⟩)] w fun e w' => ∃ v w1, e = .returned (.tuple #[v, .bool (decide (0 ≤ idxN names x) && (numsV r).2)]) ∧ w' = w1.setCell ⟨g, o, none⟩ (.int .i64 (idxN names x)) ∧ OwnE iv 3 w.heap.size w1 v (numsV r).1 ∧ Below w.heap.size w w1 := by
  have hlt := World.block_lt_of_cell? w _ hc
  obtain ⟨b, off, rfl, hb, h0⟩ := hr.at_ (k := 0) (by simp)
  obtain ⟨b', off', e, ht⟩ := hr.tail
  cases e
  have h0 : w.cell? ⟨b, off, none⟩ = some (.string x) := h0
  have HI := hide (index_any (c := c) (s := x) h hm hn hM)
  have HN1 := hide (fun (wq : World) (hq : Below w.heap.size w wq) => numbers_any (c := d - 1) (ListIn.below ht hq) (by omega) hx)
  have HN0 := hide (fun (wq : World) (A : Option Addr) (c : Nat) => numbers_any (w := wq) (c := c) (A := A) (l := []) (ListIn.nil _ _ _ _) (by simp) (fun s hs => by cases hs))
  have HR : Hid (r.length = 0 → r = []) := fun e => List.length_eq_zero_iff.1 e
  clear h hn hM hr ht hx
  generalize idxN names x = i at *
  generalize hq : numsV r = q at *
  have HQ := hide hq
  clear hq
  obtain ⟨ns, ok⟩ := q
  simp only [] at *
  go_enter Tryd.func21, Tryd.ntmps21
  go_wp2_with fail
  refine HI.out.mono ?_
  rintro e w1 ⟨rfl, hb1⟩
  have h0 := (hb1.cell (p := ⟨b, off, none⟩) hb).trans h0
  have HB1 := hide hb1
  clear hb1
  by_cases hd1 : d = 1
  · subst hd1
    obtain rfl := HR.out (by omega)
    have HN := hide (HN0.out w1 (some ⟨b, off, none⟩) 0)
    rw [HQ.out] at HN
    simp only [] at HN
    go_wp2_with fail
    refine HN.out.mono ?_
    rintro e w2 ⟨v2, rfl, hO2, hb2⟩
    have hb3 := below_then HB1.out hb2
    have hc2 := (hb3.cell (p := ⟨g, o, none⟩) hlt).trans hc
    have hf2 := frozen_below hb3 hlt hf
    have HO2 := hide (hO2.lower HB1.out.size)
    have HB3 := hide hb3
    obtain ⟨A2, c2, rfl, _, _, _⟩ := hO2.form
    clear hb2 hb3 hO2
    cases hi : decide (0 ≤ i) with
    | true =>
      have hi2 := of_decide_eq_true hi
      have HI2 := hide hi
      clear hi
      go_wp2_with fail
      go_ret2
      exact ⟨_, w2, by rw [HI2.out]; rfl, rfl, HO2.out, HB3.out⟩
    | false =>
      have hi2 := of_decide_eq_false hi
      have HI2 := hide hi
      clear hi
      go_wp2_with fail
      go_ret2
      exact ⟨_, w2, by rw [HI2.out]; rfl, rfl, HO2.out, HB3.out⟩
  · have hd3 : 1 < d := by omega
    have HN := hide (HN1.out w1 HB1.out)
    go_wp2_with fail
    refine HN.out.mono ?_
    rintro e w2 ⟨v2, rfl, hO2, hb2⟩
    have hb3 := below_then HB1.out hb2
    have hc2 := (hb3.cell (p := ⟨g, o, none⟩) hlt).trans hc
    have hf2 := frozen_below hb3 hlt hf
    have HO2 := hide (hO2.lower HB1.out.size)
    have HB3 := hide hb3
    obtain ⟨A2, c2, rfl, _, _, _⟩ := hO2.form
    clear hb2 hb3 hO2
    cases hi : decide (0 ≤ i) with
    | true =>
      have hi2 := of_decide_eq_true hi
      have HI2 := hide hi
      clear hi
      go_wp2_with fail
      go_ret2
      exact ⟨_, w2, by rw [HI2.out]; rfl, rfl, HO2.out, HB3.out⟩
    | false =>
      have hi2 := of_decide_eq_false hi
      have HI2 := hide hi
      clear hi
      go_wp2_with fail
      go_ret2
      exact ⟨_, w2, by rw [HI2.out]; rfl, rfl, HO2.out, HB3.out⟩
end Go.Proofs.YtnndaemmgbkjbaaDoor
