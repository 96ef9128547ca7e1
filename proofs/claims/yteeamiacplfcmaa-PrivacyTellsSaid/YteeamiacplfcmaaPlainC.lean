/-
  Plain: cells of a report.
-/
import Derived.Test.YteeamiacplfcmaaInts
namespace Go.Proofs.Yteeamiacplfcmaa
open Go.RowKit
set_option linter.unusedVariables false
set_option linter.unusedSimpArgs false

/-- the precincts of the first i cells -/
def seenTo (cs : List Cel) (i : Nat) : List Int := (cs.take i).flatMap (·.1)
/-- precinct k of a cell is in order behind those of s -/
def PreOk (s ps : List Int) (k : Nat) : Prop := 0 ≤ ps.getD k 0 ∧ ps.getD k 0 < 12 ∧ ps.getD k 0 ∉ s ++ ps.take k ∧ (0 < k → ps.getD (k - 1) 0 < ps.getD k 0)
instance (s ps : List Int) (k : Nat) : Decidable (PreOk s ps k) := by unfold PreOk; infer_instance
def CelOk (s : List Int) (c : Cel) : Prop := c.1.length ≠ 0 ∧ pileOk 7 c.2 = true ∧ ∀ k, k < c.1.length → PreOk s c.1 k
instance (s : List Int) (c : Cel) : Decidable (CelOk s c) := by unfold CelOk; infer_instance
/-- the ballots of the first i cells -/
def totTo (cs : List Cel) (i : Nat) : Int := ((cs.take i).map fun c => sumN c.2).sum
/-- the cells of a report -/
def validC (cs : List Cel) : Bool := decide ((∀ i, i < cs.length → CelOk (seenTo cs i) (cs.getD i default)) ∧ totTo cs cs.length ≤ 100000)
theorem validC_iff {cs : List Cel} : validC cs = true ↔ (∀ i, i < cs.length → CelOk (seenTo cs i) (cs.getD i default)) ∧ totTo cs cs.length ≤ 100000 := by unfold validC; simp
theorem validC_no {cs : List Cel} {i : Nat} (hi : i < cs.length) (h : ¬ CelOk (seenTo cs i) (cs.getD i default)) : validC cs = false := decide_eq_false fun g => h (g.1 i hi)
theorem seenTo_succ {cs : List Cel} {i : Nat} (hi : i < cs.length) : seenTo cs (i + 1) = seenTo cs i ++ (cs.getD i default).1 := by
  unfold seenTo
  rw [List.take_add_one, List.getElem?_eq_getElem hi, List.flatMap_append, List.getD_eq_getElem?_getD, List.getElem?_eq_getElem hi]
  simp
theorem totTo_succ {cs : List Cel} {i : Nat} (hi : i < cs.length) : totTo cs (i + 1) = totTo cs i + sumN (cs.getD i default).2 := by
  unfold totTo
  rw [List.take_add_one, List.getElem?_eq_getElem hi, List.map_append, List.sum_append, List.getD_eq_getElem?_getD, List.getElem?_eq_getElem hi]
  simp
theorem totTo_bounds {cs : List Cel} {i : Nat} (hi : i ≤ cs.length) (h : ∀ j, j < i → CelOk (seenTo cs j) (cs.getD j default)) : 0 ≤ totTo cs i ∧ totTo cs i ≤ 100000 * i := by
  induction i with
  | zero => simp [totTo]
  | succ i ih =>
    have h1 := ih (by omega) fun j hj => h j (by omega)
    have h2 := pile_len (h i (by omega)).2.1
    rw [totTo_succ (by omega)]
    omega
theorem totTo_mono {cs : List Cel} {i : Nat} (hi : i ≤ cs.length) (h : ∀ j, j < cs.length → CelOk (seenTo cs j) (cs.getD j default)) : totTo cs i ≤ totTo cs cs.length := by
  have : ∀ d, i + d ≤ cs.length → totTo cs i ≤ totTo cs (i + d) := fun d => by
    induction d with
    | zero => intro _; exact Int.le_refl _
    | succ d ih =>
      intro hd
      have h1 := ih (by omega)
      have h2 := pile_len (h (i + d) (by omega)).2.1
      rw [show i + (d + 1) = (i + d) + 1 from rfl, totTo_succ (by omega)]
      omega
  have h3 := this (cs.length - i) (by omega)
  rwa [show i + (cs.length - i) = cs.length by omega] at h3
theorem validC_over {cs : List Cel} {i : Nat} (hi : i ≤ cs.length) (h : 100000 < totTo cs i) : validC cs = false := by
  refine decide_eq_false fun g => ?_
  have := totTo_mono hi g.1
  omega
/-- numbers from 0 to 11, each once -/
def Few (s : List Int) : Prop := s.Nodup ∧ ∀ y ∈ s, 0 ≤ y ∧ y < 12
theorem few_len {n : Nat} : ∀ {s : List Int}, s.Nodup → (∀ y ∈ s, 0 ≤ y ∧ y < (n : Int)) → s.length ≤ n := by
  induction n with
  | zero =>
    intro s _ h
    cases s with
    | nil => simp
    | cons a t => have := h a (by simp); omega
  | succ n ih =>
    intro s hn h
    by_cases hm : (n : Int) ∈ s
    · have h1 := ih (s := s.erase (n : Int)) (hn.erase _) fun y hy => by
        rw [hn.mem_erase_iff] at hy
        have := h y hy.2
        have hne := hy.1
        omega
      rw [List.length_erase_of_mem hm] at h1
      omega
    · have h1 := ih (s := s) hn fun y hy => by
        have := h y hy
        have hne : y ≠ (n : Int) := fun e => hm (e ▸ hy)
        omega
      omega
theorem Few.len {s : List Int} (h : Few s) : s.length ≤ 12 := few_len (n := 12) h.1 h.2
theorem Few.inI {s : List Int} (h : Few s) : ∀ y ∈ s, InI y := fun y hy => by
  have := h.2 y hy
  unfold InI
  omega
theorem Few.snoc {s ps : List Int} {k : Nat} (h : Few (s ++ ps.take k)) (hk : k < ps.length) (h1 : PreOk s ps k) : Few (s ++ ps.take (k + 1)) := by
  rw [← take_snoc hk, ← List.append_assoc]
  refine ⟨?_, fun y hy => ?_⟩
  · rw [List.nodup_append]
    refine ⟨h.1, by simp, fun a ha b hb e => ?_⟩
    rw [List.mem_singleton] at hb
    subst hb
    exact h1.2.2.1 (e ▸ ha)
  · rw [List.mem_append] at hy
    rcases hy with hy | hy
    · exact h.2 y hy
    · rw [List.mem_singleton] at hy
      subst hy
      exact ⟨h1.1, h1.2.1⟩
theorem Few.all {s ps : List Int} (h : Few s) (h1 : ∀ k, k < ps.length → PreOk s ps k) : Few (s ++ ps) := by
  have : ∀ k, k ≤ ps.length → Few (s ++ ps.take k) := fun k => by
    induction k with
    | zero => intro _; simpa using h
    | succ k ih => intro hk; exact (ih (by omega)).snoc (by omega) (h1 k (by omega))
  simpa using this ps.length (Nat.le_refl _)
theorem few_seen {cs : List Cel} : ∀ {i : Nat}, i ≤ cs.length → (∀ j, j < i → CelOk (seenTo cs j) (cs.getD j default)) → Few (seenTo cs i)
  | 0, _, _ => by simp [seenTo, Few]
  | i + 1, hi, h => by
    rw [seenTo_succ (by omega)]
    exact (few_seen (by omega) fun j hj => h j (by omega)).all (h i (by omega)).2.2
end Go.Proofs.Yteeamiacplfcmaa
