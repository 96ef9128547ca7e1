/-
  Split: plain.
-/
import Derived.Test.YthhelhggggbaiaaCut
namespace Go.Proofs.Ythhelhggggbaiaa
open Go.RowKit
set_option linter.unusedVariables false
set_option linter.unusedSimpArgs false

/-- the first k frames of a given size -/
def splitK (bs : List UInt8) (size k : Nat) : List (List UInt8) := (List.range k).map fun j => (bs.drop (j * size)).take size
theorem splitK_length (bs : List UInt8) (size k : Nat) : (splitK bs size k).length = k := by simp [splitK]
theorem splitK_succ (bs : List UInt8) (size k : Nat) : splitK bs size (k + 1) = splitK bs size k ++ [(bs.drop (k * size)).take size] := by simp [splitK, List.range_succ]
theorem splitK_at (bs : List UInt8) (size k j : Nat) (h : j < k) : (splitK bs size k).getD j [] = (bs.drop (j * size)).take size := by simp [splitK, List.getD_eq_getElem?_getD, h]
theorem splitK_flat (bs : List UInt8) (size k : Nat) (h : k * size ≤ bs.length) : (splitK bs size k).flatten = bs.take (k * size) := by
  induction k with
  | zero => simp [splitK]
  | succ k ih =>
    have h1 : (k + 1) * size = k * size + size := Nat.succ_mul k size
    rw [splitK_succ, List.flatten_append, ih (by omega), h1, List.take_add]
    simp
/-- what Split returns where the size is allowed -/
structure SplitOk (bs : List UInt8) (size k : Nat) : Prop where
  some_ : 0 < k → k * size < bs.length
  le : bs.length ≤ k * size + size
def splitL (bs : List UInt8) (size k : Nat) : List (List UInt8) := splitK bs size k ++ [bs.drop (k * size)]
theorem splitL_length (bs : List UInt8) (size k : Nat) : (splitL bs size k).length = k + 1 := by rw [splitL, List.length_append, splitK_length]; rfl
theorem splitL_flat (bs : List UInt8) (size k : Nat) (h : SplitOk bs size k) : (splitL bs size k).flatten = bs := by
  have hk : k * size ≤ bs.length := by
    rcases Nat.eq_zero_or_pos k with e | e
    · subst e; simp
    · exact Nat.le_of_lt (h.some_ e)
  rw [splitL, List.flatten_append, splitK_flat bs size k hk]
  simp
theorem splitL_at (bs : List UInt8) (size k j : Nat) (h : SplitOk bs size k) (hj : j < k) : ((splitL bs size k).getD j []).length = size := by
  have e : (splitL bs size k).getD j [] = (splitK bs size k).getD j [] := by
    rw [splitL, List.getD_eq_getElem?_getD, List.getElem?_append_left (by rw [splitK_length]; exact hj), ← List.getD_eq_getElem?_getD]
  have h1 := h.some_ (by omega)
  have h2 : (j + 1) * size ≤ k * size := Nat.mul_le_mul_right size (by omega)
  have h3 : (j + 1) * size = j * size + size := Nat.succ_mul j size
  rw [e, splitK_at _ _ _ _ hj, List.length_take, List.length_drop]
  omega
theorem splitL_last (bs : List UInt8) (size k : Nat) : (splitL bs size k).getD k [] = bs.drop (k * size) := by
  rw [splitL, List.getD_eq_getElem?_getD, List.getElem?_append_right (by rw [splitK_length]; exact Nat.le_refl _), splitK_length, Nat.sub_self]
  rfl
def SplitPost (w : World) (bs : List UInt8) (size : Nat) (e : Ending) (w' : World) : Prop :=
  ∃ A c k, e = .returned (.slice A (splitL bs size k).length c) ∧ SplitOk bs size k ∧ FrIn (fun i => i < w'.heap.size) w' A (splitL bs size k) ∧ (splitL bs size k).length ≤ c ∧ Below w.heap.size w w'
end Go.Proofs.Ythhelhggggbaiaa
