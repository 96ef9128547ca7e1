/-
  Plain laws of strings: replacing one byte; splitting at blanks.
-/
import Derived.Test.YtnndaemmgbkjbaaDoorOps
import Derived.Test.YtnndaemmgbkjbaaDoorShelf
namespace Go.Proofs.YtnndaemmgbkjbaaDoor
open Go.RowKit
set_option linter.unusedVariables false
set_option linter.unusedSimpArgs false

/-- each byte c becomes the bytes new -/
def subst (c : UInt8) (new : List UInt8) (l : List UInt8) : List UInt8 := l.flatMap fun b => if b = c then new else [b]
theorem subst_nil (c : UInt8) (new : List UInt8) : subst c new [] = [] := rfl
theorem subst_cons (c : UInt8) (new : List UInt8) (b : UInt8) (l : List UInt8) : subst c new (b :: l) = (if b = c then new else [b]) ++ subst c new l := by simp [subst]
theorem subst_append (c : UInt8) (new : List UInt8) (a b : List UInt8) : subst c new (a ++ b) = subst c new a ++ subst c new b := by simp [subst]
theorem index_cons_eq (c : UInt8) (l : List UInt8) : Lib.index (c :: l) [c] = 0 := by
  unfold Lib.index
  simp
theorem index_cons_ne {b c : UInt8} (l : List UInt8) (h : b ≠ c) : Lib.index (b :: l) [c] = if Lib.index l [c] == -1 then -1 else Lib.index l [c] + 1 := by
  have h' : ¬ c = b := fun e => h e.symm
  rw [Lib.index]
  simp [h']
theorem replaceK_subst (c : UInt8) (new : List UInt8) : ∀ l : List UInt8, Lib.replaceK [c] new (Lib.count l [c]) l = subst c new l
  | [] => by
    rw [Lib.count_one]
    rfl
  | b :: l => by
    have ih := replaceK_subst c new l
    by_cases h : b = c
    · subst h
      rw [Lib.count_cons_eq, Nat.add_comm, Lib.replaceK_hit [b] new _ _ 0 (index_cons_eq b l), subst_cons, if_pos rfl]
      simpa using ih
    · rw [Lib.count_cons_ne b c l h, subst_cons, if_neg h]
      rw [← ih]
      cases hk : Lib.count l [c] with
      | zero => rfl
      | succ k =>
        obtain ⟨i, hi⟩ := Lib.index_of_count (s := l) (old := [c]) (by omega)
        have e1 : Lib.index (b :: l) [c] = ((i + 1 : Nat) : Int) := by
          have hne : ¬ ((i : Int) = -1) := by omega
          rw [index_cons_ne l h, hi]
          simp [hne]
        rw [Lib.replaceK_hit [c] new k _ _ e1, Lib.replaceK_hit [c] new k _ _ hi]
        simp
theorem replaceAll_subst {c : UInt8} {new : List UInt8} (hn : new ≠ [c]) (l : List UInt8) : Lib.replaceAll l [c] new = subst c new l := by
  unfold Lib.replaceAll Lib.replace Lib.replaceNum
  rw [if_neg (by simpa using fun e => hn e.symm), if_pos (.inl (by decide))]
  exact replaceK_subst c new l
theorem subst_length (c : UInt8) {new : List UInt8} (h : new.length = 3) : ∀ l : List UInt8, l.length ≤ (subst c new l).length ∧ (subst c new l).length ≤ 3 * l.length
  | [] => by simp [subst_nil]
  | b :: l => by
    have := subst_length c h l
    rw [subst_cons, List.length_append, List.length_cons]
    split
    · omega
    · simp; omega
/-- a name as it is written in commands -/
def escL (l : List UInt8) : List UInt8 := subst 32 [37, 50, 48] (subst 37 [37, 50, 53] l)
def escS (s : ByteArray) : ByteArray := ⟨(escL s.data.toList).toArray⟩
/-- the words of a line -/
def splitW (s : ByteArray) : List ByteArray := Lib.splitB ⟨#[32]⟩ 0 (Lib.countB s ⟨#[32]⟩) s
theorem splitW_length (s : ByteArray) : (splitW s).length = Lib.countB s ⟨#[32]⟩ + 1 := Lib.splitB_all ⟨#[32]⟩ (by decide) 0 _ s rfl
theorem count_le_size (s : ByteArray) (c : UInt8) : Lib.countB s ⟨#[c]⟩ ≤ s.size := Lib.countB_le ⟨#[c]⟩ (by simp [ByteArray.size]) s.size s (Nat.le_refl _)
end Go.Proofs.YtnndaemmgbkjbaaDoor
