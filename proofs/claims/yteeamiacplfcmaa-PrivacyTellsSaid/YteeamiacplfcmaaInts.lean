/-
  A list of numbers of the program's own.
-/
import Derived.Test.YteeamiacplfcmaaPile
namespace Go.Proofs.Yteeamiacplfcmaa
open Go.RowKit
set_option linter.unusedVariables false
set_option linter.unusedSimpArgs false

def iv (x : Int) : Value := .int .i64 x
/-- a slice of numbers of the program's own, in a block not below B -/
def OwnI (B : Nat) (w : World) (v : Value) (l : List Int) : Prop := w.ownsRow B 3 1 v l.length (l.map iv)
theorem OwnI.nil (B : Nat) (w : World) : OwnI B w (.slice none 0 0) [] := World.ownsRow_nil w _ _ 1
theorem OwnI.form {B : Nat} {w : World} {v : Value} {l : List Int} (h : OwnI B w v l) : ∃ A c, v = .slice A l.length c ∧ l.length ≤ c ∧ IntsIn (fun b => b < w.heap.size ∧ B ≤ b ∧ v.ownBlock = some b) w A l ∧ ∀ g, v.ownBlock = some g → B ≤ g ∧ g < w.heap.size := by
  rcases h.2 with ⟨rfl, hn⟩ | ⟨g, cap, cur, rfl, hb, hg, hc, hm, hz, ht⟩
  · exact ⟨none, 0, by rw [hn], by omega, fun h => absurd h (by omega), fun g e => (by cases e)⟩
  · have hlt : g < w.heap.size := by
      rcases Nat.lt_or_ge g w.heap.size with hlt | hge
      · exact hlt
      · rw [Array.getElem?_eq_none hge] at hg; cases hg
    refine ⟨_, cap, rfl, hc, fun hp => ⟨g, 0, rfl, ⟨hlt, hb, rfl⟩, fun k hk => ?_⟩, fun g' e => ?_⟩
    · rw [cell_of_row w g (0 + k) _ 3 (0, 0) hg]
      have e : (l.map iv)[k]? = some (iv (l.getD k 0)) := by simp [List.getD_eq_getElem?_getD, hk]
      rw [← ht, List.getElem?_take_of_lt (by omega)] at e
      rw [Nat.zero_add, ← Array.getElem?_toList]
      exact e
    · injection e with e
      subst e
      exact ⟨hb, hlt⟩
theorem OwnI.ints {B : Nat} {w : World} {A : Option Addr} {n c : Nat} {l : List Int} (h : OwnI B w (.slice A n c) l) : Ints w A l := by
  obtain ⟨A', c', e, _, hI, _⟩ := h.form
  injection e with e1 e2 e3
  rw [e1]
  exact hI.mono fun i hi => hi.1
theorem OwnI.lo {B : Nat} {w : World} {v : Value} {l : List Int} (h : OwnI B w v l) : ∀ g, v.ownBlock = some g → B ≤ g := fun g e => by
  obtain ⟨_, _, _, _, _, hq⟩ := h.form
  exact (hq g e).1
theorem OwnI.kept {B : Nat} {w w' : World} {v : Value} {l : List Int} (h : OwnI B w v l) (hb : Below w.heap.size w w') : OwnI B w' v l := ownsRow_of h fun g _ hg => hb.block g hg
/-- the two worlds differ in the list's own block, in new blocks -/
theorem push_int {B : Nat} {w : World} {v : Value} {l : List Int} (h : OwnI B w v l) (hB : B ≤ w.heap.size) (hl : l.length ≤ 1000000) (ty : TypeId) (y : Int) :
    ∃ A c w', (Builtin.append_ #[31, 31] ty #[v, .slice (some ⟨w.heap.size, 0, none⟩) 1 1]).run Try.prog (w.alloc (.cells #[.int .i64 y] 3)) = .ok (.slice A (l.length + 1) c) w' ∧ OwnI B w' (.slice A (l.length + 1) c) (l ++ [y]) ∧ w.grownBy w' v.ownBlock ∧
      ((Value.slice A (l.length + 1) c).ownBlock = v.ownBlock ∨ ∃ g, (Value.slice A (l.length + 1) c).ownBlock = some g ∧ w.heap.size ≤ g) := by
  obtain ⟨i0, hi, hz0, hz1, hz2⟩ := info_parts intinfo
  have hB1 : Below w.heap.size w (w.alloc (.cells #[.int .i64 y] 3)) := (Below.refl _ _).alloc (Nat.le_refl _) _
  have h1 := h.kept hB1
  have hnews : ∀ j u, ([iv y] : List Value)[j]? = some u → (w.alloc (.cells #[.int .i64 y] 3)).cell? ((⟨w.heap.size, 0, none⟩ : Addr).add j) = some u := World.news_of_block (heap_alloc_new _ _)
  have hs1 : (w.alloc (.cells #[.int .i64 y] 3)).heap.size = w.heap.size + 1 := by simp
  obtain ⟨v', w', hr, ho, hg, _, hor⟩ := run_append_own_at (P := Try.prog) (w.alloc (.cells #[.int .i64 y] 3)) B 31 ty 3 i0 (.int .i64 0) 1 8 Try.underlying31 hi hz0 hz1 hz2 rfl (by decide) v l.length (l.map iv) h1 ⟨w.heap.size, 0, none⟩ 1 1 [iv y] (by rfl) hnews (by intro u hu; simp at hu; subst hu; rfl) (by unfold maxLen; omega) (by omega) (by omega)
  have ho' : OwnI B w' v' (l ++ [y]) := by
    unfold OwnI
    rw [List.length_append, List.map_append]
    exact ho
  obtain ⟨A, c, rfl, _⟩ := ho'.form
  rw [List.length_append] at hr ho' hor
  refine ⟨A, c, w', hr, ho', grown_trans (grown_of_below hB1 _) hg, ?_⟩
  rcases hor with e | e
  · exact .inl e
  · exact .inr ⟨_, e, by omega⟩
end Go.Proofs.Yteeamiacplfcmaa
