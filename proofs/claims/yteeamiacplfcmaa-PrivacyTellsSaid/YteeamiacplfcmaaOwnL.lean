/-
  A slice that came in is appended to an own list.
-/
import Derived.Test.YteeamiacplfcmaaPlainJ
import Derived.Laws.OwnMore
namespace Go.Proofs.Yteeamiacplfcmaa
open Go.RowKit
set_option linter.unusedVariables false
set_option linter.unusedSimpArgs false

theorem run_append_none2 {w : World} (base : Nat) (t ty e : TypeId) (i : TypeInfo) (size : Nat) (ht : Try.prog.underlying t = some (.slice e)) (hi : Try.prog.info? e = some i)
    (v : Value) (n : Nat) (xs : List Value) (hown : w.ownsRow base e size v n xs) (c : Nat) :
    (Builtin.append_ #[t, t] ty #[v, .slice none 0 c]).run Try.prog w = .ok v w := by
  rcases hown.2 with ⟨rfl, rfl⟩ | ⟨g, cap, cur, rfl, _, _, hnc, _⟩
  · simp [Builtin.append_, run_underlying ht, sizeOf, typeInfo, hi, Builtin.lenOf, Builtin.firstCells]
  · simp [Builtin.append_, run_underlying ht, sizeOf, typeInfo, hi, Builtin.lenOf, Builtin.firstCells, hnc, storeCells]
/-- the elements of a slice that came in are appended to an own list -/
theorem OwnA.pushL {α : Type} [Inhabited α] {E : Rel α} {B : Nat} {w : World} {v : Value} {xs ys : List α} {ty : TypeId} {t : TypeId} {i : TypeInfo} {z : Value} {bytes : Nat} (ht : Try.prog.underlying t = some (.slice ty)) (hi : Try.prog.info? ty = some i) (hz : i.zero = some z) (hs : i.size = 2) (hby : i.bytes = bytes) (hzs : z.cells.size = 2) (hb48 : bytes ≤ 48)
    (h : OwnA E ty B w v xs) (hE : Good E) (hB : B ≤ w.heap.size) (hl : xs.length + ys.length ≤ 2000000) {G : Nat → Prop} {A0 : Option Addr} (hy : PairsIn E G w A0 ys) (hG : ∀ i, G i → i < w.heap.size ∧ v.ownBlock ≠ some i) (ot : TypeId) (c : Nat) :
    ∃ A d w', (Builtin.append_ #[t, t] ot #[v, .slice A0 ys.length c]).run Try.prog w = .ok (.slice A (xs.length + ys.length) d) w' ∧ OwnA E ty B w' (.slice A (xs.length + ys.length) d) (xs ++ ys) ∧ w.grownBy w' v.ownBlock := by
  cases A0 with
  | none =>
    have h0 : ys = [] := by
      cases ys with
      | nil => rfl
      | cons a r => obtain ⟨_, _, e, _⟩ := hy (by simp); cases e
    subst h0
    obtain ⟨vals, hv, _, _⟩ := id h.1
    obtain ⟨A, d, hv', _, _⟩ := h.shape hE
    have hr := run_append_none2 0 t ot ty i 2 ht hi v xs.length vals hv c
    rw [hv'] at hr
    refine ⟨A, d, w, ?_, ?_, grown_refl _ _⟩
    · rw [hv']; exact hr
    · rw [List.append_nil]; rw [hv'] at h; exact h
  | some ad =>
    have hrow : RowAt E G w ad ys := fun k hk => by
      obtain ⟨b, off, e, _⟩ := hy (by omega)
      cases e
      exact RowAt.of_pairs hy k hk
    obtain ⟨A, d, w', hr, hO, hg, _⟩ := OwnA.push ht hi hz hs hby hzs hb48 h hE hB hl hrow hG ot c
    exact ⟨A, d, w', hr, hO, hg⟩
end Go.Proofs.Yteeamiacplfcmaa
