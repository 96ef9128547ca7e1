/-
  Lists of lists of numbers; electionmake.Ballots.
-/
import Derived.Test.YteeamiacplfcmaaMod
namespace Go.Proofs.Yteeamiacplfcmaa
open Go.RowKit
set_option linter.unusedVariables false
set_option linter.unusedSimpArgs false

/-- the slice at A reads as these lists of numbers -/
def RowsIn (w : World) (A : Option Addr) (ls : List (List Int)) : Prop :=
  0 < ls.length → ∃ b off, A = some ⟨b, off, none⟩ ∧ b < w.heap.size ∧ ∀ k, k < ls.length → ∃ Ak ck, w.cell? ⟨b, off + k, none⟩ = some (.slice Ak (ls.getD k []).length ck) ∧ (ls.getD k []).length ≤ ck ∧ (ls.getD k []).length ≤ 9223372036854775807 ∧ (∀ y ∈ ls.getD k [], InI y) ∧ Ints w Ak (ls.getD k [])
theorem RowsIn.below {w w' : World} {A : Option Addr} {ls : List (List Int)} (h : RowsIn w A ls) (hb : Below w.heap.size w w') : RowsIn w' A ls := fun hp => by
  obtain ⟨b, off, e, hlt, hc⟩ := h hp
  refine ⟨b, off, e, Nat.lt_of_lt_of_le hlt hb.size, fun k hk => ?_⟩
  obtain ⟨Ak, ck, h0, h1, h2, h3, h4⟩ := hc k hk
  exact ⟨Ak, ck, (hb.cell (p := ⟨b, off + k, none⟩) hlt).trans h0, h1, h2, h3, h4.below hb⟩
theorem RowsIn.at_ {w : World} {A : Option Addr} {ls : List (List Int)} (h : RowsIn w A ls) {k : Nat} (hk : k < ls.length) :
    ∃ b off Ak ck, A = some ⟨b, off, none⟩ ∧ b < w.heap.size ∧ w.cell? ⟨b, off + k, none⟩ = some (.slice Ak (ls.getD k []).length ck) ∧ (ls.getD k []).length ≤ ck ∧ (ls.getD k []).length ≤ 9223372036854775807 ∧ (∀ y ∈ ls.getD k [], InI y) ∧ Ints w Ak (ls.getD k []) := by
  obtain ⟨b, off, e, hlt, hc⟩ := h (by omega)
  obtain ⟨Ak, ck, h0, h1, h2, h3, h4⟩ := hc k hk
  exact ⟨b, off, Ak, ck, e, hlt, h0, h1, h2, h3, h4⟩
/-- a list of lists of the program's own, in a block not below B -/
def OwnLL (B : Nat) (w : World) (v : Value) (ls : List (List Int)) : Prop :=
  ∃ vals : List Value, w.ownsRow B 31 1 v ls.length vals ∧ ∀ k, k < ls.length → ∃ Ak ck, vals[k]? = some (.slice Ak (ls.getD k []).length ck) ∧ (ls.getD k []).length ≤ ck ∧ IntsIn (fun b => b < w.heap.size ∧ v.ownBlock ≠ some b) w Ak (ls.getD k [])
theorem OwnLL.nil (B : Nat) (w : World) : OwnLL B w (.slice none 0 0) [] := ⟨[], World.ownsRow_nil w _ _ 1, fun k hk => absurd hk (by simp)⟩
theorem OwnLL.kept {B : Nat} {w w' : World} {v : Value} {ls : List (List Int)} (h : OwnLL B w v ls) (hb : Below w.heap.size w w') : OwnLL B w' v ls := by
  obtain ⟨vals, h1, h2⟩ := h
  refine ⟨vals, ownsRow_of h1 fun g _ hg => hb.block g hg, fun k hk => ?_⟩
  obtain ⟨Ak, ck, g0, g1, g2⟩ := h2 k hk
  exact ⟨Ak, ck, g0, g1, (g2.agree fun i hi => hb.block i hi.1).mono fun i hi => ⟨Nat.lt_of_lt_of_le hi.1 hb.size, hi.2⟩⟩
theorem OwnLL.shape {B : Nat} {w : World} {v : Value} {ls : List (List Int)} (h : OwnLL B w v ls) : ∃ A c, v = .slice A ls.length c ∧ ls.length ≤ c ∧ (∀ g, v.ownBlock = some g → B ≤ g ∧ g < w.heap.size) := by
  obtain ⟨vals, h1, _⟩ := h
  rcases h1.2 with ⟨rfl, hn⟩ | ⟨g, cap, cur, rfl, hb, hg, hc, _⟩
  · exact ⟨none, 0, by rw [hn], by omega, fun g e => by cases e⟩
  · refine ⟨_, cap, rfl, hc, fun g' e => ?_⟩
    have e' : g = g' := Option.some.inj e
    subst e'
    exact ⟨hb, (Array.getElem?_eq_some_iff.1 hg).1⟩
theorem OwnLL.rows {B : Nat} {w : World} {A : Option Addr} {n c : Nat} {ls : List (List Int)} (h : OwnLL B w (.slice A n c) ls) (hi : ∀ l ∈ ls, (∀ y ∈ l, InI y) ∧ l.length ≤ 1000000) : RowsIn w A ls := fun hp => by
  obtain ⟨vals, h1, h2⟩ := h
  rcases h1.2 with ⟨_, hn⟩ | ⟨g, cap, cur, hv, hb, hg, hc, hm, hz, ht⟩
  · omega
  · injection hv with e1 e2 e3
    subst e1
    refine ⟨g, 0, rfl, (Array.getElem?_eq_some_iff.1 hg).1, fun k hk => ?_⟩
    obtain ⟨Ak, ck, g0, g1, g2⟩ := h2 k hk
    have hmem : ls.getD k [] ∈ ls := by
      rw [List.getD_eq_getElem?_getD, List.getElem?_eq_getElem hk, Option.getD_some]
      exact List.getElem_mem _
    obtain ⟨i1, i2⟩ := hi _ hmem
    refine ⟨Ak, ck, ?_, g1, by omega, i1, g2.mono fun i hi => hi.1⟩
    rw [cell_of_row w g (0 + k) _ _ (0, 0) hg, ← g0, ← ht, List.getElem?_take_of_lt (by omega)]
    simp
theorem listinfo : (Try.prog.info? 31).map (fun i => (i.zero, i.size, i.bytes)) = some (some (.slice none 0 0), 1, 24) := by kernel_rfl
theorem OwnLL.push1 {B : Nat} {w : World} {v : Value} {ls : List (List Int)} (h : OwnLL B w v ls) (hB : B ≤ w.heap.size) (hl : ls.length ≤ 1000000) {Ak : Option Addr} {ck : Nat} {l : List Int} (hc : l.length ≤ ck) (hy : IntsIn (fun b => b < w.heap.size ∧ v.ownBlock ≠ some b) w Ak l) (ot : TypeId) :
    ∃ A d w', (Builtin.append_ #[45, 45] ot #[v, .slice (some ⟨w.heap.size, 0, none⟩) 1 1]).run Try.prog (w.alloc (.cells #[.slice Ak l.length ck] 31)) = .ok (.slice A (ls.length + 1) d) w' ∧ OwnLL B w' (.slice A (ls.length + 1) d) (ls ++ [l]) ∧ w.grownBy w' v.ownBlock := by
  obtain ⟨i0, hi, hz0, hz1, hz2⟩ := info_parts listinfo
  have hB1 : Below w.heap.size w (w.alloc (.cells #[.slice Ak l.length ck] 31)) := (Below.refl _ _).alloc (Nat.le_refl _) _
  have hs1 : (w.alloc (.cells #[.slice Ak l.length ck] 31)).heap.size = w.heap.size + 1 := by simp
  obtain ⟨vals, hv, hel⟩ := h.kept hB1
  have hnews : ∀ j u, ([Value.slice Ak l.length ck] : List Value)[j]? = some u → (w.alloc (.cells #[.slice Ak l.length ck] 31)).cell? ((⟨w.heap.size, 0, none⟩ : Addr).add j) = some u := World.news_of_block (heap_alloc_new _ _)
  obtain ⟨v', w', hr, ho, hg, _, hor⟩ := run_append_own_at (P := Try.prog) (w.alloc (.cells #[.slice Ak l.length ck] 31)) B 45 ot 31 i0 (.slice none 0 0) 1 24 Try.underlying45 hi hz0 hz1 hz2 rfl (by decide) v ls.length vals hv ⟨w.heap.size, 0, none⟩ 1 1 [.slice Ak l.length ck] (by rfl) hnews (by intro u hu; simp at hu; subst hu; rfl) (by unfold maxLen; omega) (by omega) (by omega)
  have hown : ∀ g, v'.ownBlock = some g → v.ownBlock = some g ∨ w.heap.size + 1 = g := fun g e => by
    rcases hor with q | q
    · exact .inl (q.symm.trans e)
    · have := q.symm.trans e
      rw [hs1] at this
      exact .inr (Option.some.inj this)
  have hgs := hg.size
  rw [hs1] at hgs
  have hvl : vals.length = ls.length := by have := hv.1; omega
  have hag : Agree (fun b => b < (w.alloc (.cells #[.slice Ak l.length ck] 31)).heap.size ∧ v.ownBlock ≠ some b) (w.alloc (.cells #[.slice Ak l.length ck] 31)) w' := fun i hi => hg.block i hi.1 fun e => hi.2 e.symm
  have hO : OwnLL B w' v' (ls ++ [l]) := by
    refine ⟨vals ++ [.slice Ak l.length ck], by rw [List.length_append]; exact ho, fun k hk => ?_⟩
    rw [List.length_append, List.length_singleton] at hk
    by_cases e : k < ls.length
    · obtain ⟨Aj, cj, g0, g1, g2⟩ := hel k e
      have e2 : (ls ++ [l]).getD k [] = ls.getD k [] := by simp [List.getD_eq_getElem?_getD, List.getElem?_append_left e]
      rw [e2]
      refine ⟨Aj, cj, by rw [List.getElem?_append_left (by omega)]; exact g0, g1, ?_⟩
      -- the list's blocks are not the new own block
      intro hp
      obtain ⟨b, off, e3, hF, hc3⟩ := g2 hp
      refine ⟨b, off, e3, ⟨by have := hF.1; rw [hs1] at this; omega, fun e4 => ?_⟩, fun j hj => ?_⟩
      · rcases hown b e4 with h | h
        · exact hF.2 h
        · have := hF.1; rw [hs1] at this; omega
      · exact (World.cell?_of_block (hag b hF)).trans (hc3 j hj)
    · obtain rfl : k = ls.length := by omega
      have e2 : (ls ++ [l]).getD ls.length [] = l := by simp [List.getD_eq_getElem?_getD]
      rw [e2]
      refine ⟨Ak, ck, by rw [List.getElem?_append_right (by omega), hvl]; simp, hc, ?_⟩
      intro hp
      obtain ⟨b, off, e3, hF, hc3⟩ := hy hp
      have hbl : b < (w.alloc (.cells #[.slice Ak l.length ck] 31)).heap.size := by rw [hs1]; have := hF.1; omega
      refine ⟨b, off, e3, ⟨by have := hF.1; omega, fun e4 => ?_⟩, fun j hj => ?_⟩
      · rcases hown b e4 with h | h
        · exact hF.2 h
        · have := hF.1; omega
      · exact (World.cell?_of_block (hag b ⟨hbl, hF.2⟩)).trans ((hB1.cell (p := ⟨b, off + j, none⟩) hF.1).trans (hc3 j hj))
  obtain ⟨A, d, hv', _⟩ := hO.shape
  rw [List.length_append] at hv'
  subst hv'
  exact ⟨A, d, w', hr, hO, grown_trans (grown_of_below hB1 _) hg⟩
end Go.Proofs.Yteeamiacplfcmaa
