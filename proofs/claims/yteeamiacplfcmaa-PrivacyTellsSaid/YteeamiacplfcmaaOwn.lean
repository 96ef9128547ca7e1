/-
  Lists of groups, of cells of the program's own: what is appended.
-/
import Derived.Test.YteeamiacplfcmaaSafe
namespace Go.Proofs.Yteeamiacplfcmaa
open Go.RowKit
set_option linter.unusedVariables false
set_option linter.unusedSimpArgs false

/-- an own list, in a block not below B -/
def OwnA {α : Type} [Inhabited α] (E : Rel α) (ty : TypeId) (B : Nat) (w : World) (v : Value) (xs : List α) : Prop := OwnP E ty (All w) w v xs ∧ ∀ g, v.ownBlock = some g → B ≤ g
section
variable {α : Type} [Inhabited α] {E : Rel α} {B : Nat} {w w' : World} {v : Value} {xs ys : List α} {ty : TypeId}
theorem OwnA.nil (E : Rel α) (ty : TypeId) (B : Nat) (w : World) : OwnA E ty B w (.slice none 0 0) [] := ⟨OwnP.nil _ _ _ _, fun g e => (by cases e)⟩
theorem OwnA.kept (h : OwnA E ty B w v xs) (hE : Good E) (hb : Below w.heap.size w w') : OwnA E ty B w' v xs :=
  ⟨(h.1.agree hE (Agree.all hb)).mono hE fun _ hi => Nat.lt_of_lt_of_le hi hb.size, h.2⟩
theorem OwnA.shape (h : OwnA E ty B w v xs) (hE : Good E) : ∃ A c, v = .slice A xs.length c ∧ xs.length ≤ c ∧ (∀ g, v.ownBlock = some g → B ≤ g ∧ g < w.heap.size ∧ A = some ⟨g, 0, none⟩) ∧ PairsIn E (All w) w A xs := by
  obtain ⟨A, c, hv, hc, hq, hP⟩ := h.1.shape hE
  exact ⟨A, c, hv, hc, fun g e => ⟨h.2 g e, (hq g e).2.1, (hq g e).2.2⟩, hP⟩
/-- the cells at ad bear the elements ys, in blocks of G -/
def RowAt (E : Rel α) (G : Nat → Prop) (w : World) (ad : Addr) (ys : List α) : Prop :=
  ∀ k, k < ys.length → ∃ v0 v1, w.cell? (ad.add (k * 2)) = some v0 ∧ w.cell? (ad.add (k * 2 + 1)) = some v1 ∧ E G w v0 v1 (ys.getD k default)
theorem RowAt.of_pairs {F : Nat → Prop} {b off : Nat} (h : PairsIn E F w (some ⟨b, off, none⟩) ys) : RowAt E F w ⟨b, off, none⟩ ys := fun k hk => by
  obtain ⟨b', off', v0, v1, e, hF, h0, h1, h2⟩ := h.at_ hk
  cases e
  exact ⟨v0, v1, by rw [add_off]; exact h0, by rw [add_off, ← Nat.add_assoc]; exact h1, h2⟩
/-- the values of such a row -/
theorem RowAt.vals {G : Nat → Prop} {ad : Addr} (hE : Good E) : ∀ {ys : List α}, RowAt E G w ad ys → ∃ news : List Value, news.length = ys.length * 2 ∧ (∀ j u, news[j]? = some u → w.cell? (ad.add j) = some u) ∧ (∀ u ∈ news, u.oneCell' = true) ∧
    ∀ k, k < ys.length → ∃ v0 v1, news[k * 2]? = some v0 ∧ news[k * 2 + 1]? = some v1 ∧ E G w v0 v1 (ys.getD k default) := fun {ys} h => by
  have : ∀ n, n ≤ ys.length → ∃ news : List Value, news.length = n * 2 ∧ (∀ j u, news[j]? = some u → w.cell? (ad.add j) = some u) ∧ (∀ u ∈ news, u.oneCell' = true) ∧
      ∀ k, k < n → ∃ v0 v1, news[k * 2]? = some v0 ∧ news[k * 2 + 1]? = some v1 ∧ E G w v0 v1 (ys.getD k default) := fun n => by
    induction n with
    | zero => intro _; exact ⟨[], rfl, fun j u h => (by simp at h), fun u h => (by simp at h), fun k hk => absurd hk (by omega)⟩
    | succ n ih =>
      intro hn
      obtain ⟨news, h1, h2, h3, h4⟩ := ih (by omega)
      obtain ⟨v0, v1, g0, g1, g2⟩ := h n (by omega)
      obtain ⟨o0, o1⟩ := hE.one g2
      refine ⟨news ++ [v0, v1], by simp [h1]; omega, fun j u hu => ?_, fun u hu => ?_, fun k hk => ?_⟩
      · by_cases e : j < news.length
        · rw [List.getElem?_append_left e] at hu; exact h2 j u hu
        · rw [List.getElem?_append_right (by omega)] at hu
          have hj : j - news.length < 2 := by
            rcases Nat.lt_or_ge (j - news.length) 2 with h | h
            · exact h
            · rw [List.getElem?_eq_none (by simpa using h)] at hu; cases hu
          by_cases e0 : j - news.length = 0
          · rw [e0] at hu
            obtain rfl : j = n * 2 := by omega
            simp at hu
            rw [← hu]; exact g0
          · obtain rfl : j = n * 2 + 1 := by omega
            rw [show n * 2 + 1 - news.length = 1 by omega] at hu
            simp at hu
            rw [← hu]; exact g1
      · rw [List.mem_append] at hu
        rcases hu with hu | hu
        · exact h3 u hu
        · simp at hu
          rcases hu with rfl | rfl
          · exact o0
          · exact o1
      · by_cases e : k = n
        · subst e
          refine ⟨v0, v1, ?_, ?_, g2⟩
          · rw [List.getElem?_append_right (by omega), h1]; simp
          · rw [List.getElem?_append_right (by omega), h1]; simp
        · obtain ⟨a0, a1, q0, q1, q2⟩ := h4 k (by omega)
          exact ⟨a0, a1, by rw [List.getElem?_append_left (by omega)]; exact q0, by rw [List.getElem?_append_left (by omega)]; exact q1, q2⟩
  exact this ys.length (Nat.le_refl _)
/-- elements are appended to an own list -/
theorem OwnA.push {t : TypeId} {i : TypeInfo} {z : Value} {bytes : Nat} (ht : Try.prog.underlying t = some (.slice ty)) (hi : Try.prog.info? ty = some i) (hz : i.zero = some z) (hs : i.size = 2) (hby : i.bytes = bytes) (hzs : z.cells.size = 2) (hb48 : bytes ≤ 48)
    (h : OwnA E ty B w v xs) (hE : Good E) (hB : B ≤ w.heap.size) (hl : xs.length + ys.length ≤ 2000000) {G : Nat → Prop} {ad : Addr} (hy : RowAt E G w ad ys) (hG : ∀ i, G i → i < w.heap.size ∧ v.ownBlock ≠ some i) (ot : TypeId) (c : Nat) :
    ∃ A d w', (Builtin.append_ #[t, t] ot #[v, .slice (some ad) ys.length c]).run Try.prog w = .ok (.slice A (xs.length + ys.length) d) w' ∧ OwnA E ty B w' (.slice A (xs.length + ys.length) d) (xs ++ ys) ∧ w.grownBy w' v.ownBlock ∧
      ((Value.slice A (xs.length + ys.length) d).ownBlock = v.ownBlock ∨ (Value.slice A (xs.length + ys.length) d).ownBlock = some w.heap.size) := by
  obtain ⟨news, h1, h2, h3, h4⟩ := RowAt.vals hE hy
  obtain ⟨vals, hv, hF, hel⟩ := id h.1
  obtain ⟨v', w', hr, ho, hg, _, hor⟩ := run_append_own_at (P := Try.prog) w 0 t ot ty i z 2 bytes ht hi hz hs hby hzs (by decide) v xs.length vals hv ad ys.length c news h1 h2 h3 (by unfold maxLen; omega) (Nat.le_trans (Nat.mul_le_mul hl hb48) (by decide)) (Nat.zero_le _)
  have hown : ∀ g, v'.ownBlock = some g → B ≤ g ∧ g < w'.heap.size := fun g e => by
    rcases ho.2 with ⟨rfl, _⟩ | ⟨g', cap, cur, rfl, _, hg', _⟩
    · cases e
    · have e' : g' = g := by injection e
      subst e'
      refine ⟨?_, ?_⟩
      · rcases hor with q | q
        · exact h.2 g' (q.symm.trans e)
        · have := q.symm.trans e
          injection this with this
          omega
      · rcases Nat.lt_or_ge g' w'.heap.size with hlt | hge
        · exact hlt
        · rw [Array.getElem?_eq_none hge] at hg'; cases hg'
  have hP : OwnP E ty (All w') w' v' (xs ++ ys) := by
    refine OwnP.mono (OwnP.push (F := All w) (G := G) hv hel hE (fun _ hi => hi) h1 (fun k hk => ?_) (fun i hi => (hG i hi).1) ho hg hor) hE ?_
    · obtain ⟨v0, v1, q0, q1, q2⟩ := h4 k hk
      exact ⟨v0, v1, q0, q1, hE.mono q2 fun i hi => ⟨hi, (hG i hi).2⟩⟩
    · rintro i (hi | hi | hi)
      · exact Nat.lt_of_lt_of_le hi hg.size
      · exact Nat.lt_of_lt_of_le (hG i hi).1 hg.size
      · exact (hown i hi).2
  obtain ⟨A, d, hv', _, _⟩ := hP.shape hE
  rw [List.length_append] at hv'
  subst hv'
  exact ⟨A, d, w', hr, ⟨hP, fun g e => (hown g e).1⟩, hg, hor⟩
/-- one element is appended, out of a box of its own -/
theorem OwnA.push1 {t : TypeId} {i : TypeInfo} {z : Value} {bytes : Nat} (ht : Try.prog.underlying t = some (.slice ty)) (hi : Try.prog.info? ty = some i) (hz : i.zero = some z) (hs : i.size = 2) (hby : i.bytes = bytes) (hzs : z.cells.size = 2) (hb48 : bytes ≤ 48)
    (h : OwnA E ty B w v xs) (hE : Good E) (hB : B ≤ w.heap.size) (hl : xs.length ≤ 1000000) {G : Nat → Prop} {v0 v1 : Value} {y : α} (hy : E G w v0 v1 y) (hG : ∀ i, G i → i < w.heap.size ∧ v.ownBlock ≠ some i) (ot : TypeId) :
    ∃ A d w', (Builtin.append_ #[t, t] ot #[v, .slice (some ⟨w.heap.size, 0, none⟩) 1 1]).run Try.prog (w.alloc (.cells #[v0, v1] ty)) = .ok (.slice A (xs.length + 1) d) w' ∧ OwnA E ty B w' (.slice A (xs.length + 1) d) (xs ++ [y]) ∧ w.grownBy w' v.ownBlock ∧
      ∀ g, (Value.slice A (xs.length + 1) d).ownBlock = some g → v.ownBlock = some g ∨ w.heap.size ≤ g := by
  have hB1 : Below w.heap.size w (w.alloc (.cells #[v0, v1] ty)) := (Below.refl _ _).alloc (Nat.le_refl _) _
  have hs1 : (w.alloc (.cells #[v0, v1] ty)).heap.size = w.heap.size + 1 := by simp
  have hrow : RowAt E G (w.alloc (.cells #[v0, v1] ty)) ⟨w.heap.size, 0, none⟩ [y] := fun k hk => by
    obtain rfl : k = 0 := by simpa using hk
    refine ⟨v0, v1, ?_, ?_, hE.agree hy fun i hi => hB1.block i (hG i hi).1⟩
    · rw [add_off]; exact (cell_of_row _ w.heap.size _ _ ty (0, 0) (heap_alloc_new w _)).trans rfl
    · rw [add_off]; exact (cell_of_row _ w.heap.size _ _ ty (0, 0) (heap_alloc_new w _)).trans rfl
  obtain ⟨A, d, w', hr, hO, hg, hor⟩ := OwnA.push (ys := [y]) ht hi hz hs hby hzs hb48 (h.kept hE hB1) hE (by omega) (by simp; omega) hrow (fun i hi => ⟨by have := (hG i hi).1; omega, (hG i hi).2⟩) ot 1
  refine ⟨A, d, w', hr, hO, grown_trans (grown_of_below hB1 _) hg, fun g e => ?_⟩
  rcases hor with q | q
  · exact .inl (q.symm.trans e)
  · have := q.symm.trans e
    injection this with this
    exact .inr (by omega)
end
theorem OwnA.below {α : Type} [Inhabited α] {E : Rel α} {B : Nat} {w w' : World} {v : Value} {xs : List α} {ty : TypeId} (h : OwnA E ty B w v xs) (hB : B ≤ w.heap.size) (hg : w.grownBy w' v.ownBlock) : Below B w w' := own_by hB h.2 hg
/-- own lists of groups, of cells -/
abbrev OwnG := OwnA GrpE 52
abbrev OwnC := OwnA CelE 34
theorem OwnG.push1 {B : Nat} {w : World} {v : Value} {xs : List Grp} (h : OwnG B w v xs) (hB : B ≤ w.heap.size) (hl : xs.length ≤ 1000000) {G : Nat → Prop} {v0 v1 : Value} {y : Grp} (hy : GrpE G w v0 v1 y) (hG : ∀ i, G i → i < w.heap.size ∧ v.ownBlock ≠ some i) (ot : TypeId) :
    ∃ A d w', (Builtin.append_ #[32, 32] ot #[v, .slice (some ⟨w.heap.size, 0, none⟩) 1 1]).run Try.prog (w.alloc (.cells #[v0, v1] 52)) = .ok (.slice A (xs.length + 1) d) w' ∧ OwnG B w' (.slice A (xs.length + 1) d) (xs ++ [y]) ∧ w.grownBy w' v.ownBlock ∧
      ∀ g, (Value.slice A (xs.length + 1) d).ownBlock = some g → v.ownBlock = some g ∨ w.heap.size ≤ g := by
  obtain ⟨i0, hi, hz0, hz1, hz2⟩ := info_parts groupinfo
  exact OwnA.push1 Try.underlying32 hi hz0 hz1 hz2 rfl (by decide) h goodG hB hl hy hG ot
theorem OwnC.push1 {B : Nat} {w : World} {v : Value} {xs : List Cel} (h : OwnC B w v xs) (hB : B ≤ w.heap.size) (hl : xs.length ≤ 1000000) {G : Nat → Prop} {v0 v1 : Value} {y : Cel} (hy : CelE G w v0 v1 y) (hG : ∀ i, G i → i < w.heap.size ∧ v.ownBlock ≠ some i) (ot : TypeId) :
    ∃ A d w', (Builtin.append_ #[23, 23] ot #[v, .slice (some ⟨w.heap.size, 0, none⟩) 1 1]).run Try.prog (w.alloc (.cells #[v0, v1] 34)) = .ok (.slice A (xs.length + 1) d) w' ∧ OwnC B w' (.slice A (xs.length + 1) d) (xs ++ [y]) ∧ w.grownBy w' v.ownBlock ∧
      ∀ g, (Value.slice A (xs.length + 1) d).ownBlock = some g → v.ownBlock = some g ∨ w.heap.size ≤ g := by
  obtain ⟨i0, hi, hz0, hz1, hz2⟩ := info_parts cellinfo
  exact OwnA.push1 Try.underlying23 hi hz0 hz1 hz2 rfl (by decide) h goodC hB hl hy hG ot
/-- a group of which the preferences lie in blocks of D -/
def GrpD (D : Nat → Prop) : Rel Grp := fun F w v0 v1 x => GrpE (fun i => F i ∧ D i) w v0 v1 x
theorem goodD (D : Nat → Prop) : Good (GrpD D) where
  mono := fun h hs => goodG.mono h fun i hi => ⟨hs i hi.1, hi.2⟩
  agree := fun h hg => goodG.agree h (hg.mono fun i hi => hi.1)
  one := fun h => goodG.one h
abbrev OwnD (D : Nat → Prop) := OwnA (GrpD D) 52
theorem GrpD.grp {D F : Nat → Prop} {w : World} {v0 v1 : Value} {x : Grp} (h : GrpD D F w v0 v1 x) : GrpE F w v0 v1 x := goodG.mono h fun i hi => hi.1
theorem OwnD.own {D : Nat → Prop} {B : Nat} {w : World} {v : Value} {xs : List Grp} (h : OwnD D B w v xs) : OwnG B w v xs := by
  obtain ⟨⟨vals, h1, h2, h3⟩, h4⟩ := h
  refine ⟨⟨vals, h1, h2, fun k hk => ?_⟩, h4⟩
  obtain ⟨v0, v1, g0, g1, g2⟩ := h3 k hk
  exact ⟨v0, v1, g0, g1, GrpD.grp g2⟩
theorem OwnD.push1 {D : Nat → Prop} {B : Nat} {w : World} {v : Value} {xs : List Grp} (h : OwnD D B w v xs) (hB : B ≤ w.heap.size) (hl : xs.length ≤ 1000000) {G : Nat → Prop} {v0 v1 : Value} {y : Grp} (hy : GrpD D G w v0 v1 y) (hG : ∀ i, G i → i < w.heap.size ∧ v.ownBlock ≠ some i) (ot : TypeId) :
    ∃ A d w', (Builtin.append_ #[32, 32] ot #[v, .slice (some ⟨w.heap.size, 0, none⟩) 1 1]).run Try.prog (w.alloc (.cells #[v0, v1] 52)) = .ok (.slice A (xs.length + 1) d) w' ∧ OwnD D B w' (.slice A (xs.length + 1) d) (xs ++ [y]) ∧ w.grownBy w' v.ownBlock ∧
      ∀ g, (Value.slice A (xs.length + 1) d).ownBlock = some g → v.ownBlock = some g ∨ w.heap.size ≤ g := by
  obtain ⟨i0, hi, hz0, hz1, hz2⟩ := info_parts groupinfo
  exact OwnA.push1 Try.underlying32 hi hz0 hz1 hz2 rfl (by decide) h (goodD D) hB hl hy hG ot
theorem pairsD {F D : Nat → Prop} {w : World} {A : Option Addr} {xs : List Grp} (h : PairsIn GrpE F w A xs) (hd : ∀ i, F i → D i) : PairsIn (GrpD D) F w A xs := fun hp => by
  obtain ⟨b, off, e, hb, hc⟩ := h hp
  refine ⟨b, off, e, hb, fun k hk => ?_⟩
  obtain ⟨v0, v1, h0, h1, h2⟩ := hc k hk
  exact ⟨v0, v1, h0, h1, goodG.mono h2 fun i hi => ⟨hi, hd i hi⟩⟩
end Go.Proofs.Yteeamiacplfcmaa
