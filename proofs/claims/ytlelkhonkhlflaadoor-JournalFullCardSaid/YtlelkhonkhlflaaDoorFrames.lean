/-
  Lists of frames in memory.
-/
import Derived.Test.YtlelkhonkhlflaaDoorEq
import Derived.Laws.CopyOwn
namespace Go.Proofs.YtlelkhonkhlflaaDoor
open Go.RowKit
set_option linter.unusedVariables false
set_option linter.unusedSimpArgs false

theorem sliceinfo : (Tryd.prog.info? 22).map (fun i => (i.zero, i.size, i.bytes)) = some (some (.slice none 0 0), 1, 24) := by kernel_rfl

/-- the slice at A reads as the frames fs -/
def Fr (w : World) (A : Option Addr) (fs : List (List UInt8)) : Prop :=
  0 < fs.length → ∃ b off, A = some ⟨b, off, none⟩ ∧ b < w.heap.size ∧ ∀ k, k < fs.length → ∃ Ak ck, w.cell? ⟨b, off + k, none⟩ = some (.slice Ak (fs.getD k []).length ck) ∧ Bys w Ak (fs.getD k []) ∧ (fs.getD k []).length ≤ ck
theorem Fr.below {w w' : World} {A : Option Addr} {fs : List (List UInt8)} (h : Fr w A fs) (hb : Below w.heap.size w w') : Fr w' A fs := fun hp => by
  obtain ⟨b, off, e, hlt, hc⟩ := h hp
  refine ⟨b, off, e, Nat.lt_of_lt_of_le hlt hb.size, fun k hk => ?_⟩
  obtain ⟨Ak, ck, h1, h2, h3⟩ := hc k hk
  exact ⟨Ak, ck, (hb.cell (p := ⟨b, off + k, none⟩) hlt).trans h1, h2.below hb, h3⟩
theorem Fr.at_ {w : World} {A : Option Addr} {fs : List (List UInt8)} (h : Fr w A fs) {k : Nat} (hk : k < fs.length) :
    ∃ b off Ak ck, A = some ⟨b, off, none⟩ ∧ b < w.heap.size ∧ w.cell? ⟨b, off + k, none⟩ = some (.slice Ak (fs.getD k []).length ck) ∧ Bys w Ak (fs.getD k []) ∧ (fs.getD k []).length ≤ ck := by
  obtain ⟨b, off, e, hlt, hc⟩ := h (by omega)
  obtain ⟨Ak, ck, h1, h2, h3⟩ := hc k hk
  exact ⟨b, off, Ak, ck, e, hlt, h1, h2, h3⟩

/-- the rows' values: row k lies at the head of block r k, with the capacity c k -/
def rowVs (r c : Nat → Nat) (fs : List (List UInt8)) : List Value := (List.range fs.length).map fun k => .slice (some ⟨r k, 0, none⟩) (fs.getD k []).length (c k)
theorem length_rowVs (r c : Nat → Nat) (fs : List (List UInt8)) : (rowVs r c fs).length = fs.length := by simp [rowVs]
theorem rowVs_push (r c : Nat → Nat) (fs : List (List UInt8)) (f : List UInt8) (b d : Nat) :
    rowVs r c fs ++ [.slice (some ⟨b, 0, none⟩) f.length d] = rowVs (fun k => if k = fs.length then b else r k) (fun k => if k = fs.length then d else c k) (fs ++ [f]) := by
  unfold rowVs
  rw [List.length_append, List.length_singleton, List.range_succ, List.map_append]
  congr 1
  · apply List.map_congr_left
    intro k hk
    rw [List.mem_range] at hk
    have hne : k ≠ fs.length := by omega
    simp [List.getD_eq_getElem?_getD, List.getElem?_append, hk, hne]
  · simp

/-- the frames fs, each in a block of its own above B; the list is the value v, nil or in a block of its own above B -/
def Own (w : World) (B : Nat) (v : Value) (r c : Nat → Nat) (fs : List (List UInt8)) : Prop :=
  w.ownsRow B 22 1 v fs.length (rowVs r c fs) ∧
  (∀ k, k < fs.length → Row w (r k) (fs.getD k []) ∧ B ≤ r k ∧ v.ownBlock ≠ some (r k) ∧ (fs.getD k []).length ≤ c k) ∧ ∀ j k, j < fs.length → k < fs.length → r j = r k → j = k
theorem Own.nil (w : World) (B : Nat) (r c : Nat → Nat) : Own w B (.slice none 0 0) r c [] :=
  ⟨⟨rfl, .inl ⟨rfl, rfl⟩⟩, fun k hk => absurd hk (by simp), fun j k hj => absurd hj (by simp)⟩
theorem ownsRow_of {w w' : World} {B : Nat} {e : TypeId} {z : Nat} {v : Value} {n : Nat} {xs : List Value} (h : w.ownsRow B e z v n xs) (hh : ∀ g, v.ownBlock = some g → g < w.heap.size → w'.heap[g]? = w.heap[g]?) : w'.ownsRow B e z v n xs := by
  obtain ⟨h1, h2⟩ := h
  refine ⟨h1, ?_⟩
  rcases h2 with h2 | ⟨g, cap, cur, rfl, hb, hg, hr⟩
  · exact .inl h2
  · have hlt : g < w.heap.size := by
      rcases Nat.lt_or_ge g w.heap.size with hlt | hge
      · exact hlt
      · rw [Array.getElem?_eq_none hge] at hg; cases hg
    exact .inr ⟨g, cap, cur, rfl, hb, (hh g rfl hlt).trans hg, hr⟩
theorem Own.kept {w w' : World} {B : Nat} {v : Value} {r c : Nat → Nat} {fs : List (List UInt8)} (h : Own w B v r c fs) (hb : Below w.heap.size w w') : Own w' B v r c fs :=
  ⟨ownsRow_of h.1 fun g _ hg => hb.block g hg, fun k hk => ⟨(h.2.1 k hk).1.kept hb, (h.2.1 k hk).2⟩, h.2.2⟩
theorem Own.push {w w' : World} {B : Nat} {v v' : Value} {r c : Nat → Nat} {fs : List (List UInt8)} {f : List UInt8} {b d : Nat} (h : Own w B v r c fs) (hb : Row w b f) (hB : B ≤ b) (hv : v.ownBlock ≠ some b) (hr : ∀ k, k < fs.length → r k ≠ b) (hd : f.length ≤ d)
    (ho : w'.ownsRow B 22 1 v' (fs.length + 1) (rowVs r c fs ++ [.slice (some ⟨b, 0, none⟩) f.length d])) (hg : w.grownBy w' v.ownBlock) (hl : v'.ownBlock = v.ownBlock ∨ v'.ownBlock = some w.heap.size) :
    Own w' B v' (fun k => if k = fs.length then b else r k) (fun k => if k = fs.length then d else c k) (fs ++ [f]) := by
  rw [rowVs_push] at ho
  have hlb := hb.lt
  refine ⟨by rw [List.length_append]; exact ho, fun k hk => ?_, fun j k hj hk e => ?_⟩
  · rw [List.length_append, List.length_singleton] at hk
    by_cases e : k = fs.length
    · subst e
      simp only [if_true, List.getD_eq_getElem?_getD, List.getElem?_concat_length, Option.getD_some]
      refine ⟨hb.grown hg (fun e => hv e.symm), hB, ?_, hd⟩
      rcases hl with h1 | h1 <;> rw [h1]
      · exact hv
      · intro e; injection e with e; omega
    · have hk' : k < fs.length := by omega
      have e2 : (fs ++ [f]).getD k [] = fs.getD k [] := by simp [List.getD_eq_getElem?_getD, List.getElem?_append, hk']
      obtain ⟨h1, h2, h3, h4⟩ := h.2.1 k hk'
      simp only [if_neg e, e2]
      refine ⟨h1.grown hg (fun e => h3 e.symm), h2, ?_, h4⟩
      rcases hl with h5 | h5 <;> rw [h5]
      · exact h3
      · intro e; injection e with e; have := h1.lt; omega
  · rw [List.length_append, List.length_singleton] at hj hk
    simp only [] at e
    by_cases e1 : j = fs.length <;> by_cases e2 : k = fs.length
    · omega
    · rw [if_pos e1, if_neg e2] at e; exact absurd e.symm (hr k (by omega))
    · rw [if_neg e1, if_pos e2] at e; exact absurd e (hr j (by omega))
    · rw [if_neg e1, if_neg e2] at e; exact h.2.2 j k (by omega) (by omega) e
end Go.Proofs.YtlelkhonkhlflaaDoor
