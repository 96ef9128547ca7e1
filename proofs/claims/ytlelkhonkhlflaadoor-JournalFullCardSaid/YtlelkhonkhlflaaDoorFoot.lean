/-
  Footprints: the blocks that an object lies in, and what a call may change.
-/
import Derived.Test.YtlelkhonkhlflaaDoorFrames
import Derived.Laws.OwnMore
namespace Go.Proofs.YtlelkhonkhlflaaDoor
open Go.RowKit
set_option linter.unusedVariables false
set_option linter.unusedSimpArgs false

/-- all but the blocks of M is as it was, new blocks aside -/
structure Chg (M : Nat → Prop) (a b : World) : Prop where
  os : b.os = a.os
  tape : b.tape = a.tape
  output : b.output = a.output
  size : a.heap.size ≤ b.heap.size
  block : ∀ i, i < a.heap.size → ¬ M i → b.heap[i]? = a.heap[i]?
section
variable {M N : Nat → Prop} {a b c w w' : World} {B : Nat}
theorem Chg.refl (M : Nat → Prop) (w : World) : Chg M w w := ⟨rfl, rfl, rfl, Nat.le_refl _, fun _ _ _ => rfl⟩
theorem Chg.trans (h : Chg M a b) (k : Chg N b c) (hN : ∀ i, i < a.heap.size → N i → M i) : Chg M a c :=
  ⟨k.os.trans h.os, k.tape.trans h.tape, k.output.trans h.output, Nat.le_trans h.size k.size, fun i hi hm => (k.block i (Nat.lt_of_lt_of_le hi h.size) fun hn => hm (hN i hi hn)).trans (h.block i hi hm)⟩
theorem Chg.mono (h : Chg M a b) (hN : ∀ i, i < a.heap.size → M i → N i) : Chg N a b := ⟨h.os, h.tape, h.output, h.size, fun i hi hm => h.block i hi fun e => hm (hN i hi e)⟩
theorem Chg.of_below (h : Below a.heap.size a b) (M : Nat → Prop) : Chg M a b := ⟨h.os, h.tape, h.output, h.size, fun i hi _ => h.block i hi⟩
theorem Chg.of_grown {g : Option Nat} (h : a.grownBy b g) : Chg (fun i => g = some i) a b := ⟨h.os, h.tape, h.output, h.size, fun i hi hm => h.block i hi fun e => hm e.symm⟩
theorem Chg.below (h : Chg M a b) (hM : ∀ i, i < B → ¬ M i) (hB : B ≤ a.heap.size) : Below B a b := ⟨h.os, h.tape, h.output, h.size, fun i hi => h.block i (Nat.lt_of_lt_of_le hi hB) (hM i hi)⟩
theorem Chg.drew (h : Chg M a b) : Chg M a b.drew := ⟨h.os, h.tape, h.output, h.size, h.block⟩
theorem Chg.drewN (h : Chg M a b) (n : Nat) : Chg M a (b.drewN n) := ⟨h.os, h.tape, h.output, h.size, h.block⟩
theorem Chg.alloc (h : Chg M a b) (o : Obj) : Chg M a (b.alloc o) := h.trans (Chg.of_below ((Below.refl _ _).alloc (Nat.le_refl _) o) (fun _ => False)) fun _ _ e => e.elim
theorem Chg.set1 (w : World) (g i : Nat) (u : Value) : Chg (fun b => b = g) w (w.setCell ⟨g, i, none⟩ u) :=
  ⟨rfl, rfl, rfl, by simp [World.setCell], fun k _ hk => Below.heap_setCell _ _ _ _ hk⟩
theorem Chg.setCell (h : Chg M a b) {g : Nat} (hg : g < a.heap.size → M g) (i : Nat) (u : Value) : Chg M a (b.setCell ⟨g, i, none⟩ u) :=
  h.trans (Chg.set1 b g i u) fun k hk e => by subst e; exact hg hk
end

/-- the blocks of F are as they were -/
def Agree (F : Nat → Prop) (a b : World) : Prop := ∀ i, F i → b.heap[i]? = a.heap[i]?
/-- the blocks of F are there -/
def Lt (F : Nat → Prop) (w : World) : Prop := ∀ i, F i → i < w.heap.size
section
variable {F G M N : Nat → Prop} {a b w w' : World} {A : Option Addr} {bs : List UInt8} {fs : List (List UInt8)}
theorem Agree.of_chg (h : Chg M a b) (hl : Lt F a) (hs : ∀ i, F i → ¬ M i) : Agree F a b := fun i hi => h.block i (hl i hi) (hs i hi)
theorem Agree.of_below {B : Nat} (h : Below B a b) (hl : ∀ i, F i → i < B) : Agree F a b := fun i hi => h.block i (hl i hi)
theorem Agree.mono (h : Agree F a b) (hs : ∀ i, G i → F i) : Agree G a b := fun i hi => h i (hs i hi)
theorem Lt.chg (h : Lt F a) (hc : Chg M a b) : Lt F b := fun i hi => Nat.lt_of_lt_of_le (h i hi) hc.size
theorem Lt.size (h : Lt F a) (hc : a.heap.size ≤ b.heap.size) : Lt F b := fun i hi => Nat.lt_of_lt_of_le (h i hi) hc
theorem Box.agree {g : Nat} {t : TypeId} {cs : Array Value} (h : Box a g t cs) (hg : Agree F a b) (hF : F g) : Box b g t cs := (hg g hF).trans h
theorem Row.agree {g : Nat} (h : Row a g bs) (hg : Agree F a b) (hF : F g) : Row b g bs := by
  obtain ⟨r, h⟩ := h
  exact ⟨r, (hg g hF).trans h⟩

/-- the slice at A reads as the bytes bs, in blocks of F -/
def BysIn (F : Nat → Prop) (w : World) (A : Option Addr) (bs : List UInt8) : Prop :=
  0 < bs.length → ∃ b off, A = some ⟨b, off, none⟩ ∧ F b ∧ ∀ k, k < bs.length → w.cell? ⟨b, off + k, none⟩ = some (u8v (bs.getD k 0))
theorem BysIn.agree (h : BysIn F a A bs) (hg : Agree F a b) : BysIn F b A bs := fun hp => by
  obtain ⟨g, off, e, hF, hc⟩ := h hp
  exact ⟨g, off, e, hF, fun k hk => (World.cell?_of_block (hg g hF)).trans (hc k hk)⟩
theorem BysIn.mono (h : BysIn F w A bs) (hs : ∀ i, F i → G i) : BysIn G w A bs := fun hp => by
  obtain ⟨g, off, e, hF, hc⟩ := h hp
  exact ⟨g, off, e, hs g hF, hc⟩
theorem BysIn.bys (h : BysIn F w A bs) (hl : Lt F w) : Bys w A bs := fun hp => by
  obtain ⟨g, off, e, hF, hc⟩ := h hp
  exact ⟨g, off, e, hl g hF, hc⟩
theorem BysIn.of_bys (h : Bys w A bs) : BysIn (fun i => i < w.heap.size) w A bs := h
theorem BysIn.of_row {g : Nat} (h : Row w g bs) (hF : F g) : BysIn F w (some ⟨g, 0, none⟩) bs := fun _ => ⟨g, 0, rfl, hF, fun k hk => by rw [Nat.zero_add]; exact h.cell hk⟩
theorem BysIn.nil (F : Nat → Prop) (w : World) (A : Option Addr) : BysIn F w A [] := fun h => absurd h (by simp)

/-- the slice at A reads as the frames fs, in blocks of F -/
def FrIn (F : Nat → Prop) (w : World) (A : Option Addr) (fs : List (List UInt8)) : Prop :=
  0 < fs.length → ∃ b off, A = some ⟨b, off, none⟩ ∧ F b ∧ ∀ k, k < fs.length → ∃ Ak ck, w.cell? ⟨b, off + k, none⟩ = some (.slice Ak (fs.getD k []).length ck) ∧ BysIn F w Ak (fs.getD k []) ∧ (fs.getD k []).length ≤ ck
theorem FrIn.agree (h : FrIn F a A fs) (hg : Agree F a b) : FrIn F b A fs := fun hp => by
  obtain ⟨g, off, e, hF, hc⟩ := h hp
  refine ⟨g, off, e, hF, fun k hk => ?_⟩
  obtain ⟨Ak, ck, h1, h2, h3⟩ := hc k hk
  exact ⟨Ak, ck, (World.cell?_of_block (hg g hF)).trans h1, h2.agree hg, h3⟩
theorem FrIn.mono (h : FrIn F w A fs) (hs : ∀ i, F i → G i) : FrIn G w A fs := fun hp => by
  obtain ⟨g, off, e, hF, hc⟩ := h hp
  refine ⟨g, off, e, hs g hF, fun k hk => ?_⟩
  obtain ⟨Ak, ck, h1, h2, h3⟩ := hc k hk
  exact ⟨Ak, ck, h1, h2.mono hs, h3⟩
theorem FrIn.fr (h : FrIn F w A fs) (hl : Lt F w) : Fr w A fs := fun hp => by
  obtain ⟨g, off, e, hF, hc⟩ := h hp
  refine ⟨g, off, e, hl g hF, fun k hk => ?_⟩
  obtain ⟨Ak, ck, h1, h2, h3⟩ := hc k hk
  exact ⟨Ak, ck, h1, h2.bys hl, h3⟩
theorem FrIn.of_fr (h : Fr w A fs) : FrIn (fun i => i < w.heap.size) w A fs := h
theorem FrIn.at_ (h : FrIn F w A fs) {k : Nat} (hk : k < fs.length) :
    ∃ b off Ak ck, A = some ⟨b, off, none⟩ ∧ F b ∧ w.cell? ⟨b, off + k, none⟩ = some (.slice Ak (fs.getD k []).length ck) ∧ BysIn F w Ak (fs.getD k []) ∧ (fs.getD k []).length ≤ ck := by
  obtain ⟨g, off, e, hF, hc⟩ := h (by omega)
  obtain ⟨Ak, ck, h1, h2, h3⟩ := hc k hk
  exact ⟨g, off, Ak, ck, e, hF, h1, h2, h3⟩

/-- a list of frames to which the program appends: the value v -/
def GotsV (F : Nat → Prop) (w : World) (v : Value) (fs : List (List UInt8)) (vals : List Value) : Prop :=
  w.ownsRow 0 22 1 v fs.length vals ∧ vals.length = fs.length ∧ (∀ g, v.ownBlock = some g → F g) ∧
    ∀ k, k < fs.length → ∃ Ak ck, vals[k]? = some (.slice Ak (fs.getD k []).length ck) ∧ BysIn (fun b => F b ∧ v.ownBlock ≠ some b) w Ak (fs.getD k []) ∧ (fs.getD k []).length ≤ ck
def Gots (F : Nat → Prop) (w : World) (v : Value) (fs : List (List UInt8)) : Prop := ∃ vals : List Value, GotsV F w v fs vals
theorem Gots.nil (F : Nat → Prop) (w : World) : Gots F w (.slice none 0 0) [] :=
  ⟨[], ⟨rfl, .inl ⟨rfl, rfl⟩⟩, rfl, fun g e => (by cases e), fun k hk => absurd hk (by simp)⟩
theorem Gots.agree {v : Value} (h : Gots F a v fs) (hg : Agree F a b) : Gots F b v fs := by
  obtain ⟨vals, h1, h2, h3, h4⟩ := h
  refine ⟨vals, ownsRow_of h1 fun g e _ => hg g (h3 g e), h2, h3, fun k hk => ?_⟩
  obtain ⟨Ak, ck, g1, g2, g3⟩ := h4 k hk
  exact ⟨Ak, ck, g1, g2.agree (hg.mono fun i hi => hi.1), g3⟩
theorem Gots.mono {v : Value} (h : Gots F w v fs) (hs : ∀ i, F i → G i) : Gots G w v fs := by
  obtain ⟨vals, h1, h2, h3, h4⟩ := h
  refine ⟨vals, h1, h2, fun g e => hs g (h3 g e), fun k hk => ?_⟩
  obtain ⟨Ak, ck, g1, g2, g3⟩ := h4 k hk
  exact ⟨Ak, ck, g1, g2.mono fun i hi => ⟨hs i hi.1, hi.2⟩, g3⟩
theorem Gots.shape {v : Value} (h : Gots F w v fs) : ∃ A c, v = .slice A fs.length c ∧ fs.length ≤ c ∧ (∀ g, v.ownBlock = some g → F g ∧ g < w.heap.size) ∧ FrIn F w A fs := by
  obtain ⟨vals, h1, h2, h3, h4⟩ := h
  have h1' := h1
  obtain ⟨_, hr⟩ := h1
  rcases hr with ⟨hv, hn⟩ | ⟨g, cap, cur, hv, hb, hg, hc, hm, hz, ht⟩
  · obtain rfl := List.length_eq_zero_iff.1 hn
    exact ⟨none, 0, hv, Nat.le_refl _, fun g e => (by rw [hv] at e; cases e), fun h => absurd h (by simp)⟩
  · have hown : v.ownBlock = some g := by rw [hv]; rfl
    have hlt : g < w.heap.size := by
      rcases Nat.lt_or_ge g w.heap.size with hlt | hge
      · exact hlt
      · rw [Array.getElem?_eq_none hge] at hg; cases hg
    refine ⟨some ⟨g, 0, none⟩, cap, hv, hc, fun g' e => ?_, fun hp => ⟨g, 0, rfl, h3 g hown, fun k hk => ?_⟩⟩
    · rw [hown] at e
      injection e with e
      subst e
      exact ⟨h3 g hown, hlt⟩
    · obtain ⟨Ak, ck, g1, g2, g3⟩ := h4 k hk
      refine ⟨Ak, ck, ?_, g2.mono fun i hi => hi.1, g3⟩
      rw [cell_of_row w g (0 + k) _ 22 (0, 0) hg, ← g1, ← ht]
      rw [List.getElem?_take_of_lt (by omega)]
      simp
/-- a frame is appended -/
theorem GotsV.push {v v' : Value} {vals : List Value} {Ak : Option Addr} {ck : Nat} {f : List UInt8} {n : Nat} (h : GotsV F w v fs vals) (hl : Lt F w) (hf : BysIn (fun b => F b ∧ v.ownBlock ≠ some b) w Ak f) (hck : f.length ≤ ck)
    (ho : w'.ownsRow 0 22 1 v' (fs.length + 1) (vals ++ [.slice Ak f.length ck]))
    (hg : w.grownBy w' v.ownBlock) (hn : n = w.heap.size) (hb : v'.ownBlock = v.ownBlock ∨ v'.ownBlock = some n) :
    Gots (fun b => F b ∨ v'.ownBlock = some b) w' v' (fs ++ [f]) := by
  subst hn
  obtain ⟨h1, h2, h3, h4⟩ := h
  have hag : Agree (fun b => F b ∧ v.ownBlock ≠ some b) w w' := fun i hi => hg.block i (hl i hi.1) fun e => hi.2 e.symm
  have hsub : ∀ i, (F i ∧ v.ownBlock ≠ some i) → ((F i ∨ v'.ownBlock = some i) ∧ v'.ownBlock ≠ some i) := fun i hi => by
    refine ⟨.inl hi.1, ?_⟩
    rcases hb with hb | hb <;> rw [hb]
    · exact hi.2
    · intro e
      injection e with e
      have := hl i hi.1
      omega
  refine ⟨vals ++ [.slice Ak f.length ck], by rw [List.length_append]; exact ho, by simp [h2], fun g e => .inr e, fun k hk => ?_⟩
  rw [List.length_append, List.length_singleton] at hk
  by_cases e : k = fs.length
  · subst e
    refine ⟨Ak, ck, ?_, ?_, ?_⟩
    · rw [List.getElem?_append_right (by omega), h2]
      simp [List.getD_eq_getElem?_getD]
    · simp only [List.getD_eq_getElem?_getD, List.getElem?_concat_length, Option.getD_some]
      exact (hf.agree hag).mono hsub
    · simpa [List.getD_eq_getElem?_getD] using hck
  · have hk' : k < fs.length := by omega
    obtain ⟨Bk, dk, g1, g2, g3⟩ := h4 k hk'
    have e2 : (fs ++ [f]).getD k [] = fs.getD k [] := by simp [List.getD_eq_getElem?_getD, List.getElem?_append, hk']
    rw [e2]
    refine ⟨Bk, dk, ?_, (g2.agree hag).mono hsub, g3⟩
    rw [List.getElem?_append_left (by omega)]
    exact g1
theorem Own.frIn {B : Nat} {v : Value} {r c : Nat → Nat} (h : Own w B v r c fs) :
    ∃ A cc, v = .slice A fs.length cc ∧ fs.length ≤ cc ∧ FrIn (fun b => B ≤ b ∧ b < w.heap.size) w A fs := by
  obtain ⟨h1, h2, _⟩ := h
  have hlen := length_rowVs r c fs
  obtain ⟨_, hr⟩ := h1
  rcases hr with ⟨hv, hn⟩ | ⟨g, cap, cur, hv, hb, hg, hc, hm, hz, ht⟩
  · obtain rfl := List.length_eq_zero_iff.1 hn
    exact ⟨none, 0, hv, Nat.le_refl _, fun h => absurd h (by simp)⟩
  · have hlt : g < w.heap.size := by
      rcases Nat.lt_or_ge g w.heap.size with hlt | hge
      · exact hlt
      · rw [Array.getElem?_eq_none hge] at hg; cases hg
    refine ⟨some ⟨g, 0, none⟩, cap, hv, hc, fun hp => ⟨g, 0, rfl, ⟨hb, hlt⟩, fun k hk => ?_⟩⟩
    obtain ⟨g1, g2, _, g4⟩ := h2 k hk
    refine ⟨some ⟨r k, 0, none⟩, c k, ?_, BysIn.of_row g1 ⟨g2, g1.lt⟩, g4⟩
    rw [cell_of_row w g (0 + k) _ 22 (0, 0) hg]
    have e : (rowVs r c fs)[k]? = some (.slice (some ⟨r k, 0, none⟩) (fs.getD k []).length (c k)) := by
      unfold rowVs
      rw [List.getElem?_map, List.getElem?_range hk]
      rfl
    rw [← e, ← ht, List.getElem?_take_of_lt (by omega)]
    simp
end
end Go.Proofs.YtlelkhonkhlflaaDoor
