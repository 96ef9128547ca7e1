/-
  The reference's disk in memory.
-/
import Derived.Test.YtcmchnddnglnfaaFrame
namespace Go.Proofs.Ytcmchnddnglnfaa
open Go.RowKit
set_option linter.unusedVariables false
set_option linter.unusedSimpArgs false

/-- block g holds slices that read as these sectors, in blocks of R -/
def RowsAt (R : Nat → Prop) (w : World) (g : Nat) (ss : List (List UInt8)) : Prop :=
  ∃ cs : Array Value, Box w g 22 cs ∧ ∀ k, k < ss.length → (ss.getD k []).length = 64 ∧ ∃ A c, cs[k]? = some (.slice A 64 c) ∧ 64 ≤ c ∧ BysIn R w A (ss.getD k [])
def BoolsAt (w : World) (g : Nat) (ds : List Bool) : Prop := ∃ cs : Array Value, Box w g 4 cs ∧ ∀ k, k < ds.length → cs[k]? = some (.bool (ds.getD k false))
section
variable {R S F G M : Nat → Prop} {w w' : World} {g : Nat} {ss : List (List UInt8)} {ds : List Bool}
theorem RowsAt.agree (h : RowsAt R w g ss) (hR : Agree R w w') (hg : w'.heap[g]? = w.heap[g]?) : RowsAt R w' g ss := by
  obtain ⟨cs, h1, h2⟩ := h
  refine ⟨cs, hg.trans h1, fun k hk => ?_⟩
  obtain ⟨h3, A, c, h4, h5, h6⟩ := h2 k hk
  exact ⟨h3, A, c, h4, h5, h6.agree hR⟩
theorem RowsAt.mono (h : RowsAt R w g ss) (hS : ∀ i, R i → S i) : RowsAt S w g ss := by
  obtain ⟨cs, h1, h2⟩ := h
  refine ⟨cs, h1, fun k hk => ?_⟩
  obtain ⟨h3, A, c, h4, h5, h6⟩ := h2 k hk
  exact ⟨h3, A, c, h4, h5, h6.mono hS⟩
theorem RowsAt.at_ (h : RowsAt R w g ss) {k : Nat} (hk : k < ss.length) : (ss.getD k []).length = 64 ∧ ∃ A c, w.cell? ⟨g, k, none⟩ = some (.slice A 64 c) ∧ 64 ≤ c ∧ BysIn R w A (ss.getD k []) := by
  obtain ⟨cs, h1, h2⟩ := h
  obtain ⟨h3, A, c, h4, h5, h6⟩ := h2 k hk
  exact ⟨h3, A, c, by rw [h1.cell k]; exact h4, h5, h6⟩
theorem RowsAt.frozen (h : RowsAt R w g ss) (i : Nat) : w.frozen? ⟨g, i, none⟩ = false := by
  obtain ⟨cs, h1, h2⟩ := h
  exact h1.frozen i
theorem RowsAt.lt (h : RowsAt R w g ss) : g < w.heap.size := by
  obtain ⟨cs, h1, h2⟩ := h
  exact h1.lt
theorem RowsAt.set (h : RowsAt R w g ss) {i : Nat} (hi : i < ss.length) {A : Option Addr} {c : Nat} {s : List UInt8} (hs : s.length = 64) (hc : 64 ≤ c) (hb : BysIn R w A s) (hRg : ¬ R g) : RowsAt R (w.setCell ⟨g, i, none⟩ (.slice A 64 c)) g (ss.set i s) := by
  obtain ⟨cs, h1, h2⟩ := h
  have ha : Agree R w (w.setCell ⟨g, i, none⟩ (.slice A 64 c)) := fun j hj => Below.heap_setCell _ _ _ _ (fun e => hRg (by have e' : j = g := e; rw [← e']; exact hj))
  have hci : i < cs.size := by
    obtain ⟨_, A', c', h4, _⟩ := h2 i hi
    exact (Array.getElem?_eq_some_iff.1 h4).1
  refine ⟨cs.setIfInBounds i (.slice A 64 c), h1.set i _, fun k hk => ?_⟩
  rw [List.length_set] at hk
  by_cases e : k = i
  · subst e
    rw [set_at _ _ _ hi]
    exact ⟨hs, A, c, by rw [Array.getElem?_setIfInBounds_self_of_lt hci], hc, hb.agree ha⟩
  · obtain ⟨h3, A', c', h4, h5, h6⟩ := h2 k hk
    have e2 : (ss.set i s).getD k [] = ss.getD k [] := by rw [List.getD_eq_getElem?_getD, List.getElem?_set_ne (fun e' => e e'.symm), ← List.getD_eq_getElem?_getD]
    rw [e2]
    exact ⟨h3, A', c', by rw [Array.getElem?_setIfInBounds_ne (fun e' => e e'.symm)]; exact h4, h5, h6.agree ha⟩
theorem BoolsAt.cell (h : BoolsAt w g ds) {k : Nat} (hk : k < ds.length) : w.cell? ⟨g, k, none⟩ = some (.bool (ds.getD k false)) := by
  obtain ⟨cs, h1, h2⟩ := h
  rw [h1.cell k]; exact h2 k hk
theorem BoolsAt.frozen (h : BoolsAt w g ds) (i : Nat) : w.frozen? ⟨g, i, none⟩ = false := by
  obtain ⟨cs, h1, h2⟩ := h
  exact h1.frozen i
theorem BoolsAt.of_eq (h : BoolsAt w g ds) (e : w'.heap[g]? = w.heap[g]?) : BoolsAt w' g ds := by
  obtain ⟨cs, h1, h2⟩ := h
  exact ⟨cs, e.trans h1, h2⟩
theorem BoolsAt.set (h : BoolsAt w g ds) {i : Nat} (hi : i < ds.length) (b : Bool) : BoolsAt (w.setCell ⟨g, i, none⟩ (.bool b)) g (ds.set i b) := by
  obtain ⟨cs, h1, h2⟩ := h
  have hci : i < cs.size := (Array.getElem?_eq_some_iff.1 (h2 i hi)).1
  refine ⟨cs.setIfInBounds i (.bool b), h1.set i _, fun k hk => ?_⟩
  rw [List.length_set] at hk
  by_cases e : k = i
  · subst e
    rw [Array.getElem?_setIfInBounds_self_of_lt hci, List.getD_eq_getElem?_getD, List.getElem?_set_self hi]
    rfl
  · rw [Array.getElem?_setIfInBounds_ne (fun e' => e e'.symm), h2 k hk, List.getD_eq_getElem?_getD, List.getD_eq_getElem?_getD, List.getElem?_set_ne (fun e' => e e'.symm)]
end

/-- block m is the reference's disk -/
structure RDat (F : Nat → Prop) (w : World) (m gs gl gd cS cL cD : Nat) (safe last : List (List UInt8)) (dirt : List Bool) (has : Bool) (left : Int) (gone : Bool) : Prop where
  box : Box w m 66 #[.slice (some ⟨gs, 0, none⟩) last.length cS, .slice (some ⟨gl, 0, none⟩) last.length cL, .slice (some ⟨gd, 0, none⟩) last.length cD, .bool has, .int .i64 left, .bool gone]
  rowsS : RowsAt (fun i => F i ∧ i ≠ m ∧ i ≠ gs ∧ i ≠ gl ∧ i ≠ gd) w gs safe
  rowsL : RowsAt (fun i => F i ∧ i ≠ m ∧ i ≠ gs ∧ i ≠ gl ∧ i ≠ gd) w gl last
  bools : BoolsAt w gd dirt
  lens : safe.length = last.length
  lend : dirt.length = last.length
  mem : F m ∧ F gs ∧ F gl ∧ F gd
  ne : m ≠ gs ∧ m ≠ gl ∧ m ≠ gd ∧ gs ≠ gl ∧ gs ≠ gd ∧ gl ≠ gd
  lt : Lt F w
  some_ : 1 ≤ last.length
  most : last.length ≤ 8
def RDsk (F : Nat → Prop) (w : World) (m : Nat) (safe last : List (List UInt8)) (dirt : List Bool) (has : Bool) (left : Int) (gone : Bool) : Prop := ∃ gs gl gd cS cL cD, RDat F w m gs gl gd cS cL cD safe last dirt has left gone
section
variable {F G M : Nat → Prop} {w w' : World} {m gs gl gd cS cL cD : Nat} {safe last : List (List UInt8)} {dirt : List Bool} {has : Bool} {left : Int} {gone : Bool}
theorem RDat.rdsk (h : RDat F w m gs gl gd cS cL cD safe last dirt has left gone) : RDsk F w m safe last dirt has left gone := ⟨gs, gl, gd, cS, cL, cD, h⟩
theorem RDat.agree (h : RDat F w m gs gl gd cS cL cD safe last dirt has left gone) (ha : Agree F w w') (hl : w.heap.size ≤ w'.heap.size) : RDat F w' m gs gl gd cS cL cD safe last dirt has left gone :=
  ⟨h.box.agree ha h.mem.1, h.rowsS.agree (ha.mono fun i hi => hi.1) (ha gs h.mem.2.1), h.rowsL.agree (ha.mono fun i hi => hi.1) (ha gl h.mem.2.2.1), h.bools.of_eq (ha gd h.mem.2.2.2), h.lens, h.lend, h.mem, h.ne, h.lt.size hl, h.some_, h.most⟩
theorem RDat.chg (h : RDat F w m gs gl gd cS cL cD safe last dirt has left gone) (hc : Chg M w w') (hs : ∀ i, F i → ¬ M i) : RDat F w' m gs gl gd cS cL cD safe last dirt has left gone := h.agree (Agree.of_chg hc h.lt hs) hc.size
theorem RDat.kept (h : RDat F w m gs gl gd cS cL cD safe last dirt has left gone) (hb : Below w.heap.size w w') : RDat F w' m gs gl gd cS cL cD safe last dirt has left gone := h.agree (Agree.of_below hb h.lt) hb.size
theorem RDat.mono (h : RDat F w m gs gl gd cS cL cD safe last dirt has left gone) (hs : ∀ i, F i → G i) (hl : Lt G w) : RDat G w m gs gl gd cS cL cD safe last dirt has left gone :=
  ⟨h.box, h.rowsS.mono fun i hi => ⟨hs i hi.1, hi.2⟩, h.rowsL.mono fun i hi => ⟨hs i hi.1, hi.2⟩, h.bools, h.lens, h.lend, ⟨hs _ h.mem.1, hs _ h.mem.2.1, hs _ h.mem.2.2.1, hs _ h.mem.2.2.2⟩, h.ne, hl, h.some_, h.most⟩
theorem RDsk.agree (h : RDsk F w m safe last dirt has left gone) (ha : Agree F w w') (hl : w.heap.size ≤ w'.heap.size) : RDsk F w' m safe last dirt has left gone := by
  obtain ⟨gs, gl, gd, cS, cL, cD, h⟩ := h
  exact (h.agree ha hl).rdsk
theorem RDsk.lt (h : RDsk F w m safe last dirt has left gone) : Lt F w := by
  obtain ⟨gs, gl, gd, cS, cL, cD, h⟩ := h
  exact h.lt
theorem RDsk.mem (h : RDsk F w m safe last dirt has left gone) : F m := by
  obtain ⟨gs, gl, gd, cS, cL, cD, h⟩ := h
  exact h.mem.1
theorem RDsk.chg (h : RDsk F w m safe last dirt has left gone) (hc : Chg M w w') (hs : ∀ i, F i → ¬ M i) : RDsk F w' m safe last dirt has left gone := h.agree (Agree.of_chg hc h.lt hs) hc.size
theorem RDsk.kept (h : RDsk F w m safe last dirt has left gone) (hb : Below w.heap.size w w') : RDsk F w' m safe last dirt has left gone := h.agree (Agree.of_below hb h.lt) hb.size
theorem RDsk.mono (h : RDsk F w m safe last dirt has left gone) (hs : ∀ i, F i → G i) (hl : Lt G w) : RDsk G w m safe last dirt has left gone := by
  obtain ⟨gs, gl, gd, cS, cL, cD, h⟩ := h
  exact (h.mono hs hl).rdsk
theorem RDat.cells (h : RDat F w m gs gl gd cS cL cD safe last dirt has left gone) : w.cell? ⟨m, 0, none⟩ = some (.slice (some ⟨gs, 0, none⟩) last.length cS) ∧ w.cell? ⟨m, 1, none⟩ = some (.slice (some ⟨gl, 0, none⟩) last.length cL) ∧ w.cell? ⟨m, 2, none⟩ = some (.slice (some ⟨gd, 0, none⟩) last.length cD) ∧ w.cell? ⟨m, 3, none⟩ = some (.bool has) ∧ w.cell? ⟨m, 4, none⟩ = some (.int .i64 left) ∧ w.cell? ⟨m, 5, none⟩ = some (.bool gone) :=
  ⟨h.box.cell 0, h.box.cell 1, h.box.cell 2, h.box.cell 3, h.box.cell 4, h.box.cell 5⟩
/-- one of the disk's own plain fields is set -/
theorem RDat.field (h : RDat F w m gs gl gd cS cL cD safe last dirt has left gone) (i : Nat) (v : Value) {has' : Bool} {left' : Int} {gone' : Bool} (e : (#[.slice (some ⟨gs, 0, none⟩) last.length cS, .slice (some ⟨gl, 0, none⟩) last.length cL, .slice (some ⟨gd, 0, none⟩) last.length cD, .bool has, .int .i64 left, .bool gone] : Array Value).setIfInBounds i v = #[.slice (some ⟨gs, 0, none⟩) last.length cS, .slice (some ⟨gl, 0, none⟩) last.length cL, .slice (some ⟨gd, 0, none⟩) last.length cD, .bool has', .int .i64 left', .bool gone']) :
    RDat F (w.setCell ⟨m, i, none⟩ v) m gs gl gd cS cL cD safe last dirt has' left' gone' := by
  have ha : Agree (fun i => i ≠ m) w (w.setCell ⟨m, i, none⟩ v) := fun j hj => Below.heap_setCell _ _ _ _ hj
  refine ⟨by rw [← e]; exact h.box.set i v, h.rowsS.agree (ha.mono fun i hi => hi.2.1) (ha gs (Ne.symm h.ne.1)), h.rowsL.agree (ha.mono fun i hi => hi.2.1) (ha gl (Ne.symm h.ne.2.1)), h.bools.of_eq (ha gd (Ne.symm h.ne.2.2.1)), h.lens, h.lend, h.mem, h.ne, h.lt.size (by simp [World.setCell]), h.some_, h.most⟩
theorem RDat.setGone (h : RDat F w m gs gl gd cS cL cD safe last dirt has left gone) (b : Bool) : RDat F (w.setCell ⟨m, 5, none⟩ (.bool b)) m gs gl gd cS cL cD safe last dirt has left b := h.field 5 _ rfl
theorem RDat.setLeft (h : RDat F w m gs gl gd cS cL cD safe last dirt has left gone) (k : Int) : RDat F (w.setCell ⟨m, 4, none⟩ (.int .i64 k)) m gs gl gd cS cL cD safe last dirt has k gone := h.field 4 _ rfl
theorem RDat.setHas (h : RDat F w m gs gl gd cS cL cD safe last dirt has left gone) (b : Bool) : RDat F (w.setCell ⟨m, 3, none⟩ (.bool b)) m gs gl gd cS cL cD safe last dirt b left gone := h.field 3 _ rfl
/-- a sector of Last is replaced -/
theorem RDat.setLast (h : RDat F w m gs gl gd cS cL cD safe last dirt has left gone) {i : Nat} (hi : i < last.length) {A : Option Addr} {c : Nat} {s : List UInt8} (hs : s.length = 64) (hc : 64 ≤ c) (hb : BysIn (fun i => F i ∧ i ≠ m ∧ i ≠ gs ∧ i ≠ gl ∧ i ≠ gd) w A s) : RDat F (w.setCell ⟨gl, i, none⟩ (.slice A 64 c)) m gs gl gd cS cL cD safe (last.set i s) dirt has left gone := by
  have ha : Agree (fun i => i ≠ gl) w (w.setCell ⟨gl, i, none⟩ (.slice A 64 c)) := fun j hj => Below.heap_setCell _ _ _ _ hj
  have hl : (last.set i s).length = last.length := List.length_set
  refine ⟨by rw [hl]; exact h.box.agree ha h.ne.2.1, h.rowsS.agree (ha.mono fun i hi => hi.2.2.2.1) (ha gs h.ne.2.2.2.1), h.rowsL.set hi hs hc hb (fun e => e.2.2.2.1 rfl), h.bools.of_eq (ha gd (Ne.symm h.ne.2.2.2.2.2)), by rw [hl]; exact h.lens, by rw [hl]; exact h.lend, h.mem, h.ne, h.lt.size (by simp [World.setCell]), by rw [hl]; exact h.some_, by rw [hl]; exact h.most⟩
theorem RDat.setSafe (h : RDat F w m gs gl gd cS cL cD safe last dirt has left gone) {i : Nat} (hi : i < last.length) {A : Option Addr} {c : Nat} {s : List UInt8} (hs : s.length = 64) (hc : 64 ≤ c) (hb : BysIn (fun i => F i ∧ i ≠ m ∧ i ≠ gs ∧ i ≠ gl ∧ i ≠ gd) w A s) : RDat F (w.setCell ⟨gs, i, none⟩ (.slice A 64 c)) m gs gl gd cS cL cD (safe.set i s) last dirt has left gone := by
  have ha : Agree (fun i => i ≠ gs) w (w.setCell ⟨gs, i, none⟩ (.slice A 64 c)) := fun j hj => Below.heap_setCell _ _ _ _ hj
  refine ⟨h.box.agree ha h.ne.1, h.rowsS.set (by rw [h.lens]; exact hi) hs hc hb (fun e => e.2.2.1 rfl), h.rowsL.agree (ha.mono fun i hi => hi.2.2.1) (ha gl (Ne.symm h.ne.2.2.2.1)), h.bools.of_eq (ha gd (Ne.symm h.ne.2.2.2.2.1)), by rw [List.length_set]; exact h.lens, h.lend, h.mem, h.ne, h.lt.size (by simp [World.setCell]), h.some_, h.most⟩
theorem RDat.setDirt (h : RDat F w m gs gl gd cS cL cD safe last dirt has left gone) {i : Nat} (hi : i < last.length) (b : Bool) : RDat F (w.setCell ⟨gd, i, none⟩ (.bool b)) m gs gl gd cS cL cD safe last (dirt.set i b) has left gone := by
  have ha : Agree (fun i => i ≠ gd) w (w.setCell ⟨gd, i, none⟩ (.bool b)) := fun j hj => Below.heap_setCell _ _ _ _ hj
  exact ⟨h.box.agree ha h.ne.2.2.1, h.rowsS.agree (ha.mono fun i hi => hi.2.2.2.2) (ha gs h.ne.2.2.2.2.1), h.rowsL.agree (ha.mono fun i hi => hi.2.2.2.2) (ha gl h.ne.2.2.2.2.2), h.bools.set (by rw [h.lend]; exact hi) b, h.lens, by rw [List.length_set]; exact h.lend, h.mem, h.ne, h.lt.size (by simp [World.setCell]), h.some_, h.most⟩
end
end Go.Proofs.Ytcmchnddnglnfaa
