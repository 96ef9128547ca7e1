/-
  The receiver: an early frame is taken over.
-/
import Derived.Test.YthhelhggggbaiaaIgn
namespace Go.Proofs.Ythhelhggggbaiaa
open Go.RowKit
set_option linter.unusedVariables false
set_option linter.unusedSimpArgs false

theorem ownBlock_lt {F : Nat → Prop} {w : World} {v : Value} {fs : List (List UInt8)} {vals : List Value} (h : GotsV F w v fs vals) (hl : Lt F w) : ∀ g, v.ownBlock = some g → g < w.heap.size := fun g e => hl g (h.2.2.1 g e)
theorem ownsRow_heap {w w' : World} {B : Nat} {e : TypeId} {z : Nat} {v : Value} {n : Nat} {xs : List Value} (h : w.ownsRow B e z v n xs) (hh : ∀ g, v.ownBlock = some g → w'.heap[g]? = w.heap[g]?) : w'.ownsRow B e z v n xs := ownsRow_of h fun g e _ => hh g e

/-- the parts of a receiver -/
structure Parts (F : Nat → Prop) (w : World) (r mb W : Nat) (v : Value) (vals : List Value) (got : List (List UInt8)) (e : Int → Option (List UInt8)) (last : Int) (n : Nat) : Prop where
  box : Box w r 67 #[.int .i64 (W : Int), v, .map (some mb), .int .i64 last]
  gots : GotsV (fun i => F i ∧ i ≠ r ∧ i ≠ mb) w v got vals
  early : Early (fun i => F i ∧ i ≠ r ∧ i ≠ mb ∧ v.ownBlock ≠ some i) w mb n e
  map : F mb
  ne : r ≠ mb
  mem : F r
  lt : Lt F w
theorem Rcv.parts {F : Nat → Prop} {w : World} {r W : Nat} {got : List (List UInt8)} {e : Int → Option (List UInt8)} {last : Int} {n : Nat} (h : Rcv F w r W got e last n) : ∃ v mb vals, Parts F w r mb W v vals got e last n := by
  obtain ⟨v, mb, h1, ⟨vals, h2⟩, h3, h4, h5⟩ := h.box
  exact ⟨v, mb, vals, h1, h2, h3, h4, h5, h.mem, h.lt⟩
section
variable {F : Nat → Prop} {w w2 w3 : World} {r mb W : Nat} {v v' : Value} {vals : List Value} {got : List (List UInt8)} {e e' : Int → Option (List UInt8)} {last : Int} {n : Nat}
theorem Parts.rcv (h : Parts F w r mb W v vals got e last n) : Rcv F w r W got e last n := ⟨⟨v, mb, h.box, ⟨vals, h.gots⟩, h.early, h.map, h.ne⟩, h.mem, h.lt⟩
theorem Parts.agree (h : Parts F w r mb W v vals got e last n) (ha : Agree F w w2) (hl : w.heap.size ≤ w2.heap.size) : Parts F w2 r mb W v vals got e last n :=
  ⟨h.box.agree ha h.mem, ⟨ownsRow_heap h.gots.1 fun g e => ha g (h.gots.2.2.1 g e).1, h.gots.2.1, h.gots.2.2.1, fun k hk => by
    obtain ⟨Ak, ck, g1, g2, g3⟩ := h.gots.2.2.2 k hk
    exact ⟨Ak, ck, g1, g2.agree (ha.mono fun i hi => hi.1.1), g3⟩⟩, h.early.agree (ha mb h.map) (ha.mono fun i hi => hi.1), h.map, h.ne, h.mem, h.lt.size hl⟩
/-- what the map says is turned, in the map's block alone -/
theorem Parts.turn (h : Parts F w r mb W v vals got e last n) {n' : Nat} (he : Early (fun i => F i ∧ i ≠ r ∧ i ≠ mb ∧ v.ownBlock ≠ some i) w2 mb n' e') (hg : w.grownBy w2 (some mb)) : Parts F w2 r mb W v vals got e' last n' := by
  have ha : Agree (fun i => F i ∧ i ≠ mb) w w2 := fun i hi => hg.block i (h.lt i hi.1) (fun e => hi.2 (by injection e))
  refine ⟨h.box.agree ha ⟨h.mem, h.ne⟩, ⟨ownsRow_heap h.gots.1 fun g e => ha g ⟨(h.gots.2.2.1 g e).1, (h.gots.2.2.1 g e).2.2⟩, h.gots.2.1, h.gots.2.2.1, fun k hk => ?_⟩, he, h.map, h.ne, h.mem, h.lt.size hg.size⟩
  obtain ⟨Ak, ck, g1, g2, g3⟩ := h.gots.2.2.2 k hk
  exact ⟨Ak, ck, g1, g2.agree (ha.mono fun i hi => ⟨hi.1.1, hi.1.2.2⟩), g3⟩
/-- the last one's number is written -/
theorem Parts.setLast (h : Parts F w r mb W v vals got e last n) (k : Int) : Parts F (w.setCell ⟨r, 3, none⟩ (.int .i64 k)) r mb W v vals got e k n := by
  have ha : Agree (fun i => i ≠ r) w (w.setCell ⟨r, 3, none⟩ (.int .i64 k)) := fun i hi => Below.heap_setCell _ _ _ _ hi
  refine ⟨h.box.set 3 _, ⟨ownsRow_heap h.gots.1 fun g e => ha g (h.gots.2.2.1 g e).2.1, h.gots.2.1, h.gots.2.2.1, fun k hk => ?_⟩, h.early.agree (ha mb (Ne.symm h.ne)) (ha.mono fun i hi => hi.2.1), h.map, h.ne, h.mem, h.lt.size (by simp [World.setCell])⟩
  obtain ⟨Ak, ck, g1, g2, g3⟩ := h.gots.2.2.2 k hk
  exact ⟨Ak, ck, g1, g2.agree (ha.mono fun i hi => hi.1.2.1), g3⟩
/-- a frame is appended to those got -/
theorem Parts.push (h : Parts F w r mb W v vals got e last n) {A : Option Addr} {c : Nat} {bs : List UInt8} (hb : BysIn (fun i => F i ∧ i ≠ r ∧ i ≠ mb ∧ v.ownBlock ≠ some i) w A bs) (hc : bs.length ≤ c)
    (ho : w3.ownsRow 0 32 1 v' (got.length + 1) (vals ++ [.slice A bs.length c])) (hg : w.grownBy w3 v.ownBlock) (hor : v'.ownBlock = v.ownBlock ∨ v'.ownBlock = some w.heap.size) :
    ∃ vals', Parts (fun i => F i ∨ v'.ownBlock = some i) (w3.setCell ⟨r, 1, none⟩ v') r mb W v' vals' (got ++ [bs]) e last n := by
  have hlr := h.lt r h.mem
  have hlm := h.lt mb h.map
  have hvr : v.ownBlock ≠ some r := fun e => (h.gots.2.2.1 r e).2.1 rfl
  have hvm : v.ownBlock ≠ some mb := fun e => (h.gots.2.2.1 mb e).2.2 rfl
  have hvr' : v'.ownBlock ≠ some r := by
    rcases hor with e | e <;> rw [e]
    · exact hvr
    · intro e; injection e with e; omega
  have hvm' : v'.ownBlock ≠ some mb := by
    rcases hor with e | e <;> rw [e]
    · exact hvm
    · intro e; injection e with e; omega
  have hv'lt : ∀ i, v'.ownBlock = some i → i < w3.heap.size := fun i hi => by
    rcases ho.2 with ⟨e, h0⟩ | ⟨g, cap, cur, e, _, hh, _⟩
    · rw [e] at hi; cases hi
    · rw [e] at hi
      have hi' : g = i := by injection hi
      subst hi'
      rcases Nat.lt_or_ge g w3.heap.size with hlt | hge
      · exact hlt
      · rw [Array.getElem?_eq_none hge] at hh; cases hh
  obtain ⟨vals', hG⟩ := h.gots.push (v' := v') (n := w.heap.size) (fun i hi => h.lt i hi.1) (hb.mono fun i hi => ⟨⟨hi.1, hi.2.1, hi.2.2.1⟩, hi.2.2.2⟩) hc ho hg rfl hor
  have ha : Agree (fun i => F i ∧ v.ownBlock ≠ some i) w w3 := fun i hi => hg.block i (h.lt i hi.1) fun e => hi.2 e.symm
  have ha2 : Agree (fun i => i ≠ r) w3 (w3.setCell ⟨r, 1, none⟩ v') := fun i hi => Below.heap_setCell _ _ _ _ hi
  refine ⟨vals', ((h.box.agree ha ⟨h.mem, hvr⟩).set 1 v'), ⟨ownsRow_heap hG.1 fun g e => ha2 g fun e2 => hvr' (e2 ▸ e), hG.2.1, fun g e => ⟨.inr e, fun e2 => hvr' (e2 ▸ e), fun e2 => hvm' (e2 ▸ e)⟩, fun k hk => ?_⟩, ?_, .inl h.map, h.ne, .inl h.mem, fun i hi => ?_⟩
  · obtain ⟨Ak, ck, g1, g2, g3⟩ := hG.2.2.2 k hk
    refine ⟨Ak, ck, g1, (g2.agree (ha2.mono fun i hi e2 => ?_)).mono fun i hi => ⟨⟨?_, ?_, ?_⟩, hi.2⟩, g3⟩
    · subst e2
      rcases hi.1 with h1 | h1
      · exact h1.2.1 rfl
      · exact hvr' h1
    · rcases hi.1 with h1 | h1
      · exact .inl h1.1
      · exact .inr h1
    · rcases hi.1 with h1 | h1
      · exact h1.2.1
      · exact fun e => hvr' (e ▸ h1)
    · rcases hi.1 with h1 | h1
      · exact h1.2.2
      · exact fun e => hvm' (e ▸ h1)
  · refine ((h.early.agree (ha mb ⟨h.map, hvm⟩) (ha.mono fun i hi => ⟨hi.1, hi.2.2.2⟩)).agree (ha2 mb (Ne.symm h.ne)) (ha2.mono fun i hi => hi.2.1)).mono fun i hi => ⟨.inl hi.1, hi.2.1, hi.2.2.1, ?_⟩
    rcases hor with e | e <;> rw [e]
    · exact hi.2.2.2
    · intro e; injection e with e; have := h.lt i hi.1; omega
  · have : i < w3.heap.size := by
      rcases hi with hi | hi
      · exact Nat.lt_of_lt_of_le (h.lt i hi) hg.size
      · exact hv'lt i hi
    simpa [World.setCell] using this
end
end Go.Proofs.Ythhelhggggbaiaa
