/-
  Next, whatever the sender's state; messages that are equal.
-/
import Derived.Test.YthhelhggggbaiaaMsgs
namespace Go.Proofs.Ythhelhggggbaiaa
open Go.RowKit
set_option linter.unusedVariables false
set_option linter.unusedSimpArgs false

def nextMsg (fs : List (List UInt8)) (W base nxt : Nat) : Msg := if base = fs.length then zeroM else ⟨false, (nextAt fs.length W base nxt : Int), decide (nextAt fs.length W base nxt = fs.length - 1), fs.getD (nextAt fs.length W base nxt) []⟩
def nextNxt (fs : List (List UInt8)) (W base nxt : Nat) : Nat := if base = fs.length then nxt else nextAt fs.length W base nxt + 1
theorem nextNxt_le {fs : List (List UInt8)} {W base nxt : Nat} (hb : base ≤ fs.length) (hx : nxt ≤ fs.length) : nextNxt fs W base nxt ≤ fs.length := by
  unfold nextNxt
  split
  · exact hx
  · have := nextAt_lt (W := W) (nxt := nxt) (show base < fs.length by omega)
    omega
theorem newBase_le {n base : Nat} {ack : Bool} {num : Int} (hb : base ≤ n) : newBase n base ack num ≤ n := by
  unfold newBase
  split
  · rename_i h; omega
  · exact hb
def NextAny (T : TypeId) (F : Nat → Prop) (w : World) (s : Nat) (fs : List (List UInt8)) (W base nxt : Nat) (m : Msg) (ok : Bool) (e : Ending) (w' : World) : Prop :=
  ∃ D d, e = .returned (.tuple #[.agg #[.bool m.ack, .int .i64 m.num, .bool m.last, .slice D m.data.length d], .bool ok]) ∧
    BysIn (fun i => w.heap.size ≤ i ∧ i < w'.heap.size) w' D m.data ∧ m.data.length ≤ d ∧ Chg (fun i => i = s) w w' ∧ Snd T F w' s fs W base (nextNxt fs W base nxt)
theorem nextAny_of {T : TypeId} {F : Nat → Prop} {w : World} {s : Nat} {fs : List (List UInt8)} {W base nxt : Nat} (h : Snd T F w s fs W base nxt) (e : Ending) (w' : World) :
    (base = fs.length → NoMsg w e w' → NextAny T F w s fs W base nxt (nextMsg fs W base nxt) (decide (base ≠ fs.length)) e w') ∧
    (base < fs.length → NextPost T F w s fs W base (nextAt fs.length W base nxt) (decide (nextAt fs.length W base nxt = fs.length - 1)) e w' → NextAny T F w s fs W base nxt (nextMsg fs W base nxt) (decide (base ≠ fs.length)) e w') := by
  constructor
  · intro hb ⟨he, hB⟩
    unfold NextAny nextMsg nextNxt
    rw [if_pos hb, if_pos hb, decide_eq_false (by simpa using hb)]
    exact ⟨none, 0, he, BysIn.nil _ _ _, Nat.le_refl _, Chg.of_below hB _, h.kept hB⟩
  · intro hb ⟨D, d, he, hN, hC, hS⟩
    unfold NextAny nextMsg nextNxt
    rw [if_neg (by omega), if_neg (by omega), decide_eq_true (show base ≠ fs.length by omega)]
    exact ⟨D, d, he, hN.bysIn, hN.1, hC, hS⟩
theorem next_any {F : Nat → Prop} {w : World} {s : Nat} {fs : List (List UInt8)} {W base nxt : Nat} (h : Snd 64 F w s fs W base nxt) (hb : base ≤ fs.length) (hn : fs.length ≤ 1000) (hW : W ≤ 8) (hx : nxt ≤ 1000) (hbd : ∀ k, k < fs.length → (fs.getD k []).length ≤ 4096) :
    Calls Try.prog 12 #[.pointer (some ⟨s, 0, none⟩)] w (NextAny 64 F w s fs W base nxt (nextMsg fs W base nxt) (decide (base ≠ fs.length))) := by
  rcases Nat.lt_or_ge base fs.length with hlt | hge
  · exact (next_more h hlt hn hW hx hbd).mono fun e w' hp => (nextAny_of h e w').2 hlt hp
  · exact (next_done h (by omega) hn).mono fun e w' hp => (nextAny_of h e w').1 (by omega) hp
theorem refnext_any {F : Nat → Prop} {w : World} {s : Nat} {fs : List (List UInt8)} {W base nxt : Nat} (h : Snd 31 F w s fs W base nxt) (hb : base ≤ fs.length) (hn : fs.length ≤ 1000) (hW : W ≤ 8) (hx : nxt ≤ 1000) (hbd : ∀ k, k < fs.length → (fs.getD k []).length ≤ 4096) :
    Calls Try.prog 13 #[.pointer (some ⟨s, 0, none⟩)] w (NextAny 31 F w s fs W base nxt (nextMsg fs W base nxt) (decide (base ≠ fs.length))) := by
  rcases Nat.lt_or_ge base fs.length with hlt | hge
  · exact (refnext_more h hlt hn hW hx hbd).mono fun e w' hp => (nextAny_of h e w').2 hlt hp
  · exact (refnext_done h (by omega) hn).mono fun e w' hp => (nextAny_of h e w').1 (by omega) hp
def YesB (w : World) (e : Ending) (w' : World) : Prop := e = .returned (.bool true) ∧ Below w.heap.size w w'
theorem msgEq_same (m : Msg) {A B : Option Addr} {c d : Nat} {w : World} (hx : Bys w A m.data) (hy : Bys w B m.data) (hm : m.data.length ≤ maxLen) :
    Calls Try.prog 14 #[.agg #[.bool m.ack, .int .i64 m.num, .bool m.last, .slice A m.data.length c], .agg #[.bool m.ack, .int .i64 m.num, .bool m.last, .slice B m.data.length d]] w (YesB w) := by
  refine (msgEq_any m.ack m.ack m.last m.last m.num m.num A B c d m.data m.data w hx hy hm hm).mono fun e w' h => ?_
  simp only [beq_self_eq_true, Bool.and_self] at h
  exact h
end Go.Proofs.Ythhelhggggbaiaa
