/-
  The senders: Done and Next.
-/
import Derived.Test.YthhelhggggbaiaaCopyLaw
import Derived.BigRegion
import Derived.Deep.DrawnRows
namespace Go.Proofs.Ythhelhggggbaiaa
open Go.RowKit
set_option linter.unusedVariables false
set_option linter.unusedSimpArgs false

/-- block s is a sender of the frames fs -/
structure Snd (T : TypeId) (F : Nat → Prop) (w : World) (s : Nat) (fs : List (List UInt8)) (W base nxt : Nat) : Prop where
  box : ∃ A c, fs.length ≤ c ∧ Box w s T #[.slice A fs.length c, .int .i64 W, .int .i64 base, .int .i64 nxt] ∧ FrIn (fun i => F i ∧ i ≠ s) w A fs
  mem : F s
  lt : Lt F w
section
variable {T : TypeId} {F : Nat → Prop} {w w' : World} {s : Nat} {fs : List (List UInt8)} {W base nxt : Nat}
theorem Snd.agree (h : Snd T F w s fs W base nxt) (ha : Agree F w w') (hl : w.heap.size ≤ w'.heap.size) : Snd T F w' s fs W base nxt := by
  obtain ⟨A, c, h1, h2, h3⟩ := h.box
  exact ⟨⟨A, c, h1, h2.agree ha h.mem, h3.agree (ha.mono fun i hi => hi.1)⟩, h.mem, h.lt.size hl⟩
theorem Snd.chg {M : Nat → Prop} (h : Snd T F w s fs W base nxt) (hc : Chg M w w') (hs : ∀ i, F i → ¬ M i) : Snd T F w' s fs W base nxt := h.agree (Agree.of_chg hc h.lt hs) hc.size
theorem Snd.kept (h : Snd T F w s fs W base nxt) (hb : Below w.heap.size w w') : Snd T F w' s fs W base nxt := h.agree (Agree.of_below hb h.lt) hb.size
end

theorem done_yes {F : Nat → Prop} {w : World} {s : Nat} {fs : List (List UInt8)} {W base nxt : Nat} (h : Snd 64 F w s fs W base nxt) (hb : base = fs.length) (hn : fs.length ≤ 1000) :
    Calls Try.prog 17 #[.pointer (some ⟨s, 0, none⟩)] w fun e w' => e = .returned (.bool true) ∧ ∃ n, w' = w.drewN n := by
  obtain ⟨A, c, h1, h2, h3⟩ := h.box
  have c0 : w.cell? ⟨s, 0, none⟩ = some (.slice A fs.length c) := h2.cell 0
  have c2 : w.cell? ⟨s, 2, none⟩ = some (.int .i64 (base : Int)) := h2.cell 2
  subst hb
  clear h2 h3
  go_enter Try.func17, Try.ntmps17
  go_wp2
  go_quiet (fail)
  go_wp2
  go_ret
  exact ⟨rfl, _, rfl⟩
theorem done_no {F : Nat → Prop} {w : World} {s : Nat} {fs : List (List UInt8)} {W base nxt : Nat} (h : Snd 64 F w s fs W base nxt) (hb : base < fs.length) (hn : fs.length ≤ 1000) :
    Calls Try.prog 17 #[.pointer (some ⟨s, 0, none⟩)] w fun e w' => e = .returned (.bool false) ∧ ∃ n, w' = w.drewN n := by
  obtain ⟨A, c, h1, h2, h3⟩ := h.box
  have c0 : w.cell? ⟨s, 0, none⟩ = some (.slice A fs.length c) := h2.cell 0
  have c2 : w.cell? ⟨s, 2, none⟩ = some (.int .i64 (base : Int)) := h2.cell 2
  have t : ((base : Int) == (fs.length : Int)) = false := beq_eq_false_iff_ne.2 (by omega)
  clear h2 h3
  go_enter Try.func17, Try.ntmps17
  go_wp2
  go_quiet (fail)
  go_wp2
  go_ret
  exact ⟨rfl, _, rfl⟩
theorem below_of_drewN {w w' : World} (h : ∃ n, w' = w.drewN n) : Below w.heap.size w w' := by
  obtain ⟨n, rfl⟩ := h
  exact below_drew (Below.refl _ _) n
theorem done_any {F : Nat → Prop} {w : World} {s : Nat} {fs : List (List UInt8)} {W base nxt : Nat} (h : Snd 64 F w s fs W base nxt) (hb : base ≤ fs.length) (hn : fs.length ≤ 1000) :
    Calls Try.prog 17 #[.pointer (some ⟨s, 0, none⟩)] w fun e w' => e = .returned (.bool (decide (base = fs.length))) ∧ ∃ n, w' = w.drewN n := by
  by_cases e : base = fs.length
  · rw [decide_eq_true e]
    exact done_yes h e hn
  · rw [decide_eq_false e]
    exact done_no h (by omega) hn
theorem Snd.cells {T : TypeId} {F : Nat → Prop} {w : World} {s : Nat} {fs : List (List UInt8)} {W base nxt : Nat} (h : Snd T F w s fs W base nxt) : ∃ A c, fs.length ≤ c ∧ w.cell? ⟨s, 0, none⟩ = some (.slice A fs.length c) ∧
    w.cell? ⟨s, 1, none⟩ = some (.int .i64 (W : Int)) ∧ w.cell? ⟨s, 2, none⟩ = some (.int .i64 (base : Int)) ∧ w.cell? ⟨s, 3, none⟩ = some (.int .i64 (nxt : Int)) ∧ (∀ i, w.frozen? ⟨s, i, none⟩ = false) ∧ FrIn (fun i => F i ∧ i ≠ s) w A fs := by
  obtain ⟨A, c, h1, h2, h3⟩ := h.box
  exact ⟨A, c, h1, h2.cell 0, h2.cell 1, h2.cell 2, h2.cell 3, fun i => h2.frozen i, h3⟩
end Go.Proofs.Ythhelhggggbaiaa
