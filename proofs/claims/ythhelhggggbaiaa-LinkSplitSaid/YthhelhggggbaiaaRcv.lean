/-
  The receiver: NewReceiver, Frames, Complete, known.
-/
import Derived.Test.YthhelhggggbaiaaMap
import Derived.Test.YthhelhggggbaiaaNewS
namespace Go.Proofs.Ythhelhggggbaiaa
open Go.RowKit
set_option linter.unusedVariables false
set_option linter.unusedSimpArgs false

/-- block r is a receiver: the frames got, the early ones e, the last one's number -/
structure Rcv (F : Nat → Prop) (w : World) (r W : Nat) (got : List (List UInt8)) (e : Int → Option (List UInt8)) (last : Int) (n : Nat) : Prop where
  box : ∃ v mb, Box w r 67 #[.int .i64 (W : Int), v, .map (some mb), .int .i64 last] ∧ Gots (fun i => F i ∧ i ≠ r ∧ i ≠ mb) w v got ∧ Early (fun i => F i ∧ i ≠ r ∧ i ≠ mb ∧ v.ownBlock ≠ some i) w mb n e ∧ F mb ∧ r ≠ mb
  mem : F r
  lt : Lt F w
section
variable {F G : Nat → Prop} {w w' : World} {r W : Nat} {got : List (List UInt8)} {e : Int → Option (List UInt8)} {last : Int} {n : Nat}
theorem Rcv.agree (h : Rcv F w r W got e last n) (ha : Agree F w w') (hl : w.heap.size ≤ w'.heap.size) : Rcv F w' r W got e last n := by
  obtain ⟨v, mb, h1, h2, h3, h4, h5⟩ := h.box
  exact ⟨⟨v, mb, h1.agree ha h.mem, h2.agree (ha.mono fun i hi => hi.1), h3.agree (ha mb h4) (ha.mono fun i hi => hi.1), h4, h5⟩, h.mem, h.lt.size hl⟩
theorem Rcv.chg {M : Nat → Prop} (h : Rcv F w r W got e last n) (hc : Chg M w w') (hs : ∀ i, F i → ¬ M i) : Rcv F w' r W got e last n := h.agree (Agree.of_chg hc h.lt hs) hc.size
theorem Rcv.kept (h : Rcv F w r W got e last n) (hb : Below w.heap.size w w') : Rcv F w' r W got e last n := h.agree (Agree.of_below hb h.lt) hb.size
theorem Rcv.here (h : Rcv F w r W got e last n) : r < w.heap.size := h.lt r h.mem
/-- what the walks read -/
theorem Rcv.cells (h : Rcv F w r W got e last n) : ∃ A c mb, got.length ≤ c ∧ w.cell? ⟨r, 0, none⟩ = some (.int .i64 (W : Int)) ∧ w.cell? ⟨r, 1, none⟩ = some (.slice A got.length c) ∧ w.cell? ⟨r, 2, none⟩ = some (.map (some mb)) ∧ w.cell? ⟨r, 3, none⟩ = some (.int .i64 last) ∧
    (∀ i, w.frozen? ⟨r, i, none⟩ = false) ∧ FrIn F w A got ∧ Early F w mb n e ∧ F mb ∧ r ≠ mb := by
  obtain ⟨v, mb, h1, h2, h3, h4, h5⟩ := h.box
  obtain ⟨A, c, rfl, hc, _, hfr⟩ := h2.shape
  exact ⟨A, c, mb, hc, h1.cell 0, h1.cell 1, h1.cell 2, h1.cell 3, fun i => h1.frozen i, hfr.mono fun i hi => hi.1, h3.mono fun i hi => hi.1, h4, h5⟩
end

/-- a new receiver -/
def NewRcv (w : World) (W : Nat) (e : Ending) (w' : World) : Prop :=
  ∃ r, e = .returned (.tuple #[.pointer (some ⟨r, 0, none⟩), .int .i64 0]) ∧ w.heap.size ≤ r ∧ Below w.heap.size w w' ∧ Rcv (fun i => w.heap.size ≤ i ∧ i < w'.heap.size) w' r W [] (fun _ => none) (-1) 0
set_option maxHeartbeats 1600000 in
theorem newreceiver_ok (W : Nat) (w : World) (hW0 : 1 ≤ W) (hW : W ≤ 8) : Calls Try.prog 19 #[.int .i64 (W : Int)] w (NewRcv w W) := by
  have hmm := @run_makeMap Try.prog
  go_enter Try.func19, Try.ntmps19
  go_wp2_with fail
  refine (possible_any _ _).mono ?_
  rintro e w1 ⟨rfl, rfl⟩
  have p1 : decide ((1 : Int) ≤ (W : Int)) = true := decide_eq_true (by omega)
  have p2 : decide ((W : Int) ≤ 8) = true := decide_eq_true (by omega)
  rw [p1, p2]
  go_wp2_with fail
  go_ret2
  refine ⟨w1.heap.size + 1, rfl, by omega, ((Below.refl _ _).alloc (Nat.le_refl _) _).alloc (by simp) _, ⟨⟨.slice none 0 0, w1.heap.size, ?_, Gots.nil _ _, ?_, ⟨by omega, by simp; omega⟩, by omega⟩, ⟨by omega, by simp⟩, fun i hi => hi.2⟩⟩
  · have h := Box.new (w1.alloc (.map #[] 0)) 67 #[.int .i64 (W : Int), .slice none 0 0, .map (some w1.heap.size), .int .i64 (-1)]
    rw [World.size_alloc] at h
    exact h
  · exact (Early.new (fun _ => False) w1).agree (Below.heap_alloc _ _ _ (by simp)) (fun i hi => hi.elim) |>.mono (fun i hi => hi.elim)
def NoRcv (w : World) (e : Ending) (w' : World) : Prop := e = .returned (.tuple #[.pointer none, .int .i64 4]) ∧ Below w.heap.size w w'
theorem newreceiver_no (W : Int) (w : World) (hW : ¬ (1 ≤ W ∧ W ≤ 8)) : Calls Try.prog 19 #[.int .i64 W] w (NoRcv w) := by
  have p : (decide ((1 : Int) ≤ W) && decide (W ≤ 8)) = false := by
    rw [Bool.and_eq_false_iff, decide_eq_false_iff_not, decide_eq_false_iff_not]
    omega
  go_enter Try.func19, Try.ntmps19
  go_wp2_with fail
  refine (possible_any _ _).mono ?_
  rintro e w1 ⟨rfl, rfl⟩
  rw [p]
  go_wp2_with fail
  go_ret2
  exact ⟨rfl, Below.refl _ _⟩

theorem rframes_any {F : Nat → Prop} {w : World} {r W : Nat} {got : List (List UInt8)} {e : Int → Option (List UInt8)} {last : Int} {n : Nat} (h : Rcv F w r W got e last n) (hl : got.length ≤ 100000) (hb : ∀ k, k < got.length → (got.getD k []).length ≤ 100000) :
    Calls Try.prog 22 #[.pointer (some ⟨r, 0, none⟩)] w (CopyPost w got) := by
  obtain ⟨A, c, mb, hc, c0, c1, c2, c3, hf, hfr, he, _⟩ := h.cells
  have HF := hide (hfr.fr h.lt)
  have HB := hide hb
  clear hf hfr he h hb
  go_enter Try.func22, Try.ntmps22
  go_wp2_with fail
  refine (copies_any A c got _ HF.out hl HB.out).mono ?_
  rintro e w1 ⟨v, r', cc, rfl, hO, hBl⟩
  have HO := hide hO
  have HBl := hide hBl
  clear hO hBl
  go_wp2_with fail
  go_ret
  exact ⟨v, r', cc, rfl, HO.out, HBl.out⟩

theorem complete_any {F : Nat → Prop} {w : World} {r W : Nat} {got : List (List UInt8)} {e : Int → Option (List UInt8)} {last : Int} {n : Nat} (h : Rcv F w r W got e last n) (hl : got.length ≤ 100000) :
    Calls Try.prog 26 #[.pointer (some ⟨r, 0, none⟩)] w fun e w' => e = .returned (.bool (decide (0 ≤ last) && decide (last < (got.length : Int)))) ∧ ∃ n, w' = w.drewN n := by
  obtain ⟨A, c, mb, hc, c0, c1, c2, c3, hf, hfr, he, _⟩ := h.cells
  clear hf hfr he h
  by_cases h1 : 0 ≤ last
  · have t1 : decide (0 ≤ last) = true := decide_eq_true h1
    go_enter Try.func26, Try.ntmps26
    go_wp2_with fail
    go_quiet (fail)
    go_wp2_with fail
    go_ret
    exact ⟨by simp; omega, _, rfl⟩
  · have t1 : decide (0 ≤ last) = false := decide_eq_false h1
    go_enter Try.func26, Try.ntmps26
    go_wp2_with fail
    go_quiet (fail)
    go_wp2_with fail
    go_ret
    exact ⟨by simp; omega, _, rfl⟩

theorem known_any {F : Nat → Prop} {w : World} {r W : Nat} {got : List (List UInt8)} {e : Int → Option (List UInt8)} {last : Int} {n : Nat} (h : Rcv F w r W got e last n) (hl : got.length ≤ 100000) (k : Int) (hk : InR k) :
    Calls Try.prog 35 #[.pointer (some ⟨r, 0, none⟩), .int .i64 k] w fun en w' => en = .returned (.bool (decide (k < (got.length : Int)) || (e k).isSome)) ∧ w' = w := by
  obtain ⟨A, c, mb, hc, c0, c1, c2, c3, hf, hfr, he, _⟩ := h.cells
  unfold InR at hk
  rcases hek : e k with _ | bs
  · have hrun := he.look_none hk hek w rfl
    clear hf hfr he h hek
    by_cases h1 : k < (got.length : Int)
    · go_enter Try.func35, Try.ntmps35
      go_wp2_with fail
      go_ret
      exact ⟨by simp [h1], rfl⟩
    · have t1 : decide (k < (got.length : Int)) = false := decide_eq_false h1
      go_enter Try.func35, Try.ntmps35
      go_wp2_with fail
      go_ret
      exact ⟨by simp, rfl⟩
  · obtain ⟨A', c', _, _, _, hrun0⟩ := he.look_some hk hek
    have hrun := hrun0 w rfl
    clear hf hfr he h hek hrun0
    by_cases h1 : k < (got.length : Int)
    · go_enter Try.func35, Try.ntmps35
      go_wp2_with fail
      go_ret
      exact ⟨by simp, rfl⟩
    · have t1 : decide (k < (got.length : Int)) = false := decide_eq_false h1
      go_enter Try.func35, Try.ntmps35
      go_wp2_with fail
      go_ret
      exact ⟨by simp, rfl⟩
end Go.Proofs.Ythhelhggggbaiaa
