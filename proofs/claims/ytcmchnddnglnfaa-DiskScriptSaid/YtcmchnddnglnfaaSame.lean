/-
  same: a disk with the contents and the state of the reference.
-/
import Derived.Test.YtcmchnddnglnfaaRCrash
import Derived.Deep.QuietTactic
import Derived.BigQuiet
namespace Go.Proofs.Ytcmchnddnglnfaa
open Go.RowKit
set_option linter.unusedVariables false
set_option linter.unusedSimpArgs false

theorem sectors_q {F : Nat → Prop} {w : World} {s : Nat} {ss : List (List UInt8)} {e : Nat → Option (List UInt8)} {fuse : Int} {dead : Bool} (h : Dsk F w s ss e fuse dead) (n : Nat) : Calls Try.prog 17 #[.pointer (some ⟨s, 0, none⟩)] (w.drewN n) fun e w' => e = .returned (.int .i64 (ss.length : Nat)) ∧ w' = w.drewN n :=
  (sectors_any (h.agree (w' := w.drewN n) (fun _ _ => rfl) (Nat.le_refl _))).mono fun _ _ h => ⟨h.1, h.2.symm⟩
theorem dirty_q {F : Nat → Prop} {w : World} {s : Nat} {ss : List (List UInt8)} {e : Nat → Option (List UInt8)} {fuse : Int} {dead : Bool} (h : Dsk F w s ss e fuse dead) (n : Nat) : Calls Try.prog 16 #[.pointer (some ⟨s, 0, none⟩)] (w.drewN n) fun en w' => en = .returned (.int .i64 ((dirtyL ss.length e).length : Nat)) ∧ w' = w.drewN n :=
  (dirty_any (h.agree (w' := w.drewN n) (fun _ _ => rfl) (Nat.le_refl _))).mono fun _ _ h => ⟨h.1, h.2.symm⟩
theorem dead_q {F : Nat → Prop} {w : World} {s : Nat} {ss : List (List UInt8)} {e : Nat → Option (List UInt8)} {fuse : Int} {dead : Bool} (h : Dsk F w s ss e fuse dead) (n : Nat) : Calls Try.prog 15 #[.pointer (some ⟨s, 0, none⟩)] (w.drewN n) fun en w' => en = .returned (.bool dead) ∧ w' = w.drewN n :=
  (dead_any (h.agree (w' := w.drewN n) (fun _ _ => rfl) (Nat.le_refl _))).mono fun _ _ h => ⟨h.1, h.2.symm⟩
theorem rdirty_q {F : Nat → Prop} {w : World} {m gs gl gd cS cL cD : Nat} {safe last : List (List UInt8)} {dirt : List Bool} {has : Bool} {left : Int} {gone : Bool} (h : RDat F w m gs gl gd cS cL cD safe last dirt has left gone) (n : Nat) : Calls Try.prog 32 #[.pointer (some ⟨m, 0, none⟩)] (w.drewN n) fun en w' => en = .returned (.int .i64 (trueN dirt : Nat)) ∧ w' = w.drewN n :=
  (rdirty_any (h.agree (w' := w.drewN n) (fun _ _ => rfl) (Nat.le_refl _))).mono fun _ _ h => ⟨h.1, h.2.symm⟩
theorem read_x {F : Nat → Prop} {w : World} {s : Nat} {ss : List (List UInt8)} {e : Nat → Option (List UInt8)} {fuse : Int} (h : Dsk F w s ss e fuse false) (i : Nat) (hi : i < ss.length) (x : List UInt8) (hz : x.length = 64) (hx : ss.getD i [] = x) :
    Calls Try.prog 10 #[.pointer (some ⟨s, 0, none⟩), .int .i64 (i : Int)] w fun en w' => ∃ g c, en = .returned (.tuple #[.slice (some ⟨g, 0, none⟩) 64 c, .int .i64 0]) ∧ Row w' g x ∧ Below w.heap.size w w' := by
  refine (read_ok h i hi).mono ?_
  rw [hx]
  rintro en w' ⟨g, c, h1, rfl, h2, h3, h4⟩
  exact ⟨g, c, by rw [hz], h2, h3⟩
theorem rread_x {F : Nat → Prop} {w : World} {m gs gl gd cS cL cD : Nat} {safe last : List (List UInt8)} {dirt : List Bool} {has : Bool} {left : Int} (h : RDat F w m gs gl gd cS cL cD safe last dirt has left false) (i : Nat) (hi : i < last.length) (x : List UInt8) (hx : last.getD i [] = x) :
    Calls Try.prog 20 #[.pointer (some ⟨m, 0, none⟩), .int .i64 (i : Int)] w fun en w' => w = w' ∧ ∃ A c, en = .returned (.tuple #[.slice A 64 c, .int .i64 0]) ∧ BysIn F w A x := by
  refine (rread_ok h i hi).mono ?_
  rw [hx]
  rintro en w' ⟨h1, A, c, rfl, _, h3⟩
  exact ⟨h1, A, c, rfl, h3⟩
theorem eqx {w : World} {A B : Option Addr} (c d : Nat) {x : List UInt8} (ha : Bys w A x) (hb : Bys w B x) (hl : x.length = 64) : Calls Try.prog 13 #[.slice A 64 c, .slice B 64 d] w fun e w' => e = .returned (.bool true) ∧ Below w.heap.size w w' := by
  have h := eq04_any A B c d x x w ha hb (by rw [hl]; decide) (by rw [hl]; decide)
  rw [hl, show (x == x) = true from beq_self_eq_true _] at h
  exact h
set_option maxHeartbeats 3200000 in
theorem same_any {F G : Nat → Prop} {w : World} {s m : Nat} {ss : List (List UInt8)} {e : Nat → Option (List UInt8)} {fuse : Int} {safe : List (List UInt8)} {dirt : List Bool} {has : Bool} {left : Int} {gone : Bool} (h : Dsk F w s ss e fuse gone) (hr : RDsk G w m safe ss dirt has left gone) (hn : (dirtyL ss.length e).length = trueN dirt) :
    Calls Try.prog 25 #[.pointer (some ⟨s, 0, none⟩), .pointer (some ⟨m, 0, none⟩)] w fun en w' => en = .returned (.bool true) ∧ Below w.heap.size w w' := by
  obtain ⟨gs, gl, gd, cS, cL, cD, hr⟩ := hr
  obtain ⟨c0, c1, c2, c3, c4, c5⟩ := hr.cells
  have hmo := hr.most
  have HD := hide h
  have HR := hide hr
  have hQ1 : ∀ n, Calls Try.prog 16 #[.pointer (some ⟨s, 0, none⟩)] (w.drewN n) fun en w' => en = .returned (.int .i64 (trueN dirt : Nat)) ∧ w' = w.drewN n := fun n => by rw [← hn]; exact dirty_q h n
  have hQ2 : ∀ n, Calls Try.prog 32 #[.pointer (some ⟨m, 0, none⟩)] (w.drewN n) fun en w' => en = .returned (.int .i64 (trueN dirt : Nat)) ∧ w' = w.drewN n := fun n => rdirty_q hr n
  generalize trueN dirt = N at hQ1 hQ2
  have HQ1 := hide hQ1
  have HQ2 := hide hQ2
  clear h hr c0 c2 c3 c4 hQ1 hQ2 hn
  go_enter Try.func25, Try.ntmps25
  go_wp2_with fail
  go_quiet (first | (go_at_call 17; exact Calls.quiet_of_same (sectors_q HD.out _)) | (go_at_call 16; exact Calls.quiet_of_same (HQ1.out _)) | (go_at_call 32; exact Calls.quiet_of_same (HQ2.out _)) | (go_at_call 15; exact Calls.quiet_of_same (dead_q HD.out _)))
  obtain ⟨w1, hw1⟩ : ∃ w1, w1 = w.drewN nq := ⟨_, rfl⟩
  have HD1 : Hid (Dsk F w1 s ss e fuse gone) := by rw [hw1]; exact HD.out.agree (fun _ _ => rfl) (Nat.le_refl _)
  have HR1 : Hid (RDat G w1 m gs gl gd cS cL cD safe ss dirt has left gone) := by rw [hw1]; exact HR.out.agree (fun _ _ => rfl) (Nat.le_refl _)
  have HB1 : Hid (Below w.heap.size w w1) := by rw [hw1]; exact below_drew (Below.refl _ _) nq
  rw [← hw1]
  clear hw1 c1 c5 HD HR
  go_wp2_with fail
  go_loopw [5] (fun i wr => ∃ k : Nat, k ≤ ss.length ∧ i = .int .i64 k ∧ Hid (Below w1.heap.size w1 wr)) (fun i _ => ss.length - (iOf i).toNat)
  case atStart => exact ⟨0, by omega, rfl, Below.refl _ _⟩
  case round =>
    obtain ⟨k, hk, rfl, HB⟩ := hrel
    have HDr := hide (HD1.out.kept HB.out)
    have HRr := hide (HR1.out.kept HB.out)
    obtain ⟨c0, c1, c2, c3, c4, c5⟩ := HRr.out.cells
    by_cases hlt : k < ss.length
    · cases gone with
      | true =>
        go_wp2_with fail
        refine (read_err HDr.out (k : Int) 12 (by unfold chkE; rw [if_pos rfl]) (by omega)).mono ?_
        rintro en wx ⟨rfl, rfl⟩
        go_wp2_with fail
        refine (rread_err HRr.out (k : Int) 12 (by unfold chkE; rw [if_pos rfl]) (by omega)).mono ?_
        rintro en wx ⟨rfl, rfl⟩
        go_wp2_with fail
        refine (eq04_any none none 0 0 [] [] wr (fun h => absurd h (by simp)) (fun h => absurd h (by simp)) (by decide) (by decide)).mono ?_
        rintro en w5 ⟨rfl, hB5⟩
        rw [show (([] : List UInt8) == []) = true from rfl]
        have HB5 := hide (HB.out.trans (hB5.mono HB.out.size))
        clear hB5
        go_wp2_with fail
        go_roundw
        case rel => exact ⟨k + 1, by omega, by go_num, HB5⟩
        case measure => simp [iOf]; omega
      | false =>
        go_wp2_with fail
        refine (read_x HDr.out k hlt _ (HRr.out.rowsL.at_ hlt).1 rfl).mono ?_
        rintro en w3 ⟨g, cc, rfl, hR3, hB3⟩
        have HR3 := hide hR3
        have HRr3 := hide (HRr.out.kept hB3)
        have HB3 := hide (HB.out.trans (hB3.mono HB.out.size))
        obtain ⟨e0, e1, e2, e3, e4, e5⟩ := HRr3.out.cells
        clear hR3 hB3
        go_wp2_with fail
        refine (rread_x HRr3.out k hlt _ rfl).mono ?_
        rintro en wx ⟨rfl, A, c, rfl, hb⟩
        have HBY := hide (hb.bys HRr3.out.lt)
        clear hb
        go_wp2_with fail
        refine (eqx cc c HR3.out.bys HBY.out (HRr3.out.rowsL.at_ hlt).1).mono ?_
        rintro en w5 ⟨rfl, hB5⟩
        have HB5 := hide (HB3.out.trans (hB5.mono HB3.out.size))
        clear hB5
        go_wp2_with fail
        go_roundw
        case rel => exact ⟨k + 1, by omega, by go_num, HB5⟩
        case measure => simp [iOf]; omega
    · obtain rfl : k = ss.length := by omega
      go_wp2_with fail
      go_ret
      exact ⟨rfl, HB1.out.trans (HB.out.mono HB1.out.size)⟩
end Go.Proofs.Ytcmchnddnglnfaa
