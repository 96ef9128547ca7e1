/-
  NewSender.
-/
import Derived.Test.YthhelhggggbaiaaSRecv
import Derived.Test.YthhelhggggbaiaaCopies
namespace Go.Proofs.Ythhelhggggbaiaa
open Go.RowKit
set_option linter.unusedVariables false
set_option linter.unusedSimpArgs false

/-- a new sender -/
def NewSnd (w : World) (fs : List (List UInt8)) (W : Nat) (e : Ending) (w' : World) : Prop :=
  ∃ s, e = .returned (.tuple #[.pointer (some ⟨s, 0, none⟩), .int .i64 0]) ∧ w.heap.size ≤ s ∧ Below w.heap.size w w' ∧ Snd 64 (fun i => w.heap.size ≤ i ∧ i < w'.heap.size) w' s fs W 0 0

set_option maxHeartbeats 1600000 in
theorem newsender_ok (A : Option Addr) (c : Nat) (fs : List (List UInt8)) (W : Nat) (w : World) (hf : Fr w A fs) (hl0 : 1 ≤ fs.length) (hl : fs.length ≤ 1000) (hb : ∀ k, k < fs.length → (fs.getD k []).length ≤ 4096) (hW0 : 1 ≤ W) (hW : W ≤ 8) :
    Calls Try.prog 11 #[.slice A fs.length c, .int .i64 (W : Int)] w (NewSnd w fs W) := by
  have HF := hide hf
  have HB := hide hb
  have t0 : ((fs.length : Int) == 0) = false := beq_eq_false_iff_ne.2 (by omega)
  clear hf hb
  go_enter Try.func11, Try.ntmps11
  go_wp2_with fail
  go_loop [16] (fun i => ∃ k : Nat, k ≤ fs.length ∧ i = .int .i64 k) (fun i => fs.length - (intOf i).toNat)
  case atStart => exact ⟨0, Nat.zero_le _, rfl⟩
  case round =>
    obtain ⟨k, hk, rfl⟩ := hrel
    by_cases hlt : k < fs.length
    · obtain ⟨b, off, Ak, ck, rfl, hb1, q, hbys, hck⟩ := HF.out.at_ hlt
      have hL := HB.out k hlt
      generalize hfk : fs.getD k [] = fk at *
      clear hfk hbys
      go_wp2_with fail
      go_round
      case rel => exact ⟨k + 1, by omega, by go_num⟩
      case measure => simp [intOf]; omega
    · go_wp2_with fail
      refine (possible_any _ _).mono ?_
      rintro e w1 ⟨rfl, rfl⟩
      have p1 : decide ((1 : Int) ≤ (W : Int)) = true := decide_eq_true (by omega)
      have p2 : decide ((W : Int) ≤ 8) = true := decide_eq_true (by omega)
      rw [p1, p2]
      go_wp2_with fail
      refine (copies_any A c fs _ HF.out (by omega) (fun k hk => by have := HB.out k hk; omega)).mono ?_
      rintro e w1 ⟨v, r, cc, rfl, hO, hBl⟩
      obtain ⟨A2, c2, rfl, hc2, hFr⟩ := hO.frIn
      have HFr := hide hFr
      have HBl := hide hBl
      clear hO hFr hBl
      go_wp2_with fail
      go_ret2
      have hsz := HBl.out.size
      refine ⟨w1.heap.size, rfl, hsz, HBl.out.alloc hsz _, ⟨⟨A2, c2, hc2, Box.new _ _ _, ?_⟩, ⟨hsz, by simp⟩, fun i hi => hi.2⟩⟩
      refine FrIn.mono (FrIn.agree HFr.out (b := w1.alloc _) ?_) fun i hi => ⟨⟨hi.1, by simp; omega⟩, by omega⟩
      exact fun i hi => Below.heap_alloc _ _ _ hi.2

def NoSnd (w : World) (k : Int) (e : Ending) (w' : World) : Prop := e = .returned (.tuple #[.pointer none, .int .i64 k]) ∧ Below w.heap.size w w'
theorem newsender_none (A : Option Addr) (c : Nat) (W : Int) (w : World) : Calls Try.prog 11 #[.slice A 0 c, .int .i64 W] w (NoSnd w 6) := by
  go_enter Try.func11, Try.ntmps11
  go_wp2_with fail
  go_ret2
  exact ⟨rfl, Below.refl _ _⟩
theorem newsender_many (A : Option Addr) (n c : Nat) (W : Int) (w : World) (hn : 1000 < n) (hm : n ≤ maxLen) : Calls Try.prog 11 #[.slice A n c, .int .i64 W] w (NoSnd w 7) := by
  unfold maxLen at hm
  have t0 : ((n : Int) == 0) = false := beq_eq_false_iff_ne.2 (by omega)
  go_enter Try.func11, Try.ntmps11
  go_wp2_with fail
  go_ret2
  exact ⟨rfl, Below.refl _ _⟩
end Go.Proofs.Ythhelhggggbaiaa
