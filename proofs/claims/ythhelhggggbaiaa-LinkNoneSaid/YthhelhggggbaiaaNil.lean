/-
  The senders and receivers that are not there; NewSender of what is not allowed.
-/
import Derived.Test.YthhelhggggbaiaaRRecv
import Derived.Test.YthhelhggggbaiaaNewS
namespace Go.Proofs.Ythhelhggggbaiaa
open Go.RowKit
set_option linter.unusedVariables false
set_option linter.unusedSimpArgs false

theorem done_nil (w : World) : Calls Try.prog 17 #[.pointer none] w fun e w' => e = .returned (.bool true) ∧ ∃ n, w' = w.drewN n := by
  go_enter Try.func17, Try.ntmps17
  go_wp2
  go_quiet (fail)
  go_wp2
  go_ret
  exact ⟨rfl, _, rfl⟩
theorem complete_nil (w : World) : Calls Try.prog 26 #[.pointer none] w fun e w' => e = .returned (.bool false) ∧ ∃ n, w' = w.drewN n := by
  go_enter Try.func26, Try.ntmps26
  go_wp2
  go_quiet (fail)
  go_wp2
  go_ret
  exact ⟨rfl, _, rfl⟩
theorem next_nil (w : World) : Calls Try.prog 12 #[.pointer none] w (NoMsg w) := by
  go_enter Try.func12, Try.ntmps12
  go_wp2_with fail
  refine (done_nil _).mono ?_
  rintro e w1 ⟨rfl, n, rfl⟩
  go_wp2_with fail
  refine bodyPost_ret (v := .tuple #[.agg #[.bool false, .int .i64 0, .bool false, .slice none 0 0], .bool false]) (by simp [results, Try.results12, go_sem]) rfl ⟨rfl, ?_⟩
  first | exact Below.set4 (below_drew ((Below.refl _ _).alloc (Nat.le_refl _) _) _) (Nat.le_refl _) _ _ _ _ | exact below_drew ((Below.refl _ _).alloc (Nat.le_refl _) _) _
theorem srecv_nil (w : World) (ack last : Bool) (num : Int) (A : Option Addr) (n c : Nat) : Calls Try.prog 15 #[.pointer none, .agg #[.bool ack, .int .i64 num, .bool last, .slice A n c]] w fun e w' => e = .returned (.tuple #[]) ∧ Below w.heap.size w w' := by
  go_enter Try.func15, Try.ntmps15
  go_wp2_with fail
  go_quiet (fail)
  go_wp2_with fail
  go_end0
  exact ⟨rfl, below_drew ((Below.refl _ _).alloc (Nat.le_refl _) _) _⟩
theorem receive_nil (w : World) (ack last : Bool) (num : Int) (A : Option Addr) (n c : Nat) : Calls Try.prog 21 #[.pointer none, .agg #[.bool ack, .int .i64 num, .bool last, .slice A n c]] w (NoMsg w) := by
  go_enter Try.func21, Try.ntmps21
  go_wp2_with fail
  refine bodyPost_ret (v := .tuple #[.agg #[.bool false, .int .i64 0, .bool false, .slice none 0 0], .bool false]) (by simp [results, Try.results21, go_sem]) rfl ⟨rfl, ?_⟩
  exact ((Below.refl _ _).alloc (Nat.le_refl _) _).alloc (by simp) _
theorem rframes_nil (w : World) : Calls Try.prog 22 #[.pointer none] w fun e w' => e = .returned (.slice none 0 0) ∧ Below w.heap.size w w' := by
  go_enter Try.func22, Try.ntmps22
  go_wp2_with fail
  go_ret
  exact ⟨rfl, Below.refl _ _⟩
theorem newsender_no (A : Option Addr) (c : Nat) (fs : List (List UInt8)) (W : Int) (w : World) (hf : Fr w A fs) (hl0 : 1 ≤ fs.length) (hl : fs.length ≤ 1000) (hb : ∀ k, k < fs.length → (fs.getD k []).length ≤ 4096) (hW : ¬ (1 ≤ W ∧ W ≤ 8)) :
    Calls Try.prog 11 #[.slice A fs.length c, .int .i64 W] w (NoSnd w 4) := by
  have HF := hide hf
  have HB := hide hb
  have t0 : ((fs.length : Int) == 0) = false := beq_eq_false_iff_ne.2 (by omega)
  have p : (decide ((1 : Int) ≤ W) && decide (W ≤ 8)) = false := by
    rw [Bool.and_eq_false_iff, decide_eq_false_iff_not, decide_eq_false_iff_not]
    omega
  clear hf hb
  go_enter Try.func11, Try.ntmps11
  go_wp2_with fail
  go_loop [16] (fun i => ∃ k : Nat, k ≤ fs.length ∧ i = .int .i64 k) (fun i => fs.length - (intOf i).toNat)
  case atStart => exact ⟨0, Nat.zero_le _, rfl⟩
  case round =>
    obtain ⟨k, hk, rfl⟩ := hrel
    by_cases hlt : k < fs.length
    · obtain ⟨b, off, Ak, ck, rfl, hb1, q, hbys, hck⟩ := HF.out.at_ hlt
      have hL := HB.out k hlt
      generalize hfk : fs.getD k [] = fk at *
      clear hfk hbys
      go_wp2_with fail
      go_round
      case rel => exact ⟨k + 1, by omega, by go_num⟩
      case measure => simp [intOf]; omega
    · go_wp2_with fail
      refine (possible_any _ _).mono ?_
      rintro e w1 ⟨rfl, rfl⟩
      rw [p]
      go_wp2_with fail
      go_ret2
      exact ⟨rfl, Below.refl _ _⟩
theorem newsender_long (b off c n cap : Nat) (B : Option Addr) (W : Int) (w : World) (hc : w.cell? ⟨b, off, none⟩ = some (.slice B n cap)) (hn : 4096 < n) (hm : n ≤ 100000) :
    Calls Try.prog 11 #[.slice (some ⟨b, off, none⟩) 1 c, .int .i64 W] w (NoSnd w 7) := by
  go_enter Try.func11, Try.ntmps11
  go_wp2_with fail
  go_loop [16] (fun i => i = .int .i64 0) (fun i => 1 - (intOf i).toNat)
  case atStart => rfl
  case round =>
    subst hrel
    have t1 : (4096 : Int) < (n : Int) := by omega
    go_wp2_with fail
    go_ret2
    exact ⟨rfl, Below.refl _ _⟩
end Go.Proofs.Ythhelhggggbaiaa
