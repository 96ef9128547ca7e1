/-
  The senders: Receive.
-/
import Derived.Test.YthhelhggggbaiaaNext
namespace Go.Proofs.Ythhelhggggbaiaa
open Go.RowKit
set_option linter.unusedVariables false
set_option linter.unusedSimpArgs false

def newBase (n base : Nat) (ack : Bool) (num : Int) : Nat := if ack = true ∧ (base : Int) < num ∧ num ≤ (n : Int) then num.toNat else base
def RecvPost (T : TypeId) (F : Nat → Prop) (w : World) (s : Nat) (fs : List (List UInt8)) (W base nxt : Nat) (e : Ending) (w' : World) : Prop :=
  e = .returned (.tuple #[]) ∧ Chg (fun i => i = s) w w' ∧ Snd T F w' s fs W base nxt

set_option maxHeartbeats 1600000 in
theorem s_recv {F : Nat → Prop} {w : World} {s : Nat} {fs : List (List UInt8)} {W base nxt : Nat} (h : Snd 64 F w s fs W base nxt) (hn : fs.length ≤ 1000) (ack last : Bool) (num : Int) (A : Option Addr) (n c : Nat) :
    Calls Try.prog 15 #[.pointer (some ⟨s, 0, none⟩), .agg #[.bool ack, .int .i64 num, .bool last, .slice A n c]] w (RecvPost 64 F w s fs W (newBase fs.length base ack num) nxt) := by
  obtain ⟨M, hM⟩ : ∃ M, M = Obj.cells #[.bool ack, .int .i64 num, .bool last, .slice A n c] 34 := ⟨_, rfl⟩
  have HS := hide (h.kept ((Below.refl _ _).alloc (Nat.le_refl _) M))
  have HC : Hid (Chg (fun i => i = s) w (w.alloc M)) := (Chg.refl _ _).alloc M
  obtain ⟨w1, hw1⟩ : ∃ w1, w1 = w.alloc M := ⟨_, rfl⟩
  rw [← hw1] at HS HC
  have HX : Hid (Box w1 w.heap.size 34 #[.bool ack, .int .i64 num, .bool last, .slice A n c]) := by rw [hw1, hM]; exact Box.new _ _ _
  rw [hM] at hw1
  have HW := hide hw1
  have hsw := h.here
  have hws : w.heap.size ≠ s := by omega
  have d0 : w1.cell? ⟨w.heap.size, 0, none⟩ = some (.bool ack) := HX.out.cell 0
  have d1 : w1.cell? ⟨w.heap.size, 1, none⟩ = some (.int .i64 num) := HX.out.cell 1
  obtain ⟨A0, c0, hc, c0, c1, c2, c3, hf, hfr⟩ := HS.out.cells
  have f2 := hf 2
  clear hf hfr h hM hw1
  have HE : Hid (newBase fs.length base ack num = newBase fs.length base ack num) := rfl
  generalize hNB : newBase fs.length base ack num = nb at HE ⊢
  have HNB := hide hNB
  clear hNB HE
  rcases (show ack = false ∨ (ack = true ∧ num ≤ (base : Int)) ∨ (ack = true ∧ (base : Int) < num ∧ (fs.length : Int) < num) ∨ (ack = true ∧ (base : Int) < num ∧ num ≤ (fs.length : Int)) by cases ack <;> simp <;> omega) with rfl | ⟨rfl, h1⟩ | ⟨rfl, h1, h2⟩ | ⟨rfl, h1, h2⟩
  · have hnb : Hid (base = nb) := by rw [Hid, ← HNB.out, newBase, if_neg (by simp)]
    go_enter Try.func15, Try.ntmps15
    go_upto_region 1 with fail
    rw [← HW.out]
    go_quiet (fail)
    go_wp2_with fail
    go_end0
    rw [← hnb.out]
    exact ⟨rfl, HC.out.drewN _, HS.out.kept (below_drew (Below.refl _ _) _)⟩
  · have hnb : Hid (base = nb) := by rw [Hid, ← HNB.out, newBase, if_neg (by omega)]
    have hd : decide ((base : Int) < num) = false := decide_eq_false (by omega)
    go_enter Try.func15, Try.ntmps15
    go_upto_region 1 with fail
    rw [← HW.out]
    go_quiet (fail)
    go_wp2_with fail
    go_end0
    rw [← hnb.out]
    exact ⟨rfl, HC.out.drewN _, HS.out.kept (below_drew (Below.refl _ _) _)⟩
  · have hnb : Hid (base = nb) := by rw [Hid, ← HNB.out, newBase, if_neg (by omega)]
    go_enter Try.func15, Try.ntmps15
    go_upto_region 1 with fail
    rw [← HW.out]
    go_quiet (fail)
    go_wp2_with fail
    go_end0
    rw [← hnb.out]
    exact ⟨rfl, HC.out.drewN _, HS.out.kept (below_drew (Below.refl _ _) _)⟩
  · obtain ⟨k, rfl⟩ := Int.eq_ofNat_of_zero_le (show 0 ≤ num by omega)
    have hnb : Hid (k = nb) := by rw [Hid, ← HNB.out, newBase, if_pos ⟨rfl, h1, h2⟩, Int.toNat_natCast]
    go_enter Try.func15, Try.ntmps15
    go_upto_region 1 with fail
    rw [← HW.out]
    go_quiet (fail)
    go_wp2_with fail
    go_end0
    rw [← hnb.out]
    exact ⟨rfl, (HC.out.drewN _).setCell (fun _ => rfl) _ _, (HS.out.kept (below_drew (Below.refl _ _) _)).setBase k⟩

set_option maxHeartbeats 1600000 in
theorem ref_recv {F : Nat → Prop} {w : World} {s : Nat} {fs : List (List UInt8)} {W base nxt : Nat} (h : Snd 31 F w s fs W base nxt) (hn : fs.length ≤ 1000) (ack last : Bool) (num : Int) (A : Option Addr) (n c : Nat) :
    Calls Try.prog 16 #[.pointer (some ⟨s, 0, none⟩), .agg #[.bool ack, .int .i64 num, .bool last, .slice A n c]] w (RecvPost 31 F w s fs W (newBase fs.length base ack num) nxt) := by
  obtain ⟨M, hM⟩ : ∃ M, M = Obj.cells #[.bool ack, .int .i64 num, .bool last, .slice A n c] 34 := ⟨_, rfl⟩
  have HS := hide (h.kept ((Below.refl _ _).alloc (Nat.le_refl _) M))
  have HC : Hid (Chg (fun i => i = s) w (w.alloc M)) := (Chg.refl _ _).alloc M
  obtain ⟨w1, hw1⟩ : ∃ w1, w1 = w.alloc M := ⟨_, rfl⟩
  rw [← hw1] at HS HC
  have HX : Hid (Box w1 w.heap.size 34 #[.bool ack, .int .i64 num, .bool last, .slice A n c]) := by rw [hw1, hM]; exact Box.new _ _ _
  rw [hM] at hw1
  have HW := hide hw1
  have hsw := h.here
  have hws : w.heap.size ≠ s := by omega
  have d0 : w1.cell? ⟨w.heap.size, 0, none⟩ = some (.bool ack) := HX.out.cell 0
  have d1 : w1.cell? ⟨w.heap.size, 1, none⟩ = some (.int .i64 num) := HX.out.cell 1
  obtain ⟨A0, c0, hc, c0, c1, c2, c3, hf, hfr⟩ := HS.out.cells
  have f2 := hf 2
  clear hf hfr h hM hw1
  have HE : Hid (newBase fs.length base ack num = newBase fs.length base ack num) := rfl
  generalize hNB : newBase fs.length base ack num = nb at HE ⊢
  have HNB := hide hNB
  clear hNB HE
  rcases (show ack = false ∨ (ack = true ∧ num ≤ (base : Int)) ∨ (ack = true ∧ (base : Int) < num ∧ (fs.length : Int) < num) ∨ (ack = true ∧ (base : Int) < num ∧ num ≤ (fs.length : Int)) by cases ack <;> simp <;> omega) with rfl | ⟨rfl, h1⟩ | ⟨rfl, h1, h2⟩ | ⟨rfl, h1, h2⟩
  · have hnb : Hid (base = nb) := by rw [Hid, ← HNB.out, newBase, if_neg (by simp)]
    go_enter Try.func16, Try.ntmps16
    go_upto_region 1 with fail
    rw [← HW.out]
    go_quiet (fail)
    go_wp2_with fail
    go_end0
    rw [← hnb.out]
    exact ⟨rfl, HC.out.drewN _, HS.out.kept (below_drew (Below.refl _ _) _)⟩
  · have hnb : Hid (base = nb) := by rw [Hid, ← HNB.out, newBase, if_neg (by omega)]
    have hd : decide ((base : Int) < num) = false := decide_eq_false (by omega)
    go_enter Try.func16, Try.ntmps16
    go_upto_region 1 with fail
    rw [← HW.out]
    go_quiet (fail)
    go_wp2_with fail
    go_end0
    rw [← hnb.out]
    exact ⟨rfl, HC.out.drewN _, HS.out.kept (below_drew (Below.refl _ _) _)⟩
  · have hnb : Hid (base = nb) := by rw [Hid, ← HNB.out, newBase, if_neg (by omega)]
    go_enter Try.func16, Try.ntmps16
    go_upto_region 1 with fail
    rw [← HW.out]
    go_quiet (fail)
    go_wp2_with fail
    go_end0
    rw [← hnb.out]
    exact ⟨rfl, HC.out.drewN _, HS.out.kept (below_drew (Below.refl _ _) _)⟩
  · obtain ⟨k, rfl⟩ := Int.eq_ofNat_of_zero_le (show 0 ≤ num by omega)
    have hnb : Hid (k = nb) := by rw [Hid, ← HNB.out, newBase, if_pos ⟨rfl, h1, h2⟩, Int.toNat_natCast]
    go_enter Try.func16, Try.ntmps16
    go_upto_region 1 with fail
    rw [← HW.out]
    go_quiet (fail)
    go_wp2_with fail
    go_end0
    rw [← hnb.out]
    exact ⟨rfl, (HC.out.drewN _).setCell (fun _ => rfl) _ _, (HS.out.kept (below_drew (Below.refl _ _) _)).setBase k⟩
end Go.Proofs.Ythhelhggggbaiaa
