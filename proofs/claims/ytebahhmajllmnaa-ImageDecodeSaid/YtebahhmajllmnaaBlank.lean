/-
  The reference's Blank, Shift and Turn.
-/
import Derived.Test.YtebahhmajllmnaaClose
namespace Go.Proofs.Ytebahhmajllmnaa
open Go.RowKit
set_option linter.unusedVariables false
set_option linter.unusedSimpArgs false

def BlankRel (w : World) (W H y : Nat) (wr : World) : Prop :=
  ∃ bk, Box wr w.heap.size 57 (rowsV W bk y ++ List.replicate (H - y) (Value.slice none 0 0)).toArray ∧ Rws wr w.heap.size y W bk (fun _ _ => false) ∧ (∀ k, k < y → bk k ≠ w.heap.size) ∧ Below w.heap.size w wr
theorem BlankRel.start (w : World) (W H : Nat) : BlankRel w W H 0 (w.alloc (.cells (madeCells #[.slice none 0 0] H) 57)) := by
  refine ⟨fun _ => 0, ?_, Rws.nil _ _ _ _ _, fun k hk => absurd hk (by omega), (Below.refl _ _).alloc (Nat.le_refl _) _⟩
  have e : madeCells #[Value.slice none 0 0] H = (rowsV W (fun _ => 0) 0 ++ List.replicate (H - 0) (Value.slice none 0 0)).toArray := by
    apply Array.toList_inj.1
    rw [toList_madeCells_one]
    simp [rowsV]
  rw [e]
  exact Box.new _ _ _
theorem BlankRel.step {w wr : World} {W H y : Nat} (h : BlankRel w W H y wr) (hy : y < H) :
    BlankRel w W H (y + 1) ((wr.setCell ⟨w.heap.size, y, none⟩ (.slice (some ⟨wr.heap.size, 0, none⟩) W W)).alloc (.cells (madeCells #[.bool false] W) 4)) := by
  obtain ⟨bk, h1, h2, h3, h4⟩ := h
  have hlt := h1.lt
  have hb := Bools.made (wr.setCell ⟨w.heap.size, y, none⟩ (.slice (some ⟨wr.heap.size, 0, none⟩) W W)) W
  have hsz : (wr.setCell ⟨w.heap.size, y, none⟩ (.slice (some ⟨wr.heap.size, 0, none⟩) W W)).heap.size = wr.heap.size := by simp [World.setCell]
  rw [hsz] at hb
  refine ⟨fun k => if k = y then wr.heap.size else bk k, ?_, ?_, ?_, (h4.setCell (by simp) _).alloc (by rw [hsz]; exact h4.size) _⟩
  · have := (h1.set y (.slice (some ⟨wr.heap.size, 0, none⟩) W W)).alloc (.cells (madeCells #[.bool false] W) 4)
    have e : ((rowsV W bk y ++ List.replicate (H - y) (Value.slice none 0 0)).toArray.setIfInBounds y (.slice (some ⟨wr.heap.size, 0, none⟩) W W)) =
        (rowsV W (fun k => if k = y then wr.heap.size else bk k) (y + 1) ++ List.replicate (H - (y + 1)) (Value.slice none 0 0)).toArray := by
      apply Array.toList_inj.1
      rw [← rowsV_push]
      have hl : (rowsV W bk y).length = y := by simp [rowsV]
      obtain ⟨m, hm⟩ : ∃ m, H - y = m + 1 := ⟨H - y - 1, by omega⟩
      rw [hm, List.replicate_succ, show H - (y + 1) = m by omega]
      simp [List.set_append, hl]
    rw [e] at this
    exact this
  · have hfar := h2.far (p := ⟨w.heap.size, y, none⟩) (fun k hk => h3 k hk) (.slice (some ⟨wr.heap.size, 0, none⟩) W W)
    have hpush := (hfar.alloc (.cells (madeCells #[.bool false] W) 4)).push (b := wr.heap.size) h4.size hb (fun k hk e => by have := h2.lt hk; omega)
    exact hpush.congr fun k c _ _ => by by_cases e : k = y <;> simp [e]
  · intro k hk
    by_cases e : k = y
    · simp only [e, if_true]; omega
    · simp only [e, if_false]; exact h3 k (by omega)

def GridPost (w : World) (W H : Nat) (g : Nat → Nat → Bool) (e : Ending) (w' : World) : Prop := ∃ v, e = .returned v ∧ Grid w' w.heap.size v H W g ∧ Below w.heap.size w w'

set_option maxHeartbeats 1600000 in
theorem blankrows_any (W H : Nat) (w : World) (hW : W ≤ 512) (hH1 : 1 ≤ H) (hH : H ≤ 512) :
    Calls Try.prog 47 #[.int .i64 (W : Int), .int .i64 (H : Int)] w (GridPost w W H fun _ _ => false) := by
  have hmk : ∀ w : World, (Instr.makeSlice 57 (.int .i64 (W : Int)) (.int .i64 (W : Int))).run Try.prog w = .ok (.slice (some ⟨w.heap.size, 0, none⟩) W W) (w.alloc (.cells (madeCells #[.bool false] W) 4)) := fun w =>
    run_make_row' 57 4 (.bool false) 1 Try.underlying57 boolinfo rfl .i64 .i64 W (by omega) (by omega) w
  have hmk2 : ∀ w : World, (Instr.makeSlice 54 (.int .i64 (H : Int)) (.int .i64 (H : Int))).run Try.prog w = .ok (.slice (some ⟨w.heap.size, 0, none⟩) H H) (w.alloc (.cells (madeCells #[.slice none 0 0] H) 57)) := fun w =>
    run_make_row' 54 57 (.slice none 0 0) 24 Try.underlying54 rowinfo rfl .i64 .i64 H (by omega) (by omega) w
  have a3 : (1 : Int) ≤ (H : Int) := by omega
  have a4 : (H : Int) ≤ 512 := by omega
  go_enter Try.func47, Try.ntmps47
  go_wp2_with fail
  go_loopw [6] (fun i wr => ∃ y : Nat, y ≤ H ∧ i = .int .i64 y ∧ Hid (BlankRel w W H y wr)) (fun i _ => H - (intOf i).toNat)
  case atStart => exact ⟨0, by omega, rfl, BlankRel.start w W H⟩
  case round =>
    obtain ⟨y, hy, rfl, hR⟩ := hrel
    by_cases hlt : y < H
    · have HR2 := hide (hR.out.step hlt)
      have z0 : wr.cell? ⟨w.heap.size, y, none⟩ = some (.slice none 0 0) := by
        obtain ⟨bk, h1, _⟩ := hR.out
        rw [h1.cell]
        have hl : (rowsV W bk y).length = y := by simp [rowsV]
        have h9 : (rowsV W bk y ++ List.replicate (H - y) (Value.slice none 0 0))[y]? = some (.slice none 0 0) := by
          rw [List.getElem?_append_right (by omega), hl, List.getElem?_replicate, if_pos (by omega)]
        rw [List.getElem?_toArray]
        exact h9
      have zf : wr.frozen? ⟨w.heap.size, y, none⟩ = false := by
        obtain ⟨bk, h1, _⟩ := hR.out
        exact h1.frozen y
      have zl : w.heap.size < wr.heap.size := by
        obtain ⟨bk, h1, _⟩ := hR.out
        exact h1.lt
      go_wp2_with fail
      go_roundw
      case rel => exact ⟨y + 1, by omega, by go_num, HR2⟩
      case measure => simp [intOf]; omega
    · obtain rfl : H = y := by omega
      go_wp2_with fail
      go_ret
      obtain ⟨bk, h1, h2, h3, h4⟩ := hR.out
      refine ⟨_, rfl, ⟨w.heap.size, H, bk, rfl, Nat.le_refl _, h1.lt, fun k hk => ?_, h3, h2⟩, h4⟩
      rw [h1.cell]
      simp [rowsV, List.getElem?_append, hk]
end Go.Proofs.Ytebahhmajllmnaa
