/-
  blank, New, set, each: what they do.
-/
import Derived.Test.YtebahhmajllmnaaGet
namespace Go.Proofs.Ytebahhmajllmnaa
open Go.RowKit
set_option linter.unusedVariables false

/-- a new image over a block of its own -/
def Fresh (w : World) (W H : Nat) (bs : List UInt8) (e : Ending) (w' : World) : Prop :=
  ∃ g c, w.heap.size ≤ g ∧ e = .returned (.agg #[.int .i64 (W : Int), .int .i64 (H : Int), .slice (some ⟨g, 0, none⟩) bs.length c]) ∧ Row w' g bs ∧ Below w.heap.size w w'

set_option maxHeartbeats 400000 in
theorem blank_any (W H : Nat) (w : World) (hW : W ≤ 512) (hH : H ≤ 512) :
    Calls Try.prog 35 #[.int .i64 (W : Int), .int .i64 (H : Int)] w (Fresh w W H (pack (W * H) fun _ => false)) := by
  have gp := size_bd hW hH
  have hp0 : (0 : Int) ≤ (W : Int) * (H : Int) := by rw [← Int.natCast_mul]; omega
  have hp1 : (W : Int) * (H : Int) ≤ 262144 := by rw [← Int.natCast_mul]; omega
  have hmk : ∀ w : World, (Instr.makeSlice 22 (.int .i64 (((W : Int) * (H : Int) + 7) / 8)) (.int .i64 (((W : Int) * (H : Int) + 7) / 8))).run Try.prog w =
      .ok (.slice (some ⟨w.heap.size, 0, none⟩) ((W * H + 7) / 8) ((W * H + 7) / 8)) (w.alloc (.cells (madeCells #[.int .u8 0] ((W * H + 7) / 8)) 5)) := fun w => by
    have e : ((W : Int) * (H : Int) + 7) / 8 = (((W * H + 7) / 8 : Nat) : Int) := by rw [← Int.natCast_mul]; omega
    rw [e]
    exact run_make_row' 22 5 (.int .u8 0) 1 Try.underlying22 u8info rfl .i64 .i64 _ (by omega) (by omega) w
  have hpk : Hid (pack (W * H) (fun _ => false) = List.replicate ((W * H + 7) / 8) 0) := pack_false _
  clear gp
  generalize (W * H + 7) / 8 = n at *
  go_enter Try.func35, Try.ntmps35
  go_wp2
  refine bodyPost_ret (v := .agg #[.int .i64 (W : Int), .int .i64 (H : Int), .slice (some ⟨w.heap.size + 1, 0, none⟩) n n]) (by simp [results, Try.results35, go_sem]) rfl ?_
  refine ⟨w.heap.size + 1, n, by omega, ?_, ?_, ((Below.refl _ _).alloc (Nat.le_refl _) _).alloc (by simp) _⟩
  · rw [hpk.out, List.length_replicate]
  · rw [hpk.out]
    have h := Row.made (w.alloc (.cells #[.int .i64 (W : Int), .int .i64 (H : Int), .slice (some ⟨w.heap.size + 1, 0, none⟩) n n] 24)) n
    rw [World.size_alloc] at h
    exact h

/-- a new image and a bool or an error code -/
def Fresh2 (w : World) (W H : Nat) (bs : List UInt8) (r : Value) (e : Ending) (w' : World) : Prop :=
  ∃ g c, w.heap.size ≤ g ∧ e = .returned (.tuple #[.agg #[.int .i64 (W : Int), .int .i64 (H : Int), .slice (some ⟨g, 0, none⟩) bs.length c], r]) ∧ Row w' g bs ∧ Below w.heap.size w w'
def zeroIm : Value := .agg #[.int .i64 0, .int .i64 0, .slice none 0 0]

set_option maxHeartbeats 400000 in
theorem new_yes (W H : Nat) (w : World) (hW1 : 1 ≤ W) (hW : W ≤ 512) (hH1 : 1 ≤ H) (hH : H ≤ 512) :
    Calls Try.prog 13 #[.int .i64 (W : Int), .int .i64 (H : Int)] w (Fresh2 w W H (pack (W * H) fun _ => false) (.int .i64 0)) := by
  have a1 : (1 : Int) ≤ (W : Int) := by omega
  have a2 : (W : Int) ≤ 512 := by omega
  have a3 : (1 : Int) ≤ (H : Int) := by omega
  have a4 : (H : Int) ≤ 512 := by omega
  go_enter Try.func13, Try.ntmps13
  go_wp2_with (go_at_call 35; refine (blank_any W H _ hW hH).mono ?_; rintro e w1 ⟨g, gc, hg, rfl, hrow, hb1⟩; obtain ⟨c0, c1, c2⟩ := box3 hb1; obtain ⟨f0, f1, f2, hs⟩ := boxf hb1)
  have hg' : w.heap.size + 1 ≤ g := by simpa using hg
  refine bodyPost_ret (v := .tuple #[.agg #[.int .i64 (W : Int), .int .i64 (H : Int), .slice (some ⟨g, 0, none⟩) (pack (W * H) fun _ => false).length gc], .int .i64 0]) (by simp [results, Try.results13, go_sem, c0, c1, c2]) rfl ?_
  exact ⟨g, gc, by omega, rfl, ((hrow.far (by simp; omega) _).far (by simp; omega) _).far (by simp; omega) _, (((below_box hb1).setCell (by simp) _).setCell (by simp) _).setCell (by simp) _⟩
set_option maxHeartbeats 400000 in
theorem new_no (W H : Int) (w : World) (h : W < 1 ∨ 512 < W ∨ H < 1 ∨ 512 < H) :
    Calls Try.prog 13 #[.int .i64 W, .int .i64 H] w fun e w' => e = .returned (.tuple #[zeroIm, .int .i64 4]) ∧ Below w.heap.size w w' := by
  by_cases h1 : W < 1
  · go_enter Try.func13, Try.ntmps13
    go_wp2
    exact bodyPost_ret (v := .tuple #[zeroIm, .int .i64 4]) (by simp [results, Try.results13, go_sem, zeroIm]) rfl ⟨rfl, (Below.refl _ _).alloc (Nat.le_refl _) _⟩
  by_cases h2 : 512 < W
  · go_enter Try.func13, Try.ntmps13
    go_wp2
    exact bodyPost_ret (v := .tuple #[zeroIm, .int .i64 4]) (by simp [results, Try.results13, go_sem, zeroIm]) rfl ⟨rfl, (Below.refl _ _).alloc (Nat.le_refl _) _⟩
  by_cases h3 : H < 1
  · go_enter Try.func13, Try.ntmps13
    go_wp2
    exact bodyPost_ret (v := .tuple #[zeroIm, .int .i64 4]) (by simp [results, Try.results13, go_sem, zeroIm]) rfl ⟨rfl, (Below.refl _ _).alloc (Nat.le_refl _) _⟩
  · have h4 : 512 < H := by omega
    clear h
    go_enter Try.func13, Try.ntmps13
    go_wp2
    exact bodyPost_ret (v := .tuple #[zeroIm, .int .i64 4]) (by simp [results, Try.results13, go_sem, zeroIm]) rfl ⟨rfl, (Below.refl _ _).alloc (Nat.le_refl _) _⟩

/-- the pixel z is set to 'on' in the packed block g -/
def SetAt (w : World) (g N : Nat) (f : Nat → Bool) (z : Nat) (on : Bool) (e : Ending) (w' : World) : Prop :=
  e = .returned (.tuple #[]) ∧ Row w' g (pack N fun j => if j = z then on else f j) ∧ w.grownBy w' (some g)
set_option maxHeartbeats 800000 in
theorem set_any (W H : Int) (g c N : Nat) (f : Nat → Bool) (z : Int) (on : Bool) (w : World) (hr : Row w g (pack N f)) (hz : 0 ≤ z) (hk : z < N) (hN : N ≤ 262144) :
    Calls Try.prog 41 #[.agg #[.int .i64 W, .int .i64 H, .slice (some ⟨g, 0, none⟩) (pack N f).length c], .int .i64 z, .bool on] w (SetAt w g N f z.toNat on) := by
  obtain ⟨k, rfl⟩ := Int.eq_ofNat_of_zero_le hz
  rw [Int.toNat_natCast]
  have hl := length_pack N f
  have hkl : k / 8 < (pack N f).length := by omega
  obtain ⟨x, hx, hX, hc⟩ := hr.at_ hkl
  have hf := hr.frozen (k / 8)
  have hlt := hr.lt
  have hx0 : (0 : Int) ≤ (x : Int) := by omega
  have hx1 : (x : Int) ≤ 255 := by omega
  have hm : (pack N f).length ≤ 1000000 := by omega
  have K := hide (show k < N by omega)
  have HR := hide hr
  clear hl hr
  cases on
  · obtain ⟨y, hy1, hy2⟩ := andnot_byte x (k % 8) hx (by omega)
    have HY := hide hy1
    have HP := hide (pack_set (n := N) (f := f) (b := false) (y := y) K.out (fun t ht => by rw [hy2 t ht, hX.out]))
    clear hy1 hy2 hX
    generalize (pack N f).length = n at *
    go_enter Try.func41, Try.ntmps41
    go_wp2
    go_end0
    rw [HY.out]
    exact ⟨rfl, by rw [← HP.out]; exact (HR.out.set (by rw [length_pack]; have := K.out; omega) y).alloc _, grown_alloc (grown_setCell (grown_refl _ _) _ _) _⟩
  · obtain ⟨y, hy1, hy2⟩ := or_byte x (k % 8) hx (by omega)
    have HY := hide hy1
    have HP := hide (pack_set (n := N) (f := f) (b := true) (y := y) K.out (fun t ht => by rw [hy2 t ht, hX.out]))
    clear hy1 hy2 hX
    generalize (pack N f).length = n at *
    go_enter Try.func41, Try.ntmps41
    go_wp2
    go_end0
    rw [HY.out]
    exact ⟨rfl, by rw [← HP.out]; exact (HR.out.set (by rw [length_pack]; have := K.out; omega) y).alloc _, grown_alloc (grown_setCell (grown_refl _ _) _ _) _⟩
end Go.Proofs.Ytebahhmajllmnaa
