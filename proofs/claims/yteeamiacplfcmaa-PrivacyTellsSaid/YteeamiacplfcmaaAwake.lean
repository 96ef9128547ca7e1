/-
  electionlaw42.Awake: the example of the chapter holds.
-/
import Derived.Test.YteeamiacplfcmaaCellA
namespace Go.Proofs.Yteeamiacplfcmaa
open Go.RowKit
set_option linter.unusedVariables false
set_option linter.unusedSimpArgs false

theorem ex_merge : mergeV 3 [([0], [([], 1)]), ([1], [([], 1), ([0], 4)]), ([2], [([], 1), ([0], 5)])] = ([([0, 1], [([], 2), ([0], 4)]), ([2], [([], 1), ([0], 5)])], 0) := by decide +kernel
theorem ex_pile : pileOk 7 [([], 2), ([0], 4)] = true := by decide +kernel
theorem ex_safe : safeC 6 ([2], [([], 1), ([0], 5)]) = true := by decide +kernel
theorem cels3 {w : World} {b : Nat} {t : TypeId} {x0 x1 y0 y1 z0 z1 : Value} {x y z : Cel} (hX : Box w b t #[x0, x1, y0, y1, z0, z1]) (hx : CelE (All w) w x0 x1 x) (hy : CelE (All w) w y0 y1 y) (hz : CelE (All w) w z0 z1 z) : Cels w (some ⟨b, 0, none⟩) [x, y, z] := fun _ =>
  ⟨b, 0, rfl, hX.lt, fun k hk => by
    have hk3 : k < 3 := hk
    rcases (show k = 0 ∨ k = 1 ∨ k = 2 by omega) with rfl | rfl | rfl
    · exact ⟨x0, x1, hX.cell 0, hX.cell 1, hx⟩
    · exact ⟨y0, y1, hX.cell 2, hX.cell 3, hy⟩
    · exact ⟨z0, z1, hX.cell 4, hX.cell 5, hz⟩⟩
theorem Cell3.all {B : Nat} {w w' : World} {v0 v1 : Value} {c : Cel} (h : Cell3 B w v0 v1 c) (hb : Below w.heap.size w w') : CelE (All w') w' v0 v1 c :=
  goodC.mono (goodC.agree h fun i hi => hb.block i hi.2) fun i hi => Nat.lt_of_lt_of_le hi.2 hb.size
theorem ints2 {w : World} {b : Nat} {t : TypeId} {x y : Int} (hX : Box w b t #[.int .i64 x, .int .i64 y]) : Ints w (some ⟨b, 0, none⟩) [x, y] := fun _ => ⟨b, 0, rfl, hX.lt, fun k hk => by
  have hk2 : k < 2 := hk
  rcases (show k = 0 ∨ k = 1 by omega) with rfl | rfl
  · exact hX.cell 0
  · exact hX.cell 1⟩
set_option maxHeartbeats 4000000 in
set_option maxRecDepth 100000 in
theorem awake_any (w : World) : Calls Try.prog 13 #[] w fun e w' => e = .returned (.bool true) ∧ Below w.heap.size w w' := by
  have H0 := hide (cell_one (p := 0) (w := w) (by unfold InI; omega))
  have H1 := hide (fun wq => cell_more (p := 1) (k := 5) (w := wq) (by unfold InI; omega) (by omega))
  have H2 := hide (fun wq => cell_more (p := 2) (k := 6) (w := wq) (by unfold InI; omega) (by omega))
  go_enter Try.func13, Try.ntmps13
  go_wp2_with fail
  refine H0.out.mono ?_
  rintro e w1 ⟨x0, x1, rfl, hx, hb1⟩
  go_wp2_with fail
  refine (H1.out _).mono ?_
  rintro e w2 ⟨y0, y1, rfl, hy, hb2⟩
  go_wp2_with fail
  refine (H2.out _).mono ?_
  rintro e w3 ⟨z0, z1, rfl, hz, hb3⟩
  have hX := Box.new w3 34 #[x0, x1, y0, y1, z0, z1]
  have hb4 : Below w3.heap.size w3 (w3.alloc (.cells #[x0, x1, y0, y1, z0, z1] 34)) := (Below.refl _ _).alloc (Nat.le_refl _) _
  have hB4 : Below w.heap.size w (w3.alloc (.cells #[x0, x1, y0, y1, z0, z1] 34)) := below_then (below_then (below_then hb1 hb2) hb3) hb4
  have HM := hide (pcmerge_any (c := 3) (least := 3) (cels3 hX (hx.all (below_then (below_then hb2 hb3) hb4)) (hy.all (below_then hb3 hb4)) (hz.all hb4)) (by simp) (by unfold InI; omega))
  have e1 : (5 : Int) - 1 = 4 := rfl
  have e2 : (6 : Int) - 1 = 5 := rfl
  rw [e1, e2, ex_merge] at HM
  have HB4 := hide hB4
  clear hx hy hz hb1 hb2 hb3 hX hb4 hB4 e1 e2
  go_wp2_with fail
  refine HM.out.mono ?_
  rintro e w5 ⟨v5, rfl, hO5, hb5⟩
  obtain ⟨A5, c5, rfl, hc5, hq5, hP5⟩ := hO5.shape goodC
  obtain ⟨b, off, k0, k1, k2, k3, rfl, hlt, h0, h1, h2, h3, hc0, hc1⟩ : ∃ b off k0 k1 k2 k3, A5 = some ⟨b, off, none⟩ ∧ b < w5.heap.size ∧ w5.cell? ⟨b, off, none⟩ = some k0 ∧ w5.cell? ⟨b, off + 1, none⟩ = some k1 ∧ w5.cell? ⟨b, off + 2, none⟩ = some k2 ∧ w5.cell? ⟨b, off + 3, none⟩ = some k3 ∧ CelE (All w5) w5 k0 k1 ([0, 1], [([], 2), ([0], 4)]) ∧ CelE (All w5) w5 k2 k3 ([2], [([], 1), ([0], 5)]) := by
    obtain ⟨b, off, e, hb, hc⟩ := hP5 (by simp)
    obtain ⟨k0, k1, g0, g1, g2⟩ := hc 0 (by simp)
    obtain ⟨k2, k3, g3, g4, g5⟩ := hc 1 (by simp)
    exact ⟨b, off, k0, k1, k2, k3, e, hb, g0, g1, g3, g4, g2, g5⟩
  obtain ⟨P0, pc0, G0, gd0, rfl, hpc0, hpm0, hpi0, hpI0, rfl, hgd0, hgm0, hgG0⟩ := hc0
  simp only [] at *
  have HB5 := hide (below_then HB4.out hb5)
  have HT0 := hide hgG0
  have HC1 := hide (show Cell2 w5 k2 k3 _ from hc1)
  have HI := hide hpI0
  clear hO5 hq5 hP5 hgG0 hc1 hpI0 hpi0 hb5
  have hX6 := Box.new w5 3 #[.int .i64 0, .int .i64 1]
  have hb6 : Below w5.heap.size w5 (w5.alloc (.cells #[.int .i64 0, .int .i64 1] 3)) := (Below.refl _ _).alloc (Nat.le_refl _) _
  have HEq := hide (eq_any (c := pc0) (d := 2) (HI.out.ints (fun i hi => hi) |>.below hb6) (ints2 hX6) (by simp) (by simp) (fun y hy => by simp at hy; unfold InI; rcases hy with rfl | rfl <;> omega) (fun y hy => by simp at hy; unfold InI; rcases hy with rfl | rfl <;> omega))
  have HB6 := hide hb6
  clear hX6 hb6
  go_wp2_with fail
  refine HEq.out.mono ?_
  rintro e w7 ⟨rfl, hd7⟩
  have hb7 : Below w5.heap.size w5 w7 := below_then HB6.out hd7.below
  have g1 := (hb7.cell (p := ⟨b, off + 1, none⟩) hlt).trans h1
  have HTo := hide (total_any (c := gd0) (HT0.out.agree goodG (Agree.all hb7) |>.mono goodG fun i hi => Nat.lt_of_lt_of_le hi hb7.size) ex_pile)
  have HB7 := hide hb7
  clear hd7 hb7
  rw [show sumN [([], 2), ([0], 4)] = 6 from rfl] at HTo
  go_wp2_with fail
  refine HTo.out.mono ?_
  rintro e w8 ⟨rfl, hb8⟩
  have hb9 := below_then HB7.out hb8
  have g2 := (hb9.cell (p := ⟨b, off + 2, none⟩) hlt).trans h2
  have g3 := (hb9.cell (p := ⟨b, off + 3, none⟩) hlt).trans h3
  have HSf := hide (psafe_any (least := 6) (HC1.out.below hb9) (by unfold InI; omega))
  rw [ex_safe] at HSf
  have HB9 := hide (below_then HB5.out hb9)
  clear hb8 hb9
  go_wp2_with fail
  refine HSf.out.mono ?_
  rintro e w10 ⟨rfl, hb10⟩
  have HB10 := hide (below_then HB9.out hb10)
  clear hb10
  go_wp2_with fail
  go_ret
  exact ⟨rfl, HB10.out⟩
end Go.Proofs.Yteeamiacplfcmaa
