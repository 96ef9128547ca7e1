/-
  Awake: the sanity check returns true.
-/
import Derived.Test.YtebahhmajllmnaaCount
namespace Go.Proofs.Ytebahhmajllmnaa
open Go.RowKit
set_option linter.unusedVariables false
set_option linter.unusedSimpArgs false

set_option maxHeartbeats 1600000 in
theorem awake_any (w : World) : Calls Try.prog 14 #[] w fun e w' => e = .returned (.bool true) ∧ Below w.heap.size w w' := by
  obtain ⟨P1, hP1⟩ : ∃ P, P = pack (3 * 1) fun _ => false := ⟨_, rfl⟩
  obtain ⟨P2, hP2⟩ : ∃ P, P = pack (3 * 1) fun j => if inR 3 1 0 1 1 j then true else false := ⟨_, rfl⟩
  have HN : Hid (∀ w, Calls Try.prog 13 #[.int .i64 3, .int .i64 1] w (Fresh2 w 3 1 P1 (.int .i64 0))) := fun w => by rw [hP1]; exact new_yes 3 1 w (by omega) (by omega) (by omega) (by omega)
  have HF : Hid (∀ A c w, Bys w A P1 → Calls Try.prog 21 #[.agg #[.int .i64 3, .int .i64 1, .slice A P1.length c], .int .i64 1, .int .i64 0, .int .i64 1, .int .i64 1, .bool true] w (Fresh w 3 1 P2)) := fun A c w hb => by
    rw [hP1] at hb ⊢; rw [hP2]
    exact fill_any 3 1 A c (fun _ => false) 1 0 1 1 true w hb (by omega) (by omega) (by omega) (by omega) (by omega) (by omega) (by omega) (by omega) (by omega) (by omega) (by omega) (by omega)
  have HV : Hid (∀ A c w, Bys w A P1 → Calls Try.prog 16 #[.agg #[.int .i64 3, .int .i64 1, .slice A P1.length c]] w fun e w' => e = .returned (.bool true) ∧ Below w.heap.size w w') := fun A c w hb => by
    have h := valid_any 3 1 A c P1 w hb (by rw [hP1, length_pack]; decide)
    rw [show validB 3 1 P1 = true from by rw [hP1]; exact validB_pack (W := 3) (H := 1) _ (by omega) (by omega) (by omega) (by omega)] at h
    exact h
  have HG2 : Hid (∀ A c w, Bys w A P2 → Calls Try.prog 19 #[.agg #[.int .i64 3, .int .i64 1, .slice A P2.length c], .int .i64 1, .int .i64 0] w fun e w' => e = .returned (.bool true) ∧ Below w.heap.size w w') := fun A c w hb => by
    rw [hP2] at hb ⊢
    exact get_any 3 1 A c _ 1 0 w hb (by omega) (by omega) (by omega) (by omega)
  have HG1 : Hid (∀ A c w, Bys w A P1 → Calls Try.prog 19 #[.agg #[.int .i64 3, .int .i64 1, .slice A P1.length c], .int .i64 1, .int .i64 0] w fun e w' => e = .returned (.bool false) ∧ Below w.heap.size w w') := fun A c w hb => by
    rw [hP1] at hb ⊢
    exact get_any 3 1 A c _ 1 0 w hb (by omega) (by omega) (by omega) (by omega)
  have HC : Hid (∀ A c w, Bys w A P2 → Calls Try.prog 22 #[.agg #[.int .i64 3, .int .i64 1, .slice A P2.length c], .int .i64 0, .int .i64 0, .int .i64 9, .int .i64 9] w fun e w' => e = .returned (.int .i64 1) ∧ Below w.heap.size w w') := fun A c w hb => by
    rw [hP2] at hb ⊢
    exact count_any 3 1 A c _ 0 0 9 9 w hb (by omega) (by omega) (by omega) (by omega) (by omega) (by omega) (by omega) (by omega) (by omega) (by omega) (by omega) (by omega)
  clear hP1 hP2
  go_enter Try.func14, Try.ntmps14
  go_wp2_with fail
  refine (HN.out _).mono ?_
  rintro e w1 ⟨g, gc, hg, rfl, hrow, hb1⟩
  have HB1 := hide hb1
  have hs1 := hb1.size
  have R1 := hide (hrow.alloc (.cells #[.int .i64 3, .int .i64 1, .slice (some ⟨g, 0, none⟩) P1.length gc] 24))
  have X1 := hide (Box.new w1 24 #[.int .i64 3, .int .i64 1, .slice (some ⟨g, 0, none⟩) P1.length gc])
  clear hrow hb1
  go_wp2_with fail
  refine (HF.out _ gc _ R1.out.bys).mono ?_
  rintro e w2 ⟨g2, gc2, hg2, rfl, hrow2, hb2⟩
  have X2 := hide (X1.out.kept hb2)
  have R12 := hide ((R1.out.kept hb2).alloc (.cells #[.int .i64 3, .int .i64 1, .slice (some ⟨g2, 0, none⟩) P2.length gc2] 24))
  have R2 := hide (hrow2.alloc (.cells #[.int .i64 3, .int .i64 1, .slice (some ⟨g2, 0, none⟩) P2.length gc2] 24))
  have Y2 := hide (Box.new w2 24 #[.int .i64 3, .int .i64 1, .slice (some ⟨g2, 0, none⟩) P2.length gc2])
  have Z2 := hide (X2.out.alloc (.cells #[.int .i64 3, .int .i64 1, .slice (some ⟨g2, 0, none⟩) P2.length gc2] 24))
  have HB2 := hide hb2
  have hs2 : w1.heap.size + 1 ≤ w2.heap.size := by simpa using hb2.size
  have n3 : w1.heap.size < w2.heap.size := by omega
  have k0 : w2.cell? ⟨w1.heap.size, 0, none⟩ = some (.int .i64 3) := X2.out.cell 0
  have k1 : w2.cell? ⟨w1.heap.size, 1, none⟩ = some (.int .i64 1) := X2.out.cell 1
  have k2 : w2.cell? ⟨w1.heap.size, 2, none⟩ = some (.slice (some ⟨g, 0, none⟩) P1.length gc) := X2.out.cell 2
  clear hb2 hrow2 HF
  go_wp2_with fail
  refine (HV.out _ gc _ R12.out.bys).mono ?_
  rintro e w3 ⟨rfl, hb3⟩
  have HB3 := hide hb3
  have R3 := hide (R12.out.kept hb3)
  have Q3 := hide (R2.out.kept hb3)
  have X3 := hide (Z2.out.kept hb3)
  have Y3 := hide (Y2.out.kept hb3)
  have l0 : w3.cell? ⟨w2.heap.size, 0, none⟩ = some (.int .i64 3) := Y3.out.cell 0
  have l1 : w3.cell? ⟨w2.heap.size, 1, none⟩ = some (.int .i64 1) := Y3.out.cell 1
  have l2 : w3.cell? ⟨w2.heap.size, 2, none⟩ = some (.slice (some ⟨g2, 0, none⟩) P2.length gc2) := Y3.out.cell 2
  clear hb3 k0 k1 k2
  go_wp2_with fail
  refine (HG2.out _ gc2 _ Q3.out.bys).mono ?_
  rintro e w4 ⟨rfl, hb4⟩
  have HB4 := hide hb4
  have R4 := hide (R3.out.kept hb4)
  have Q4 := hide (Q3.out.kept hb4)
  have X4 := hide (X3.out.kept hb4)
  have Y4 := hide (Y3.out.kept hb4)
  have m0 : w4.cell? ⟨w2.heap.size, 0, none⟩ = some (.int .i64 3) := Y4.out.cell 0
  have m1 : w4.cell? ⟨w2.heap.size, 1, none⟩ = some (.int .i64 1) := Y4.out.cell 1
  have m2 : w4.cell? ⟨w2.heap.size, 2, none⟩ = some (.slice (some ⟨g2, 0, none⟩) P2.length gc2) := Y4.out.cell 2
  clear hb4 l0 l1 l2
  go_wp2_with fail
  refine (HC.out _ gc2 _ Q4.out.bys).mono ?_
  rintro e w5 ⟨rfl, hb5⟩
  have HB5 := hide hb5
  have R5 := hide (R4.out.kept hb5)
  have X5 := hide (X4.out.kept hb5)
  have p0 : w5.cell? ⟨w1.heap.size, 0, none⟩ = some (.int .i64 3) := X5.out.cell 0
  have p1 : w5.cell? ⟨w1.heap.size, 1, none⟩ = some (.int .i64 1) := X5.out.cell 1
  have p2 : w5.cell? ⟨w1.heap.size, 2, none⟩ = some (.slice (some ⟨g, 0, none⟩) P1.length gc) := X5.out.cell 2
  clear hb5 m0 m1 m2
  go_wp2_with fail
  refine (HG1.out _ gc _ R5.out.bys).mono ?_
  rintro e w6 ⟨rfl, hb6⟩
  have HB6 := hide hb6
  clear hb6 p0 p1 p2
  go_wp2_with fail
  go_ret
  exact ⟨rfl, below_then (below_then (below_then (below_then (below_then (below_then HB1.out (below_box HB2.out)) (below_box HB3.out)) HB4.out) HB5.out) HB6.out) (Below.refl _ _)⟩
end Go.Proofs.Ytebahhmajllmnaa
