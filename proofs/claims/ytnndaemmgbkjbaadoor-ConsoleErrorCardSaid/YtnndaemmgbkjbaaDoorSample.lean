/-
  electionlaw10.Sample: the example's election.
-/
import Derived.Test.YtnndaemmgbkjbaaDoorPrint
namespace Go.Proofs.YtnndaemmgbkjbaaDoor
open Go.RowKit
set_option linter.unusedVariables false
set_option linter.unusedSimpArgs false

def sampleE (b : Nat) : EV := { title := ⟨#[]⟩, dots := 2, blank := 20, marked := 50, pa := some ⟨b + 1, 0, none⟩, pc := 2, ca := some ⟨b + 1 + 1 + 1, 0, none⟩, cc := 1, sa := some ⟨b + 1 + 1 + 1 + 1 + 1 + 1, 0, none⟩, sn := 1, sc := 1, scanners := 1, batch := 4, neg := false, na := some ⟨b + 1 + 1 + 1 + 1 + 1 + 1 + 1, 0, none⟩, nn := 1, nc := 1, da := some ⟨b + 1 + 1 + 1 + 1 + 1 + 1 + 1 + 1, 0, none⟩, dn := 1, dc := 1, cell := 2, seed := ⟨#[]⟩ }
def sA : ByteArray := ⟨#[97]⟩
def sB : ByteArray := ⟨#[98]⟩
def sM : ByteArray := ⟨#[109]⟩
def conC (b : Nat) : Array Value := #[.string ⟨#[109]⟩, .slice (some ⟨b + 1 + 1, 0, none⟩) 3 3, .int .i64 1, .int .i64 1, .int .i64 3, .int .i64 0, .int .i64 3, .int .i64 1, .int .i64 1]
def sample3 (w : World) : World := (((w.alloc (.cells ((sampleE w.heap.size).cells 2 1) 34)).alloc (.cells #[.string ⟨#[97]⟩, .string ⟨#[98]⟩] 9)).alloc (.cells #[.string ⟨#[120]⟩, .string ⟨#[121]⟩, .string ⟨#[122]⟩] 9)).alloc (.cells (conC w.heap.size) 45)
def sampleW (w : World) : World := (((((sample3 w).alloc (.cells #[.int .i64 0, .int .i64 1] 3)).alloc (.cells #[.int .i64 0] 3)).alloc (.cells #[.string ⟨#[115]⟩, .slice (some ⟨w.heap.size + 1 + 1 + 1 + 1, 0, none⟩) 2 2, .slice (some ⟨w.heap.size + 1 + 1 + 1 + 1 + 1, 0, none⟩) 1 1] 47)).alloc (.cells #[.int .u32 1] 48)).alloc (.cells #[.int .u32 20] 48)
theorem sample_facts (w : World) : Below w.heap.size w (sampleW w) ∧ Box (sampleW w) w.heap.size 34 ((sampleE w.heap.size).cells 2 1) ∧ Box (sampleW w) (w.heap.size + 1) 9 #[.string ⟨#[97]⟩, .string ⟨#[98]⟩] ∧ Box (sampleW w) (w.heap.size + 1 + 1 + 1) 45 (conC w.heap.size) := by
  have s1 : (w.alloc (.cells ((sampleE w.heap.size).cells 2 1) 34)).heap.size = w.heap.size + 1 := World.size_alloc ..
  have s2 : ((w.alloc (.cells ((sampleE w.heap.size).cells 2 1) 34)).alloc (.cells #[.string ⟨#[97]⟩, .string ⟨#[98]⟩] 9)).heap.size = w.heap.size + 1 + 1 := by rw [World.size_alloc, s1]
  have s3 : (((w.alloc (.cells ((sampleE w.heap.size).cells 2 1) 34)).alloc (.cells #[.string ⟨#[97]⟩, .string ⟨#[98]⟩] 9)).alloc (.cells #[.string ⟨#[120]⟩, .string ⟨#[121]⟩, .string ⟨#[122]⟩] 9)).heap.size = w.heap.size + 1 + 1 + 1 := by rw [World.size_alloc, s2]
  have b3 : Below w.heap.size w (sample3 w) := ((((Below.refl _ _).alloc (Nat.le_refl _) _).alloc (by rw [s1]; omega) _).alloc (by rw [s2]; omega) _).alloc (by rw [s3]; omega) _
  have x0 : Box (sample3 w) w.heap.size 34 ((sampleE w.heap.size).cells 2 1) := (((Box.new w _ _).alloc _).alloc _).alloc _
  have x1 : Box (sample3 w) (w.heap.size + 1) 9 #[.string ⟨#[97]⟩, .string ⟨#[98]⟩] := by
    have := ((Box.new (w.alloc (.cells ((sampleE w.heap.size).cells 2 1) 34)) 9 #[.string ⟨#[97]⟩, .string ⟨#[98]⟩]).alloc (.cells #[.string ⟨#[120]⟩, .string ⟨#[121]⟩, .string ⟨#[122]⟩] 9)).alloc (.cells (conC w.heap.size) 45)
    rw [s1] at this
    exact this
  have x3 : Box (sample3 w) (w.heap.size + 1 + 1 + 1) 45 (conC w.heap.size) := by
    have := Box.new (((w.alloc (.cells ((sampleE w.heap.size).cells 2 1) 34)).alloc (.cells #[.string ⟨#[97]⟩, .string ⟨#[98]⟩] 9)).alloc (.cells #[.string ⟨#[120]⟩, .string ⟨#[121]⟩, .string ⟨#[122]⟩] 9)) 45 (conC w.heap.size)
    rw [s3] at this
    exact this
  have hs3 := b3.size
  refine ⟨?_, ((((x0.alloc _).alloc _).alloc _).alloc _).alloc _, ((((x1.alloc _).alloc _).alloc _).alloc _).alloc _, ((((x3.alloc _).alloc _).alloc _).alloc _).alloc _⟩
  exact ((((b3.alloc hs3 _).alloc (by rw [World.size_alloc]; omega) _).alloc (by rw [World.size_alloc, World.size_alloc]; omega) _).alloc (by rw [World.size_alloc, World.size_alloc, World.size_alloc]; omega) _).alloc (by rw [World.size_alloc, World.size_alloc, World.size_alloc, World.size_alloc]; omega) _
set_option maxHeartbeats 8000000 in
set_option maxRecDepth 100000 in
theorem sample_any {w : World} :
    Calls Tryd.prog 7 #[] w fun en w' => en = .returned (.agg ((sampleE w.heap.size).cells 2 1)) ∧ Elec w' (sampleE w.heap.size) [sA, sB] [sM] ∧ Below w.heap.size w w' := by
  obtain ⟨hb, hX0, hX1, hX3⟩ := sample_facts w
  obtain ⟨wf, hwf⟩ : ∃ q, sampleW w = q := ⟨_, rfl⟩
  rw [hwf] at hb hX0 hX1 hX3
  have HX0 := hide hX0
  have HB := hide hb
  have HE : Hid (Elec wf (sampleE w.heap.size) [sA, sB] [sM]) := by
    refine ⟨fun _ => ⟨w.heap.size + 1, 0, rfl, hX1.lt, fun k hk => ?_⟩, fun _ => ⟨w.heap.size + 1 + 1 + 1, 0, rfl, hX3.lt, fun k hk => ?_⟩⟩
    · have hk2 : k < 2 := hk
      rcases (show k = 0 ∨ k = 1 by omega) with rfl | rfl
      · exact hX1.cell 0
      · exact hX1.cell 1
    · have hk2 : k < 1 := hk
      obtain rfl : k = 0 := by omega
      exact ⟨_, _, _, _, _, _, _, _, _, _, hX3.cell 0, hX3.cell 1, hX3.cell 2, hX3.cell 3, hX3.cell 4, hX3.cell 5, hX3.cell 6, hX3.cell 7, hX3.cell 8⟩
  unfold sampleW sample3 sampleE EV.cells conC at hwf
  have HW := hide hwf
  clear hb hX0 hX1 hX3 hwf
  go_enter Tryd.func7, Tryd.ntmps7
  go_wp2_with fail
  rw [HW.out]
  refine bodyPost_ret (v := .agg ((sampleE w.heap.size).cells 2 1)) (by refine results_cell (p := 0) ?_ ?_ (box_load aggE HX0.out rfl) <;> rfl) rfl ?_
  exact ⟨rfl, HE.out, HB.out⟩
end Go.Proofs.YtnndaemmgbkjbaaDoor
