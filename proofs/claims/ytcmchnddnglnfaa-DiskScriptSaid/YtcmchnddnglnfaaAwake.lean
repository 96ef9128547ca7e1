/-
  Awake.
-/
import Derived.Test.YtcmchnddnglnfaaKeys
import Derived.Lib.SlBytesConst
namespace Go.Proofs.Ytcmchnddnglnfaa
open Go.RowKit
set_option linter.unusedVariables false
set_option linter.unusedSimpArgs false

section
variable {F G : Nat → Prop} {w w' : World} {s : Nat} {ss : List (List UInt8)} {e : Nat → Option (List UInt8)} {fuse : Int} {dead : Bool}
/-- bytes in a box that lies outside of the disk are written -/
theorem write_box (h : Dsk F w s ss e fuse false) (hf1 : -1 ≤ fuse) (hf2 : fuse ≤ 9223372036854775807) (hf0 : fuse ≠ 0) (i : Nat) (hi : i < ss.length) (b c : Nat) (bs : List UInt8) (hb : Bys w (some ⟨b, 0, none⟩) bs) (hF : ¬ F b) (hm : bs.length ≤ 64) :
    Calls Try.prog 9 #[.pointer (some ⟨s, 0, none⟩), .int .i64 (i : Int), .slice (some ⟨b, 0, none⟩) bs.length c] w (WrPost F w s (ss.set i (padS bs)) (markE e ss i) (burnF fuse) false 0) := by
  by_cases hl : 0 < bs.length
  · refine write_ok (G := fun j => j = b) h hf1 hf2 hf0 i hi _ c bs (fun hp => ?_) ?_ ?_ hm
    · obtain ⟨b', off, e1, h1, h2⟩ := hb hp
      injection e1 with e1
      injection e1 with e1 e2 e3
      exact ⟨b, 0, rfl, rfl, by rw [e1, e2]; exact h2⟩
    · intro j hj
      obtain ⟨b', off, e1, h1, h2⟩ := hb hl
      injection e1 with e1
      injection e1 with e1 e2 e3
      rw [hj, e1]; exact h1
    · intro j hj
      rw [hj]; exact hF
  · obtain rfl := List.length_eq_zero_iff.1 (by omega : bs.length = 0)
    exact write_ok (G := fun _ => False) h hf1 hf2 hf0 i hi _ c [] (BysIn.nil _ _ _) (fun j hj => hj.elim) (fun j hj => hj.elim) hm
/-- one byte, in a new box -/
theorem write_one (h : Dsk F w s ss e (-1) false) (i : Nat) (hi : i < ss.length) (x : UInt8) :
    Calls Try.prog 9 #[.pointer (some ⟨s, 0, none⟩), .int .i64 (i : Int), .slice (some ⟨w.heap.size, 0, none⟩) 1 1] (w.alloc (.cells #[u8v x] 5 (1, 2))) (WrPost F (w.alloc (.cells #[u8v x] 5 (1, 2))) s (ss.set i (padS [x])) (markE e ss i) (-1) false 0) := by
  have h' := h.kept ((Below.refl _ _).alloc (Nat.le_refl _) (.cells #[u8v x] 5 (1, 2)))
  exact write_box h' (by omega) (by omega) (by omega) i hi w.heap.size 1 [x] (fun _ => ⟨w.heap.size, 0, rfl, by simp, fun k hk => by
    obtain rfl : k = 0 := by have : k < 1 := hk; omega
    exact World.cell?_alloc_mark w #[u8v x] 5 (1, 2) 0⟩) (fun hF => by have := h.lt _ hF; omega) (by simp)
theorem conv_one (w : World) (x : UInt8) (n : Int) (hn : (x.toNat : Int) = n) : (convert 22 22 (.slice (some ⟨w.heap.size, 0, none⟩) 1 1)).run Try.prog (w.alloc (.cells #[.int .u8 n] 5)) = .ok (.slice (some ⟨w.heap.size, 0, none⟩) 1 1) (w.alloc (.cells #[u8v x] 5 (1, 2))) := by
  subst hn
  exact Lib.run_convert_bytes_const w 22 5 #[u8v x] 1 1 Try.underlying22 Try.underlying5
end
def ssA0 : List (List UInt8) := List.replicate 5 zeroS
def ssA1 : List (List UInt8) := ssA0.set 3 (padS [97])
def ssA2 : List (List UInt8) := ssA1.set 3 (padS [98])
def ssA3 : List (List UInt8) := ssA2.set 1 (padS [99])
def eA0 : Nat → Option (List UInt8) := fun _ => none
def eA2 : Nat → Option (List UInt8) := markE eA0 ssA1 3
def eA3 : Nat → Option (List UInt8) := markE eA2 ssA2 1
def ssC : List (List UInt8) := crashS ssA3 eA3 [true] (dirtyL ssA3.length eA3) (dirtyL ssA3.length eA3).length
theorem ssC_len : ssC.length = 5 := by kernel_rfl
theorem ssC_1 : ssC.getD 1 [] = padS [99] := by kernel_rfl
theorem ssC_3 : ssC.getD 3 [] = padS [97] := by kernel_rfl
theorem dirtyA : (dirtyL ssA3.length eA3).length = 2 := by kernel_rfl
theorem pad1 (x : UInt8) : (padS [x]).length = 64 := rfl
/-- a sector was read -/
theorem read_A {F : Nat → Prop} {w : World} {s : Nat} {ss : List (List UInt8)} {e : Nat → Option (List UInt8)} {fuse : Int} (h : Dsk F w s ss e fuse false) (i : Nat) (hi : i < ss.length) (x : UInt8) (hx : ss.getD i [] = padS [x]) :
    Calls Try.prog 10 #[.pointer (some ⟨s, 0, none⟩), .int .i64 (i : Int)] w fun en w' => ∃ g c, w.heap.size ≤ g ∧ en = .returned (.tuple #[.slice (some ⟨g, 0, none⟩) 64 c, .int .i64 0]) ∧ Row w' g (padS [x]) ∧ Below w.heap.size w w' := by
  refine (read_ok h i hi).mono ?_
  rw [hx]
  rintro en w' ⟨g, c, h1, rfl, h2, h3, _⟩
  exact ⟨g, c, h1, rfl, h2, h3⟩
theorem boolT (w : World) : BoolsIn (fun i => i = w.heap.size) (w.alloc (.cells #[.bool true] 4)) (some ⟨w.heap.size, 0, none⟩) [true] := fun _ => ⟨w.heap.size, 0, rfl, rfl, fun k hk => by
  obtain rfl : k = 0 := by have : k < 1 := hk; omega
  exact (Box.new w 4 #[.bool true]).cell 0⟩

set_option maxHeartbeats 3200000 in
set_option maxRecDepth 100000 in
theorem awake_any (w : World) : Calls Try.prog 12 #[] w fun e w' => e = .returned (.bool true) ∧ Below w.heap.size w w' := by
  go_enter Try.func12, Try.ntmps12
  go_wp2_with fail
  refine (new_ok 5 w (by omega) (by omega)).mono ?_
  rintro en w1 ⟨s, rfl, hB1, hD1⟩
  have HB1 := hide hB1
  have HD1 : Hid (Dsk (fun i => w.heap.size ≤ i ∧ i < w1.heap.size) w1 s ssA0 eA0 (-1) false) := hD1
  clear hB1 hD1
  go_wp2_with fail
  refine (sectors_any HD1.out).mono ?_
  rintro en wx ⟨rfl, rfl⟩
  have hcv := conv_one w1 97 97 rfl
  go_wp2_with fail
  refine (write_one HD1.out 3 (by decide) 97).mono ?_
  rintro en w2 ⟨rfl, hC2, hD2⟩
  have HB2 : Hid (Below w.heap.size w w2) := (HB1.out.alloc HB1.out.size _).trans (hC2.below (fun i hi e => by omega) (by have := HB1.out.size; simp; omega))
  have HD2 : Hid (Dsk (fun i => w.heap.size ≤ i ∧ i < w1.heap.size) w2 s ssA1 (markE eA0 ssA0 3) (-1) false) := hD2
  clear hC2 hD2 hcv
  go_wp2_with fail
  refine (sync_ok HD2.out (by omega) (by omega) (by omega)).mono ?_
  rintro en w3 ⟨rfl, hC3, hD3⟩
  have HB3 : Hid (Below w.heap.size w w3) := HB2.out.trans (hC3.below (fun i hi e => by omega) HB2.out.size)
  have HD3 : Hid (Dsk (fun i => w.heap.size ≤ i ∧ i < w1.heap.size) w3 s ssA1 eA0 (-1) false) := hD3
  clear hC3 hD3
  have hcv := conv_one w3 98 98 rfl
  go_wp2_with fail
  refine (write_one HD3.out 3 (by decide) 98).mono ?_
  rintro en w4 ⟨rfl, hC4, hD4⟩
  have HB4 : Hid (Below w.heap.size w w4) := (HB3.out.alloc HB3.out.size _).trans (hC4.below (fun i hi e => by omega) (by have := HB3.out.size; simp; omega))
  have HD4 : Hid (Dsk (fun i => w.heap.size ≤ i ∧ i < w1.heap.size) w4 s ssA2 eA2 (-1) false) := hD4
  clear hC4 hD4 hcv
  have hcv := conv_one w4 99 99 rfl
  go_wp2_with fail
  refine (write_one HD4.out 1 (by decide) 99).mono ?_
  rintro en w5 ⟨rfl, hC5, hD5⟩
  have HB5 : Hid (Below w.heap.size w w5) := (HB4.out.alloc HB4.out.size _).trans (hC5.below (fun i hi e => by omega) (by have := HB4.out.size; simp; omega))
  have HD5 : Hid (Dsk (fun i => w.heap.size ≤ i ∧ i < w1.heap.size) w5 s ssA3 eA3 (-1) false) := hD5
  clear hC5 hD5 hcv
  go_wp2_with fail
  have HD6 := hide (HD5.out.kept ((Below.refl _ _).alloc (Nat.le_refl _) (.cells #[.bool true] 4)))
  have HB6 : Hid (Below w.heap.size w (w5.alloc (.cells #[.bool true] 4))) := HB5.out.alloc HB5.out.size _
  refine (crash_any (Gk := fun i => i = w5.heap.size) (hide keys_ok) HD6.out (some ⟨w5.heap.size, 0, none⟩) 1 [true] (boolT w5) (fun i hi => by subst hi; simp) (by decide)).mono ?_
  rintro en w7 ⟨c, rfl, hB7, hD7⟩
  have HC7 : Hid (Dsk (fun i => (w5.alloc (.cells #[.bool true] 4)).heap.size ≤ i ∧ i < w7.heap.size) w7 c ssC (fun _ => none) (-1) false) := hD7
  have HD7 := hide (HD6.out.kept hB7)
  have HB7 := hide (HB6.out.trans (hB7.mono HB6.out.size))
  clear hB7 hD7
  go_wp2_with fail
  refine (read_A HC7.out 1 (by rw [ssC_len]; omega) 99 ssC_1).mono ?_
  rintro en w8 ⟨gx, cx, hgx, rfl, hR8, hB8⟩
  have HC8 := hide (HC7.out.kept hB8)
  have HD8 := hide (HD7.out.kept hB8)
  have HB8 := hide (HB7.out.trans (hB8.mono HB7.out.size))
  have HR8 := hide hR8
  clear hR8 hB8
  go_wp2_with fail
  refine (read_A HC8.out 3 (by rw [ssC_len]; omega) 97 ssC_3).mono ?_
  rintro en w9 ⟨gy, cy, hgy, rfl, hR9, hB9⟩
  have HD9 := hide (HD8.out.kept hB9)
  have HB9 := hide (HB8.out.trans (hB9.mono HB8.out.size))
  have r0 : w9.cell? ⟨gx, 0, none⟩ = some (.int .u8 99) := (HR8.out.kept hB9).cell (k := 0) (by decide)
  have r1 : w9.cell? ⟨gy, 0, none⟩ = some (.int .u8 97) := hR9.cell (k := 0) (by decide)
  clear hR9 hB9
  go_wp2_with fail
  refine (dirty_any HD9.out).mono ?_
  rw [dirtyA]
  rintro en wx ⟨rfl, rfl⟩
  go_wp2_with fail
  go_ret
  exact ⟨rfl, HB9.out⟩
end Go.Proofs.Ytcmchnddnglnfaa
