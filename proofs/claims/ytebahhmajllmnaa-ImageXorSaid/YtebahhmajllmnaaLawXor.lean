/-
  Xor fills the pixels that differ, and needs two valid images of one size: the law ImageXor returns true for every input.
-/
import Derived.Test.YtebahhmajllmnaaXor
import Derived.Deep.RegionHeld3
namespace Go.Proofs.Ytebahhmajllmnaa.lawXor
open Go.ChangeShapes Go.WideShapes Go.ChangeAt Go.RowKit Go.Proofs.Ytebahhmajllmnaa
set_option linter.unusedVariables false
set_option linter.unusedSimpArgs false

/-- the law's two images, and that nothing old has turned -/
def XS (w : World) (W H W' H' : Int) (A : Option Addr) (c : Nat) (B : Option Addr) (d : Nat) (bs bt : List UInt8) (v : World) : Prop :=
  Box v w.heap.size 24 #[.int .i64 W, .int .i64 H, .slice A bs.length c] ∧ Box v (w.heap.size + 1) 24 #[.int .i64 W', .int .i64 H', .slice B bt.length d] ∧ Bys v A bs ∧ Bys v B bt ∧ Below w.heap.size w v
section
variable {w v v' : World} {W H W' H' : Int} {A B : Option Addr} {c d : Nat} {bs bt : List UInt8}
theorem XS.start (hA : Bys w A bs) (hB : Bys w B bt) : XS w W H W' H' A c B d bs bt ((w.alloc (.cells #[.int .i64 W, .int .i64 H, .slice A bs.length c] 24)).alloc (.cells #[.int .i64 W', .int .i64 H', .slice B bt.length d] 24)) := by
  refine ⟨(Box.new _ _ _).alloc _, ?_, (hA.alloc _).alloc _, (hB.alloc _).alloc _, ((Below.refl _ _).alloc (Nat.le_refl _) _).alloc (by simp) _⟩
  have h := Box.new (w.alloc (.cells #[.int .i64 W, .int .i64 H, .slice A bs.length c] 24)) 24 #[.int .i64 W', .int .i64 H', .slice B bt.length d]
  rw [World.size_alloc] at h
  exact h
theorem XS.next (h : XS w W H W' H' A c B d bs bt v) (hb : Below v.heap.size v v') : XS w W H W' H' A c B d bs bt v' :=
  ⟨h.1.kept hb, h.2.1.kept hb, h.2.2.1.below hb, h.2.2.2.1.below hb, below_then h.2.2.2.2 hb⟩
theorem XS.cells (h : XS w W H W' H' A c B d bs bt v) : v.cell? ⟨w.heap.size, 0, none⟩ = some (.int .i64 W) ∧ v.cell? ⟨w.heap.size, 1, none⟩ = some (.int .i64 H) ∧ v.cell? ⟨w.heap.size, 2, none⟩ = some (.slice A bs.length c) ∧
    v.cell? ⟨w.heap.size + 1, 0, none⟩ = some (.int .i64 W') ∧ v.cell? ⟨w.heap.size + 1, 1, none⟩ = some (.int .i64 H') ∧ v.cell? ⟨w.heap.size + 1, 2, none⟩ = some (.slice B bt.length d) :=
  ⟨h.1.cell 0, h.1.cell 1, h.1.cell 2, h.2.1.cell 0, h.2.1.cell 1, h.2.1.cell 2⟩
end
/-- and the third image -/
def XT (w : World) (W H : Int) (A : Option Addr) (c : Nat) (B : Option Addr) (d : Nat) (bs bt fx : List UInt8) (Oc g gc : Nat) (v : World) : Prop :=
  XS w W H W H A c B d bs bt v ∧ Row v g fx ∧ Box v Oc 24 #[.int .i64 W, .int .i64 H, .slice (some ⟨g, 0, none⟩) fx.length gc]
section
variable {w v v' : World} {W H : Int} {A B : Option Addr} {c d : Nat} {bs bt fx : List UInt8} {Oc g gc : Nat}
theorem XT.next (h : XT w W H A c B d bs bt fx Oc g gc v) (hb : Below v.heap.size v v') : XT w W H A c B d bs bt fx Oc g gc v' := ⟨h.1.next hb, h.2.1.kept hb, h.2.2.kept hb⟩
theorem XT.cells (h : XT w W H A c B d bs bt fx Oc g gc v) : v.cell? ⟨w.heap.size, 0, none⟩ = some (.int .i64 W) ∧ v.cell? ⟨w.heap.size, 1, none⟩ = some (.int .i64 H) ∧ v.cell? ⟨w.heap.size, 2, none⟩ = some (.slice A bs.length c) ∧
    v.cell? ⟨w.heap.size + 1, 0, none⟩ = some (.int .i64 W) ∧ v.cell? ⟨w.heap.size + 1, 1, none⟩ = some (.int .i64 H) ∧ v.cell? ⟨w.heap.size + 1, 2, none⟩ = some (.slice B bt.length d) ∧
    v.cell? ⟨Oc, 0, none⟩ = some (.int .i64 W) ∧ v.cell? ⟨Oc, 1, none⟩ = some (.int .i64 H) ∧ v.cell? ⟨Oc, 2, none⟩ = some (.slice (some ⟨g, 0, none⟩) fx.length gc) :=
  ⟨h.1.1.cell 0, h.1.1.cell 1, h.1.1.cell 2, h.1.2.1.cell 0, h.1.2.1.cell 1, h.1.2.1.cell 2, h.2.2.cell 0, h.2.2.cell 1, h.2.2.cell 2⟩
end
theorem getB_xor (W H : Nat) (f g : Nat → Bool) (x y : Int) : getB W H (xorP f g) x y = (getB W H f x y != getB W H g x y) := by
  unfold getB xorP
  cases (decide (0 ≤ x) && decide (x < (W : Int)) && decide (0 ≤ y) && decide (y < (H : Int))) <;> rfl
theorem small_pack (W H : Nat) (f : Nat → Bool) (hW1 : 1 ≤ W) (hW : W ≤ 24) (hH1 : 1 ≤ H) (hH : H ≤ 24) : smallB W H (pack (W * H) f) = true := by
  unfold smallB
  rw [validB_pack f hW1 (by omega) hH1 (by omega), decide_eq_true (by omega), decide_eq_true (by omega)]
  rfl

def Yes (w : World) (e : Ending) (w' : World) : Prop := e = .returned (.bool true) ∧ Below w.heap.size w w'

theorem walk_a (W H W' H' : Int) (A B : Option Addr) (c d : Nat) (bs bt : List UInt8) (w : World) (hb : Bys w A bs) (hm : bs.length ≤ maxLen) (hb' : Bys w B bt) (hs : smallB W H bs = false) :
    Calls Try.prog 7 #[.agg #[.int .i64 W, .int .i64 H, .slice A bs.length c], .agg #[.int .i64 W', .int .i64 H', .slice B bt.length d]] w (Yes w) := by
  have HS := hide hs
  have S0 := hide (XS.start (W := W) (H := H) (W' := W') (H' := H') (c := c) (d := d) hb hb')
  clear hs hb hb'
  go_enter Try.func7, Try.ntmps7
  go_wp2_with fail
  refine (small_any _ _ _ _ bs _ S0.out.2.2.1 hm).mono ?_
  rw [HS.out]
  rintro e w1 ⟨rfl, hb1⟩
  have S1 := hide (S0.out.next hb1)
  clear hb1 S0
  go_wp2_with fail
  refine (awake_any _).mono ?_
  rintro e w2 ⟨rfl, hb2⟩
  have B2 := hide (S1.out.next hb2).2.2.2.2
  clear hb2 S1
  go_wp2_with fail
  go_ret
  exact ⟨rfl, B2.out⟩

theorem walk_b (W H W' H' : Int) (A B : Option Addr) (c d : Nat) (bs bt : List UInt8) (w : World) (hb : Bys w A bs) (hm : bs.length ≤ maxLen) (hb' : Bys w B bt) (hm' : bt.length ≤ maxLen) (hs : smallB W H bs = true) (hs' : smallB W' H' bt = false) :
    Calls Try.prog 7 #[.agg #[.int .i64 W, .int .i64 H, .slice A bs.length c], .agg #[.int .i64 W', .int .i64 H', .slice B bt.length d]] w (Yes w) := by
  have HS := hide hs
  have HS' := hide hs'
  have S0 := hide (XS.start (W := W) (H := H) (W' := W') (H' := H') (c := c) (d := d) hb hb')
  clear hs hb hb' hs'
  go_enter Try.func7, Try.ntmps7
  go_wp2_with fail
  refine (small_any _ _ _ _ bs _ S0.out.2.2.1 hm).mono ?_
  rw [HS.out]
  rintro e w1 ⟨rfl, hb1⟩
  have S1 := hide (S0.out.next hb1)
  obtain ⟨q0, q1, q2, q3, q4, q5⟩ := S1.out.cells
  clear hb1 S0
  go_wp2_with fail
  refine (small_any _ _ _ _ bt _ S1.out.2.2.2.1 hm').mono ?_
  rw [HS'.out]
  rintro e w2 ⟨rfl, hb2⟩
  have S2 := hide (S1.out.next hb2)
  clear hb2 S1 q0 q1 q2 q3 q4 q5
  go_wp2_with fail
  refine (awake_any _).mono ?_
  rintro e w3 ⟨rfl, hb2⟩
  have B2 := hide (S2.out.next hb2).2.2.2.2
  clear hb2 S2
  go_wp2_with fail
  go_ret
  exact ⟨rfl, B2.out⟩

set_option maxHeartbeats 1600000 in
theorem walk_sizes (W H W' H' : Nat) (A B : Option Addr) (c d : Nat) (f f' : Nat → Bool) (w : World) (hb : Bys w A (pack (W * H) f)) (hb' : Bys w B (pack (W' * H') f'))
    (hW1 : 1 ≤ W) (hW : W ≤ 24) (hH1 : 1 ≤ H) (hH : H ≤ 24) (hW1' : 1 ≤ W') (hW' : W' ≤ 24) (hH1' : 1 ≤ H') (hH' : H' ≤ 24) (hne : W ≠ W' ∨ H ≠ H') :
    Calls Try.prog 7 #[.agg #[.int .i64 (W : Int), .int .i64 (H : Int), .slice A (pack (W * H) f).length c], .agg #[.int .i64 (W' : Int), .int .i64 (H' : Int), .slice B (pack (W' * H') f').length d]] w (Yes w) := by
  have HS := hide (small_pack W H f hW1 hW hH1 hH)
  have HS' := hide (small_pack W' H' f' hW1' hW' hH1' hH')
  have hm := len_pack_max f (show W ≤ 512 by omega) (show H ≤ 512 by omega)
  have hm' := len_pack_max f' (show W' ≤ 512 by omega) (show H' ≤ 512 by omega)
  have HX : Hid (∀ v, Bys v A (pack (W * H) f) → Bys v B (pack (W' * H') f') → Calls Try.prog 26 #[.agg #[.int .i64 (W : Int), .int .i64 (H : Int), .slice A (pack (W * H) f).length c], .agg #[.int .i64 (W' : Int), .int .i64 (H' : Int), .slice B (pack (W' * H') f').length d]] v (XorNo v)) :=
    fun v h1 h2 => xor_sizes W H W' H' A B c d f f' v h1 h2 hW1 (by omega) hH1 (by omega) hW1' (by omega) hH1' (by omega) hne
  have HE : Hid (∀ w, Calls Try.prog 15 #[.agg #[.int .i64 0, .int .i64 0, .slice none 0 0], .agg #[.int .i64 0, .int .i64 0, .slice none 0 0]] w fun e w' => e = .returned (.bool true) ∧ Below w.heap.size w w') := fun w =>
    refeq_any 0 0 0 0 none none 0 0 [] [] w (fun h => absurd h (by simp)) (fun h => absurd h (by simp)) (Nat.zero_le _) (Nat.zero_le _)
  have two : W ≠ W' ∨ (W = W' ∧ H ≠ H') := by omega
  have S0 := hide (XS.start (W := (W : Int)) (H := (H : Int)) (W' := (W' : Int)) (H' := (H' : Int)) (c := c) (d := d) hb hb')
  clear hb hb' hne
  generalize pack (W * H) f = bs at *
  generalize pack (W' * H') f' = bt at *
  unfold XorNo zeroIm at HX
  go_enter Try.func7, Try.ntmps7
  go_wp2_with fail
  refine (small_any _ _ _ _ bs _ S0.out.2.2.1 hm).mono ?_
  rw [HS.out]
  rintro e w1 ⟨rfl, hb1⟩
  have S1 := hide (S0.out.next hb1)
  obtain ⟨q0, q1, q2, q3, q4, q5⟩ := S1.out.cells
  clear hb1 S0
  go_wp2_with fail
  refine (small_any _ _ _ _ bt _ S1.out.2.2.2.1 hm').mono ?_
  rw [HS'.out]
  rintro e w2 ⟨rfl, hb2⟩
  have S2 := hide (S1.out.next hb2)
  clear hb2 S1 q0 q1 q2 q3 q4 q5
  obtain ⟨q0, q1, q2, q3, q4, q5⟩ := S2.out.cells
  go_wp2_with fail
  refine (HX.out _ S2.out.2.2.1 S2.out.2.2.2.1).mono ?_
  rintro e w3 ⟨rfl, hb3⟩
  have S3 := hide (S2.out.next hb3)
  have Y3 := hide (Box.new w3 24 #[.int .i64 0, .int .i64 0, .slice none 0 0])
  have S4 := hide (S3.out.next ((Below.refl _ _).alloc (Nat.le_refl _) (.cells #[.int .i64 0, .int .i64 0, .slice none 0 0] 24)))
  have n0 : w.heap.size < w3.heap.size := S3.out.1.lt
  have n1 : w.heap.size + 1 < w3.heap.size := S3.out.2.1.lt
  clear hb3 S2 q0 q1 q2 q3 q4 q5 HX
  obtain ⟨q0, q1, q2, q3, q4, q5⟩ := S3.out.cells
  clear S3
  rcases two with h1 | ⟨rfl, h1⟩
  · have h2 : ¬ (W : Int) = (W' : Int) := by omega
    go_wp2_with fail
    refine (awake_any _).mono ?_
    rintro e w4 ⟨rfl, hb4⟩
    have Y4 := hide (Y3.out.kept hb4)
    have k0 : w4.cell? ⟨w3.heap.size, 0, none⟩ = some (.int .i64 0) := Y4.out.cell 0
    have k1 : w4.cell? ⟨w3.heap.size, 1, none⟩ = some (.int .i64 0) := Y4.out.cell 1
    have k2 : w4.cell? ⟨w3.heap.size, 2, none⟩ = some (.slice none 0 0) := Y4.out.cell 2
    have B4 := hide (S4.out.next hb4).2.2.2.2
    clear hb4 S4 Y3 Y4 q0 q1 q2 q3 q4 q5
    go_wp2_with fail
    refine (HE.out _).mono ?_
    rintro e w5 ⟨rfl, hb5⟩
    have B5 := hide (below_then B4.out hb5)
    clear hb5 k0 k1 k2 B4
    go_wp2_with fail
    go_ret
    exact ⟨rfl, B5.out⟩
  · have h2 : ¬ (H : Int) = (H' : Int) := by omega
    go_wp2_with fail
    refine (awake_any _).mono ?_
    rintro e w4 ⟨rfl, hb4⟩
    have Y4 := hide (Y3.out.kept hb4)
    have k0 : w4.cell? ⟨w3.heap.size, 0, none⟩ = some (.int .i64 0) := Y4.out.cell 0
    have k1 : w4.cell? ⟨w3.heap.size, 1, none⟩ = some (.int .i64 0) := Y4.out.cell 1
    have k2 : w4.cell? ⟨w3.heap.size, 2, none⟩ = some (.slice none 0 0) := Y4.out.cell 2
    have B4 := hide (S4.out.next hb4).2.2.2.2
    clear hb4 S4 Y3 Y4 q0 q1 q2 q3 q4 q5
    go_wp2_with fail
    refine (HE.out _).mono ?_
    rintro e w5 ⟨rfl, hb5⟩
    have B5 := hide (below_then B4.out hb5)
    clear hb5 k0 k1 k2 B4
    go_wp2_with fail
    go_ret
    exact ⟨rfl, B5.out⟩

set_option maxHeartbeats 3200000 in
theorem walk_same (W H : Nat) (A B : Option Addr) (c d : Nat) (f f' : Nat → Bool) (w : World) (hb : Bys w A (pack (W * H) f)) (hb' : Bys w B (pack (W * H) f'))
    (hW1 : 1 ≤ W) (hW : W ≤ 24) (hH1 : 1 ≤ H) (hH : H ≤ 24) :
    Calls Try.prog 7 #[.agg #[.int .i64 (W : Int), .int .i64 (H : Int), .slice A (pack (W * H) f).length c], .agg #[.int .i64 (W : Int), .int .i64 (H : Int), .slice B (pack (W * H) f').length d]] w (Yes w) := by
  have HS := hide (small_pack W H f hW1 hW hH1 hH)
  have HS' := hide (small_pack W H f' hW1 hW hH1 hH)
  have hm := len_pack_max f (show W ≤ 512 by omega) (show H ≤ 512 by omega)
  have hm' := len_pack_max f' (show W ≤ 512 by omega) (show H ≤ 512 by omega)
  have hmx := len_pack_max (xorP f f') (show W ≤ 512 by omega) (show H ≤ 512 by omega)
  have HX : Hid (∀ v, Bys v A (pack (W * H) f) → Bys v B (pack (W * H) f') → Calls Try.prog 26 #[.agg #[.int .i64 (W : Int), .int .i64 (H : Int), .slice A (pack (W * H) f).length c], .agg #[.int .i64 (W : Int), .int .i64 (H : Int), .slice B (pack (W * H) f').length d]] v (Fresh2 v W H (pack (W * H) (xorP f f')) (.bool true))) :=
    fun v h1 h2 => xor_any W H A B c d f f' v h1 h2 hW1 (by omega) hH1 (by omega)
  have HX2 : Hid (∀ D e v, Bys v D (pack (W * H) (xorP f f')) → Bys v B (pack (W * H) f') → Calls Try.prog 26 #[.agg #[.int .i64 (W : Int), .int .i64 (H : Int), .slice D (pack (W * H) (xorP f f')).length e], .agg #[.int .i64 (W : Int), .int .i64 (H : Int), .slice B (pack (W * H) f').length d]] v (Fresh2 v W H (pack (W * H) f) (.bool true))) := fun D e v h1 h2 => by
    have h := xor_any W H D B e d (xorP f f') f' v h1 h2 hW1 (by omega) hH1 (by omega)
    rw [pack_congr fun j _ => xorP_back f f' j] at h
    exact h
  have HV : Hid (validB (W : Int) (H : Int) (pack (W * H) (xorP f f')) = true) := validB_pack _ hW1 (by omega) hH1 (by omega)
  have HG1 : Hid (∀ (D : Option Addr) (e : Nat) (x y : Nat) (v : World), Bys v D (pack (W * H) (xorP f f')) → Calls Try.prog 20 #[.agg #[.int .i64 (W : Int), .int .i64 (H : Int), .slice D (pack (W * H) (xorP f f')).length e], .int .i64 (x : Int), .int .i64 (y : Int)] v fun e w' => e = .returned (.bool (getB W H f x y != getB W H f' x y)) ∧ Below v.heap.size v w') := fun D e x y v h => by
    have h := refget_any W H D e (xorP f f') x y v h (by omega) (by omega)
    rw [getB_xor] at h
    exact h
  have HG2 : Hid (∀ (x y : Nat) (v : World), Bys v A (pack (W * H) f) → Calls Try.prog 20 #[.agg #[.int .i64 (W : Int), .int .i64 (H : Int), .slice A (pack (W * H) f).length c], .int .i64 (x : Int), .int .i64 (y : Int)] v fun e w' => e = .returned (.bool (getB W H f x y)) ∧ Below v.heap.size v w') := fun x y v h =>
    refget_any W H A c f x y v h (by omega) (by omega)
  have HG3 : Hid (∀ (x y : Nat) (v : World), Bys v B (pack (W * H) f') → Calls Try.prog 20 #[.agg #[.int .i64 (W : Int), .int .i64 (H : Int), .slice B (pack (W * H) f').length d], .int .i64 (x : Int), .int .i64 (y : Int)] v fun e w' => e = .returned (.bool (getB W H f' x y)) ∧ Below v.heap.size v w') := fun x y v h =>
    refget_any W H B d f' x y v h (by omega) (by omega)
  have S0 := hide (XS.start (W := (W : Int)) (H := (H : Int)) (W' := (W : Int)) (H' := (H : Int)) (c := c) (d := d) hb hb')
  clear hb hb'
  obtain ⟨r2, hr2⟩ : ∃ r2, r2 = fun x y : Nat => getB W H f x y := ⟨_, rfl⟩
  obtain ⟨r3, hr3⟩ : ∃ r3, r3 = fun x y : Nat => getB W H f' x y := ⟨_, rfl⟩
  have HG1' := hide (fun D e x y v h => by have := HG1.out D e x y v h; rw [show getB W H f (x : Int) (y : Int) = r2 x y by rw [hr2], show getB W H f' (x : Int) (y : Int) = r3 x y by rw [hr3]] at this; exact this)
  have HG2' := hide (fun x y v h => by have := HG2.out x y v h; rw [show getB W H f (x : Int) (y : Int) = r2 x y by rw [hr2]] at this; exact this)
  have HG3' := hide (fun x y v h => by have := HG3.out x y v h; rw [show getB W H f' (x : Int) (y : Int) = r3 x y by rw [hr3]] at this; exact this)
  clear HG1 HG2 HG3 hr2 hr3
  generalize pack (W * H) (xorP f f') = fx at *
  generalize pack (W * H) f = bs at *
  generalize pack (W * H) f' = bt at *
  go_enter Try.func7, Try.ntmps7
  go_wp2_with fail
  refine (small_any _ _ _ _ bs _ S0.out.2.2.1 hm).mono ?_
  rw [HS.out]
  rintro e w1 ⟨rfl, hb1⟩
  have S1 := hide (S0.out.next hb1)
  obtain ⟨q0, q1, q2, q3, q4, q5⟩ := S1.out.cells
  clear hb1 S0
  go_wp2_with fail
  refine (small_any _ _ _ _ bt _ S1.out.2.2.2.1 hm').mono ?_
  rw [HS'.out]
  rintro e w2 ⟨rfl, hb2⟩
  have S2 := hide (S1.out.next hb2)
  clear hb2 S1 q0 q1 q2 q3 q4 q5
  obtain ⟨q0, q1, q2, q3, q4, q5⟩ := S2.out.cells
  go_wp2_with fail
  refine (HX.out _ S2.out.2.2.1 S2.out.2.2.2.1).mono ?_
  rintro e w3 ⟨g, gc, hg, rfl, hrow, hb3⟩
  have S3 := hide (S2.out.next hb3)
  have n0 : w.heap.size < w3.heap.size := S3.out.1.lt
  have n1 : w.heap.size + 1 < w3.heap.size := S3.out.2.1.lt
  have T3 : Hid (XT w W H A c B d bs bt fx w3.heap.size g gc (w3.alloc (.cells #[.int .i64 (W : Int), .int .i64 (H : Int), .slice (some ⟨g, 0, none⟩) fx.length gc] 24))) :=
    ⟨S3.out.next ((Below.refl _ _).alloc (Nat.le_refl _) _), hrow.alloc _, Box.new _ _ _⟩
  clear hb3 S2 q0 q1 q2 q3 q4 q5 HX hrow
  obtain ⟨q0, q1, q2, q3, q4, q5⟩ := S3.out.cells
  clear S3
  go_wp2_with fail
  refine (refvalid_any _ _ _ _ fx _ T3.out.2.1.bys hmx).mono ?_
  rw [HV.out]
  rintro e w4 ⟨rfl, hb4⟩
  have T4 := hide (T3.out.next hb4)
  clear hb4 T3 q0 q1 q2 q3 q4 q5
  obtain ⟨q0, q1, q2, q3, q4, q5, q6, q7, q8⟩ := T4.out.cells
  go_wp2_with fail
  clear q0 q1 q2 q3 q4 q5 q6 q7 q8
  obtain ⟨Oc, hOc⟩ : ∃ Oc, Oc = w3.heap.size := ⟨_, rfl⟩
  rw [← hOc] at T4 ⊢
  clear hOc n0 n1
  go_loopw [7] (fun i wr => ∃ y : Nat, y ≤ H ∧ i = .int .i64 y ∧ Hid (XT w W H A c B d bs bt fx Oc g gc wr)) (fun i _ => H - (intOf i).toNat)
  case atStart => exact ⟨0, by omega, rfl, T4⟩
  case round =>
    clear T4
    obtain ⟨y, hy, rfl, hR⟩ := hrel
    obtain ⟨q0, q1, q2, q3, q4, q5, q6, q7, q8⟩ := hR.out.cells
    by_cases hlt : y < H
    · go_wp2_with fail
      clear q0 q1 q2 q3 q4 q5 q6 q7 q8
      obtain ⟨wo, rfl⟩ : ∃ wo : World, wo = wr := ⟨_, rfl⟩
      go_loopw [8] (fun i wr => ∃ x : Nat, x ≤ W ∧ i = .int .i64 x ∧ Hid (XT w W H A c B d bs bt fx Oc g gc wr)) (fun i _ => W - (intOf i).toNat)
      case atStart => exact ⟨0, by omega, rfl, hR⟩
      case round =>
        clear hR
        obtain ⟨x, hx, rfl, hR⟩ := hrel
        obtain ⟨q0, q1, q2, q3, q4, q5, q6, q7, q8⟩ := hR.out.cells
        by_cases hxt : x < W
        · have HRp := hide (hR.out.next ((Below.refl _ _).drew))
          clear hR
          go_wp2_with fail
          clear q0 q1 q2 q3 q4 q5 q6 q7 q8
          refine wp_region_held_drew (S := fun v => XT w W H A c B d bs bt fx Oc g gc v) (by kernel_rfl) (HRp.out) (fun hH => ?_)
          refine wpAnyH_take (i := 0) (v := ?xv0) (by simp only [List.getElem?_toArray, List.getElem?_cons_succ, List.getElem?_cons_zero]; exact rfl) (by kernel_rfl) (by kernel_rfl) (by kernel_rfl) ?xq0 ?xy0 hH ?xr0
          case xq0 => exact fun _ _ _ h => h
          case xy0 =>
            refine Or.inl ⟨by rfl, fun v hv => ?_⟩
            obtain ⟨q0, q1, q2, q3, q4, q5, q6, q7, q8⟩ := XT.cells hv
            go_simp
            rfl
          try simp only [Act.put, List.setIfInBounds_toArray, List.set_cons_zero, List.set_cons_succ]
          refine wpAnyH_take (i := 1) (v := ?xv1) (by simp only [List.getElem?_toArray, List.getElem?_cons_succ, List.getElem?_cons_zero]; exact rfl) (by kernel_rfl) (by kernel_rfl) (by kernel_rfl) ?xq1 ?xy1 hH ?xr1
          case xq1 => exact fun _ _ _ h => h
          case xy1 =>
            refine Or.inl ⟨by rfl, fun v hv => ?_⟩
            go_simp
            rfl
          try simp only [Act.put, List.setIfInBounds_toArray, List.set_cons_zero, List.set_cons_succ]
          refine wpAnyH_take (i := 2) (v := ?xv2) (by simp only [List.getElem?_toArray, List.getElem?_cons_succ, List.getElem?_cons_zero]; exact rfl) (by kernel_rfl) (by kernel_rfl) (by kernel_rfl) ?xq2 ?xy2 hH ?xr2
          case xq2 => exact fun _ _ _ h => h
          case xy2 =>
            refine Or.inl ⟨by rfl, fun v hv => ?_⟩
            go_simp
            rfl
          try simp only [Act.put, List.setIfInBounds_toArray, List.set_cons_zero, List.set_cons_succ]
          refine wpAnyH_take (i := 4) (v := ?xv4) (by simp only [List.getElem?_toArray, List.getElem?_cons_succ, List.getElem?_cons_zero]; exact rfl) (by kernel_rfl) (by kernel_rfl) (by kernel_rfl) ?xq4 ?xy4 hH ?xr4
          case xq4 => exact fun _ _ _ h => h
          case xy4 =>
            refine Or.inl ⟨by rfl, fun v hv => ?_⟩
            obtain ⟨q0, q1, q2, q3, q4, q5, q6, q7, q8⟩ := XT.cells hv
            go_simp
            rfl
          try simp only [Act.put, List.setIfInBounds_toArray, List.set_cons_zero, List.set_cons_succ]
          refine wpAnyH_take (i := 5) (v := ?xv5) (by simp only [List.getElem?_toArray, List.getElem?_cons_succ, List.getElem?_cons_zero]; exact rfl) (by kernel_rfl) (by kernel_rfl) (by kernel_rfl) ?xq5 ?xy5 hH ?xr5
          case xq5 => exact fun _ _ _ h => h
          case xy5 =>
            refine Or.inl ⟨by rfl, fun v hv => ?_⟩
            go_simp
            rfl
          try simp only [Act.put, List.setIfInBounds_toArray, List.set_cons_zero, List.set_cons_succ]
          refine wpAnyH_take (i := 6) (v := ?xv6) (by simp only [List.getElem?_toArray, List.getElem?_cons_succ, List.getElem?_cons_zero]; exact rfl) (by kernel_rfl) (by kernel_rfl) (by kernel_rfl) ?xq6 ?xy6 hH ?xr6
          case xq6 => exact fun _ _ _ h => h
          case xy6 =>
            refine Or.inl ⟨by rfl, fun v hv => ?_⟩
            go_simp
            rfl
          try simp only [Act.put, List.setIfInBounds_toArray, List.set_cons_zero, List.set_cons_succ]
          refine wpAnyH_take (i := 8) (v := ?xv8) (by simp only [List.getElem?_toArray, List.getElem?_cons_succ, List.getElem?_cons_zero]; exact rfl) (by kernel_rfl) (by kernel_rfl) (by kernel_rfl) ?xq8 ?xy8 hH ?xr8
          case xq8 => exact fun _ _ _ h => h
          case xy8 =>
            refine Or.inl ⟨by rfl, fun v hv => ?_⟩
            obtain ⟨q0, q1, q2, q3, q4, q5, q6, q7, q8⟩ := XT.cells hv
            go_simp
            rfl
          try simp only [Act.put, List.setIfInBounds_toArray, List.set_cons_zero, List.set_cons_succ]
          refine wpAnyH_take (i := 9) (v := ?xv9) (by simp only [List.getElem?_toArray, List.getElem?_cons_succ, List.getElem?_cons_zero]; exact rfl) (by kernel_rfl) (by kernel_rfl) (by kernel_rfl) ?xq9 ?xy9 hH ?xr9
          case xq9 => exact fun _ _ _ h => h
          case xy9 =>
            refine Or.inl ⟨by rfl, fun v hv => ?_⟩
            go_simp
            rfl
          try simp only [Act.put, List.setIfInBounds_toArray, List.set_cons_zero, List.set_cons_succ]
          refine wpAnyH_take (i := 10) (v := ?xv10) (by simp only [List.getElem?_toArray, List.getElem?_cons_succ, List.getElem?_cons_zero]; exact rfl) (by kernel_rfl) (by kernel_rfl) (by kernel_rfl) ?xq10 ?xy10 hH ?xr10
          case xq10 => exact fun _ _ _ h => h
          case xy10 =>
            refine Or.inl ⟨by rfl, fun v hv => ?_⟩
            go_simp
            rfl
          try simp only [Act.put, List.setIfInBounds_toArray, List.set_cons_zero, List.set_cons_succ]
          refine wpAnyH_ready (rs := [3]) (by kernel_rfl) (by simp) ?_
          refine AllReadyH.cons (by simp only [List.getElem?_toArray, List.getElem?_cons_succ, List.getElem?_cons_zero]; exact rfl) (fun K hK => ?_) AllReadyH.nil
          go_simp
          refine (HG1'.out _ _ x y _ hH.2.1.bys).mono ?_
          rintro e w5 ⟨rfl, hb1⟩
          have hN := hH.next hb1
          clear hb1
          refine hK.out _ _ hN (fun hH' => ?_)
          clear hK hH hN K
          have hH := hH'
          clear hH'
          try simp only [Act.put, List.setIfInBounds_toArray, List.set_cons_zero, List.set_cons_succ]
          refine wpAnyH_ready (rs := [7]) (by kernel_rfl) (by simp) ?_
          refine AllReadyH.cons (by simp only [List.getElem?_toArray, List.getElem?_cons_succ, List.getElem?_cons_zero]; exact rfl) (fun K hK => ?_) AllReadyH.nil
          go_simp
          refine (HG2'.out x y _ hH.1.2.2.1).mono ?_
          rintro e w5 ⟨rfl, hb1⟩
          have hN := hH.next hb1
          clear hb1
          refine hK.out _ _ hN (fun hH' => ?_)
          clear hK hH hN K
          have hH := hH'
          clear hH'
          try simp only [Act.put, List.setIfInBounds_toArray, List.set_cons_zero, List.set_cons_succ]
          refine wpAnyH_ready (rs := [11]) (by kernel_rfl) (by simp) ?_
          refine AllReadyH.cons (by simp only [List.getElem?_toArray, List.getElem?_cons_succ, List.getElem?_cons_zero]; exact rfl) (fun K hK => ?_) AllReadyH.nil
          go_simp
          refine (HG3'.out x y _ hH.1.2.2.2.1).mono ?_
          rintro e w5 ⟨rfl, hb1⟩
          have hN := hH.next hb1
          clear hb1
          refine hK.out _ _ hN (fun hH' => ?_)
          clear hK hH hN K
          have hH := hH'
          clear hH'
          try simp only [Act.put, List.setIfInBounds_toArray, List.set_cons_zero, List.set_cons_succ]
          refine wpAnyH_take (i := 12) (v := ?xv12) (by simp only [List.getElem?_toArray, List.getElem?_cons_succ, List.getElem?_cons_zero]; exact rfl) (by kernel_rfl) (by kernel_rfl) (by kernel_rfl) ?xq12 ?xy12 hH ?xr12
          case xq12 => exact fun _ _ _ h => h
          case xy12 =>
            refine Or.inl ⟨by rfl, fun v hv => ?_⟩
            go_simp
            rfl
          try simp only [Act.put, List.setIfInBounds_toArray, List.set_cons_zero, List.set_cons_succ]
          refine wpAnyH_take (i := 13) (v := ?xv13) (by simp only [List.getElem?_toArray, List.getElem?_cons_succ, List.getElem?_cons_zero]; exact rfl) (by kernel_rfl) (by kernel_rfl) (by kernel_rfl) ?xq13 ?xy13 hH ?xr13
          case xq13 => exact fun _ _ _ h => h
          case xy13 =>
            refine Or.inl ⟨by rfl, fun v hv => ?_⟩
            go_simp
            rfl
          try simp only [Act.put, List.setIfInBounds_toArray, List.set_cons_zero, List.set_cons_succ]
          refine wpAnyH_done (by kernel_rfl) ?_ _
          have HRq := hide hH
          clear hH
          go_wp2_with fail
          all_goals first
            | (exfalso; rename_i hq; revert hq; cases r2 x y <;> cases r3 x y <;> decide)
            | skip
          go_roundw
          case rel => exact ⟨x + 1, by omega, by go_num, HRq⟩
          case measure => simp [intOf]; omega
        · obtain rfl : W = x := by omega
          go_wp2_with fail
          go_roundw
          case rel => exact ⟨y + 1, by omega, by go_num, hR⟩
          case measure => simp [intOf]; omega
    · obtain rfl : H = y := by omega
      go_wp2_with fail
      refine (HX2.out _ _ _ hR.out.2.1.bys hR.out.1.2.2.2.1).mono ?_
      rintro e w6 ⟨g2, gc2, hg2, rfl, hrow, hb6⟩
      have T6 : Hid (XT w W H A c B d bs bt fx Oc g gc (w6.alloc (.cells #[.int .i64 (W : Int), .int .i64 (H : Int), .slice (some ⟨g2, 0, none⟩) bs.length gc2] 24))) :=
        (hR.out.next hb6).next ((Below.refl _ _).alloc (Nat.le_refl _) _)
      have R6 := hide (hrow.alloc (.cells #[.int .i64 (W : Int), .int .i64 (H : Int), .slice (some ⟨g2, 0, none⟩) bs.length gc2] 24))
      have Y6 := hide (Box.new w6 24 #[.int .i64 (W : Int), .int .i64 (H : Int), .slice (some ⟨g2, 0, none⟩) bs.length gc2])
      clear hb6 hR hrow q0 q1 q2 q3 q4 q5 q6 q7 q8 HX2
      go_wp2_with fail
      refine (awake_any _).mono ?_
      rintro e w7 ⟨rfl, hb7⟩
      have T7 := hide (T6.out.next hb7)
      have R7 := hide (R6.out.kept hb7)
      have Y7 := hide (Y6.out.kept hb7)
      clear hb7 T6 R6 Y6
      obtain ⟨q0, q1, q2, _, _, _, _, _, _⟩ := T7.out.cells
      have k0 : w7.cell? ⟨w6.heap.size, 0, none⟩ = some (.int .i64 (W : Int)) := Y7.out.cell 0
      have k1 : w7.cell? ⟨w6.heap.size, 1, none⟩ = some (.int .i64 (H : Int)) := Y7.out.cell 1
      have k2 : w7.cell? ⟨w6.heap.size, 2, none⟩ = some (.slice (some ⟨g2, 0, none⟩) bs.length gc2) := Y7.out.cell 2
      go_wp2_with fail
      refine (refeq_any W H W H _ _ _ _ bs bs _ R7.out.bys T7.out.1.2.2.1 hm hm).mono ?_
      rw [eqB_self]
      rintro e w8 ⟨rfl, hb8⟩
      have B8 := hide (T7.out.next hb8).1.2.2.2.2
      clear hb8 T7 R7 Y7 k0 k1 k2 q0 q1 q2
      go_wp2_with fail
      go_ret
      exact ⟨rfl, B8.out⟩

theorem walk (W H W' H' : Int) (A B : Option Addr) (c d : Nat) (bs bt : List UInt8) (w : World) (hb : Bys w A bs) (hm : bs.length ≤ maxLen) (hb' : Bys w B bt) (hm' : bt.length ≤ maxLen) :
    Calls Try.prog 7 #[.agg #[.int .i64 W, .int .i64 H, .slice A bs.length c], .agg #[.int .i64 W', .int .i64 H', .slice B bt.length d]] w (Yes w) := by
  by_cases hs : smallB W H bs = true
  · by_cases hs' : smallB W' H' bt = true
    · obtain ⟨W1, H1, f, rfl, rfl, rfl, h1, h2, h3, h4⟩ := small_form hs
      obtain ⟨W2, H2, f', rfl, rfl, rfl, g1, g2, g3, g4⟩ := small_form hs'
      by_cases e : W1 = W2 ∧ H1 = H2
      · obtain ⟨rfl, rfl⟩ := e
        exact walk_same W1 H1 A B c d f f' w hb hb' h1 h2 h3 h4
      · exact walk_sizes W1 H1 W2 H2 A B c d f f' w hb hb' h1 h2 h3 h4 g1 g2 g3 g4 (by omega)
    · exact walk_b W H W' H' A B c d bs bt w hb hm hb' hm' hs (Bool.eq_false_iff.2 hs')
  · exact walk_a W H W' H' A B c d bs bt w hb hm hb' (Bool.eq_false_iff.2 hs)

set_option maxRecDepth 100000 in
theorem lifted (os : Os) (started : os.Started) (H : Type) (enc : TypeId × Value → H) :
    ReturnsInHanded {} Try.checked os 7 .any (Rows.imageXorSpec.pre6 enc Try.prog Try.f7 Rows.imageXorRow.domain false) (Rows.imageXorSpec.post enc Try.prog Try.f7 false true false false) := by
  refine returnsInHanded_of_change (C := Try.checked) own started (by kernel_rfl) Try.func7
    (ChangeSpec.witness6 (enc := enc) (C := Try.checked) false ⟨#[], #[.agg #[.int .i64 0, .int .i64 0, .slice none 0 0], .agg #[.int .i64 0, .int .i64 0, .slice none 0 0]], []⟩ 8 (by kernel_rfl) (by kernel_rfl) (by kernel_rfl) (by kernel_rfl)) ?_
  intro W base args ds gs before hval0 hW hcnd _
  have hval : ∀ (j : Nat) t v, Try.f7.params[j]? = some t → args[j]? = some v → Value.okWide Try.prog W .any base t v := hval0
  have hW' := hW
  obtain ⟨p, q, hA0, hV, rfl, hfz, hnd⟩ := hW
  have hA : DataW.TrodAll enc Try.prog W 0 (fun _ => true) true Try.f7.params.toList args.toList ds p := hA0
  rw [Try.params7] at hA hval
  obtain ⟨v0, vs0, d0, ds0, p0, q0, hargs, rfl, rfl, h0, r0⟩ := trodAll_cons hA
  obtain ⟨v1, vs1, d1, ds1, p1, q1, rfl, rfl, rfl, h1, r1⟩ := trodAll_cons r0
  obtain ⟨rfl, rfl, rfl⟩ := trodAll_nil r1
  obtain rfl : args = #[v0, v1] := by cases args; simp_all
  obtain ⟨W0, H0, A0, c0, bs0, rfl, hb0, hm0⟩ := open_image (hval 0 24 v0 rfl rfl) h0
  obtain ⟨W1, H1, A1, c1, bs1, rfl, hb1, hm1⟩ := open_image (hval 1 24 v1 rfl rfl) h1
  refine (walk W0 H0 W1 H1 A0 A1 c0 c1 bs0 bs1 W hb0 hm0 hb1 hm1).mono fun e W' ⟨he, hb⟩ => ?_
  subst he
  exact ⟨_, rfl, post_law hW' rfl hb (by rw [Try.params7]; exact params_ok (by kernel_rfl)) rfl rfl⟩

theorem over : Rows.imageXorRow.holds Try.pinned (OpenSpec.ofChange Rows.imageXorSpec) :=
  OpenClaim.holds_of_wide 7 Try.f7 rfl rfl rfl rfl rfl rfl rfl ⟨rfl, rfl, rfl, rfl, rfl⟩ rfl rfl rfl rfl rfl (by kernel_rfl) Try.func7 (by kernel_rfl)
    (of_decide_eq_true (by kernel_rfl)) (by unfold Func.isWrapper; first | (rw [if_pos (by decide +kernel)]; kernel_rfl) | (rw [if_neg (by decide +kernel)]; exact ⟨rfl, rfl⟩))
    (fun os started H enc _ => lifted os started H enc)

theorem proved : Rows.ImageXorSaid := over
end Go.Proofs.Ytebahhmajllmnaa.lawXor
