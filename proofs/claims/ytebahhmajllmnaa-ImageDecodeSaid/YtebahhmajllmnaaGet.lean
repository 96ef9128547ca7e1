/-
  Equality of images, small, Get, the reference's Get, within and clip: what they return.
-/
import Derived.Test.YtebahhmajllmnaaValid
import Derived.Test.YtebahhmajllmnaaRect
namespace Go.Proofs.Ytebahhmajllmnaa
open Go.RowKit
set_option linter.unusedVariables false

def eqB (W H W' H' : Int) (xs ys : List UInt8) : Bool := decide (W = W') && decide (H = H') && (xs == ys)
theorem eqB_self (W H : Int) (xs : List UInt8) : eqB W H W H xs xs = true := by simp [eqB]

set_option maxHeartbeats 400000 in
theorem refeq_any (W H W' H' : Int) (A B : Option Addr) (c d : Nat) (xs ys : List UInt8) (w : World) (hx : Bys w A xs) (hy : Bys w B ys) (hm : xs.length ≤ maxLen) (hn : ys.length ≤ maxLen) :
    Calls Try.prog 15 #[.agg #[.int .i64 W, .int .i64 H, .slice A xs.length c], .agg #[.int .i64 W', .int .i64 H', .slice B ys.length d]] w fun e w' => e = .returned (.bool (eqB W H W' H' xs ys)) ∧ Below w.heap.size w w' := by
  by_cases h1 : W = W'
  · subst h1
    by_cases h2 : H = H'
    · subst h2
      have N : Hid (eqB W H W H xs ys = (xs == ys)) := by simp [Hid, eqB]
      go_enter Try.func15, Try.ntmps15
      go_wp2_with (go_at_call 23; refine (eq04_any _ _ _ _ xs ys _ ((hx.alloc _).alloc _) ((hy.alloc _).alloc _) hm hn).mono ?_; rintro e w' ⟨rfl, hb1⟩)
      go_ret
      exact ⟨by rw [N.out]; rfl, (((Below.refl _ _).alloc (Nat.le_refl _) _).alloc (by simp) _).trans (hb1.mono (by simp; omega))⟩
    · have t : (H == H') = false := beq_eq_false_iff_ne.2 h2
      have N : Hid (eqB W H W H' xs ys = false) := by simp [Hid, eqB, h2]
      clear h2
      go_enter Try.func15, Try.ntmps15
      go_wp2
      go_ret
      exact ⟨by rw [N.out]; rfl, ((Below.refl _ _).alloc (Nat.le_refl _) _).alloc (by simp) _⟩
  · have t : (W == W') = false := beq_eq_false_iff_ne.2 h1
    have N : Hid (eqB W H W' H' xs ys = false) := by simp [Hid, eqB, h1]
    clear h1
    go_enter Try.func15, Try.ntmps15
    go_wp2
    go_ret
    exact ⟨by rw [N.out]; rfl, ((Below.refl _ _).alloc (Nat.le_refl _) _).alloc (by simp) _⟩

def smallB (W H : Int) (bs : List UInt8) : Bool := decide (W ≤ 24) && decide (H ≤ 24) && validB W H bs
set_option maxHeartbeats 400000 in
theorem small_any (W H : Int) (A : Option Addr) (c : Nat) (bs : List UInt8) (w : World) (hb : Bys w A bs) (hm : bs.length ≤ maxLen) :
    Calls Try.prog 18 #[.agg #[.int .i64 W, .int .i64 H, .slice A bs.length c]] w fun e w' => e = .returned (.bool (smallB W H bs)) ∧ Below w.heap.size w w' := by
  by_cases h1 : W ≤ 24
  · by_cases h2 : H ≤ 24
    · have N : Hid (smallB W H bs = validB W H bs) := by simp [Hid, smallB, h1, h2]
      go_enter Try.func18, Try.ntmps18
      go_wp2_with (go_at_call 17; refine (refvalid_any _ _ _ _ bs _ (hb.alloc _) hm).mono ?_; rintro e w' ⟨rfl, hb1⟩)
      go_ret
      exact ⟨by rw [N.out]; rfl, ((Below.refl _ _).alloc (Nat.le_refl _) _).trans (hb1.mono (by simp))⟩
    · have N : Hid (smallB W H bs = false) := by simp [Hid, smallB, h2]
      go_enter Try.func18, Try.ntmps18
      go_wp2
      go_ret
      exact ⟨by rw [N.out]; rfl, (Below.refl _ _).alloc (Nat.le_refl _) _⟩
  · have N : Hid (smallB W H bs = false) := by simp [Hid, smallB, h1]
    go_enter Try.func18, Try.ntmps18
    go_wp2
    go_ret
    exact ⟨by rw [N.out]; rfl, (Below.refl _ _).alloc (Nat.le_refl _) _⟩

/-- a valid image, as its pixels f -/
def Im (w : World) (v : Value) (W H : Nat) (f : Nat → Bool) : Prop :=
  ∃ A c, v = .agg #[.int .i64 (W : Int), .int .i64 (H : Int), .slice A (pack (W * H) f).length c] ∧ Bys w A (pack (W * H) f)

def getB (W H : Nat) (f : Nat → Bool) (x y : Int) : Bool := decide (0 ≤ x) && decide (x < W) && decide (0 ≤ y) && decide (y < H) && f (y.toNat * W + x.toNat)

theorem idx_bd {W H : Nat} {x y : Int} (hx0 : 0 ≤ x) (hx : x < W) (hy0 : 0 ≤ y) (hy : y < H) :
    0 ≤ y * W ∧ y * W + x < (W * H : Nat) ∧ (y * W + x).toNat = y.toNat * W + x.toNat := by
  obtain ⟨a, rfl⟩ := Int.eq_ofNat_of_zero_le hx0
  obtain ⟨b, rfl⟩ := Int.eq_ofNat_of_zero_le hy0
  simp only [Int.toNat_natCast]
  have h1 : b * W + a < W * H := by
    have : (b + 1) * W ≤ H * W := Nat.mul_le_mul_right _ (by omega)
    rw [Nat.mul_comm W H]
    rw [Nat.add_mul] at this
    omega
  have e : (b : Int) * (W : Int) = ((b * W : Nat) : Int) := by simp
  rw [e]
  omega

theorem size_bd {W H : Nat} (hW : W ≤ 512) (hH : H ≤ 512) : W * H ≤ 262144 := Nat.mul_le_mul hW hH

set_option maxHeartbeats 800000 in
theorem refget_any (W H : Nat) (A : Option Addr) (c : Nat) (f : Nat → Bool) (x y : Int) (w : World) (hb : Bys w A (pack (W * H) f)) (hW : W ≤ 512) (hH : H ≤ 512) :
    Calls Try.prog 20 #[.agg #[.int .i64 (W : Int), .int .i64 (H : Int), .slice A (pack (W * H) f).length c], .int .i64 x, .int .i64 y] w fun e w' => e = .returned (.bool (getB W H f x y)) ∧ Below w.heap.size w w' := by
  by_cases h1 : 0 ≤ x
  · by_cases h2 : x < W
    · by_cases h3 : 0 ≤ y
      · by_cases h4 : y < H
        · obtain ⟨g0, g1, g2⟩ := idx_bd h1 h2 h3 h4
          have gp := size_bd hW hH
          have hl : (pack (W * H) f).length = (W * H + 7) / 8 := length_pack _ _
          have N : Hid (getB W H f x y = bitAt (pack (W * H) f) (y * W + x).toNat) := by
            unfold Hid getB
            rw [bitAt_pack, g2, decide_eq_true (show y.toNat * W + x.toNat < W * H by omega)]
            simp [h1, h2, h3, h4]
          have gq : y * W + x ≤ 262144 := by omega
          have hl3 : (pack (W * H) f).length ≤ 1000000 := by omega
          have hl2 : (y * W + x).toNat / 8 < (pack (W * H) f).length := by omega
          have HL2 := hide hl2
          have g4 : 0 ≤ y * W + x := by omega
          clear hl2 hl g1 g2 gp
          generalize pack (W * H) f = bs at *
          go_enter Try.func20, Try.ntmps20
          go_wp2_with (go_at_call 36; refine (refbit_any _ _ _ bs _ _ (hb.alloc _) (Nat.le_refl _) hl3 g4 HL2.out).mono ?_; rintro e w' ⟨rfl, rfl⟩)
          go_ret
          exact ⟨by rw [N.out]; rfl, (Below.refl _ _).alloc (Nat.le_refl _) _⟩
        · have N : Hid (getB W H f x y = false) := by simp [Hid, getB, h4]
          go_enter Try.func20, Try.ntmps20
          go_wp2
          go_ret
          exact ⟨by rw [N.out]; rfl, (Below.refl _ _).alloc (Nat.le_refl _) _⟩
      · have N : Hid (getB W H f x y = false) := by simp [Hid, getB, h3]
        go_enter Try.func20, Try.ntmps20
        go_wp2
        go_ret
        exact ⟨by rw [N.out]; rfl, (Below.refl _ _).alloc (Nat.le_refl _) _⟩
    · have N : Hid (getB W H f x y = false) := by simp [Hid, getB, h2]
      go_enter Try.func20, Try.ntmps20
      go_wp2
      go_ret
      exact ⟨by rw [N.out]; rfl, (Below.refl _ _).alloc (Nat.le_refl _) _⟩
  · have N : Hid (getB W H f x y = false) := by simp [Hid, getB, h1]
    go_enter Try.func20, Try.ntmps20
    go_wp2
    go_ret
    exact ⟨by rw [N.out]; rfl, (Below.refl _ _).alloc (Nat.le_refl _) _⟩

theorem validB_pack {W H : Nat} (f : Nat → Bool) (h1 : 1 ≤ W) (h2 : W ≤ 512) (h3 : 1 ≤ H) (h4 : H ≤ 512) : validB W H (pack (W * H) f) = true := by
  refine (validB_iff _ _ _).2 ⟨by omega, by omega, by omega, by omega, ?_⟩
  rw [show ((W : Int) * (H : Int)).toNat = W * H from by rw [← Int.natCast_mul]; rfl]
  exact tidy_pack _ _

theorem len_pack_bd {W H : Nat} (f : Nat → Bool) (h2 : W ≤ 512) (h4 : H ≤ 512) : (pack (W * H) f).length ≤ 32768 := by
  rw [length_pack]; have := size_bd h2 h4; omega
theorem len_pack_max {W H : Nat} (f : Nat → Bool) (h2 : W ≤ 512) (h4 : H ≤ 512) : (pack (W * H) f).length ≤ maxLen := by
  have := len_pack_bd f h2 h4; unfold maxLen; omega

set_option maxHeartbeats 800000 in
theorem get_no (W H : Int) (A : Option Addr) (c : Nat) (bs : List UInt8) (x y : Int) (w : World) (hb : Bys w A bs) (hm : bs.length ≤ maxLen) (hv : validB W H bs = false) :
    Calls Try.prog 19 #[.agg #[.int .i64 W, .int .i64 H, .slice A bs.length c], .int .i64 x, .int .i64 y] w fun e w' => e = .returned (.bool false) ∧ Below w.heap.size w w' := by
  have HV := hide hv
  clear hv
  go_enter Try.func19, Try.ntmps19
  go_wp2_with (go_at_call 16; refine (valid_any _ _ _ _ bs _ (hb.alloc _) hm).mono ?_; rw [HV.out]; rintro e w' ⟨rfl, hb1⟩)
  go_ret
  exact ⟨rfl, ((Below.refl _ _).alloc (Nat.le_refl _) _).trans (hb1.mono (by simp))⟩

set_option maxHeartbeats 1600000 in
theorem get_any (W H : Nat) (A : Option Addr) (c : Nat) (f : Nat → Bool) (x y : Int) (w : World) (hb : Bys w A (pack (W * H) f)) (hW1 : 1 ≤ W) (hW : W ≤ 512) (hH1 : 1 ≤ H) (hH : H ≤ 512) :
    Calls Try.prog 19 #[.agg #[.int .i64 (W : Int), .int .i64 (H : Int), .slice A (pack (W * H) f).length c], .int .i64 x, .int .i64 y] w fun e w' => e = .returned (.bool (getB W H f x y)) ∧ Below w.heap.size w w' := by
  have HV := hide (validB_pack f hW1 hW hH1 hH)
  have hm := len_pack_max f hW hH
  by_cases h1 : 0 ≤ x
  · by_cases h2 : x < W
    · by_cases h3 : 0 ≤ y
      · by_cases h4 : y < H
        · obtain ⟨g0, g1, g2⟩ := idx_bd h1 h2 h3 h4
          have gp := size_bd hW hH
          have hl : (pack (W * H) f).length = (W * H + 7) / 8 := length_pack _ _
          have N : Hid (getB W H f x y = bitAt (pack (W * H) f) (y * W + x).toNat) := by
            unfold Hid getB
            rw [bitAt_pack, g2, decide_eq_true (show y.toNat * W + x.toNat < W * H by omega)]
            simp [h1, h2, h3, h4]
          have gq : y * W + x ≤ 262144 := by omega
          have hl3 : (pack (W * H) f).length ≤ 1000000 := by omega
          have hl2 : (y * W + x).toNat / 8 < (pack (W * H) f).length := by omega
          have HL2 := hide hl2
          have g4 : 0 ≤ y * W + x := by omega
          clear hl2 hl g1 g2 gp
          generalize pack (W * H) f = bs at *
          go_enter Try.func19, Try.ntmps19
          go_wp2_with (first
            | (go_at_call 16; refine (valid_any _ _ _ _ bs _ (hb.alloc _) hm).mono ?_; rw [HV.out]; rintro e w1 ⟨rfl, hb1⟩; have hB1 := hide ((hb.alloc _).below hb1); obtain ⟨hc0, hc1, hc2⟩ := box3 hb1)
            | (go_at_call 37; refine (bit_any _ _ _ _ _ bs _ _ hB1.out (Nat.le_refl _) hl3 g4 HL2.out).mono ?_; rintro e w2 ⟨rfl, hb2⟩))
          go_ret
          exact ⟨by rw [N.out]; rfl, below_then (below_box hb1) hb2⟩
        · have N : Hid (getB W H f x y = false) := by simp [Hid, getB, h4]
          generalize pack (W * H) f = bs at *
          go_enter Try.func19, Try.ntmps19
          go_wp2_with (go_at_call 16; refine (valid_any _ _ _ _ bs _ (hb.alloc _) hm).mono ?_; rw [HV.out]; rintro e w1 ⟨rfl, hb1⟩; obtain ⟨hc0, hc1, hc2⟩ := box3 hb1)
          go_ret
          exact ⟨by rw [N.out]; rfl, below_box hb1⟩
      · have N : Hid (getB W H f x y = false) := by simp [Hid, getB, h3]
        generalize pack (W * H) f = bs at *
        go_enter Try.func19, Try.ntmps19
        go_wp2_with (go_at_call 16; refine (valid_any _ _ _ _ bs _ (hb.alloc _) hm).mono ?_; rw [HV.out]; rintro e w1 ⟨rfl, hb1⟩; obtain ⟨hc0, hc1, hc2⟩ := box3 hb1)
        go_ret
        exact ⟨by rw [N.out]; rfl, below_box hb1⟩
    · have N : Hid (getB W H f x y = false) := by simp [Hid, getB, h2]
      generalize pack (W * H) f = bs at *
      go_enter Try.func19, Try.ntmps19
      go_wp2_with (go_at_call 16; refine (valid_any _ _ _ _ bs _ (hb.alloc _) hm).mono ?_; rw [HV.out]; rintro e w1 ⟨rfl, hb1⟩; obtain ⟨hc0, hc1, hc2⟩ := box3 hb1)
      go_ret
      exact ⟨by rw [N.out]; rfl, below_box hb1⟩
  · have N : Hid (getB W H f x y = false) := by simp [Hid, getB, h1]
    generalize pack (W * H) f = bs at *
    go_enter Try.func19, Try.ntmps19
    go_wp2_with (go_at_call 16; refine (valid_any _ _ _ _ bs _ (hb.alloc _) hm).mono ?_; rw [HV.out]; rintro e w1 ⟨rfl, hb1⟩; obtain ⟨hc0, hc1, hc2⟩ := box3 hb1)
    go_ret
    exact ⟨by rw [N.out]; rfl, below_box hb1⟩

set_option maxHeartbeats 400000 in
theorem within_any (p x n : Int) (w : World) (hp : 0 ≤ p) (hp2 : p ≤ 1000) (hx1 : -9223372036854775808 ≤ x) (hx2 : x ≤ 9223372036854775807) (hn1 : -9223372036854775808 ≤ n) (hn2 : n ≤ 9223372036854775807) :
    Calls Try.prog 44 #[.int .i64 p, .int .i64 x, .int .i64 n] w fun e w' => e = .returned (.bool (withinB p x n)) ∧ w = w' := by
  by_cases h1 : n ≤ 0
  · have N : Hid (withinB p x n = false) := by simp [Hid, withinB, Int.not_lt.2 h1]
    go_enter Try.func44, Try.ntmps44
    go_wp2
    go_ret
    exact ⟨by rw [N.out]; rfl, rfl⟩
  by_cases h2 : p < x
  · have N : Hid (withinB p x n = false) := by simp [Hid, withinB, Int.not_le.2 h2]
    go_enter Try.func44, Try.ntmps44
    go_wp2
    go_ret
    exact ⟨by rw [N.out]; rfl, rfl⟩
  by_cases h3 : x < 0
  · have N : Hid (withinB p x n = decide (p < n + x)) := by
      have e : (p - x < n) = (p < n + x) := by apply propext; omega
      simp [Hid, withinB, Int.not_le.1 h1, Int.not_lt.1 h2, e]
    go_enter Try.func44, Try.ntmps44
    go_wp2
    go_ret
    exact ⟨by rw [N.out]; rfl, rfl⟩
  · have N : Hid (withinB p x n = decide (p - x < n)) := by
      simp [Hid, withinB, Int.not_le.1 h1, Int.not_lt.1 h2]
    go_enter Try.func44, Try.ntmps44
    go_wp2
    go_ret
    exact ⟨by rw [N.out]; rfl, rfl⟩

set_option maxHeartbeats 400000 in
theorem clip_any (x n L : Int) (w : World) (hL : 0 ≤ L) (hL2 : L ≤ 1000) (hx1 : -9223372036854775808 ≤ x) (hx2 : x ≤ 9223372036854775807) (hn1 : -9223372036854775808 ≤ n) (hn2 : n ≤ 9223372036854775807) :
    Calls Try.prog 50 #[.int .i64 x, .int .i64 n, .int .i64 L] w fun e w' => e = .returned (.tuple #[.int .i64 (clipA x n L), .int .i64 (clipB x n L)]) ∧ w = w' := by
  by_cases h1 : n ≤ 0
  · have N1 : Hid (clipA x n L = 0) := by simp [Hid, clipA, h1]
    have N2 : Hid (clipB x n L = 0) := by simp [Hid, clipB, h1]
    go_enter Try.func50, Try.ntmps50
    go_wp2
    go_ret2
    exact ⟨by rw [N1.out, N2.out]; rfl, rfl⟩
  by_cases h2 : L ≤ x
  · have N1 : Hid (clipA x n L = 0) := by simp [Hid, clipA, h2]
    have N2 : Hid (clipB x n L = 0) := by simp [Hid, clipB, h2]
    go_enter Try.func50, Try.ntmps50
    go_wp2
    go_ret2
    exact ⟨by rw [N1.out, N2.out]; rfl, rfl⟩
  by_cases h3 : 0 ≤ x
  · by_cases h4 : L - x < n
    · have N1 : Hid (clipA x n L = x) := by simp [Hid, clipA, h2, h1, h3]
      have N2 : Hid (clipB x n L = L) := by simp [Hid, clipB, h2, h1, h3, h4]
      go_enter Try.func50, Try.ntmps50
      go_wp2
      go_ret2
      exact ⟨by rw [N1.out, N2.out]; rfl, rfl⟩
    · have N1 : Hid (clipA x n L = x) := by simp [Hid, clipA, h2, h1, h3]
      have N2 : Hid (clipB x n L = x + n) := by unfold Hid clipB; rw [if_neg (by omega), if_neg (by omega)]; omega
      go_enter Try.func50, Try.ntmps50
      go_wp2
      go_ret2
      exact ⟨by rw [N1.out, N2.out]; rfl, rfl⟩
  · have N1 : Hid (clipA x n L = 0) := by simp [Hid, clipA, h2, h1, h3]
    by_cases h4 : L < x + n
    · have N2 : Hid (clipB x n L = L) := by unfold Hid clipB; rw [if_neg (by omega), if_neg (by omega)]; omega
      go_enter Try.func50, Try.ntmps50
      go_wp2
      go_ret2
      exact ⟨by rw [N1.out, N2.out]; rfl, rfl⟩
    · have N2 : Hid (clipB x n L = x + n) := by unfold Hid clipB; rw [if_neg (by omega), if_neg (by omega)]; omega
      go_enter Try.func50, Try.ntmps50
      go_wp2
      go_ret2
      exact ⟨by rw [N1.out, N2.out]; rfl, rfl⟩
end Go.Proofs.Ytebahhmajllmnaa
