/-
  Valid, the reference's Valid, and equality of byte slices: what they return.
-/
import Derived.Test.YtebahhmajllmnaaBase
namespace Go.Proofs.Ytebahhmajllmnaa
open Go.RowKit

set_option maxHeartbeats 800000 in
theorem valid_any (W H : Int) (A : Option Addr) (c : Nat) (bs : List UInt8) (w : World) (hb : Bys w A bs) (hm : bs.length ≤ maxLen) :
    Calls Try.prog 16 #[.agg #[.int .i64 W, .int .i64 H, .slice A bs.length c]] w fun e w' => e = .returned (.bool (validB W H bs)) ∧ Below w.heap.size w w' := by
  unfold maxLen at hm
  have no : ¬ (1 ≤ W ∧ W ≤ 512 ∧ 1 ≤ H ∧ H ≤ 512 ∧ bs.length = ((W * H).toNat + 7) / 8) → Hid (validB W H bs = false) := fun h => validB_not fun g => h ⟨g.1, g.2.1, g.2.2.1, g.2.2.2.1, g.2.2.2.2.1⟩
  by_cases h1 : W < 1
  · have N := no (by omega)
    clear no hb
    go_enter Try.func16, Try.ntmps16
    go_wp2
    go_ret
    exact ⟨by rw [N.out]; rfl, (Below.refl _ _).alloc (Nat.le_refl _) _⟩
  by_cases h2 : 512 < W
  · have N := no (by omega)
    clear no hb
    go_enter Try.func16, Try.ntmps16
    go_wp2
    go_ret
    exact ⟨by rw [N.out]; rfl, (Below.refl _ _).alloc (Nat.le_refl _) _⟩
  by_cases h3 : H < 1
  · have N := no (by omega)
    clear no hb
    go_enter Try.func16, Try.ntmps16
    go_wp2
    go_ret
    exact ⟨by rw [N.out]; rfl, (Below.refl _ _).alloc (Nat.le_refl _) _⟩
  by_cases h4 : 512 < H
  · have N := no (by omega)
    clear no hb
    go_enter Try.func16, Try.ntmps16
    go_wp2
    go_ret
    exact ⟨by rw [N.out]; rfl, (Below.refl _ _).alloc (Nat.le_refl _) _⟩
  obtain ⟨hp1, hp2⟩ := prod_bd (W := W) (H := H) (by omega) (by omega) (by omega) (by omega)
  by_cases h5 : bs.length = ((W * H).toNat + 7) / 8
  · have t5 : ((bs.length : Int) != (W * H + 7) / 8) = false := by rw [bne_eq_false_iff_eq]; omega
    by_cases h6 : (W * H).toNat % 8 = 0
    · have N : Hid (validB W H bs = true) := (validB_iff _ _ _).2 ⟨by omega, by omega, by omega, by omega, tidy_zero h5 h6⟩
      have t6 : (W * H % 8 == 0) = true := by rw [beq_iff_eq]; omega
      clear no hb h5 h6
      go_enter Try.func16, Try.ntmps16
      go_wp2
      go_ret
      exact ⟨by rw [N.out]; rfl, (Below.refl _ _).alloc (Nat.le_refl _) _⟩
    · have t6 : (W * H % 8 == 0) = false := by rw [beq_eq_false_iff_ne]; omega
      have hl0 : 0 < bs.length := by omega
      obtain ⟨b, off, x, rfl, hlt, hx, hX, hc⟩ := hb.at_ (k := bs.length - 1) (by omega)
      have N : Hid (((x : Int) * 2 ^ (W * H % 8).toNat % 256 == 0) = validB W H bs) := by
        have h := tidy_last (n := (W * H).toNat) (x := x) h5 h6 hX.out
        rw [show (W * H).toNat % 8 = (W * H % 8).toNat from by omega] at h
        show _ = _
        rw [Bool.eq_iff_iff, h, validB_iff]
        exact ⟨fun g => ⟨by omega, by omega, by omega, by omega, g⟩, fun g => g.2.2.2.2⟩
      have hx0 : (0 : Int) ≤ (x : Int) := by omega
      have hx1 : (x : Int) ≤ 255 := by omega
      clear no hb h5 h6 hX
      go_enter Try.func16, Try.ntmps16
      go_wp2
      go_ret
      exact ⟨by rw [← N.out]; rfl, (Below.refl _ _).alloc (Nat.le_refl _) _⟩
  · have t5 : ((bs.length : Int) != (W * H + 7) / 8) = true := by rw [bne_iff_ne]; omega
    have N := no (by omega)
    clear no hb h5
    go_enter Try.func16, Try.ntmps16
    go_wp2
    go_ret
    exact ⟨by rw [N.out]; rfl, (Below.refl _ _).alloc (Nat.le_refl _) _⟩

set_option maxHeartbeats 800000 in
theorem refvalid_any (W H : Int) (A : Option Addr) (c : Nat) (bs : List UInt8) (w : World) (hb : Bys w A bs) (hm : bs.length ≤ maxLen) :
    Calls Try.prog 17 #[.agg #[.int .i64 W, .int .i64 H, .slice A bs.length c]] w fun e w' => e = .returned (.bool (validB W H bs)) ∧ Below w.heap.size w w' := by
  unfold maxLen at hm
  have no : ¬ (1 ≤ W ∧ W ≤ 512 ∧ 1 ≤ H ∧ H ≤ 512 ∧ bs.length = ((W * H).toNat + 7) / 8) → Hid (validB W H bs = false) := fun h => validB_not fun g => h ⟨g.1, g.2.1, g.2.2.1, g.2.2.2.1, g.2.2.2.2.1⟩
  by_cases h1 : W < 1
  · have N := no (by omega)
    clear no hb
    go_enter Try.func17, Try.ntmps17
    go_wp2
    go_ret
    exact ⟨by rw [N.out]; rfl, (Below.refl _ _).alloc (Nat.le_refl _) _⟩
  by_cases h2 : 512 < W
  · have N := no (by omega)
    clear no hb
    go_enter Try.func17, Try.ntmps17
    go_wp2
    go_ret
    exact ⟨by rw [N.out]; rfl, (Below.refl _ _).alloc (Nat.le_refl _) _⟩
  by_cases h3 : H < 1
  · have N := no (by omega)
    clear no hb
    go_enter Try.func17, Try.ntmps17
    go_wp2
    go_ret
    exact ⟨by rw [N.out]; rfl, (Below.refl _ _).alloc (Nat.le_refl _) _⟩
  by_cases h4 : 512 < H
  · have N := no (by omega)
    clear no hb
    go_enter Try.func17, Try.ntmps17
    go_wp2
    go_ret
    exact ⟨by rw [N.out]; rfl, (Below.refl _ _).alloc (Nat.le_refl _) _⟩
  obtain ⟨hp1, hp2⟩ := prod_bd (W := W) (H := H) (by omega) (by omega) (by omega) (by omega)
  by_cases h5 : bs.length = ((W * H).toNat + 7) / 8
  · have t5 : ((bs.length : Int) != (W * H + 7) / 8) = false := by rw [bne_eq_false_iff_eq]; omega
    have N1 : Hid ((∀ k, (W * H).toNat ≤ k → k < 8 * bs.length → bitAt bs k = false) → validB W H bs = true) := fun g => (validB_iff _ _ _).2 ⟨by omega, by omega, by omega, by omega, h5, g⟩
    have N2 : Hid (∀ k, (W * H).toNat ≤ k → k < 8 * bs.length → bitAt bs k = true → validB W H bs = false) := fun k hk1 hk2 hk => validB_not fun g => by rw [g.2.2.2.2.2 k hk1 hk2] at hk; cases hk
    obtain ⟨P, hP⟩ : ∃ P : Nat, W * H = (P : Int) := ⟨(W * H).toNat, by omega⟩
    have hPP := hide hP
    have hl1 : bs.length ≤ 32768 := by omega
    have hl2 : P ≤ 8 * bs.length := by omega
    have hl3 : Hid (bs.length = (P + 7) / 8) := by unfold Hid; omega
    clear no h5 hP
    go_enter Try.func17, Try.ntmps17
    go_wp2
    go_loop [3] (fun i => ∃ k : Nat, (W * H).toNat ≤ k ∧ k ≤ 8 * bs.length ∧ i = .int .i64 k ∧ Hid (∀ j, (W * H).toNat ≤ j → j < k → bitAt bs j = false)) (fun i => 8 * bs.length - (intOf i).toNat)
    case atStart => exact ⟨P, by rw [hPP.out]; simp, hl2, by rw [hPP.out], fun j h1 h2 => absurd h2 (by rw [hPP.out] at h1; simp at h1; omega)⟩
    case round =>
      obtain ⟨k, hk0, hk, rfl, hall⟩ := hrel
      by_cases hlt : k < 8 * bs.length
      · have q0 : (k : Int) < 8 * (bs.length : Int) := by omega
        have hb' : Hid (Bys (w.alloc (.cells #[.int .i64 W, .int .i64 H, .slice A bs.length c] 24)) A bs) := hb.alloc _
        by_cases hbit : bitAt bs k = true
        · have N := hide (N2.out k hk0 hlt hbit)
          have HB := hide hbit
          clear hbit
          go_wp2_with (go_at_call 36; refine (refbit_any _ _ _ bs _ _ hb'.out (Nat.le_refl _) (by omega) (by omega) (by omega)).mono ?_; rintro e w' ⟨rfl, rfl⟩; rw [show bitAt bs (Int.toNat ↑k) = true from HB.out])
          go_ret
          exact ⟨by rw [N.out]; rfl, (Below.refl _ _).alloc (Nat.le_refl _) _⟩
        · have HB := hide (Bool.not_eq_true _ ▸ hbit)
          clear hbit
          go_wp2_with (go_at_call 36; refine (refbit_any _ _ _ bs _ _ hb'.out (Nat.le_refl _) (by omega) (by omega) (by omega)).mono ?_; rintro e w' ⟨rfl, rfl⟩; rw [show bitAt bs (Int.toNat ↑k) = false from HB.out])
          go_round
          case rel => exact ⟨k + 1, by omega, by omega, by go_num, fun j h1 h2 => by
            rcases Nat.lt_or_ge j k with h | h
            · exact hall.out j h1 h
            · obtain rfl : j = k := by omega
              exact HB.out⟩
          case measure => simp [intOf]; omega
      · have N := hide (N1.out fun j h1 h2 => hall.out j h1 (by omega))
        go_wp2
        go_ret
        exact ⟨by rw [N.out]; rfl, (Below.refl _ _).alloc (Nat.le_refl _) _⟩
  · have t5 : ((bs.length : Int) != (W * H + 7) / 8) = true := by rw [bne_iff_ne]; omega
    have N := no (by omega)
    clear no hb h5
    go_enter Try.func17, Try.ntmps17
    go_wp2
    go_ret
    exact ⟨by rw [N.out]; rfl, (Below.refl _ _).alloc (Nat.le_refl _) _⟩

set_option maxHeartbeats 800000 in
theorem eq04_any (A B : Option Addr) (c d : Nat) (xs ys : List UInt8) (w : World) (hx : Bys w A xs) (hy : Bys w B ys) (hm : xs.length ≤ maxLen) (_hn : ys.length ≤ maxLen) :
    Calls Try.prog 23 #[.slice A xs.length c, .slice B ys.length d] w fun e w' => e = .returned (.bool (xs == ys)) ∧ Below w.heap.size w w' := by
  unfold maxLen at hm
  by_cases hl : xs.length = ys.length
  · have t : ((xs.length : Int) != (ys.length : Int)) = false := by rw [bne_eq_false_iff_eq]; omega
    have N1 : Hid ((∀ k, k < xs.length → xs.getD k 0 = ys.getD k 0) → (xs == ys) = true) := fun g => beq_iff_eq.2 (List.ext_getElem hl fun i h1 h2 => by
      have := g i h1
      rwa [List.getD_eq_getElem?_getD, List.getD_eq_getElem?_getD, List.getElem?_eq_getElem h1, List.getElem?_eq_getElem h2] at this)
    have N2 : Hid (∀ k, k < xs.length → xs.getD k 0 ≠ ys.getD k 0 → (xs == ys) = false) := fun k _ g => beq_eq_false_iff_ne.2 fun e => g (by rw [e])
    have hl1 : xs.length ≤ ys.length := by omega
    have hl2 : ys.length ≤ xs.length := by omega
    clear hl
    go_enter Try.func23, Try.ntmps23
    go_wp2
    go_loopw [5] (fun i wr => ∃ k : Nat, k ≤ xs.length ∧ i = .int .i64 k ∧ Below w.heap.size w wr ∧ Hid (∀ j, j < k → xs.getD j 0 = ys.getD j 0)) (fun i _ => xs.length - (intOf i).toNat)
    case atStart => exact ⟨0, Nat.zero_le _, rfl, Below.refl _ _, fun j hj => absurd hj (by omega)⟩
    case round =>
      obtain ⟨k, hk, rfl, hbl, hall⟩ := hrel
      by_cases hlt : k < xs.length
      · obtain ⟨b1, o1, x, rfl, hb1, hx1, hX, hc1⟩ := (hx.below hbl).at_ hlt
        obtain ⟨b2, o2, y, rfl, hb2, hy1, hY, hc2⟩ := (hy.below hbl).at_ (k := k) (by omega)
        by_cases hxy : x = y
        · have txy : ((x : Int) != (y : Int)) = false := by rw [bne_eq_false_iff_eq]; omega
          have hall' : Hid (∀ j, j < k + 1 → xs.getD j 0 = ys.getD j 0) := fun j hj => by
            rcases Nat.lt_or_ge j k with h | h
            · exact hall.out j h
            · obtain rfl : j = k := by omega
              exact UInt8.toNat_inj.1 (by rw [← hX.out, ← hY.out, hxy])
          have q1 : (k : Int) < (xs.length : Int) := by omega
          have q2 : (k : Int) < (ys.length : Int) := by omega
          have q0 : (0 : Int) ≤ (k : Int) := by omega
          clear hxy hX hY
          go_wp2
          go_quiet (fail)
          go_wp2
          go_roundw
          case rel => exact ⟨k + 1, by omega, by go_num, below_drew hbl _, hall'⟩
          case measure => simp [intOf]; omega
        · have txy : ((x : Int) != (y : Int)) = true := by rw [bne_iff_ne]; omega
          have q1 : (k : Int) < (xs.length : Int) := by omega
          have q2 : (k : Int) < (ys.length : Int) := by omega
          have q0 : (0 : Int) ≤ (k : Int) := by omega
          have hfin : Hid ((xs == ys) = false) := N2.out k hlt fun e => hxy (by rw [hX.out, hY.out, e])
          clear hxy hX hY
          go_wp2
          go_quiet (fail)
          go_wp2
          go_ret
          exact ⟨by rw [hfin.out]; rfl, below_drew hbl _⟩
      · have hfin : Hid ((xs == ys) = true) := N1.out fun j hj => hall.out j (by omega)
        go_wp2
        go_ret
        exact ⟨by rw [hfin.out]; rfl, hbl⟩
  · have t : ((xs.length : Int) != (ys.length : Int)) = true := by rw [bne_iff_ne]; omega
    have N : Hid ((xs == ys) = false) := beq_eq_false_iff_ne.2 fun e => hl (by rw [e])
    clear hl
    go_enter Try.func23, Try.ntmps23
    go_wp2
    go_ret
    exact ⟨by rw [N.out]; rfl, Below.refl _ _⟩
end Go.Proofs.Ytebahhmajllmnaa
