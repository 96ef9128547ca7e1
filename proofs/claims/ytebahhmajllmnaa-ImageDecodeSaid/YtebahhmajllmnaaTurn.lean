/-
  Turn: what it returns.
-/
import Derived.Test.YtebahhmajllmnaaShift2
namespace Go.Proofs.Ytebahhmajllmnaa
open Go.RowKit
set_option linter.unusedVariables false
set_option linter.unusedSimpArgs false

def rev (n : Nat) (f : Nat → Bool) (j : Nat) : Bool := f (n - 1 - j)
theorem rev_rev {n : Nat} {f : Nat → Bool} {j : Nat} (h : j < n) : rev n (rev n f) j = f j := by
  unfold rev; congr 1; omega
theorem rev_idx {W H k i : Nat} (hk : k < H) (hi : i < W) : W * H - 1 - (k * W + i) = (H - 1 - k) * W + (W - 1 - i) ∧ k * W + i < W * H := by
  have h1 : (k + 1) * W ≤ H * W := Nat.mul_le_mul_right _ (by omega)
  rw [Nat.add_mul] at h1
  have h2 : (H - 1 - k) * W = H * W - W - k * W := by rw [Nat.sub_mul, Nat.sub_mul, Nat.one_mul]
  rw [Nat.mul_comm W H, h2]
  omega
theorem turn_flat {W H : Nat} {f : Nat → Bool} (hW : 0 < W) {j : Nat} (hj : j < W * H) : flat W (turnG W H f) j = rev (W * H) f j := by
  obtain ⟨l1, l2⟩ := lt_of_div hj hW
  have hjs := Nat.div_add_mod' j W
  unfold flat turnG rev
  generalize j / W = k at *
  generalize j % W = i at *
  rw [← hjs, (rev_idx l1 l2).1]
  unfold getB
  rw [decide_eq_true (by omega), decide_eq_true (by omega), decide_eq_true (by omega), decide_eq_true (by omega)]
  rw [show ((H : Int) - 1 - k).toNat = H - 1 - k by omega, show ((W : Int) - 1 - i).toNat = W - 1 - i by omega]
  rfl
theorem getB_rev {W H : Nat} {f : Nat → Bool} {x y : Int} : getB W H (rev (W * H) f) x y = getB W H f ((W : Int) - 1 - x) ((H : Int) - 1 - y) := by
  unfold getB
  by_cases h : 0 ≤ x ∧ x < W ∧ 0 ≤ y ∧ y < H
  · obtain ⟨h1, h2, h3, h4⟩ := h
    rw [decide_eq_true h1, decide_eq_true h2, decide_eq_true h3, decide_eq_true h4, decide_eq_true (by omega), decide_eq_true (by omega), decide_eq_true (by omega), decide_eq_true (by omega)]
    obtain ⟨a, rfl⟩ := Int.eq_ofNat_of_zero_le h1
    obtain ⟨b, rfl⟩ := Int.eq_ofNat_of_zero_le h3
    simp only [Int.toNat_natCast, Bool.true_and]
    unfold rev
    rw [(rev_idx (W := W) (H := H) (k := b) (i := a) (by omega) (by omega)).1, show ((H : Int) - 1 - b).toNat = H - 1 - b by omega, show ((W : Int) - 1 - a).toNat = W - 1 - a by omega]
  · have e1 : (decide (0 ≤ x) && decide (x < W) && decide (0 ≤ y) && decide (y < H)) = false := by
      rw [← Bool.not_eq_true]; simp only [Bool.and_eq_true, decide_eq_true_eq]; omega
    have e2 : (decide (0 ≤ (W : Int) - 1 - x) && decide ((W : Int) - 1 - x < W) && decide (0 ≤ (H : Int) - 1 - y) && decide ((H : Int) - 1 - y < H)) = false := by
      rw [← Bool.not_eq_true]; simp only [Bool.and_eq_true, decide_eq_true_eq]; omega
    rw [e1, e2]
    rfl
theorem turn_shift {W H : Nat} {f : Nat → Bool} {dx dy : Int} (hW : 0 < W) {j : Nat} (hj : j < W * H) : rev (W * H) (flat W (shiftG W H f dx dy)) j = flat W (shiftG W H (rev (W * H) f) (-dx) (-dy)) j := by
  obtain ⟨l1, l2⟩ := lt_of_div hj hW
  have hjs := Nat.div_add_mod' j W
  unfold rev flat shiftG
  have hk : (W * H - 1 - j) / W = H - 1 - j / W ∧ (W * H - 1 - j) % W = W - 1 - j % W := by
    have h := (rev_idx l1 l2).1
    rw [hjs] at h
    rw [h]
    exact idx_split (by omega)
  rw [hk.1, hk.2]
  show getB W H f _ _ = getB W H (rev (W * H) f) _ _
  rw [getB_rev]
  generalize j / W = k at *
  generalize j % W = i at *
  rw [show ((W - 1 - i : Nat) : Int) - dx = (W : Int) - 1 - ((i : Int) - -dx) by omega, show ((H - 1 - k : Nat) : Int) - dy = (H : Int) - 1 - ((k : Int) - -dy) by omega]

def turned (n : Nat) (f : Nat → Bool) (k : Nat) (j : Nat) : Bool := decide (n - 1 - j < k) && f (n - 1 - j)
theorem turned_yes {n k : Nat} {f : Nat → Bool} (hk : k < n) (hf : f k = true) {j : Nat} (hj : j < n) : (if j = n - 1 - k then true else turned n f k j) = turned n f (k + 1) j := by
  unfold turned
  by_cases e : j = n - 1 - k
  · rw [if_pos e, show n - 1 - j = k by omega, hf]; simp
  · rw [if_neg e]
    by_cases h : n - 1 - j < k
    · rw [decide_eq_true h, decide_eq_true (by omega)]
    · rw [decide_eq_false h, decide_eq_false (by omega)]
theorem turned_no {n k : Nat} {f : Nat → Bool} (hk : k < n) (hf : f k = false) {j : Nat} (hj : j < n) : turned n f k j = turned n f (k + 1) j := by
  unfold turned
  by_cases e : j = n - 1 - k
  · rw [show n - 1 - j = k by omega, hf]; simp
  · by_cases h : n - 1 - j < k
    · rw [decide_eq_true h, decide_eq_true (by omega)]
    · rw [decide_eq_false h, decide_eq_false (by omega)]

theorem turn_no (W H : Int) (A : Option Addr) (c : Nat) (bs : List UInt8) (w : World) (hb : Bys w A bs) (hm : bs.length ≤ maxLen) (hv : validB W H bs = false) :
    Calls Try.prog 29 #[.agg #[.int .i64 W, .int .i64 H, .slice A bs.length c]] w fun e w' => e = .returned zeroIm ∧ Below w.heap.size w w' := by
  have HV := hide hv
  have HB := hide ((hb.alloc (.cells #[.int .i64 W, .int .i64 H, .slice A bs.length c] 24)).alloc (.cells #[.int .i64 0, .int .i64 0, .slice none 0 0] 24))
  clear hv hb
  go_enter Try.func29, Try.ntmps29
  go_wp2_with fail
  refine (valid_any _ _ _ _ bs _ HB.out hm).mono ?_
  rw [HV.out]
  rintro e w1 ⟨rfl, hb1⟩
  have X2 := (Box.new (w.alloc (.cells #[.int .i64 W, .int .i64 H, .slice A bs.length c] 24)) 24 #[.int .i64 0, .int .i64 0, .slice none 0 0]).kept hb1
  simp only [World.size_alloc] at X2
  have s0 : w1.cell? ⟨w.heap.size + 1, 0, none⟩ = some (.int .i64 0) := X2.cell 0
  have s1 : w1.cell? ⟨w.heap.size + 1, 1, none⟩ = some (.int .i64 0) := X2.cell 1
  have s2 : w1.cell? ⟨w.heap.size + 1, 2, none⟩ = some (.slice none 0 0) := X2.cell 2
  have sf0 := X2.frozen 0
  have sf1 := X2.frozen 1
  have sf2 := X2.frozen 2
  have slt := X2.lt
  have HB1 := hide (below_box (below_box hb1))
  clear X2 hb1
  go_wp2_with fail
  exact bodyPost_ret (v := zeroIm) (by simp [results, Try.results29, go_sem, zeroIm, s0, s1, s2]) rfl ⟨rfl, ((HB1.out.setCell (by simp) _).setCell (by simp) _).setCell (by simp) _⟩

def TurnRel (w : World) (W H : Nat) (A : Option Addr) (c : Nat) (f : Nat → Bool) (Oo g gc : Nat) (k : Nat) (v : World) : Prop :=
  Box v w.heap.size 24 #[.int .i64 (W : Int), .int .i64 (H : Int), .slice A (pack (W * H) f).length c] ∧ Box v (w.heap.size + 1) 24 #[.int .i64 0, .int .i64 0, .slice none 0 0] ∧
  Box v Oo 24 #[.int .i64 (W : Int), .int .i64 (H : Int), .slice (some ⟨g, 0, none⟩) (pack (W * H) f).length gc] ∧ Bys v A (pack (W * H) f) ∧ Row v g (pack (W * H) (turned (W * H) f k)) ∧ Below w.heap.size w v
section
variable {w v v' : World} {W H : Nat} {A : Option Addr} {c : Nat} {f : Nat → Bool} {Oo g gc k k' : Nat}
theorem TurnRel.next (h : TurnRel w W H A c f Oo g gc k v) (hb : Below v.heap.size v v') : TurnRel w W H A c f Oo g gc k v' :=
  ⟨h.1.kept hb, h.2.1.kept hb, h.2.2.1.kept hb, h.2.2.2.1.below hb, h.2.2.2.2.1.kept hb, below_then h.2.2.2.2.2 hb⟩
theorem TurnRel.set (h : TurnRel w W H A c f Oo g gc k v) (hg : v.grownBy v' (some g)) (hO : w.heap.size + 1 < g) (hOo : Oo ≠ g) (hA : ∀ b off, A = some ⟨b, off, none⟩ → b < w.heap.size) (hr : Row v' g (pack (W * H) (turned (W * H) f k'))) : TurnRel w W H A c f Oo g gc k' v' :=
  ⟨h.1.grown hg (by simp; omega), h.2.1.grown hg (by simp; omega), h.2.2.1.grown hg (by simpa using hOo), h.2.2.2.1.grown hg (fun b off e => by have := hA b off e; omega), hr, h.2.2.2.2.2.trans (below_of_grown hg (by omega) h.2.2.2.2.2.size)⟩
theorem TurnRel.cells (h : TurnRel w W H A c f Oo g gc k v) : v.cell? ⟨w.heap.size, 0, none⟩ = some (.int .i64 (W : Int)) ∧ v.cell? ⟨w.heap.size, 1, none⟩ = some (.int .i64 (H : Int)) ∧ v.cell? ⟨w.heap.size, 2, none⟩ = some (.slice A (pack (W * H) f).length c) ∧
    v.cell? ⟨Oo, 0, none⟩ = some (.int .i64 (W : Int)) ∧ v.cell? ⟨Oo, 1, none⟩ = some (.int .i64 (H : Int)) ∧ v.cell? ⟨Oo, 2, none⟩ = some (.slice (some ⟨g, 0, none⟩) (pack (W * H) f).length gc) :=
  ⟨h.1.cell 0, h.1.cell 1, h.1.cell 2, h.2.2.1.cell 0, h.2.2.1.cell 1, h.2.2.1.cell 2⟩
end

set_option maxHeartbeats 3200000 in
theorem turn_any (W H : Nat) (A : Option Addr) (c : Nat) (f : Nat → Bool) (w : World) (hb : Bys w A (pack (W * H) f)) (hW1 : 1 ≤ W) (hW : W ≤ 512) (hH1 : 1 ≤ H) (hH : H ≤ 512) :
    Calls Try.prog 29 #[.agg #[.int .i64 (W : Int), .int .i64 (H : Int), .slice A (pack (W * H) f).length c]] w (Fresh w W H (pack (W * H) (rev (W * H) f))) := by
  have HV := hide (validB_pack f hW1 hW hH1 hH)
  have hm := len_pack_max f hW hH
  have hlb := len_pack_bd f hW hH
  have HAd := hide (addr_of_pack hb (Nat.mul_pos hW1 hH1))
  have HBl : Hid (∀ v, Calls Try.prog 35 #[.int .i64 (W : Int), .int .i64 (H : Int)] v (Fresh v W H (pack (W * H) fun _ => false))) := fun v => blank_any W H v hW hH
  have HLP : Hid (∀ m, (pack (W * H) m).length = (pack (W * H) f).length) := fun m => by rw [length_pack, length_pack]
  have HB := hide ((hb.alloc (.cells #[.int .i64 (W : Int), .int .i64 (H : Int), .slice A (pack (W * H) f).length c] 24)).alloc (.cells #[.int .i64 0, .int .i64 0, .slice none 0 0] 24))
  have hN := size_bd hW hH
  have hN1 : 1 ≤ W * H := Nat.mul_pos hW1 hH1
  have hWH : Hid ((W : Int) * (H : Int) = ((W * H : Nat) : Int)) := by simp [Hid]
  have p0 : 1 ≤ (W : Int) * (H : Int) := by rw [hWH.out]; omega
  have p1 : (W : Int) * (H : Int) ≤ 262144 := by rw [hWH.out]; omega
  clear hb
  go_enter Try.func29, Try.ntmps29
  go_wp2_with fail
  refine (valid_any _ _ _ _ (pack (W * H) f) _ HB.out hm).mono ?_
  rw [HV.out]
  rintro e w1 ⟨rfl, hb1⟩
  have X0 := hide ((Box.new w 24 #[.int .i64 (W : Int), .int .i64 (H : Int), .slice A (pack (W * H) f).length c]).alloc (.cells #[.int .i64 0, .int .i64 0, .slice none 0 0] 24) |>.kept hb1)
  have X3 := hide ((Box.new (w.alloc (.cells #[.int .i64 (W : Int), .int .i64 (H : Int), .slice A (pack (W * H) f).length c] 24)) 24 #[.int .i64 0, .int .i64 0, .slice none 0 0]).kept hb1)
  simp only [World.size_alloc] at X0 X3
  have HB1 := hide (below_box (below_box hb1))
  have HY1 := hide (HB.out.below hb1)
  have k0 : w1.cell? ⟨w.heap.size, 0, none⟩ = some (.int .i64 (W : Int)) := X0.out.cell 0
  have k1 : w1.cell? ⟨w.heap.size, 1, none⟩ = some (.int .i64 (H : Int)) := X0.out.cell 1
  clear hb1 HB
  go_wp2_with fail
  refine (HBl.out _).mono ?_
  rintro e w2 ⟨g, gc, hg, rfl, hrow, hb2⟩
  rw [HLP.out]
  have hg1 : w.heap.size + 1 < g := by have := X3.out.lt; omega
  have hg2 : w2.heap.size ≠ g := by have := hrow.lt; omega
  have HR : Hid (TurnRel w W H A c f w2.heap.size g gc 0 (w2.alloc (.cells #[.int .i64 (W : Int), .int .i64 (H : Int), .slice (some ⟨g, 0, none⟩) (pack (W * H) f).length gc] 24))) :=
    ⟨(X0.out.kept hb2).alloc _, (X3.out.kept hb2).alloc _, Box.new _ _ _, (HY1.out.below hb2).alloc _, by rw [pack_congr (f := turned (W * H) f 0) (g := fun _ => false) fun j _ => by simp [turned]]; exact hrow.alloc _, (below_then HB1.out hb2).alloc (below_then HB1.out hb2).size _⟩
  have n1 : w.heap.size + 1 < w2.heap.size := (X3.out.kept hb2).lt
  have n0 : w.heap.size < w2.heap.size := by omega
  have q0 : w2.cell? ⟨w.heap.size, 0, none⟩ = some (.int .i64 (W : Int)) := (X0.out.kept hb2).cell 0
  have q1 : w2.cell? ⟨w.heap.size, 1, none⟩ = some (.int .i64 (H : Int)) := (X0.out.kept hb2).cell 1
  clear hb2 hrow k0 k1 X0 X3 HB1 HY1 HBl
  go_wp2_with fail
  go_loopw [23] (fun i wr => ∃ k : Nat, k ≤ W * H ∧ i = .int .i64 k ∧ Hid (TurnRel w W H A c f w2.heap.size g gc k wr)) (fun i _ => W * H - (intOf i).toNat)
  case atStart => exact ⟨0, by omega, rfl, HR⟩
  case round =>
    clear HR q0 q1
    obtain ⟨k, hk, rfl, hR⟩ := hrel
    obtain ⟨c0, c1, c2, c3, c4, c5⟩ := hR.out.cells
    by_cases hlt : k < W * H
    · have hz : (k : Int) < (W : Int) * (H : Int) := by rw [hWH.out]; omega
      have hbit : Hid (bitAt (pack (W * H) f) (Int.toNat (k : Int)) = f k) := by rw [Hid, bitAt_pack, Int.toNat_natCast, decide_eq_true hlt]; rfl
      have hidx : Hid ((Int.toNat (k : Int)) / 8 < (pack (W * H) f).length) := by rw [Hid, Int.toNat_natCast, length_pack]; omega
      go_wp2_with fail
      refine (bit_any (W : Int) (H : Int) A _ c (pack (W * H) f) (k : Int) _ hR.out.2.2.2.1 (Nat.le_refl _) (by omega) (by omega) hidx.out).mono ?_
      rw [hbit.out]
      rintro e w3 ⟨rfl, hb3⟩
      have HR3 := hide (hR.out.next hb3)
      clear hb3 c0 c1 c2 c3 c4 c5 hR
      obtain ⟨c0, c1, c2, c3, c4, c5⟩ := HR3.out.cells
      by_cases hf : f k = true
      · have HPC : Hid (pack (W * H) (fun j => if j = ((W : Int) * (H : Int) - 1 - (k : Int)).toNat then true else turned (W * H) f k j) = pack (W * H) (turned (W * H) f (k + 1))) := pack_congr fun j hj => by
          rw [show ((W : Int) * (H : Int) - 1 - (k : Int)).toNat = W * H - 1 - k by rw [hWH.out]; omega]
          exact turned_yes hlt hf hj
        have HSET := hide (set_any (W : Int) (H : Int) g gc (W * H) _ ((W : Int) * (H : Int) - 1 - (k : Int)) true w3 HR3.out.2.2.2.2.1 (by rw [hWH.out]; omega) (by rw [hWH.out]; omega) hN)
        rw [HLP.out] at HSET
        rw [hf]
        clear hf
        go_wp2_with fail
        refine HSET.out.mono ?_
        rintro e w4 ⟨rfl, hr4, hg4⟩
        rw [HPC.out] at hr4
        have HR4 := hide (HR3.out.set hg4 hg1 hg2 HAd.out hr4)
        clear hr4 hg4 HR3 HSET c0 c1 c2 c3 c4 c5
        go_wp2_with fail
        go_roundw
        case rel => exact ⟨k + 1, by omega, by go_num, HR4⟩
        case measure => simp [intOf]; omega
      · have hf' := Bool.eq_false_iff.2 hf
        have HPC : Hid (pack (W * H) (turned (W * H) f k) = pack (W * H) (turned (W * H) f (k + 1))) := pack_congr fun j hj => turned_no hlt hf' hj
        have HR4 : Hid (TurnRel w W H A c f w2.heap.size g gc (k + 1) w3) := by
          obtain ⟨h1, h2, h3, h4, h5, h6⟩ := HR3.out
          exact ⟨h1, h2, h3, h4, by rw [← HPC.out]; exact h5, h6⟩
        rw [hf']
        clear hf hf' c0 c1 c2 c3 c4 c5
        go_wp2_with fail
        go_roundw
        case rel => exact ⟨k + 1, by omega, by go_num, HR4⟩
        case measure => simp [intOf]; omega
    · obtain rfl : W * H = k := by omega
      have hz : ¬ (((W * H : Nat) : Int) < (W : Int) * (H : Int)) := by rw [hWH.out]; omega
      have s0 : wr.cell? ⟨w.heap.size + 1, 0, none⟩ = some (.int .i64 0) := hR.out.2.1.cell 0
      have s1 : wr.cell? ⟨w.heap.size + 1, 1, none⟩ = some (.int .i64 0) := hR.out.2.1.cell 1
      have s2 : wr.cell? ⟨w.heap.size + 1, 2, none⟩ = some (.slice none 0 0) := hR.out.2.1.cell 2
      have t0 := hR.out.2.1.frozen 0
      have t1 := hR.out.2.1.frozen 1
      have t2 := hR.out.2.1.frozen 2
      have l4 := hR.out.2.1.lt
      have HPE : Hid (pack (W * H) (turned (W * H) f (W * H)) = pack (W * H) (rev (W * H) f)) := pack_congr fun j hj => by unfold turned rev; rw [decide_eq_true (by omega)]; rfl
      go_wp2_with fail
      refine bodyPost_ret (v := .agg #[.int .i64 (W : Int), .int .i64 (H : Int), .slice (some ⟨g, 0, none⟩) (pack (W * H) f).length gc]) (by simp [results, Try.results29, go_sem, s0, s1, s2]) rfl ?_
      obtain ⟨h1, h2, h3, h4, h5, h6⟩ := hR.out
      rw [HPE.out] at h5
      exact ⟨g, gc, by omega, by rw [HLP.out (rev (W * H) f)], ((h5.far (by simp; omega) _).far (by simp; omega) _).far (by simp; omega) _, ((h6.setCell (by simp) _).setCell (by simp) _).setCell (by simp) _⟩
end Go.Proofs.Ytebahhmajllmnaa
