/-
  The reference's Encode: what it returns.
-/
import Derived.Test.YtebahhmajllmnaaEncode
namespace Go.Proofs.Ytebahhmajllmnaa
open Go.RowKit
set_option linter.unusedVariables false
set_option linter.unusedSimpArgs false

/-- the bytes so far, in a block above w1 -/
def RfSt (w1 : World) (g cap : Nat) (xs : List UInt8) (v : World) : Prop := OwnG v g cap xs ∧ w1.heap.size ≤ g ∧ Below w1.heap.size w1 v
section
variable {w1 v v' : World} {g cap n : Nat} {xs news : List UInt8}
theorem RfSt.next (h : RfSt w1 g cap xs v) (hb : Below v.heap.size v v') : RfSt w1 g cap xs v' := ⟨h.1.kept hb, h.2.1, below_then h.2.2 hb⟩
theorem RfSt.push (h : RfSt w1 g cap xs v) {u : Value} (hn : news.length = n) (hp : 0 < n)
    (ho : v'.ownsRow 0 5 1 u (xs.length + n) (xs.map u8v ++ news.map u8v)) (hg : v.grownBy v' (some g)) (hor : u.ownBlock = some g ∨ u.ownBlock = some v.heap.size) :
    ∃ g' cap', u = .slice (some ⟨g', 0, none⟩) (xs ++ news).length cap' ∧ RfSt w1 g' cap' (xs ++ news) v' := by
  obtain ⟨g', cap', hu, hw, hd⟩ := own_next ho hn hp hor
  obtain ⟨g1, g2, g3⟩ := h
  have l3 := g3.size
  refine ⟨g', cap', hu, hw, by rcases hd with rfl | rfl <;> omega, g3.grown hg l3 (fun k hk => by cases hk; exact g2)⟩
end

set_option maxHeartbeats 3200000 in
set_option maxRecDepth 100000 in
theorem refencode_any (W H : Nat) (A : Option Addr) (c : Nat) (f : Nat → Bool) (w : World) (hb : Bys w A (pack (W * H) f)) (hW1 : 1 ≤ W) (hW : W ≤ 512) (hH1 : 1 ≤ H) (hH : H ≤ 512) :
    Calls Try.prog 33 #[.agg #[.int .i64 (W : Int), .int .i64 (H : Int), .slice A (pack (W * H) f).length c]] w (FreshB w (encode W H f)) := by
  obtain ⟨i0, hi, hz0, hz1, hz2⟩ := info_parts u8info
  have hm := len_pack_max f hW hH
  have hlb := len_pack_bd f hW hH
  have hN := size_bd hW hH
  have hWH : Hid ((W : Int) * (H : Int) = ((W * H : Nat) : Int)) := by simp [Hid]
  have p0 : 1 ≤ (W : Int) * (H : Int) := by rw [hWH.out]; have := Nat.mul_pos hW1 hH1; omega
  have p1 : (W : Int) * (H : Int) ≤ 262144 := by rw [hWH.out]; omega
  have HBIT : Hid (∀ k, k < W * H → bitAt (pack (W * H) f) (Int.toNat (k : Int)) = f k ∧ (Int.toNat (k : Int)) / 8 < (pack (W * H) f).length) := fun k hk => by
    rw [bitAt_pack, Int.toNat_natCast, decide_eq_true hk, length_pack]
    exact ⟨rfl, by omega⟩
  have HHD : Hid ((hdr W H).map u8v = [.int .u8 ((W : Int) / 256), .int .u8 ((W : Int) % 256), .int .u8 ((H : Int) / 256), .int .u8 ((H : Int) % 256)]) := by
    have e1 : ∀ n : Nat, n ≤ 512 → (UInt8.ofNat (n / 256)).toNat = n / 256 ∧ (UInt8.ofNat (n % 256)).toNat = n % 256 := fun n hn => ⟨by rw [UInt8.toNat_ofNat']; omega, by rw [UInt8.toNat_ofNat']; omega⟩
    unfold Hid hdr u8v
    simp only [List.map_cons, List.map_nil, (e1 W hW).1, (e1 W hW).2, (e1 H hH).1, (e1 H hH).2]
    simp
  have HB := hide (hb.alloc (.cells #[.int .i64 (W : Int), .int .i64 (H : Int), .slice A (pack (W * H) f).length c] 24))
  have a1 : (1 : Int) ≤ (W : Int) := by omega
  have a2 : (W : Int) ≤ 512 := by omega
  have a3 : (1 : Int) ≤ (H : Int) := by omega
  have a4 : (H : Int) ≤ 512 := by omega
  clear hb
  generalize pack (W * H) f = bs at *
  have X1 := hide (Box.new w 24 #[.int .i64 (W : Int), .int .i64 (H : Int), .slice A bs.length c])
  have HE0 : Hid (RfSt (w.alloc (.cells #[.int .i64 (W : Int), .int .i64 (H : Int), .slice A bs.length c] 24)) (w.heap.size + 1) 4 (hdr W H)
      ((w.alloc (.cells #[.int .i64 (W : Int), .int .i64 (H : Int), .slice A bs.length c] 24)).alloc (.cells #[.int .u8 ((W : Int) / 256), .int .u8 ((W : Int) % 256), .int .u8 ((H : Int) / 256), .int .u8 ((H : Int) % 256)] 5))) := by
    have ho := OwnG.new (w.alloc (.cells #[.int .i64 (W : Int), .int .i64 (H : Int), .slice A bs.length c] 24)) (hdr W H) (by unfold maxLen; simp [hdr])
    rw [HHD.out] at ho
    rw [World.size_alloc] at ho
    exact ⟨ho, by simp, (Below.refl _ _).alloc (Nat.le_refl _) _⟩
  clear HHD
  go_enter Try.func33, Try.ntmps33
  go_wp2_with fail
  go_loopw [3, 4, 5, 6] (fun v rr bb i wr => ∃ k : Nat, k ≤ W * H + 1 ∧ i = .int .i64 k ∧ ∃ (g cap r : Nat) (b : Bool) (xs : List UInt8), v = .slice (some ⟨g, 0, none⟩) xs.length cap ∧ rr = .int .i64 (r : Int) ∧ bb = .bool b ∧
      Hid (RfSt (w.alloc (.cells #[.int .i64 (W : Int), .int .i64 (H : Int), .slice A bs.length c] 24)) g cap xs wr) ∧ Hid (k ≤ W * H → r = (encS f k).2.1 ∧ b = (encS f k).2.2 ∧ xs = hdr W H ++ (encS f k).1) ∧ Hid (k = W * H + 1 → xs = encode W H f)) (fun _ _ _ i _ => W * H + 1 - (intOf i).toNat)
  case atStart => exact ⟨0, by omega, rfl, _, _, 0, false, hdr W H, rfl, rfl, rfl, HE0, fun _ => ⟨rfl, rfl, (List.append_nil _).symm⟩, fun e => absurd e (by omega)⟩
  case round =>
    clear HE0
    obtain ⟨k, hk, rfl, g, cap, r, b, xs, rfl, rfl, rfl, hE, hK, hEnd⟩ := hrel
    have HX := hide (X1.out.kept hE.out.2.2)
    have HY := hide (HB.out.below hE.out.2.2)
    have z0 : wr.cell? ⟨w.heap.size, 0, none⟩ = some (.int .i64 (W : Int)) := HX.out.cell 0
    have z1 : wr.cell? ⟨w.heap.size, 1, none⟩ = some (.int .i64 (H : Int)) := HX.out.cell 1
    have z2 : wr.cell? ⟨w.heap.size, 2, none⟩ = some (.slice A bs.length c) := HX.out.cell 2
    by_cases hlt : k < W * H
    · have hz : (k : Int) < (W : Int) * (H : Int) := by rw [hWH.out]; omega
      have hz' : (k : Int) ≤ (W : Int) * (H : Int) := by omega
      obtain ⟨hr, hb, hx⟩ := hK.out (by omega)
      have hbd := encS_bd f k
      have hxl : xs.length = 4 + (encS f k).1.length := by rw [hx]; simp [hdr]; omega
      rw [← hr] at hbd
      obtain ⟨hbit, hidx⟩ := HBIT.out k hlt
      have HIDX := hide hidx
      have hxr : xs.length + r ≤ 600000 := by omega
      have hrr : (r : Int) + 1 ≤ 600000 := by omega
      by_cases hs : f k = b
      · have HNX : Hid (k + 1 ≤ W * H → r + 1 = (encS f (k + 1)).2.1 ∧ b = (encS f (k + 1)).2.2 ∧ xs = hdr W H ++ (encS f (k + 1)).1) := fun _ => by
          rw [encS_same (by rw [hs, hb]), ← hr, ← hb, hx]
          exact ⟨rfl, rfl, rfl⟩
        rw [hs] at hbit
        have HBT := hide hbit
        clear hs hbit hr hb hx hxl hbd hidx hK hEnd
        go_wp2_with fail
        refine (refbit_any A _ c bs (k : Int) _ HY.out (Nat.le_refl _) (by omega) (by omega) HIDX.out).mono ?_
        rw [HBT.out]
        rintro e w6 ⟨rfl, rfl⟩
        go_wp2_with fail
        go_roundw
        case rel => exact ⟨k + 1, by omega, by go_num, g, cap, r + 1, b, xs, rfl, by go_num, rfl, hE, HNX, fun e => absurd e (by omega)⟩
        case measure => simp [intOf]; omega
      · have HNX : Hid (k + 1 ≤ W * H → 1 = (encS f (k + 1)).2.1 ∧ (!b) = (encS f (k + 1)).2.2 ∧ xs ++ encRun r = hdr W H ++ (encS f (k + 1)).1) := fun _ => by
          rw [encS_turn (by rw [← hb]; exact hs), ← hr, ← hb, hx, List.append_assoc]
          exact ⟨rfl, rfl, rfl⟩
        have hs' : f k = !b := by cases hf : f k <;> cases b <;> simp_all
        rw [hs'] at hbit
        have HBT := hide hbit
        have hb1 : (!b == b) = false := by cases b <;> rfl
        clear hs hs' hbit hr hb hx hxl hbd hidx hK hEnd
        go_wp2_with fail
        refine (refbit_any A _ c bs (k : Int) _ HY.out (Nat.le_refl _) (by omega) (by omega) HIDX.out).mono ?_
        rw [HBT.out]
        rintro e w6 ⟨rfl, rfl⟩
        go_wp2_with fail
        have HLT := hide hlt
        clear hb1 hrr hlt hz hz' HX HY HIDX HBT HBIT
        obtain ⟨wo, rfl⟩ : ∃ wo : World, wo = wr := ⟨_, rfl⟩
        clear z0 z1 z2
        go_loopw [3, 4] (fun v rr wr => ∃ m q g cap : Nat, m + 255 * q = r ∧ rr = .int .i64 (m : Int) ∧ v = .slice (some ⟨g, 0, none⟩) (xs.length + q) cap ∧ Hid (RfSt (w.alloc (.cells #[.int .i64 (W : Int), .int .i64 (H : Int), .slice A bs.length c] 24)) g cap (xs ++ List.replicate q 255) wr)) (fun _ rr _ => (intOf rr).toNat)
        case atStart => exact ⟨r, 0, g, cap, by omega, rfl, rfl, by rw [List.replicate_zero, List.append_nil]; exact hE⟩
        case round =>
          clear hE
          obtain ⟨m, q, g, cap, hm, rfl, rfl, hE⟩ := hrel
          obtain ⟨ys, hys⟩ : ∃ ys, ys = xs ++ List.replicate q 255 := ⟨_, rfl⟩
          have hylen : ys.length = xs.length + q := by rw [hys]; simp
          rw [← hys] at hE
          rw [← hylen]
          have HYS := hide hys
          have HYL := hide hylen
          have HM := hide hm
          have hmb : m ≤ 600000 := by omega
          have hbnd : ys.length ≤ 600000 := by omega
          clear hys
          by_cases hlt2 : 255 ≤ m
          · have HALL := hide (hE.out.next ((Below.refl _ _).alloc (Nat.le_refl _) (.cells #[.int .u8 255] 5)))
            have HREP : Hid (ys ++ [255] = xs ++ List.replicate (q + 1) 255) := by rw [Hid, HYS.out, List.append_assoc, List.replicate_succ']
            have HU : Hid ([(255 : UInt8)].map u8v = [.int .u8 255]) := by simp [Hid, u8v]
            have HL1 : Hid ((ys ++ [(255 : UInt8)]).length = ys.length + 1) := by simp [Hid]
            clear hm hylen
            go_wp2_with (at_builtin; refine wpList_append_own_at _ rfl _ _ 22 rfl 0 5 i0 (.int .u8 0) 1 1 Try.underlying22 hi hz0 hz1 hz2 rfl (by decide) (.slice (some ⟨g, 0, none⟩) ys.length cap) ys.length (ys.map u8v) rfl HALL.out.1 ⟨wr.heap.size, 0, none⟩ 1 1 [.int .u8 255] rfl rfl (cell_one_new _ _ _) (by intro u hu; simp at hu; subst hu; rfl) (by unfold maxLen; omega) (by omega) (by omega) ?_; intro u w5 ho hg hn hor; rw [← HU.out] at ho; obtain ⟨g5, cap5, rfl, HP⟩ := HALL.out.push (n := 1) (news := [255]) rfl (by omega) ho hg hor; rw [HL1.out]; rw [HREP.out] at HP; have HP := hide HP; clear ho hg hn hor)
            go_roundw
            case rel => exact ⟨m - 255, q + 1, g5, cap5, by have := HM.out; omega, by rw [show ((m - 255 : Nat) : Int) = (m : Int) - 255 by omega], by rw [HYL.out]; rfl, HP⟩
            case measure => simp [intOf]; omega
          · have HALL := hide (hE.out.next ((Below.refl _ _).alloc (Nat.le_refl _) (.cells #[.int .u8 (m : Int)] 5)))
            have hm8 : (UInt8.ofNat m).toNat = m := by rw [UInt8.toNat_ofNat']; omega
            have HREP : Hid (ys ++ [UInt8.ofNat m] = xs ++ encRun r) := by
              rw [Hid, HYS.out, List.append_assoc]
              unfold encRun
              rw [show r / 255 = q by omega, show r % 255 = m by omega]
            have HU : Hid ([UInt8.ofNat m].map u8v = [.int .u8 (m : Int)]) := by simp [Hid, u8v, hm8]
            have HL1 : Hid ((ys ++ [UInt8.ofNat m]).length = ys.length + 1) := by simp [Hid]
            have HLX : Hid (ys.length + 1 = (xs ++ encRun r).length) := by rw [Hid, ← HREP.out]; simp
            clear hm hylen hm8
            go_wp2_with (at_builtin; refine wpList_append_own_at _ rfl _ _ 22 rfl 0 5 i0 (.int .u8 0) 1 1 Try.underlying22 hi hz0 hz1 hz2 rfl (by decide) (.slice (some ⟨g, 0, none⟩) ys.length cap) ys.length (ys.map u8v) rfl HALL.out.1 ⟨wr.heap.size, 0, none⟩ 1 1 [.int .u8 (m : Int)] rfl rfl (cell_one_new _ _ _) (by intro u hu; simp at hu; subst hu; rfl) (by unfold maxLen; omega) (by omega) (by omega) ?_; intro u w5 ho hg hn hor; rw [← HU.out] at ho; obtain ⟨g5, cap5, rfl, HP⟩ := HALL.out.push (n := 1) (news := [UInt8.ofNat m]) rfl (by omega) ho hg hor; rw [HL1.out]; rw [HREP.out] at HP; have HP := hide HP; clear ho hg hn hor)
            go_roundw
            case rel => exact ⟨k + 1, by have := HLT.out; omega, by go_num, g5, cap5, 1, !b, xs ++ encRun r, by rw [HLX.out], rfl, rfl, HP, HNX, fun e => absurd e (by have := HLT.out; omega)⟩
            case measure => have := HLT.out; simp [intOf]; omega
    · by_cases hkN : k = W * H
      · have hz : ¬ ((k : Int) < (W : Int) * (H : Int)) := by rw [hWH.out]; omega
        have hz' : (k : Int) ≤ (W : Int) * (H : Int) := by rw [hWH.out]; omega
        obtain ⟨hr, hb, hx⟩ := hK.out (by omega)
        have hbd := encS_bd f k
        have hxl : xs.length = 4 + (encS f k).1.length := by rw [hx]; simp [hdr]; omega
        rw [← hr] at hbd
        have hxr : xs.length + r ≤ 600000 := by omega
        have HENC : Hid (xs ++ encRun r = encode W H f) := by
          unfold Hid encode encB
          rw [← hkN, hx, hr, List.append_assoc]
        clear hr hb hx hxl hbd hK hEnd
        have HLT := hide hkN
        go_wp2_with fail
        obtain ⟨wo, rfl⟩ : ∃ wo : World, wo = wr := ⟨_, rfl⟩
        clear z0 z1 z2
        go_loopw [3, 4] (fun v rr wr => ∃ m q g cap : Nat, m + 255 * q = r ∧ rr = .int .i64 (m : Int) ∧ v = .slice (some ⟨g, 0, none⟩) (xs.length + q) cap ∧ Hid (RfSt (w.alloc (.cells #[.int .i64 (W : Int), .int .i64 (H : Int), .slice A bs.length c] 24)) g cap (xs ++ List.replicate q 255) wr)) (fun _ rr _ => (intOf rr).toNat)
        case atStart => exact ⟨r, 0, g, cap, by omega, rfl, rfl, by rw [List.replicate_zero, List.append_nil]; exact hE⟩
        case round =>
          clear hE
          obtain ⟨m, q, g, cap, hm, rfl, rfl, hE⟩ := hrel
          obtain ⟨ys, hys⟩ : ∃ ys, ys = xs ++ List.replicate q 255 := ⟨_, rfl⟩
          have hylen : ys.length = xs.length + q := by rw [hys]; simp
          rw [← hys] at hE
          rw [← hylen]
          have HYS := hide hys
          have HYL := hide hylen
          have HM := hide hm
          have hmb : m ≤ 600000 := by omega
          have hbnd : ys.length ≤ 600000 := by omega
          clear hys
          by_cases hlt2 : 255 ≤ m
          · have HALL := hide (hE.out.next ((Below.refl _ _).alloc (Nat.le_refl _) (.cells #[.int .u8 255] 5)))
            have HREP : Hid (ys ++ [255] = xs ++ List.replicate (q + 1) 255) := by rw [Hid, HYS.out, List.append_assoc, List.replicate_succ']
            have HU : Hid ([(255 : UInt8)].map u8v = [.int .u8 255]) := by simp [Hid, u8v]
            have HL1 : Hid ((ys ++ [(255 : UInt8)]).length = ys.length + 1) := by simp [Hid]
            clear hm hylen
            go_wp2_with (at_builtin; refine wpList_append_own_at _ rfl _ _ 22 rfl 0 5 i0 (.int .u8 0) 1 1 Try.underlying22 hi hz0 hz1 hz2 rfl (by decide) (.slice (some ⟨g, 0, none⟩) ys.length cap) ys.length (ys.map u8v) rfl HALL.out.1 ⟨wr.heap.size, 0, none⟩ 1 1 [.int .u8 255] rfl rfl (cell_one_new _ _ _) (by intro u hu; simp at hu; subst hu; rfl) (by unfold maxLen; omega) (by omega) (by omega) ?_; intro u w5 ho hg hn hor; rw [← HU.out] at ho; obtain ⟨g5, cap5, rfl, HP⟩ := HALL.out.push (n := 1) (news := [255]) rfl (by omega) ho hg hor; rw [HL1.out]; rw [HREP.out] at HP; have HP := hide HP; clear ho hg hn hor)
            go_roundw
            case rel => exact ⟨m - 255, q + 1, g5, cap5, by have := HM.out; omega, by rw [show ((m - 255 : Nat) : Int) = (m : Int) - 255 by omega], by rw [HYL.out]; rfl, HP⟩
            case measure => simp [intOf]; omega
          · have HALL := hide (hE.out.next ((Below.refl _ _).alloc (Nat.le_refl _) (.cells #[.int .u8 (m : Int)] 5)))
            have hm8 : (UInt8.ofNat m).toNat = m := by rw [UInt8.toNat_ofNat']; omega
            have HREP : Hid (ys ++ [UInt8.ofNat m] = xs ++ encRun r) := by
              rw [Hid, HYS.out, List.append_assoc]
              unfold encRun
              rw [show r / 255 = q by omega, show r % 255 = m by omega]
            have HU : Hid ([UInt8.ofNat m].map u8v = [.int .u8 (m : Int)]) := by simp [Hid, u8v, hm8]
            have HL1 : Hid ((ys ++ [UInt8.ofNat m]).length = ys.length + 1) := by simp [Hid]
            have HLX : Hid (ys.length + 1 = (xs ++ encRun r).length) := by rw [Hid, ← HREP.out]; simp
            clear hm hylen hm8
            go_wp2_with (at_builtin; refine wpList_append_own_at _ rfl _ _ 22 rfl 0 5 i0 (.int .u8 0) 1 1 Try.underlying22 hi hz0 hz1 hz2 rfl (by decide) (.slice (some ⟨g, 0, none⟩) ys.length cap) ys.length (ys.map u8v) rfl HALL.out.1 ⟨wr.heap.size, 0, none⟩ 1 1 [.int .u8 (m : Int)] rfl rfl (cell_one_new _ _ _) (by intro u hu; simp at hu; subst hu; rfl) (by unfold maxLen; omega) (by omega) (by omega) ?_; intro u w5 ho hg hn hor; rw [← HU.out] at ho; obtain ⟨g5, cap5, rfl, HP⟩ := HALL.out.push (n := 1) (news := [UInt8.ofNat m]) rfl (by omega) ho hg hor; rw [HL1.out]; rw [HREP.out] at HP; have HP := hide HP; clear ho hg hn hor)
            go_roundw
            case rel => exact ⟨k + 1, by have := HLT.out; omega, by go_num, g5, cap5, 1, !b, xs ++ encRun r, by rw [HLX.out], rfl, rfl, HP, fun e => absurd e (by omega), fun _ => HENC.out⟩
            case measure => have := HLT.out; simp [intOf]; omega
      · obtain rfl : k = W * H + 1 := by omega
        have hz' : ¬ (((W * H + 1 : Nat) : Int) ≤ (W : Int) * (H : Int)) := by rw [hWH.out]; omega
        have HEQ := hide (hEnd.out rfl)
        clear hK hEnd
        go_wp2_with fail
        go_ret
        have h := hE.out
        rw [HEQ.out] at h ⊢
        exact ⟨g, cap, by have := h.2.1; simp at this; omega, h.1.room, rfl, h.1.row, ((Below.refl _ _).alloc (Nat.le_refl _) _).trans (h.2.2.mono (by simp))⟩
end Go.Proofs.Ytebahhmajllmnaa
