/-
  Encode: what it returns.
-/
import Derived.Test.YtebahhmajllmnaaEnc
namespace Go.Proofs.Ytebahhmajllmnaa
open Go.RowKit
set_option linter.unusedVariables false
set_option linter.unusedSimpArgs false

/-- new bytes -/
def FreshB (w : World) (bs : List UInt8) (e : Ending) (w' : World) : Prop := ∃ g c, w.heap.size ≤ g ∧ bs.length ≤ c ∧ e = .returned (.slice (some ⟨g, 0, none⟩) bs.length c) ∧ Row w' g bs ∧ Below w.heap.size w w'

theorem encode_no (W H : Int) (A : Option Addr) (c : Nat) (bs : List UInt8) (w : World) (hb : Bys w A bs) (hm : bs.length ≤ maxLen) (hv : validB W H bs = false) :
    Calls Try.prog 31 #[.agg #[.int .i64 W, .int .i64 H, .slice A bs.length c]] w fun e w' => e = .returned (.slice none 0 0) ∧ Below w.heap.size w w' := by
  have HV := hide hv
  have HB := hide (hb.alloc (.cells #[.int .i64 W, .int .i64 H, .slice A bs.length c] 24))
  clear hv hb
  go_enter Try.func31, Try.ntmps31
  go_wp2_with fail
  refine (valid_any _ _ _ _ bs _ HB.out hm).mono ?_
  rw [HV.out]
  rintro e w1 ⟨rfl, hb1⟩
  have B1 := hide (below_box hb1)
  clear hb1
  go_wp2_with fail
  go_ret
  exact ⟨rfl, B1.out⟩

/-- the image's box, its bytes, and the closure's state -/
def EnSt (w w1 : World) (W H : Nat) (A : Option Addr) (c : Nat) (bs : List UInt8) (r : Nat) (xs : List UInt8) (b : Bool) (g cap : Nat) (v : World) : Prop :=
  EncSt w1.heap.size w1 (w1.heap.size + 1 + 1) (w1.heap.size + 1) (w1.heap.size + 1 + 1 + 1) r xs b g cap v ∧ Box v w.heap.size 24 #[.int .i64 (W : Int), .int .i64 (H : Int), .slice A bs.length c] ∧ Bys v A bs
section
variable {w w1 v v' : World} {W H : Nat} {A : Option Addr} {c : Nat} {bs : List UInt8} {r : Nat} {xs : List UInt8} {b : Bool} {g cap : Nat}
theorem EnSt.of (h : EncSt w1.heap.size w1 (w1.heap.size + 1 + 1) (w1.heap.size + 1) (w1.heap.size + 1 + 1 + 1) r xs b g cap v) (hX : Box w1 w.heap.size 24 #[.int .i64 (W : Int), .int .i64 (H : Int), .slice A bs.length c]) (hY : Bys w1 A bs) : EnSt w w1 W H A c bs r xs b g cap v :=
  ⟨h, hX.kept h.2.2.2.2.2, hY.below h.2.2.2.2.2⟩
theorem EnSt.next (h : EnSt w w1 W H A c bs r xs b g cap v) (hb : Below v.heap.size v v') : EnSt w w1 W H A c bs r xs b g cap v' := ⟨h.1.next hb, h.2.1.kept hb, h.2.2.below hb⟩
theorem EnSt.cells (h : EnSt w w1 W H A c bs r xs b g cap v) : v.cell? ⟨w.heap.size, 0, none⟩ = some (.int .i64 (W : Int)) ∧ v.cell? ⟨w.heap.size, 1, none⟩ = some (.int .i64 (H : Int)) ∧ v.cell? ⟨w.heap.size, 2, none⟩ = some (.slice A bs.length c) ∧
    v.cell? ⟨w1.heap.size + 1 + 1, 0, none⟩ = some (.int .i64 (r : Int)) ∧ v.cell? ⟨w1.heap.size + 1, 0, none⟩ = some (.slice (some ⟨g, 0, none⟩) xs.length cap) ∧ v.cell? ⟨w1.heap.size + 1 + 1 + 1, 0, none⟩ = some (.bool b) ∧
    v.frozen? ⟨w1.heap.size + 1 + 1, 0, none⟩ = false :=
  ⟨h.2.1.cell 0, h.2.1.cell 1, h.2.1.cell 2, h.1.1.cell 0, h.1.2.1.cell 0, h.1.2.2.1.cell 0, h.1.1.frozen 0⟩
end

set_option maxHeartbeats 3200000 in
set_option maxRecDepth 10000 in
theorem encode_any (W H : Nat) (A : Option Addr) (c : Nat) (f : Nat → Bool) (w : World) (hb : Bys w A (pack (W * H) f)) (hW1 : 1 ≤ W) (hW : W ≤ 512) (hH1 : 1 ≤ H) (hH : H ≤ 512) :
    Calls Try.prog 31 #[.agg #[.int .i64 (W : Int), .int .i64 (H : Int), .slice A (pack (W * H) f).length c]] w (FreshB w (encode W H f)) := by
  have HV := hide (validB_pack f hW1 hW hH1 hH)
  have hm := len_pack_max f hW hH
  have hlb := len_pack_bd f hW hH
  have hN := size_bd hW hH
  have hWH : Hid ((W : Int) * (H : Int) = ((W * H : Nat) : Int)) := by simp [Hid]
  have p0 : 1 ≤ (W : Int) * (H : Int) := by rw [hWH.out]; have := Nat.mul_pos hW1 hH1; omega
  have p1 : (W : Int) * (H : Int) ≤ 262144 := by rw [hWH.out]; omega
  have HBIT : Hid (∀ k, k < W * H → bitAt (pack (W * H) f) (Int.toNat (k : Int)) = f k ∧ (Int.toNat (k : Int)) / 8 < (pack (W * H) f).length) := fun k hk => by
    rw [bitAt_pack, Int.toNat_natCast, decide_eq_true hk, length_pack]
    exact ⟨rfl, by omega⟩
  have HHD : Hid ((hdr W H).map u8v = [.int .u8 ((W : Int) / 256), .int .u8 ((W : Int) % 256), .int .u8 ((H : Int) / 256), .int .u8 ((H : Int) % 256)]) := by
    have e1 : ∀ n : Nat, n ≤ 512 → (UInt8.ofNat (n / 256)).toNat = n / 256 ∧ (UInt8.ofNat (n % 256)).toNat = n % 256 := fun n hn => ⟨by rw [UInt8.toNat_ofNat']; omega, by rw [UInt8.toNat_ofNat']; omega⟩
    unfold Hid hdr u8v
    simp only [List.map_cons, List.map_nil, (e1 W hW).1, (e1 W hW).2, (e1 H hH).1, (e1 H hH).2]
    simp
  have HB := hide (hb.alloc (.cells #[.int .i64 (W : Int), .int .i64 (H : Int), .slice A (pack (W * H) f).length c] 24))
  have a1 : (1 : Int) ≤ (W : Int) := by omega
  have a2 : (W : Int) ≤ 512 := by omega
  have a3 : (1 : Int) ≤ (H : Int) := by omega
  have a4 : (H : Int) ≤ 512 := by omega
  clear hb
  generalize pack (W * H) f = bs at *
  go_enter Try.func31, Try.ntmps31
  go_wp2_with fail
  refine (valid_any _ _ _ _ bs _ HB.out hm).mono ?_
  rw [HV.out]
  rintro e w1 ⟨rfl, hb1⟩
  have X1 := hide ((Box.new w 24 #[.int .i64 (W : Int), .int .i64 (H : Int), .slice A bs.length c]).kept hb1)
  have Y1 := hide (HB.out.below hb1)
  have B1 := hide (below_box hb1)
  have k0 : w1.cell? ⟨w.heap.size, 0, none⟩ = some (.int .i64 (W : Int)) := X1.out.cell 0
  have k1 : w1.cell? ⟨w.heap.size, 1, none⟩ = some (.int .i64 (H : Int)) := X1.out.cell 1
  have n0 : w.heap.size < w1.heap.size := X1.out.lt
  have n1 : w.heap.size < w1.heap.size + 1 := by omega
  have n2 : w.heap.size < w1.heap.size + 1 + 1 := by omega
  have n3 : w.heap.size < w1.heap.size + 1 + 1 + 1 := by omega
  have HE0 : Hid (EncSt w1.heap.size w1 (w1.heap.size + 1 + 1) (w1.heap.size + 1) (w1.heap.size + 1 + 1 + 1) (encS f 0).2.1 (hdr W H ++ (encS f 0).1) (encS f 0).2.2 w1.heap.size 4
      ((((w1.alloc (.cells #[.int .u8 ((W : Int) / 256), .int .u8 ((W : Int) % 256), .int .u8 ((H : Int) / 256), .int .u8 ((H : Int) % 256)] 5)).alloc (.cells #[.slice (some ⟨w1.heap.size, 0, none⟩) 4 4] 22)).alloc (.cells #[.int .i64 0] 3)).alloc (.cells #[.bool false] 4))) := by
    have ho := OwnG.new w1 (hdr W H) (by unfold maxLen; simp [hdr])
    rw [HHD.out] at ho
    rw [show hdr W H ++ (encS f 0).1 = hdr W H from List.append_nil _]
    refine ⟨?_, ?_, ?_, ((ho.alloc _).alloc _).alloc _, ⟨Nat.le_refl _, by omega, by omega, by omega, Nat.le_refl _⟩, ?_⟩
    · have h := Box.new ((w1.alloc (.cells #[.int .u8 ((W : Int) / 256), .int .u8 ((W : Int) % 256), .int .u8 ((H : Int) / 256), .int .u8 ((H : Int) % 256)] 5)).alloc (.cells #[.slice (some ⟨w1.heap.size, 0, none⟩) 4 4] 22)) 3 #[.int .i64 0]
      simp only [World.size_alloc] at h
      exact h.alloc _
    · have h := Box.new (w1.alloc (.cells #[.int .u8 ((W : Int) / 256), .int .u8 ((W : Int) % 256), .int .u8 ((H : Int) / 256), .int .u8 ((H : Int) % 256)] 5)) 22 #[.slice (some ⟨w1.heap.size, 0, none⟩) 4 4]
      simp only [World.size_alloc] at h
      exact (h.alloc _).alloc _
    · have h := Box.new (((w1.alloc (.cells #[.int .u8 ((W : Int) / 256), .int .u8 ((W : Int) % 256), .int .u8 ((H : Int) / 256), .int .u8 ((H : Int) % 256)] 5)).alloc (.cells #[.slice (some ⟨w1.heap.size, 0, none⟩) 4 4] 22)).alloc (.cells #[.int .i64 0] 3)) 4 #[.bool false]
      simp only [World.size_alloc] at h
      exact h
    · exact ((((Below.refl _ _).alloc (Nat.le_refl _) _).alloc (by simp) _).alloc (by simp; omega) _).alloc (by simp; omega) _
  clear hb1 HB HHD
  go_wp2_with fail
  clear k0 k1 n1 n2 n3
  go_loopw [32] (fun i wr => ∃ k : Nat, k ≤ W * H ∧ i = .int .i64 k ∧ ∃ g cap, Hid (EncSt w1.heap.size w1 (w1.heap.size + 1 + 1) (w1.heap.size + 1) (w1.heap.size + 1 + 1 + 1) (encS f k).2.1 (hdr W H ++ (encS f k).1) (encS f k).2.2 g cap wr)) (fun i _ => W * H - (intOf i).toNat)
  case atStart => exact ⟨0, by omega, rfl, _, _, HE0⟩
  case round =>
    clear HE0
    obtain ⟨k, hk, rfl, g, cap, hE⟩ := hrel
    have hbd := encS_bd f k
    have hxl : (hdr W H ++ (encS f k).1).length = 4 + (encS f k).1.length := by simp [hdr]; omega
    have HSame := hide (@encS_same f k)
    have HTurn := hide (@encS_turn f k)
    have HEnd : Hid (k = W * H → hdr W H ++ (encS f k).1 ++ encRun (encS f k).2.1 = encode W H f) := fun e => by
      subst e
      unfold encode encB
      rw [List.append_assoc]
    generalize encS f k = q at *
    obtain ⟨ys, r, b⟩ := q
    simp only [] at hE hbd hxl HSame HTurn HEnd
    obtain ⟨xs, hxs⟩ : ∃ xs, xs = hdr W H ++ ys := ⟨_, rfl⟩
    rw [← hxs] at hE hxl HEnd
    have HXS := hide hxs
    clear hxs
    have HZ := hide (EnSt.of hE.out X1.out Y1.out)
    obtain ⟨z0, z1, z2, z3, z4, z5, z6⟩ := HZ.out.cells
    by_cases hlt : k < W * H
    · have hz : (k : Int) < (W : Int) * (H : Int) := by rw [hWH.out]; omega
      obtain ⟨hbit, hidx⟩ := HBIT.out k hlt
      have HIDX := hide hidx
      clear hidx HEnd
      by_cases hs : f k = b
      · have HS := hide (HSame.out hs)
        rw [hs] at hbit
        have HBT := hide hbit
        clear hs HTurn HSame hbit
        have HD := hide (HZ.out.next ((Below.refl _ _).drew))
        have hb1 : (!b == b) = false := by cases b <;> rfl
        have hb2 : (!!b == b) = true := by cases b <;> rfl
        all_goals
          clear hE
          go_wp2_with fail
          clear z0 z1 z2 z3 z4 z5 z6
          refine wp_region_held_drew (S := fun v => EnSt w w1 W H A c bs r xs b g cap v) (by kernel_rfl) (HD.out) (fun hH => ?_)
          refine wpAnyH_take (i := 0) (v := ?xv0) (by simp only [List.getElem?_toArray, List.getElem?_cons_succ, List.getElem?_cons_zero]; exact rfl) (by kernel_rfl) (by kernel_rfl) (by kernel_rfl) ?xq0 ?xy0 hH ?xr0
          case xq0 => exact fun _ _ _ h => h
          case xy0 =>
            refine Or.inl ⟨by rfl, fun v hv => ?_⟩
            obtain ⟨z0, z1, z2, z3, z4, z5, z6⟩ := EnSt.cells hv
            go_simp
            rfl
          try simp only [Act.put, List.setIfInBounds_toArray, List.set_cons_zero, List.set_cons_succ]
          refine wpAnyH_take (i := 1) (v := ?xv1) (by simp only [List.getElem?_toArray, List.getElem?_cons_succ, List.getElem?_cons_zero]; exact rfl) (by kernel_rfl) (by kernel_rfl) (by kernel_rfl) ?xq1 ?xy1 hH ?xr1
          case xq1 => exact fun _ _ _ h => h
          case xy1 =>
            refine Or.inl ⟨by rfl, fun v hv => ?_⟩
            go_simp
            rfl
          try simp only [Act.put, List.setIfInBounds_toArray, List.set_cons_zero, List.set_cons_succ]
          refine wpAnyH_take (i := 3) (v := ?xv3) (by simp only [List.getElem?_toArray, List.getElem?_cons_succ, List.getElem?_cons_zero]; exact rfl) (by kernel_rfl) (by kernel_rfl) (by kernel_rfl) ?xq3 ?xy3 hH ?xr3
          case xq3 => exact fun _ _ _ h => h
          case xy3 =>
            refine Or.inl ⟨by rfl, fun v hv => ?_⟩
            obtain ⟨z0, z1, z2, z3, z4, z5, z6⟩ := EnSt.cells hv
            go_simp
            rfl
          try simp only [Act.put, List.setIfInBounds_toArray, List.set_cons_zero, List.set_cons_succ]
          refine wpAnyH_ready (rs := [2]) (by kernel_rfl) (by simp) ?_
          refine AllReadyH.cons (by simp only [List.getElem?_toArray, List.getElem?_cons_succ, List.getElem?_cons_zero]; exact rfl) (fun K hK => ?_) AllReadyH.nil
          go_simp
          refine (bit_any (W : Int) (H : Int) A _ c bs (k : Int) _ hH.2.2 (Nat.le_refl _) (by omega) (by omega) HIDX.out).mono ?_
          rw [HBT.out]
          rintro e w5 ⟨rfl, hb1⟩
          have hN := hH.next hb1
          clear hb1
          refine hK.out _ _ hN (fun hH' => ?_)
          clear hK hH hN K
          have hH := hH'
          clear hH'
          try simp only [Act.put, List.setIfInBounds_toArray, List.set_cons_zero, List.set_cons_succ]
          refine wpAnyH_take (i := 4) (v := ?xv4) (by simp only [List.getElem?_toArray, List.getElem?_cons_succ, List.getElem?_cons_zero]; exact rfl) (by kernel_rfl) (by kernel_rfl) (by kernel_rfl) ?xq4 ?xy4 hH ?xr4
          case xq4 => exact fun _ _ _ h => h
          case xy4 =>
            refine Or.inl ⟨by rfl, fun v hv => ?_⟩
            go_simp
            rfl
          try simp only [Act.put, List.setIfInBounds_toArray, List.set_cons_zero, List.set_cons_succ]
          refine wpAnyH_done (by kernel_rfl) ?_ _
          have HE := hide hH
          clear hH
          obtain ⟨z0, z1, z2, z3, z4, z5, z6⟩ := HE.out.cells
          have hr2 : ((r : Nat) : Int) + 1 ≤ 600000 := by omega
          go_wp2_with fail
          go_roundw
          case rel =>
            refine ⟨k + 1, by omega, by go_num, g, cap, ?_⟩
            rw [HS.out]
            have h := HE.out.1.run (by omega) (by omega) (by omega) (by omega) (r + 1)
            rw [HXS.out] at h
            exact h
          case measure => simp [intOf]; omega
      · have HS := hide (HTurn.out hs)
        have hs' : f k = !b := by cases hf : f k <;> cases b <;> simp_all
        rw [hs'] at hbit
        have HBT := hide hbit
        clear hs hs' HTurn HSame hbit
        have HD := hide (HZ.out.next ((Below.refl _ _).drew))
        have hb1 : (!b == b) = false := by cases b <;> rfl
        have hb2 : (!!b == b) = true := by cases b <;> rfl
        all_goals
          clear hE
          go_wp2_with fail
          clear z0 z1 z2 z3 z4 z5 z6
          refine wp_region_held_drew (S := fun v => EnSt w w1 W H A c bs r xs b g cap v) (by kernel_rfl) (HD.out) (fun hH => ?_)
          refine wpAnyH_take (i := 0) (v := ?yv0) (by simp only [List.getElem?_toArray, List.getElem?_cons_succ, List.getElem?_cons_zero]; exact rfl) (by kernel_rfl) (by kernel_rfl) (by kernel_rfl) ?yq0 ?yy0 hH ?yr0
          case yq0 => exact fun _ _ _ h => h
          case yy0 =>
            refine Or.inl ⟨by rfl, fun v hv => ?_⟩
            obtain ⟨z0, z1, z2, z3, z4, z5, z6⟩ := EnSt.cells hv
            go_simp
            rfl
          try simp only [Act.put, List.setIfInBounds_toArray, List.set_cons_zero, List.set_cons_succ]
          refine wpAnyH_take (i := 1) (v := ?yv1) (by simp only [List.getElem?_toArray, List.getElem?_cons_succ, List.getElem?_cons_zero]; exact rfl) (by kernel_rfl) (by kernel_rfl) (by kernel_rfl) ?yq1 ?yy1 hH ?yr1
          case yq1 => exact fun _ _ _ h => h
          case yy1 =>
            refine Or.inl ⟨by rfl, fun v hv => ?_⟩
            go_simp
            rfl
          try simp only [Act.put, List.setIfInBounds_toArray, List.set_cons_zero, List.set_cons_succ]
          refine wpAnyH_take (i := 3) (v := ?yv3) (by simp only [List.getElem?_toArray, List.getElem?_cons_succ, List.getElem?_cons_zero]; exact rfl) (by kernel_rfl) (by kernel_rfl) (by kernel_rfl) ?yq3 ?yy3 hH ?yr3
          case yq3 => exact fun _ _ _ h => h
          case yy3 =>
            refine Or.inl ⟨by rfl, fun v hv => ?_⟩
            obtain ⟨z0, z1, z2, z3, z4, z5, z6⟩ := EnSt.cells hv
            go_simp
            rfl
          try simp only [Act.put, List.setIfInBounds_toArray, List.set_cons_zero, List.set_cons_succ]
          refine wpAnyH_ready (rs := [2]) (by kernel_rfl) (by simp) ?_
          refine AllReadyH.cons (by simp only [List.getElem?_toArray, List.getElem?_cons_succ, List.getElem?_cons_zero]; exact rfl) (fun K hK => ?_) AllReadyH.nil
          go_simp
          refine (bit_any (W : Int) (H : Int) A _ c bs (k : Int) _ hH.2.2 (Nat.le_refl _) (by omega) (by omega) HIDX.out).mono ?_
          rw [HBT.out]
          rintro e w5 ⟨rfl, hb1⟩
          have hN := hH.next hb1
          clear hb1
          refine hK.out _ _ hN (fun hH' => ?_)
          clear hK hH hN K
          have hH := hH'
          clear hH'
          try simp only [Act.put, List.setIfInBounds_toArray, List.set_cons_zero, List.set_cons_succ]
          refine wpAnyH_take (i := 4) (v := ?yv4) (by simp only [List.getElem?_toArray, List.getElem?_cons_succ, List.getElem?_cons_zero]; exact rfl) (by kernel_rfl) (by kernel_rfl) (by kernel_rfl) ?yq4 ?yy4 hH ?yr4
          case yq4 => exact fun _ _ _ h => h
          case yy4 =>
            refine Or.inl ⟨by rfl, fun v hv => ?_⟩
            go_simp
            rfl
          try simp only [Act.put, List.setIfInBounds_toArray, List.set_cons_zero, List.set_cons_succ]
          refine wpAnyH_done (by kernel_rfl) ?_ _
          have HE := hide hH
          clear hH
          obtain ⟨z0, z1, z2, z3, z4, z5, z6⟩ := HE.out.cells
          go_wp2_with fail
          refine (end_any w1.heap.size (w1.heap.size + 1 + 1) (w1.heap.size + 1) (w1.heap.size + 1 + 1 + 1) r g cap xs _ w1 _ HE.out.1 (by omega) (by omega) (by omega) (by omega) (by omega) (by omega) (by omega) (by have := HE.out.1.2.2.2.2.2.size; omega)).mono ?_
          rintro e w6 ⟨rfl, g2, cap2, hE2⟩
          have HF := hide (EnSt.of hE2 X1.out Y1.out)
          clear hE2 z0 z1 z2 z3 z4 z5 z6 HE
          obtain ⟨z0, z1, z2, z3, z4, z5, z6⟩ := HF.out.cells
          go_wp2_with fail
          go_roundw
          case rel =>
            refine ⟨k + 1, by omega, by go_num, g2, cap2, ?_⟩
            rw [HS.out]
            have h := HF.out.1.run (by omega) (by omega) (by omega) (by omega) 1
            rw [HXS.out, List.append_assoc] at h
            exact h
          case measure => simp [intOf]; omega
    · obtain rfl : W * H = k := by omega
      have hz : ¬ (((W * H : Nat) : Int) < (W : Int) * (H : Int)) := by rw [hWH.out]; omega
      have HEQ := hide (HEnd.out rfl)
      clear HEnd HSame HTurn hE
      go_wp2_with fail
      refine (end_any w1.heap.size (w1.heap.size + 1 + 1) (w1.heap.size + 1) (w1.heap.size + 1 + 1 + 1) r g cap xs _ w1 _ HZ.out.1 (by omega) (by omega) (by omega) (by omega) (by omega) (by omega) (by omega) (by have := HZ.out.1.2.2.2.2.2.size; omega)).mono ?_
      rintro e w6 ⟨rfl, g2, cap2, hE2⟩
      rw [HEQ.out] at hE2
      have HF := hide (EnSt.of hE2 X1.out Y1.out)
      clear hE2 z0 z1 z2 z3 z4 z5 z6 HZ
      obtain ⟨z0, z1, z2, z3, z4, z5, z6⟩ := HF.out.cells
      go_wp2_with fail
      go_ret
      exact ⟨g2, cap2, by have := HF.out.1.2.2.2.2.1.1; omega, HF.out.1.2.2.2.1.room, rfl, HF.out.1.2.2.2.1.row, below_then B1.out HF.out.1.2.2.2.2.2⟩
end Go.Proofs.Ytebahhmajllmnaa
