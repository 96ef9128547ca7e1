/-
  electionref21.Frames and electionref21.Eq: equality of lists of frames, and of messages.
-/
import Derived.Test.YthhelhggggbaiaaAwake
namespace Go.Proofs.Ythhelhggggbaiaa
open Go.RowKit
set_option linter.unusedVariables false
set_option linter.unusedSimpArgs false
attribute [local go_sem ↓] Go.wp_at_zero Go.wp_at_succ


set_option maxHeartbeats 1600000 in
theorem framesEq_any (A B : Option Addr) (c d : Nat) (fs gs : List (List UInt8)) (w : World) (hx : Fr w A fs) (hy : Fr w B gs) (hm : fs.length ≤ 1000000) (hn : gs.length ≤ 1000000) (hfm : ∀ k, k < fs.length → (fs.getD k []).length ≤ maxLen) (hgm : ∀ k, k < gs.length → (gs.getD k []).length ≤ maxLen) :
    Calls Try.prog 23 #[.slice A fs.length c, .slice B gs.length d] w fun e w' => e = .returned (.bool (fs == gs)) ∧ Below w.heap.size w w' := by
  by_cases hl : fs.length = gs.length
  · have t : ((fs.length : Int) != (gs.length : Int)) = false := by rw [bne_eq_false_iff_eq]; omega
    have N1 : Hid ((∀ k, k < fs.length → fs.getD k [] = gs.getD k []) → (fs == gs) = true) := fun g => beq_iff_eq.2 (List.ext_getElem hl fun i h1 h2 => by
      have := g i h1
      rwa [List.getD_eq_getElem?_getD, List.getD_eq_getElem?_getD, List.getElem?_eq_getElem h1, List.getElem?_eq_getElem h2] at this)
    have N2 : Hid (∀ k, k < fs.length → fs.getD k [] ≠ gs.getD k [] → (fs == gs) = false) := fun k _ g => beq_eq_false_iff_ne.2 fun e => g (by rw [e])
    have hl1 : fs.length ≤ gs.length := by omega
    have hl2 : gs.length ≤ fs.length := by omega
    have HFM := hide hfm
    have HGM := hide hgm
    have HXF := hide hx
    have HYF := hide hy
    clear hl hfm hgm hx hy
    go_enter Try.func23, Try.ntmps23
    go_wp2
    go_loopw [5, 13] (fun _ i wr => ∃ k : Nat, k ≤ fs.length ∧ i = .int .i64 k ∧ Below w.heap.size w wr ∧ Hid (∀ j, j < k → fs.getD j [] = gs.getD j [])) (fun _ i wr => fs.length - (intOf i).toNat)
    case atStart => exact ⟨0, Nat.zero_le _, rfl, Below.refl _ _, fun j hj => absurd hj (by omega)⟩
    case round =>
      obtain ⟨k, hk, rfl, hbl, hall⟩ := hrel
      by_cases hlt : k < fs.length
      · obtain ⟨b1, o1, Ak, ck, rfl, hb1, hc1, hby1, hk1⟩ := (HXF.out.below hbl).at_ hlt
        obtain ⟨b2, o2, Bk, dk, rfl, hb2, hc2, hby2, hk2⟩ := (HYF.out.below hbl).at_ (k := k) (by omega)
        have HBX := hide hby1
        have HBY := hide hby2
        have hxm := HFM.out k hlt
        have hym := HGM.out k (by omega)
        have HN2 := hide (N2.out k hlt)
        obtain ⟨xs, hxs⟩ : ∃ xs, xs = fs.getD k [] := ⟨_, rfl⟩
        obtain ⟨ys, hys⟩ : ∃ ys, ys = gs.getD k [] := ⟨_, rfl⟩
        rw [← hxs] at hc1 HBX hxm hk1 HN2
        rw [← hys] at hc2 HBY hym hk2 HN2
        have HXS := hide hxs
        have HYS := hide hys
        have q1 : (k : Int) < (fs.length : Int) := by omega
        have q2 : (k : Int) < (gs.length : Int) := by omega
        have q0 : (0 : Int) ≤ (k : Int) := by omega
        have q3 : k < gs.length := by omega
        clear hby1 hby2 hxs hys
        by_cases hxy : xs = ys
        · have HEQ : Hid ((xs == ys) = true) := beq_iff_eq.2 hxy
          have hall' : Hid (∀ j, j < k + 1 → fs.getD j [] = gs.getD j []) := fun j hj => by
            rcases Nat.lt_or_ge j k with h | h
            · exact hall.out j h
            · obtain rfl : j = k := by omega
              rw [← HXS.out, ← HYS.out, hxy]
          clear hxy
          go_wp2_with fail
          refine wp_region_held_drew (S := fun v => Below wr.heap.size wr v) (by kernel_rfl) ((Below.refl _ _).drew) (fun hH => ?_)
          refine wpAnyH_take (i := 0) (v := ?xv0) (by simp only [List.getElem?_toArray, List.getElem?_cons_succ, List.getElem?_cons_zero]; exact rfl) (by kernel_rfl) (by kernel_rfl) (by kernel_rfl) ?xq0 ?xy0 hH ?xr0
          case xq0 => exact fun _ _ _ h => h
          case xy0 =>
            refine Or.inl ⟨by rfl, fun v hv => ?_⟩
            go_simp
            rfl
          try simp only [Act.put, List.setIfInBounds_toArray, List.set_cons_zero, List.set_cons_succ]
          refine wpAnyH_take (i := 1) (v := ?xv1) (by simp only [List.getElem?_toArray, List.getElem?_cons_succ, List.getElem?_cons_zero]; exact rfl) (by kernel_rfl) (by kernel_rfl) (by kernel_rfl) ?xq1 ?xy1 hH ?xr1
          case xq1 => exact fun _ _ _ h => h
          case xy1 =>
            refine Or.inl ⟨by rfl, fun v hv => ?_⟩
            go_simp
            rfl
          try simp only [Act.put, List.setIfInBounds_toArray, List.set_cons_zero, List.set_cons_succ]
          refine wpAnyH_take (i := 2) (v := ?xv2) (by simp only [List.getElem?_toArray, List.getElem?_cons_succ, List.getElem?_cons_zero]; exact rfl) (by kernel_rfl) (by kernel_rfl) (by kernel_rfl) ?xq2 ?xy2 hH ?xr2
          case xq2 => exact fun _ _ _ h => h
          case xy2 =>
            refine Or.inl ⟨by rfl, fun v hv => ?_⟩
            go_simp
            rfl
          try simp only [Act.put, List.setIfInBounds_toArray, List.set_cons_zero, List.set_cons_succ]
          refine wpAnyH_take (i := 3) (v := ?xv3) (by simp only [List.getElem?_toArray, List.getElem?_cons_succ, List.getElem?_cons_zero]; exact rfl) (by kernel_rfl) (by kernel_rfl) (by kernel_rfl) ?xq3 ?xy3 hH ?xr3
          case xq3 => exact fun _ _ _ h => h
          case xy3 =>
            refine Or.inl ⟨by rfl, fun v hv => ?_⟩
            have y1 := (hv.cell (p := ⟨b1, o1 + k, none⟩) hb1).trans hc1; have y2 := (hv.cell (p := ⟨b2, o2 + k, none⟩) hb2).trans hc2
            go_simp
            rfl
          try simp only [Act.put, List.setIfInBounds_toArray, List.set_cons_zero, List.set_cons_succ]
          refine wpAnyH_take (i := 4) (v := ?xv4) (by simp only [List.getElem?_toArray, List.getElem?_cons_succ, List.getElem?_cons_zero]; exact rfl) (by kernel_rfl) (by kernel_rfl) (by kernel_rfl) ?xq4 ?xy4 hH ?xr4
          case xq4 => exact fun _ _ _ h => h
          case xy4 =>
            refine Or.inl ⟨by rfl, fun v hv => ?_⟩
            go_simp
            rfl
          try simp only [Act.put, List.setIfInBounds_toArray, List.set_cons_zero, List.set_cons_succ]
          refine wpAnyH_take (i := 5) (v := ?xv5) (by simp only [List.getElem?_toArray, List.getElem?_cons_succ, List.getElem?_cons_zero]; exact rfl) (by kernel_rfl) (by kernel_rfl) (by kernel_rfl) ?xq5 ?xy5 hH ?xr5
          case xq5 => exact fun _ _ _ h => h
          case xy5 =>
            refine Or.inl ⟨by rfl, fun v hv => ?_⟩
            go_simp
            rfl
          try simp only [Act.put, List.setIfInBounds_toArray, List.set_cons_zero, List.set_cons_succ]
          refine wpAnyH_take (i := 6) (v := ?xv6) (by simp only [List.getElem?_toArray, List.getElem?_cons_succ, List.getElem?_cons_zero]; exact rfl) (by kernel_rfl) (by kernel_rfl) (by kernel_rfl) ?xq6 ?xy6 hH ?xr6
          case xq6 => exact fun _ _ _ h => h
          case xy6 =>
            refine Or.inl ⟨by rfl, fun v hv => ?_⟩
            go_simp
            rfl
          try simp only [Act.put, List.setIfInBounds_toArray, List.set_cons_zero, List.set_cons_succ]
          refine wpAnyH_take (i := 7) (v := ?xv7) (by simp only [List.getElem?_toArray, List.getElem?_cons_succ, List.getElem?_cons_zero]; exact rfl) (by kernel_rfl) (by kernel_rfl) (by kernel_rfl) ?xq7 ?xy7 hH ?xr7
          case xq7 => exact fun _ _ _ h => h
          case xy7 =>
            refine Or.inl ⟨by rfl, fun v hv => ?_⟩
            have y1 := (hv.cell (p := ⟨b1, o1 + k, none⟩) hb1).trans hc1; have y2 := (hv.cell (p := ⟨b2, o2 + k, none⟩) hb2).trans hc2
            go_simp
            rfl
          try simp only [Act.put, List.setIfInBounds_toArray, List.set_cons_zero, List.set_cons_succ]
          refine wpAnyH_ready (rs := [8]) (by kernel_rfl) (by simp) ?_
          refine AllReadyH.cons (by simp only [List.getElem?_toArray, List.getElem?_cons_succ, List.getElem?_cons_zero]; exact rfl) (fun K hK => ?_) AllReadyH.nil
          go_simp
          refine (eq04_any Ak Bk ck dk xs ys _ (HBX.out.below hH) (HBY.out.below hH) hxm hym).mono ?_
          rintro en v1 ⟨rfl, hb1⟩
          rw [HEQ.out]
          have hN := below_then hH hb1
          clear hb1
          refine hK.out _ _ hN (fun hH' => ?_)
          clear hK hH hN K
          have hH := hH'
          clear hH'
          try simp only [Act.put, List.setIfInBounds_toArray, List.set_cons_zero, List.set_cons_succ]
          refine wpAnyH_take (i := 9) (v := ?xv9) (by simp only [List.getElem?_toArray, List.getElem?_cons_succ, List.getElem?_cons_zero]; exact rfl) (by kernel_rfl) (by kernel_rfl) (by kernel_rfl) ?xq9 ?xy9 hH ?xr9
          case xq9 => exact fun _ _ _ h => h
          case xy9 =>
            refine Or.inl ⟨by rfl, fun v hv => ?_⟩
            go_simp
            rfl
          try simp only [Act.put, List.setIfInBounds_toArray, List.set_cons_zero, List.set_cons_succ]
          refine wpAnyH_done (by kernel_rfl) ?_ _
          have HL1 := hide (below_then hbl hH)
          clear hH
          go_wp2_with fail
          go_roundw
          case rel => exact ⟨k + 1, by omega, by go_num, HL1.out, hall'⟩
          case measure => simp [intOf]; omega
        · have HEQ : Hid ((xs == ys) = false) := beq_eq_false_iff_ne.2 hxy
          have hfin : Hid ((fs == gs) = false) := HN2.out hxy
          clear hxy
          go_wp2_with fail
          refine wp_region_held_drew (S := fun v => Below wr.heap.size wr v) (by kernel_rfl) ((Below.refl _ _).drew) (fun hH => ?_)
          refine wpAnyH_take (i := 0) (v := ?yv0) (by simp only [List.getElem?_toArray, List.getElem?_cons_succ, List.getElem?_cons_zero]; exact rfl) (by kernel_rfl) (by kernel_rfl) (by kernel_rfl) ?yq0 ?yy0 hH ?yr0
          case yq0 => exact fun _ _ _ h => h
          case yy0 =>
            refine Or.inl ⟨by rfl, fun v hv => ?_⟩
            go_simp
            rfl
          try simp only [Act.put, List.setIfInBounds_toArray, List.set_cons_zero, List.set_cons_succ]
          refine wpAnyH_take (i := 1) (v := ?yv1) (by simp only [List.getElem?_toArray, List.getElem?_cons_succ, List.getElem?_cons_zero]; exact rfl) (by kernel_rfl) (by kernel_rfl) (by kernel_rfl) ?yq1 ?yy1 hH ?yr1
          case yq1 => exact fun _ _ _ h => h
          case yy1 =>
            refine Or.inl ⟨by rfl, fun v hv => ?_⟩
            go_simp
            rfl
          try simp only [Act.put, List.setIfInBounds_toArray, List.set_cons_zero, List.set_cons_succ]
          refine wpAnyH_take (i := 2) (v := ?yv2) (by simp only [List.getElem?_toArray, List.getElem?_cons_succ, List.getElem?_cons_zero]; exact rfl) (by kernel_rfl) (by kernel_rfl) (by kernel_rfl) ?yq2 ?yy2 hH ?yr2
          case yq2 => exact fun _ _ _ h => h
          case yy2 =>
            refine Or.inl ⟨by rfl, fun v hv => ?_⟩
            go_simp
            rfl
          try simp only [Act.put, List.setIfInBounds_toArray, List.set_cons_zero, List.set_cons_succ]
          refine wpAnyH_take (i := 3) (v := ?yv3) (by simp only [List.getElem?_toArray, List.getElem?_cons_succ, List.getElem?_cons_zero]; exact rfl) (by kernel_rfl) (by kernel_rfl) (by kernel_rfl) ?yq3 ?yy3 hH ?yr3
          case yq3 => exact fun _ _ _ h => h
          case yy3 =>
            refine Or.inl ⟨by rfl, fun v hv => ?_⟩
            have y1 := (hv.cell (p := ⟨b1, o1 + k, none⟩) hb1).trans hc1; have y2 := (hv.cell (p := ⟨b2, o2 + k, none⟩) hb2).trans hc2
            go_simp
            rfl
          try simp only [Act.put, List.setIfInBounds_toArray, List.set_cons_zero, List.set_cons_succ]
          refine wpAnyH_take (i := 4) (v := ?yv4) (by simp only [List.getElem?_toArray, List.getElem?_cons_succ, List.getElem?_cons_zero]; exact rfl) (by kernel_rfl) (by kernel_rfl) (by kernel_rfl) ?yq4 ?yy4 hH ?yr4
          case yq4 => exact fun _ _ _ h => h
          case yy4 =>
            refine Or.inl ⟨by rfl, fun v hv => ?_⟩
            go_simp
            rfl
          try simp only [Act.put, List.setIfInBounds_toArray, List.set_cons_zero, List.set_cons_succ]
          refine wpAnyH_take (i := 5) (v := ?yv5) (by simp only [List.getElem?_toArray, List.getElem?_cons_succ, List.getElem?_cons_zero]; exact rfl) (by kernel_rfl) (by kernel_rfl) (by kernel_rfl) ?yq5 ?yy5 hH ?yr5
          case yq5 => exact fun _ _ _ h => h
          case yy5 =>
            refine Or.inl ⟨by rfl, fun v hv => ?_⟩
            go_simp
            rfl
          try simp only [Act.put, List.setIfInBounds_toArray, List.set_cons_zero, List.set_cons_succ]
          refine wpAnyH_take (i := 6) (v := ?yv6) (by simp only [List.getElem?_toArray, List.getElem?_cons_succ, List.getElem?_cons_zero]; exact rfl) (by kernel_rfl) (by kernel_rfl) (by kernel_rfl) ?yq6 ?yy6 hH ?yr6
          case yq6 => exact fun _ _ _ h => h
          case yy6 =>
            refine Or.inl ⟨by rfl, fun v hv => ?_⟩
            go_simp
            rfl
          try simp only [Act.put, List.setIfInBounds_toArray, List.set_cons_zero, List.set_cons_succ]
          refine wpAnyH_take (i := 7) (v := ?yv7) (by simp only [List.getElem?_toArray, List.getElem?_cons_succ, List.getElem?_cons_zero]; exact rfl) (by kernel_rfl) (by kernel_rfl) (by kernel_rfl) ?yq7 ?yy7 hH ?yr7
          case yq7 => exact fun _ _ _ h => h
          case yy7 =>
            refine Or.inl ⟨by rfl, fun v hv => ?_⟩
            have y1 := (hv.cell (p := ⟨b1, o1 + k, none⟩) hb1).trans hc1; have y2 := (hv.cell (p := ⟨b2, o2 + k, none⟩) hb2).trans hc2
            go_simp
            rfl
          try simp only [Act.put, List.setIfInBounds_toArray, List.set_cons_zero, List.set_cons_succ]
          refine wpAnyH_ready (rs := [8]) (by kernel_rfl) (by simp) ?_
          refine AllReadyH.cons (by simp only [List.getElem?_toArray, List.getElem?_cons_succ, List.getElem?_cons_zero]; exact rfl) (fun K hK => ?_) AllReadyH.nil
          go_simp
          refine (eq04_any Ak Bk ck dk xs ys _ (HBX.out.below hH) (HBY.out.below hH) hxm hym).mono ?_
          rintro en v1 ⟨rfl, hb1⟩
          rw [HEQ.out]
          have hN := below_then hH hb1
          clear hb1
          refine hK.out _ _ hN (fun hH' => ?_)
          clear hK hH hN K
          have hH := hH'
          clear hH'
          try simp only [Act.put, List.setIfInBounds_toArray, List.set_cons_zero, List.set_cons_succ]
          refine wpAnyH_take (i := 9) (v := ?yv9) (by simp only [List.getElem?_toArray, List.getElem?_cons_succ, List.getElem?_cons_zero]; exact rfl) (by kernel_rfl) (by kernel_rfl) (by kernel_rfl) ?yq9 ?yy9 hH ?yr9
          case yq9 => exact fun _ _ _ h => h
          case yy9 =>
            refine Or.inl ⟨by rfl, fun v hv => ?_⟩
            go_simp
            rfl
          try simp only [Act.put, List.setIfInBounds_toArray, List.set_cons_zero, List.set_cons_succ]
          refine wpAnyH_done (by kernel_rfl) ?_ _
          have HL1 := hide (below_then hbl hH)
          clear hH
          go_wp2_with fail
          go_ret
          exact ⟨by rw [hfin.out]; rfl, HL1.out⟩
      · have hfin : Hid ((fs == gs) = true) := N1.out fun j hj => hall.out j (by omega)
        go_wp2
        go_ret
        exact ⟨by rw [hfin.out]; rfl, hbl⟩
  · have t : ((fs.length : Int) != (gs.length : Int)) = true := by rw [bne_iff_ne]; omega
    have N : Hid ((fs == gs) = false) := beq_eq_false_iff_ne.2 fun e => hl (by rw [e])
    clear hl hx hy hfm hgm
    go_enter Try.func23, Try.ntmps23
    go_wp2
    go_ret
    exact ⟨by rw [N.out]; rfl, Below.refl _ _⟩

set_option maxHeartbeats 1600000 in
theorem msgEq_any (a1 a2 l1 l2 : Bool) (n1 n2 : Int) (A B : Option Addr) (c d : Nat) (xs ys : List UInt8) (w : World) (hx : Bys w A xs) (hy : Bys w B ys) (hm : xs.length ≤ maxLen) (hn : ys.length ≤ maxLen) :
    Calls Try.prog 14 #[.agg #[.bool a1, .int .i64 n1, .bool l1, .slice A xs.length c], .agg #[.bool a2, .int .i64 n2, .bool l2, .slice B ys.length d]] w fun e w' => e = .returned (.bool (a1 == a2 && n1 == n2 && l1 == l2 && xs == ys)) ∧ Below w.heap.size w w' := by
  have HB : Hid (∀ o1 o2, Below w.heap.size w ((w.alloc o1).alloc o2)) := fun o1 o2 => ((Below.refl _ _).alloc (Nat.le_refl _) _).alloc (by simp) _
  have HX := hide (fun o1 o2 => hx.below (HB.out o1 o2))
  have HY := hide (fun o1 o2 => hy.below (HB.out o1 o2))
  clear hx hy
  by_cases ha : a1 = a2
  · have t1 : (a1 == a2) = true := beq_iff_eq.2 ha
    by_cases hnn : n1 = n2
    · have t2 : (n1 == n2) = true := beq_iff_eq.2 hnn
      by_cases hl : l1 = l2
      · have t3 : (l1 == l2) = true := beq_iff_eq.2 hl
        clear ha hnn hl
        go_enter Try.func14, Try.ntmps14
        go_wp2_with fail
        refine (eq04_any A B c d xs ys _ (HX.out _ _) (HY.out _ _) hm hn).mono ?_
        rintro e w1 ⟨rfl, hb1⟩
        have HB1 := hide ((HB.out _ _).trans (hb1.mono (by simp; omega)))
        clear hb1
        go_wp2_with fail
        go_ret
        exact ⟨by rw [t1, t2, t3]; simp, HB1.out⟩
      · have t3 : (l1 == l2) = false := beq_eq_false_iff_ne.2 hl
        clear ha hnn hl
        go_enter Try.func14, Try.ntmps14
        go_wp2_with fail
        go_ret
        exact ⟨by rw [t3]; simp, HB.out _ _⟩
    · have t2 : (n1 == n2) = false := beq_eq_false_iff_ne.2 hnn
      clear ha hnn
      go_enter Try.func14, Try.ntmps14
      go_wp2_with fail
      go_ret
      exact ⟨by rw [t2]; simp, HB.out _ _⟩
  · have t1 : (a1 == a2) = false := beq_eq_false_iff_ne.2 ha
    clear ha
    go_enter Try.func14, Try.ntmps14
    go_wp2_with fail
    go_ret
    exact ⟨by rw [t1]; simp, HB.out _ _⟩
end Go.Proofs.Ythhelhggggbaiaa
