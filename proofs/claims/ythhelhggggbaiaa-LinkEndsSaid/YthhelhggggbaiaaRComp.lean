/-
  The reference's receiver: Complete.
-/
import Derived.Test.YthhelhggggbaiaaRFrames
namespace Go.Proofs.Ythhelhggggbaiaa
open Go.RowKit
set_option linter.unusedVariables false
set_option linter.unusedSimpArgs false
attribute [local go_sem ↓] Go.wp_at_zero Go.wp_at_succ

set_option maxHeartbeats 3200000 in
theorem refcomplete_any {F : Nat → Prop} {w : World} {t W : Nat} {L : List Msg} (h : RefR F w t W L) (hL : L.length ≤ 100000) (hnb : ∀ k, k < L.length → -1000000 ≤ (L.getD k zeroM).num ∧ (L.getD k zeroM).num ≤ 1000000) (g : Nat) (hg : g ≤ 100000) (h1 : ∀ k : Nat, k < g → (hasL L (k : Int)).isSome = true) (h2 : hasL L (g : Int) = none) :
    Calls Try.prog 27 #[.pointer (some ⟨t, 0, none⟩)] w (CompPost w (compB L g)) := by
  obtain ⟨A, c, hc, c0, c1, hf, hms⟩ := h.cells
  have HMS := hide hms
  have HLT := hide h.lt
  have HNB := hide hnb
  have ht := h.here
  have HG0 := hide (fun (v : World) (hv : RefR F v t W L) => got_any hv hL g hg h1 h2)
  have HR := hide h
  clear hf hms h h1 h2 hnb
  go_enter Try.func27, Try.ntmps27
  go_wp2_with fail
  go_loopw [4, 10] (fun _ i wr => ∃ k : Nat, k ≤ L.length ∧ i = .int .i64 k ∧ Hid (Below w.heap.size w wr) ∧ Hid (∀ j, j < k → (L.getD j zeroM).last = false)) (fun _ i wr => L.length - (intOf i).toNat)
  case atStart => exact ⟨0, Nat.zero_le _, rfl, Below.refl _ _, fun j hj => absurd hj (by omega)⟩
  case round =>
    obtain ⟨k, hk, rfl, hB, hno⟩ := hrel
    by_cases hlt : k < L.length
    · obtain ⟨b, off, Ak, ck, rfl, hFb, hm⟩ := (HMS.out.agree (Agree.of_below hB.out (fun i hi => HLT.out i hi))).at_ hlt
      obtain ⟨hn1, hn2⟩ := HNB.out k hlt
      obtain ⟨m, hme⟩ : ∃ m, m = L.getD k zeroM := ⟨_, rfl⟩
      rw [← hme] at hm hn1 hn2
      obtain ⟨y0, y1, y2, y3, hby, hck⟩ := hm
      have hi0 : (0 : Int) ≤ (k : Int) := by omega
      have hi1 : (k : Int) < (L.length : Int) := by omega
      cases hla : m.last
      case true =>
        have HRES : Hid (compB L g = ((g : Int) == m.num + 1)) := by
          rw [Hid, compB, findLast_some hlt (by rw [← hme]; exact hla) hno.out, ← hme, Bool.eq_iff_iff, decide_eq_true_eq, beq_iff_eq]
        rw [hla] at y2
        obtain ⟨v3, hv3⟩ : ∃ v3, v3 = wr.alloc (.cells #[.bool m.ack, .int .i64 m.num, .bool true, .slice Ak m.data.length ck] 34) := ⟨_, rfl⟩
        have hq3 : Below wr.heap.size wr v3 := by rw [hv3]; exact (Below.refl _ _).alloc (Nat.le_refl _) _
        have HB3 := hide (hB.out.trans (hq3.mono hB.out.size))
        have HX3 : Hid (Box v3 wr.heap.size 34 #[.bool m.ack, .int .i64 m.num, .bool true, .slice Ak m.data.length ck]) := by rw [hv3]; exact Box.new _ _ _
        have z1 : v3.cell? ⟨wr.heap.size, 1, none⟩ = some (.int .i64 m.num) := HX3.out.cell 1
        have z2 : v3.cell? ⟨wr.heap.size, 2, none⟩ = some (.bool true) := HX3.out.cell 2
        have hxl := HX3.out.lt
        have hwrap : IntKind.i64.wrap (m.num + 1) = m.num + 1 := IntWalk.i64_in _ (by omega)
        have HGC : Hid (∀ v, Below v3.heap.size v3 v → Calls Try.prog 36 #[.pointer (some ⟨t, 0, none⟩)] v (GotPost v g)) := fun v hv => HG0.out v (HR.out.agree (Agree.of_below (HB3.out.trans (hv.mono HB3.out.size)) (fun i hi => HLT.out i hi)) (HB3.out.trans (hv.mono HB3.out.size)).size)
        have HV3 := hide hv3
        clear hme hla hby hq3 hv3
        go_upto_region 4 with fail
        rw [← HV3.out]
        go_wp2_with fail
        refine wp_region_held_drew (S := fun v => Below v3.heap.size v3 v) (by kernel_rfl) ((Below.refl _ _).drew) (fun hH => ?_)
        refine wpAnyH_take (i := 0) (v := ?xv0) (by simp only [List.getElem?_toArray, List.getElem?_cons_succ, List.getElem?_cons_zero]; exact rfl) (by kernel_rfl) (by kernel_rfl) (by kernel_rfl) ?xq0 ?xy0 hH ?xr0
        case xq0 => exact fun _ _ _ h => h
        case xy0 =>
          refine Or.inl ⟨by rfl, fun v hv => ?_⟩
          go_simp
          rfl
        try simp only [Act.put, List.setIfInBounds_toArray, List.set_cons_zero, List.set_cons_succ]
        refine wpAnyH_take (i := 2) (v := ?xv2) (by simp only [List.getElem?_toArray, List.getElem?_cons_succ, List.getElem?_cons_zero]; exact rfl) (by kernel_rfl) (by kernel_rfl) (by kernel_rfl) ?xq2 ?xy2 hH ?xr2
        case xq2 => exact fun _ _ _ h => h
        case xy2 =>
          refine Or.inl ⟨by rfl, fun v hv => ?_⟩
          go_simp
          rfl
        try simp only [Act.put, List.setIfInBounds_toArray, List.set_cons_zero, List.set_cons_succ]
        refine wpAnyH_take (i := 3) (v := ?xv3) (by simp only [List.getElem?_toArray, List.getElem?_cons_succ, List.getElem?_cons_zero]; exact rfl) (by kernel_rfl) (by kernel_rfl) (by kernel_rfl) ?xq3 ?xy3 hH ?xr3
        case xq3 => exact fun _ _ _ h => h
        case xy3 =>
          refine Or.inl ⟨by rfl, fun v hv => ?_⟩
          have y1 := (hv.cell (p := ⟨wr.heap.size, 1, none⟩) hxl).trans z1
          go_simp
          rfl
        try simp only [Act.put, List.setIfInBounds_toArray, List.set_cons_zero, List.set_cons_succ]
        refine wpAnyH_take (i := 4) (v := ?xv4) (by simp only [List.getElem?_toArray, List.getElem?_cons_succ, List.getElem?_cons_zero]; exact rfl) (by kernel_rfl) (by kernel_rfl) (by kernel_rfl) ?xq4 ?xy4 hH ?xr4
        case xq4 => exact fun _ _ _ h => h
        case xy4 =>
          refine Or.inl ⟨by rfl, fun v hv => ?_⟩
          go_simp
          rfl
        try simp only [Act.put, List.setIfInBounds_toArray, List.set_cons_zero, List.set_cons_succ]
        refine wpAnyH_ready (rs := [1]) (by kernel_rfl) (by simp) ?_
        refine AllReadyH.cons (by simp only [List.getElem?_toArray, List.getElem?_cons_succ, List.getElem?_cons_zero]; exact rfl) (fun K hK => ?_) AllReadyH.nil
        go_simp
        refine (HGC.out _ hH).mono ?_
        rintro en v1 ⟨rfl, hb1⟩
        have hN := below_then hH hb1
        clear hb1
        refine hK.out _ _ hN (fun hH' => ?_)
        clear hK hH hN K
        have hH := hH'
        clear hH'
        try simp only [Act.put, List.setIfInBounds_toArray, List.set_cons_zero, List.set_cons_succ]
        refine wpAnyH_take (i := 5) (v := ?xv5) (by simp only [List.getElem?_toArray, List.getElem?_cons_succ, List.getElem?_cons_zero]; exact rfl) (by kernel_rfl) (by kernel_rfl) (by kernel_rfl) ?xq5 ?xy5 hH ?xr5
        case xq5 => exact fun _ _ _ h => h
        case xy5 =>
          refine Or.inl ⟨by rfl, fun v hv => ?_⟩
          go_simp
          rfl
        try simp only [Act.put, List.setIfInBounds_toArray, List.set_cons_zero, List.set_cons_succ]
        refine wpAnyH_take (i := 6) (v := ?xv6) (by simp only [List.getElem?_toArray, List.getElem?_cons_succ, List.getElem?_cons_zero]; exact rfl) (by kernel_rfl) (by kernel_rfl) (by kernel_rfl) ?xq6 ?xy6 hH ?xr6
        case xq6 => exact fun _ _ _ h => h
        case xy6 =>
          refine Or.inl ⟨by rfl, fun v hv => ?_⟩
          go_simp
          rfl
        try simp only [Act.put, List.setIfInBounds_toArray, List.set_cons_zero, List.set_cons_succ]
        refine wpAnyH_done (by kernel_rfl) ?_ _
        have HF := hide (HB3.out.trans (hH.mono HB3.out.size))
        clear hH
        go_wp2_with fail
        go_ret
        exact ⟨by rw [HRES.out]; rfl, HF.out⟩
      case false =>
        have HNO : Hid (∀ j, j < k + 1 → (L.getD j zeroM).last = false) := fun j hj => by
          rcases Nat.lt_or_ge j k with h | h
          · exact hno.out j h
          · obtain rfl : j = k := by omega
            rw [← hme]
            exact hla
        rw [hla] at y2
        clear hme hla hby
        go_wp2_with fail
        go_roundw
        case rel => exact ⟨k + 1, by omega, by go_num, hB.out.alloc hB.out.size _, HNO⟩
        case measure => simp [intOf]; omega
    · have HRES : Hid (compB L g = false) := by rw [Hid, compB, findLast_none fun j hj => hno.out j (by omega)]
      go_wp2_with fail
      go_ret
      exact ⟨by rw [HRES.out]; rfl, hB.out⟩
end Go.Proofs.Ythhelhggggbaiaa
