/-
  The reference: Sync.
-/
import Derived.Test.YtcmchnddnglnfaaRWrite
namespace Go.Proofs.Ytcmchnddnglnfaa
open Go.RowKit
set_option linter.unusedVariables false
set_option linter.unusedSimpArgs false

section
variable {F G : Nat → Prop} {w : World} {m gs gl gd cS cL cD : Nat} {safe last : List (List UInt8)} {dirt : List Bool} {has : Bool} {left : Int} {gone : Bool}
theorem rsync_dead (h : RDat F w m gs gl gd cS cL cD safe last dirt has left true) : Calls Try.prog 21 #[.pointer (some ⟨m, 0, none⟩)] w fun en w' => en = .returned (.int .i64 12) ∧ w = w' := by
  obtain ⟨c0, c1, c2, c3, c4, c5⟩ := h.cells
  clear h c0 c1 c2 c3 c4
  go_enter Try.func21, Try.ntmps21
  go_wp2_with fail
  go_ret
  exact ⟨rfl, rfl⟩
theorem rsync_burnt (h : RDat F w m gs gl gd cS cL cD safe last dirt true 0 false) : Calls Try.prog 21 #[.pointer (some ⟨m, 0, none⟩)] w (RWrPost F w m safe last dirt true 0 true 12) := by
  obtain ⟨c0, c1, c2, c3, c4, c5⟩ := h.cells
  have HB := hide (rburn_any h (by omega) (by omega))
  have HMEM := hide h.mem
  clear h c0 c1 c2 c3 c4
  go_enter Try.func21, Try.ntmps21
  go_wp2_with fail
  refine HB.out.mono ?_
  rintro en w1 ⟨hC, ⟨_, _, rfl, hD⟩ | ⟨hno, _⟩⟩
  · have HC := hide (hC.mono (N := F) fun j _ hj => by subst hj; exact HMEM.out.1)
    have HD := hide hD
    clear hC hD
    go_wp2_with fail
    go_ret
    exact ⟨rfl, HC.out, F, HD.out.rdsk, fun i hi => .inl hi⟩
  · exact absurd ⟨rfl, rfl⟩ hno
set_option maxHeartbeats 3200000 in
theorem rsync_ok (h : RDat F w m gs gl gd cS cL cD safe last dirt has left false) (h1 : -1000 ≤ left) (h2 : left ≤ 9223372036854775807) (hno : ¬ (has = true ∧ left = 0)) : Calls Try.prog 21 #[.pointer (some ⟨m, 0, none⟩)] w (RWrPost F w m last last (List.replicate last.length false) has (left - 1) false 0) := by
  obtain ⟨c0, c1, c2, c3, c4, c5⟩ := h.cells
  have hmo := h.most
  have HB := hide (rburn_any h h1 h2)
  have HMEM := hide h.mem
  have HNE := hide h.ne
  clear h c0 c1 c2 c3 c4 h1 h2
  go_enter Try.func21, Try.ntmps21
  go_wp2_with fail
  refine HB.out.mono ?_
  rintro en w1 ⟨hC, ⟨e1, e2, _⟩ | ⟨_, rfl, hD⟩⟩
  · exact absurd ⟨e1, e2⟩ hno
  clear hno c5
  have HX1 := hide (hC.mono (N := F) fun j _ hj => by subst hj; exact HMEM.out.1)
  have HD1 := hide hD
  obtain ⟨d0, d1, d2, _, _, _⟩ := hD.cells
  clear hC hD
  go_wp2_with fail
  go_loopw [18] (fun i wr => ∃ k : Nat, k ≤ last.length ∧ i = .int .i64 k ∧ ∃ sf dt, Hid (∀ j, j < k → sf.getD j [] = last.getD j [] ∧ dt.getD j false = false) ∧ Hid (Chg F w wr) ∧ Hid (RDat F wr m gs gl gd cS cL cD sf last dt has (left - 1) false)) (fun i _ => last.length - (iOf i).toNat)
  case atStart => exact ⟨0, by omega, rfl, safe, dirt, fun j hj => absurd hj (by omega), HX1, HD1⟩
  case round =>
    clear d0 d1 d2
    obtain ⟨k, hk, rfl, sf, dt, HP, HX, HDr⟩ := hrel
    by_cases hlt : k < last.length
    · obtain ⟨hll, A, c, q, hc, hb⟩ := HDr.out.rowsL.at_ hlt
      obtain ⟨_, A0, c0, q0, _, _⟩ := HDr.out.rowsS.at_ (k := k) (by rw [HDr.out.lens]; exact hlt)
      have q2 := HDr.out.bools.cell (k := k) (by rw [HDr.out.lend]; exact hlt)
      obtain ⟨d0, d1, d2, _, _, _⟩ := HDr.out.cells
      have HDd : Hid (RDat F wr.drew m gs gl gd cS cL cD sf last dt has (left - 1) false) := HDr.out.agree (fun _ _ => rfl) (Nat.le_refl _)
      have HS1 : Hid ((fun v => v.cell? ⟨m, 0, none⟩ = some (.slice (some ⟨gs, 0, none⟩) last.length cS) ∧ v.cell? ⟨m, 1, none⟩ = some (.slice (some ⟨gl, 0, none⟩) last.length cL) ∧ v.cell? ⟨m, 2, none⟩ = some (.slice (some ⟨gd, 0, none⟩) last.length cD) ∧ v.cell? ⟨gl, k, none⟩ = some (.slice A 64 c)) wr.drew) := ⟨d0, d1, d2, q⟩
      have HF1 := hide (HDd.out.rowsS.frozen k)
      have HZ1 : Hid (wr.drew.cell? ⟨gs, k, none⟩ = some (.slice A0 64 c0)) := q0
      have hD2 := HDd.out.setSafe hlt (A := A) (c := c) hll hc hb
      obtain ⟨w2, hw2⟩ : ∃ w2, w2 = wr.drew.setCell ⟨gs, k, none⟩ (.slice A 64 c) := ⟨_, rfl⟩
      have HSa : (fun v => v.cell? ⟨m, 0, none⟩ = some (.slice (some ⟨gs, 0, none⟩) last.length cS) ∧ v.cell? ⟨m, 1, none⟩ = some (.slice (some ⟨gl, 0, none⟩) last.length cL) ∧ v.cell? ⟨m, 2, none⟩ = some (.slice (some ⟨gd, 0, none⟩) last.length cD) ∧ v.cell? ⟨gl, k, none⟩ = some (.slice A 64 c)) (wr.drew.setCell ⟨gs, k, none⟩ (.slice A 64 c)) := ⟨hD2.cells.1, hD2.cells.2.1, hD2.cells.2.2.1, by rw [World.cell?_setCell_other _ _ _ _ (by simp [HNE.out.2.2.2.1])]; exact q⟩
      have HS2 := hide HSa
      have hD3 := hD2.setDirt hlt false
      have HF2 := hide (hD2.bools.frozen k)
      have HZ2 := hide (hD2.bools.cell (k := k) (by rw [hD2.lend]; exact hlt))
      have HSb : (fun v => v.cell? ⟨m, 0, none⟩ = some (.slice (some ⟨gs, 0, none⟩) last.length cS) ∧ v.cell? ⟨m, 1, none⟩ = some (.slice (some ⟨gl, 0, none⟩) last.length cL) ∧ v.cell? ⟨m, 2, none⟩ = some (.slice (some ⟨gd, 0, none⟩) last.length cD) ∧ v.cell? ⟨gl, k, none⟩ = some (.slice A 64 c)) ((wr.drew.setCell ⟨gs, k, none⟩ (.slice A 64 c)).setCell ⟨gd, k, none⟩ (.bool false)) := ⟨hD3.cells.1, hD3.cells.2.1, hD3.cells.2.2.1, by rw [World.cell?_setCell_other _ _ _ _ (by simp [Ne.symm HNE.out.2.2.2.2.2])]; exact HSa.2.2.2⟩
      have HS3 := hide HSb
      have HX3a : Chg F w ((wr.drew.setCell ⟨gs, k, none⟩ (.slice A 64 c)).setCell ⟨gd, k, none⟩ (.bool false)) := (HX.out.drew.setCell (fun _ => HMEM.out.2.1) _ _).setCell (fun _ => HMEM.out.2.2.2) _ _
      have hls := HDr.out.lens
      have hlb := HDr.out.lend
      have HP3 : Hid (∀ j, j < k + 1 → (sf.set k (last.getD k [])).getD j [] = last.getD j [] ∧ (dt.set k false).getD j false = false) := fun j hj => by
        by_cases e : j = k
        · subst e
          exact ⟨set_at _ _ _ (by omega), by rw [List.getD_eq_getElem?_getD, List.getElem?_set_self (by omega)]; rfl⟩
        · have h1 := HP.out j (by omega)
          exact ⟨by rw [List.getD_eq_getElem?_getD, List.getElem?_set_ne (fun e' => e e'.symm), ← List.getD_eq_getElem?_getD]; exact h1.1, by rw [List.getD_eq_getElem?_getD, List.getElem?_set_ne (fun e' => e e'.symm), ← List.getD_eq_getElem?_getD]; exact h1.2⟩
      obtain ⟨w3, hw3⟩ : ∃ w3, w3 = (wr.drew.setCell ⟨gs, k, none⟩ (.slice A 64 c)).setCell ⟨gd, k, none⟩ (.bool false) := ⟨_, rfl⟩
      rw [← hw3] at hD3 HX3a
      have HD3 := hide hD3
      have HX3 := hide HX3a
      have HW2 := hide hw3
      clear hw2 hw3 HSa HSb hD2 hD3 HX3a q0 q2 hb d0 d1 d2 q HP hls hlb
      go_upto_region 6 with fail
      refine wp_region_held_drew (S := fun v => v.cell? ⟨m, 0, none⟩ = some (.slice (some ⟨gs, 0, none⟩) last.length cS) ∧ v.cell? ⟨m, 1, none⟩ = some (.slice (some ⟨gl, 0, none⟩) last.length cL) ∧ v.cell? ⟨m, 2, none⟩ = some (.slice (some ⟨gd, 0, none⟩) last.length cD) ∧ v.cell? ⟨gl, k, none⟩ = some (.slice A 64 c)) (by kernel_rfl) (HS1.out) (fun hH => ?_)
      refine wpAnyH_take (i := 0) (v := ?xv0) (by simp only [List.getElem?_toArray, List.getElem?_cons_succ, List.getElem?_cons_zero]; exact rfl) (by kernel_rfl) (by kernel_rfl) (by kernel_rfl) ?xq0 ?xy0 hH ?xr0
      case xq0 => exact fun _ _ _ h => h
      case xy0 =>
        refine Or.inl ⟨by rfl, fun v hv => ?_⟩
        go_simp
        rfl
      try simp only [Act.put, List.setIfInBounds_toArray, List.set_cons_zero, List.set_cons_succ]
      refine wpAnyH_take (i := 1) (v := ?xv1) (by simp only [List.getElem?_toArray, List.getElem?_cons_succ, List.getElem?_cons_zero]; exact rfl) (by kernel_rfl) (by kernel_rfl) (by kernel_rfl) ?xq1 ?xy1 hH ?xr1
      case xq1 => exact fun _ _ _ h => h
      case xy1 =>
        refine Or.inl ⟨by rfl, fun v hv => ?_⟩
        go_simp
        rfl
      try simp only [Act.put, List.setIfInBounds_toArray, List.set_cons_zero, List.set_cons_succ]
      refine wpAnyH_take (i := 2) (v := ?xv2) (by simp only [List.getElem?_toArray, List.getElem?_cons_succ, List.getElem?_cons_zero]; exact rfl) (by kernel_rfl) (by kernel_rfl) (by kernel_rfl) ?xq2 ?xy2 hH ?xr2
      case xq2 => exact fun _ _ _ h => h
      case xy2 =>
        refine Or.inl ⟨by rfl, fun v hv => ?_⟩
        go_simp
        rfl
      try simp only [Act.put, List.setIfInBounds_toArray, List.set_cons_zero, List.set_cons_succ]
      refine wpAnyH_take (i := 3) (v := ?xv3) (by simp only [List.getElem?_toArray, List.getElem?_cons_succ, List.getElem?_cons_zero]; exact rfl) (by kernel_rfl) (by kernel_rfl) (by kernel_rfl) ?xq3 ?xy3 hH ?xr3
      case xq3 => exact fun _ _ _ h => h
      case xy3 =>
        refine Or.inl ⟨by rfl, fun v hv => ?_⟩
        obtain ⟨y0, y1, y2, y3⟩ := hv
        go_simp
        rfl
      try simp only [Act.put, List.setIfInBounds_toArray, List.set_cons_zero, List.set_cons_succ]
      refine wpAnyH_take (i := 4) (v := ?xv4) (by simp only [List.getElem?_toArray, List.getElem?_cons_succ, List.getElem?_cons_zero]; exact rfl) (by kernel_rfl) (by kernel_rfl) (by kernel_rfl) ?xq4 ?xy4 hH ?xr4
      case xq4 => exact fun _ _ _ h => h
      case xy4 =>
        refine Or.inl ⟨by rfl, fun v hv => ?_⟩
        go_simp
        rfl
      try simp only [Act.put, List.setIfInBounds_toArray, List.set_cons_zero, List.set_cons_succ]
      refine wpAnyH_take (i := 5) (v := ?xv5) (by simp only [List.getElem?_toArray, List.getElem?_cons_succ, List.getElem?_cons_zero]; exact rfl) (by kernel_rfl) (by kernel_rfl) (by kernel_rfl) ?xq5 ?xy5 hH ?xr5
      case xq5 => exact fun _ _ _ h => h
      case xy5 =>
        refine Or.inl ⟨by rfl, fun v hv => ?_⟩
        go_simp
        rfl
      try simp only [Act.put, List.setIfInBounds_toArray, List.set_cons_zero, List.set_cons_succ]
      refine wpAnyH_take (i := 6) (v := ?xv6) (by simp only [List.getElem?_toArray, List.getElem?_cons_succ, List.getElem?_cons_zero]; exact rfl) (by kernel_rfl) (by kernel_rfl) (by kernel_rfl) ?xq6 ?xy6 hH ?xr6
      case xq6 => exact fun _ _ _ h => h
      case xy6 =>
        refine Or.inl ⟨by rfl, fun v hv => ?_⟩
        go_simp
        rfl
      try simp only [Act.put, List.setIfInBounds_toArray, List.set_cons_zero, List.set_cons_succ]
      refine wpAnyH_take (i := 7) (v := ?xv7) (by simp only [List.getElem?_toArray, List.getElem?_cons_succ, List.getElem?_cons_zero]; exact rfl) (by kernel_rfl) (by kernel_rfl) (by kernel_rfl) ?xq7 ?xy7 hH ?xr7
      case xq7 => exact fun _ _ _ h => h
      case xy7 =>
        refine Or.inl ⟨by rfl, fun v hv => ?_⟩
        go_simp
        rfl
      try simp only [Act.put, List.setIfInBounds_toArray, List.set_cons_zero, List.set_cons_succ]
      refine wpAnyH_take (i := 8) (v := ?xv8) (by simp only [List.getElem?_toArray, List.getElem?_cons_succ, List.getElem?_cons_zero]; exact rfl) (by kernel_rfl) (by kernel_rfl) (by kernel_rfl) ?xq8 ?xy8 hH ?xr8
      case xq8 => exact fun _ _ _ h => h
      case xy8 =>
        refine Or.inl ⟨by rfl, fun v hv => ?_⟩
        obtain ⟨y0, y1, y2, y3⟩ := hv
        go_simp
        rfl
      try simp only [Act.put, List.setIfInBounds_toArray, List.set_cons_zero, List.set_cons_succ]
      refine wpAnyH_take (i := 9) (v := ?xv9) (by simp only [List.getElem?_toArray, List.getElem?_cons_succ, List.getElem?_cons_zero]; exact rfl) (by kernel_rfl) (by kernel_rfl) (by kernel_rfl) ?xq9 ?xy9 hH ?xr9
      case xq9 => exact fun _ _ _ h => h
      case xy9 =>
        refine Or.inl ⟨by rfl, fun v hv => ?_⟩
        go_simp
        rfl
      try simp only [Act.put, List.setIfInBounds_toArray, List.set_cons_zero, List.set_cons_succ]
      refine wpAnyH_take (i := 10) (v := ?xv10) (by simp only [List.getElem?_toArray, List.getElem?_cons_succ, List.getElem?_cons_zero]; exact rfl) (by kernel_rfl) (by kernel_rfl) (by kernel_rfl) ?xq10 ?xy10 hH ?xr10
      case xq10 => exact fun _ _ _ h => h
      case xy10 =>
        refine Or.inl ⟨by rfl, fun v hv => ?_⟩
        go_simp
        rfl
      try simp only [Act.put, List.setIfInBounds_toArray, List.set_cons_zero, List.set_cons_succ]
      refine wpAnyH_take (i := 11) (v := ?xv11) (by simp only [List.getElem?_toArray, List.getElem?_cons_succ, List.getElem?_cons_zero]; exact rfl) (by kernel_rfl) (by kernel_rfl) (by kernel_rfl) ?xq11 ?xy11 hH ?xr11
      case xq11 => exact fun _ _ _ h => h
      case xy11 =>
        refine Or.inl ⟨by rfl, fun v hv => ?_⟩
        go_simp
        rfl
      try simp only [Act.put, List.setIfInBounds_toArray, List.set_cons_zero, List.set_cons_succ]
      refine wpAnyH_take (i := 12) (v := ?xv12) (by simp only [List.getElem?_toArray, List.getElem?_cons_succ, List.getElem?_cons_zero]; exact rfl) (by kernel_rfl) (by kernel_rfl) (by kernel_rfl) ?xq12 ?xy12 hH ?xr12
      case xq12 => exact fun _ _ _ h => h
      case xy12 =>
        refine Or.inl ⟨by rfl, fun v hv => ?_⟩
        go_simp
        rfl
      try simp only [Act.put, List.setIfInBounds_toArray, List.set_cons_zero, List.set_cons_succ]
      refine wpAnyH_take (i := 13) (v := ?xv13) (by simp only [List.getElem?_toArray, List.getElem?_cons_succ, List.getElem?_cons_zero]; exact rfl) (by kernel_rfl) (by kernel_rfl) (by kernel_rfl) ?xq13 ?xy13 hH ?xr13
      case xq13 => exact fun _ _ _ h => h
      case xy13 =>
        refine Or.inl ⟨by rfl, fun v hv => ?_⟩
        obtain ⟨y0, y1, y2, y3⟩ := hv
        go_simp
        rfl
      try simp only [Act.put, List.setIfInBounds_toArray, List.set_cons_zero, List.set_cons_succ]
      refine wpAnyH_take (i := 14) (v := ?xv14) (by simp only [List.getElem?_toArray, List.getElem?_cons_succ, List.getElem?_cons_zero]; exact rfl) (by kernel_rfl) (by kernel_rfl) (by kernel_rfl) ?xq14 ?xy14 hH ?xr14
      case xq14 => exact fun _ _ _ h => h
      case xy14 =>
        refine Or.inl ⟨by rfl, fun v hv => ?_⟩
        go_simp
        rfl
      try simp only [Act.put, List.setIfInBounds_toArray, List.set_cons_zero, List.set_cons_succ]
      refine wpAnyH_take (i := 15) (v := ?xv15) (by simp only [List.getElem?_toArray, List.getElem?_cons_succ, List.getElem?_cons_zero]; exact rfl) (by kernel_rfl) (by kernel_rfl) (by kernel_rfl) ?xq15 ?xy15 hH ?xr15
      case xq15 => exact fun _ _ _ h => h
      case xy15 =>
        refine Or.inl ⟨by rfl, fun v hv => ?_⟩
        go_simp
        rfl
      try simp only [Act.put, List.setIfInBounds_toArray, List.set_cons_zero, List.set_cons_succ]
      refine wpAnyH_take (i := 16) (v := ?xv16) (by simp only [List.getElem?_toArray, List.getElem?_cons_succ, List.getElem?_cons_zero]; exact rfl) (by kernel_rfl) (by kernel_rfl) (by kernel_rfl) ?xq16 ?xy16 hH ?xr16
      case xq16 => exact fun _ _ _ h => h
      case xy16 =>
        refine Or.inl ⟨by rfl, fun v hv => ?_⟩
        obtain ⟨y0, y1, y2, y3⟩ := hv
        go_simp
        rfl
      try simp only [Act.put, List.setIfInBounds_toArray, List.set_cons_zero, List.set_cons_succ]
      refine wpAnyH_take (i := 17) (v := ?xv17) (by simp only [List.getElem?_toArray, List.getElem?_cons_succ, List.getElem?_cons_zero]; exact rfl) (by kernel_rfl) (by kernel_rfl) (by kernel_rfl) ?xq17 ?xy17 hH ?xr17
      case xq17 => exact fun _ _ _ h => h
      case xy17 =>
        refine Or.inl ⟨by rfl, fun v hv => ?_⟩
        go_simp
        rfl
      try simp only [Act.put, List.setIfInBounds_toArray, List.set_cons_zero, List.set_cons_succ]
      refine wpAnyH_ready (rs := [18]) (by kernel_rfl) (by simp) ?_
      refine AllReadyH.cons (by simp only [List.getElem?_toArray, List.getElem?_cons_succ, List.getElem?_cons_zero]; exact rfl) (fun K hK => ?_) AllReadyH.nil
      have yf := HF1.out
      have yz := HZ1.out
      go_simp
      have hN := HS2.out
      clear yf yz
      refine hK.out _ _ hN (fun hH' => ?_)
      clear hK hH hN K
      have hH := hH'
      clear hH'
      try simp only [Act.put, List.setIfInBounds_toArray, List.set_cons_zero, List.set_cons_succ]
      refine wpAnyH_take (i := 19) (v := ?xv19) (by simp only [List.getElem?_toArray, List.getElem?_cons_succ, List.getElem?_cons_zero]; exact rfl) (by kernel_rfl) (by kernel_rfl) (by kernel_rfl) ?xq19 ?xy19 hH ?xr19
      case xq19 => exact fun _ _ _ h => h
      case xy19 =>
        refine Or.inl ⟨by rfl, fun v hv => ?_⟩
        go_simp
        rfl
      try simp only [Act.put, List.setIfInBounds_toArray, List.set_cons_zero, List.set_cons_succ]
      refine wpAnyH_ready (rs := [20]) (by kernel_rfl) (by simp) ?_
      refine AllReadyH.cons (by simp only [List.getElem?_toArray, List.getElem?_cons_succ, List.getElem?_cons_zero]; exact rfl) (fun K hK => ?_) AllReadyH.nil
      have yf : (wr.setCell ⟨gs, k, none⟩ (.slice A 64 c)).frozen? ⟨gd, k, none⟩ = false := HF2.out
      have yz : (wr.setCell ⟨gs, k, none⟩ (.slice A 64 c)).cell? ⟨gd, k, none⟩ = some (.bool (dt.getD k false)) := HZ2.out
      go_simp
      have hN := HS3.out
      clear yf yz
      change K _ ((wr.drew.setCell ⟨gs, k, none⟩ (.slice A 64 c)).setCell ⟨gd, k, none⟩ (.bool false))
      refine hK.out _ _ hN (fun hH' => ?_)
      clear hK hH hN K
      have hH := hH'
      clear hH'
      try simp only [Act.put, List.setIfInBounds_toArray, List.set_cons_zero, List.set_cons_succ]
      refine wpAnyH_done (by kernel_rfl) ?_ _
      rw [← HW2.out]
      go_wp2_with fail
      go_roundw
      case rel => exact ⟨k + 1, by omega, by go_num, _, _, HP3, HX3, HD3⟩
      case measure => simp [iOf]; omega
    · obtain rfl : k = last.length := by omega
      have es : sf = last := by
        refine List.ext_getElem HDr.out.lens fun i h1 h2 => ?_
        have := (HP.out i h2).1
        rw [List.getD_eq_getElem?_getD, List.getD_eq_getElem?_getD, List.getElem?_eq_getElem h1, List.getElem?_eq_getElem h2] at this
        exact this
      have ed : dt = List.replicate last.length false := by
        refine List.ext_getElem (by rw [List.length_replicate]; exact HDr.out.lend) fun i h1 h2 => ?_
        have := (HP.out i (by rw [← HDr.out.lend]; exact h1)).2
        rw [List.getD_eq_getElem?_getD, List.getElem?_eq_getElem h1] at this
        rw [List.getElem_replicate]
        exact this
      rw [es, ed] at HDr
      obtain ⟨d0, d1, d2, _, _, _⟩ := HDr.out.cells
      go_wp2_with fail
      go_ret
      exact ⟨rfl, HX.out, F, HDr.out.rdsk, fun i hi => .inl hi⟩
end
end Go.Proofs.Ytcmchnddnglnfaa
