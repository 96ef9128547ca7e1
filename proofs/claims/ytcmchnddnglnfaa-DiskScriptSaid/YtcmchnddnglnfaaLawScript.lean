/-
  DiskScript: up to 30 calls on a disk of up to eight sectors agree with the reference, with all contents after each call, also after crashes: for every number and every list of calls.
-/
import Derived.Test.YtcmchnddnglnfaaSteps
import Derived.Test.YtcmchnddnglnfaaLawSafe
namespace Go.Proofs.Ytcmchnddnglnfaa.lawScript
open Go.ChangeShapes Go.WideShapes Go.ChangeAt Go.RowKit
set_option linter.unusedVariables false
set_option linter.unusedSimpArgs false

theorem number_ok (z : Int) : ∃ q : Nat, q ≤ 7 ∧ (wrap64 (z.tmod 8 + 8)).tmod 8 = (q : Int) := by
  have h1 := Int.tmod_lt_of_pos z (show (0 : Int) < 8 by omega)
  have h2 := Int.lt_tmod_of_pos z (show (0 : Int) < 8 by omega)
  have e : wrap64 (z.tmod 8 + 8) = z.tmod 8 + 8 := by unfold wrap64; omega
  rw [e, Int.tmod_eq_emod_of_nonneg (by omega)]
  exact ⟨((z.tmod 8 + 8) % 8).toNat, by omega, by omega⟩

set_option maxHeartbeats 6400000 in
set_option maxRecDepth 100000 in
theorem walk (z : Int) (A0 : Option Addr) (c0 : Nat) (xs : List OpA) (W : World) (hx : OpsIn W A0 xs) (hm : xs.length ≤ maxLen) (hr : ∀ k, k < xs.length → InR (xs.getD k zeroOp).kind ∧ InR (xs.getD k zeroOp).num) : Calls Try.prog 6 #[.int .i64 z, .slice A0 xs.length c0] W fun e W' => e = .returned (.bool true) ∧ Below W.heap.size W W' := by
  obtain ⟨q, hq, heq⟩ := number_ok z
  have HOPS := hide hx
  have HRG := hide hr
  clear hx hr
  go_enter Try.func6, Try.ntmps6
  go_wp2_with fail
  rw [show (1 + (q : Int)) = ((q + 1 : Nat) : Int) by omega]
  refine (new_ok (q + 1) W (by omega) (by omega)).mono ?_
  rintro en w1 ⟨s, rfl, hB1, hD1⟩
  go_wp2_with fail
  refine (rnew_ok (q + 1) w1 (by omega) (by omega)).mono ?_
  rintro en w2 ⟨m, rfl, hB2, hR2⟩
  have hs1 := hB1.size
  have hs2 := hB2.size
  have HB2 := hide (hB1.trans (hB2.mono hs1))
  have hln : (List.replicate (q + 1) zeroS).length = q + 1 := List.length_replicate ..
  have HBO : Hid (Both W.heap.size (fun i => W.heap.size ≤ i ∧ i < w2.heap.size) w2 s m 0) := by
    have hT := Tie.fresh (List.replicate (q + 1) zeroS) 0
    rw [hln] at hT
    exact ⟨_, _, List.replicate (q + 1) zeroS, fun _ => none, -1, false, List.replicate (q + 1) zeroS, List.replicate (q + 1) false, false, 0, hD1.kept hB2, hR2, hT, fun i hi hi2 => by omega, fun i hi => ⟨hi.1, by omega⟩, fun i hi => ⟨by omega, hi.2⟩, fun i hi => hi.2, fun i hi => hi.1⟩
  clear hB1 hD1 hB2 hR2 heq
  go_wp2_with fail
  go_loopw [5, 6, 7] (fun v5 v6 i wr => ∃ k : Nat, k ≤ xs.length ∧ k ≤ 30 ∧ i = .int .i64 k ∧ ∃ s m F, v5 = .pointer (some ⟨s, 0, none⟩) ∧ v6 = .pointer (some ⟨m, 0, none⟩) ∧ Hid (Below W.heap.size W wr) ∧ Hid (Both W.heap.size F wr s m k)) (fun _ _ i _ => xs.length - (iOf i).toNat)
  case atStart => exact ⟨0, by omega, by omega, rfl, s, m, _, rfl, rfl, HB2, HBO⟩
  case round =>
    clear HBO HB2 hs1 hs2 hln
    obtain ⟨k, hk1, hk2, rfl, s, m, F, rfl, rfl, HB, HBO⟩ := hrel
    have hsz := HB.out.size
    by_cases hlt : k < xs.length ∧ k < 30
    · obtain ⟨h1, h2⟩ := hlt
      obtain ⟨b, off, rfl, hb, hat⟩ := HOPS.out (by omega)
      obtain ⟨DA, dc, KA, kc, p0, p1, p2, p3, hby, hbc, hkp, hkc⟩ := hat k h1
      have q0 := (World.cell?_of_block (HB.out.block b hb)).trans p0
      have q1 := (World.cell?_of_block (HB.out.block b hb)).trans p1
      have q2 := (World.cell?_of_block (HB.out.block b hb)).trans p2
      have q3 := (World.cell?_of_block (HB.out.block b hb)).trans p3
      obtain ⟨_, hrn⟩ := HRG.out k h1
      have HRN := hide hrn.2
      generalize xs.getD k zeroOp = op at *
      obtain ⟨kind, num, us, ks⟩ := op
      simp only at q0 q1 q2 q3 hby hbc hkp hkc HRN
      obtain ⟨ds, hds⟩ : ∃ ds, ds = us.take 70 := ⟨_, rfl⟩
      obtain ⟨ke, hke⟩ : ∃ ke, ke = ks.take 9 := ⟨_, rfl⟩
      have ld : ds.length = min us.length 70 := by rw [hds, List.length_take]; omega
      have lk : ke.length = min ks.length 9 := by rw [hke, List.length_take]; omega
      have ed : min (us.length : Int) 70 = (ds.length : Int) := by omega
      have ek : min (ks.length : Int) 9 = (ke.length : Int) := by omega
      have ad : ds.length ≤ dc := by omega
      have ak : ke.length ≤ kc := by omega
      have d70 : ds.length ≤ 70 := by omega
      have k9 : ke.length ≤ 9 := by omega
      have HDS : Hid (BysIn (fun j => j < W.heap.size) wr DA ds) := by rw [hds]; exact BysIn.agree (BysIn.of_bys (lawSafe.take_bys hby 70)) (Agree.of_below HB.out fun i hi => hi)
      have HKE : Hid (BoolsIn (fun j => j < W.heap.size) wr KA ke) := by rw [hke]; exact BoolsIn.agree (lawSafe.take_bools hkp 9) (Agree.of_below HB.out fun i hi => hi)
      clear ld lk hds hke hbc hkc hby hkp p0 p1 p2 p3 hat hrn
      have t30 : decide (k < 30) = true := decide_eq_true h2
      have t30' : decide ((k : Int) < 30) = true := decide_eq_true (by omega)
      obtain ⟨wA, hwA⟩ : ∃ wA, wA = wr.alloc (.cells #[.int .i64 kind, .int .i64 num, .slice DA ds.length dc, .slice KA ks.length kc] 44) := ⟨_, rfl⟩
      have hbA : Below wr.heap.size wr wA := by rw [hwA]; exact (Below.refl _ _).alloc (Nat.le_refl _) _
      have HX : Hid (Box wA wr.heap.size 44 #[.int .i64 kind, .int .i64 num, .slice DA ds.length dc, .slice KA ks.length kc]) := by rw [hwA]; exact Box.new _ _ _
      have HBOA := hide (HBO.out.kept hbA)
      have HBA : Hid (Below W.heap.size W wA) := HB.out.trans (hbA.mono hsz)
      have HPF : Hid (∀ j, F j → j ≠ wr.heap.size) := fun j hj e => by have := HBO.out.lt j hj; omega
      have HLO := hide HBO.out.lo
      have hszA := HBA.out.size
      have HDA := hide (HDS.out.agree (Agree.of_below hbA fun j hj => by omega))
      have HKA := hide (HKE.out.agree (Agree.of_below hbA fun j hj => by omega))
      have HWA := hide hwA
      clear hwA hbA
      have x0 : wA.cell? ⟨wr.heap.size, 0, none⟩ = some (.int .i64 kind) := HX.out.cell 0
      have x1 : wA.cell? ⟨wr.heap.size, 1, none⟩ = some (.int .i64 num) := HX.out.cell 1
      have x2 : wA.cell? ⟨wr.heap.size, 2, none⟩ = some (.slice DA ds.length dc) := HX.out.cell 2
      have x3 : wA.cell? ⟨wr.heap.size, 3, none⟩ = some (.slice KA ks.length kc) := HX.out.cell 3
      go_upto_region 8 with fail
      rw [← HWA.out]
      clear q0 q1 q2 q3
      by_cases k0 : kind = 0
      · have b0 : (kind == 0) = true := beq_iff_eq.2 k0
        have hbd : Below wA.heap.size wA wA.drew := below_drew (Below.refl _ _) 1
        have HBOd := hide (HBOA.out.kept hbd)
        have HXd : Hid (Box wA.drew wr.heap.size 44 #[.int .i64 kind, .int .i64 num, .slice DA ds.length dc, .slice KA ks.length kc]) := HX.out.drew
        have HBd : Hid (Below W.heap.size W wA.drew) := HBA.out.trans (hbd.mono hszA)
        have hszd : W.heap.size ≤ wA.drew.heap.size := hszA
        clear hbd
        obtain ⟨code, M, hc1, hc2⟩ := step_write HBOd.out (by omega) hszd num DA dc ds HDA.out
        have C1 := hide hc1
        have C2 := hide hc2
        clear hc1 hc2
        go_upto_region 11 with fail
        refine wp_region_held_drew (S := fun v => v.cell? ⟨wr.heap.size, 1, none⟩ = some (.int .i64 num) ∧ v.cell? ⟨wr.heap.size, 2, none⟩ = some (.slice DA ds.length dc)) (by kernel_rfl) (⟨HXd.out.cell 1, HXd.out.cell 2⟩) (fun hH => ?_)
        refine wpAnyH_take (i := 0) (v := ?xv0) (by simp only [List.getElem?_toArray, List.getElem?_cons_succ, List.getElem?_cons_zero]; exact rfl) (by kernel_rfl) (by kernel_rfl) (by kernel_rfl) ?xq0 ?xy0 hH ?xr0
        case xq0 => exact fun _ _ _ h => h
        case xy0 =>
          refine Or.inl ⟨by rfl, fun v hv => ?_⟩
          go_simp
          rfl
        try simp only [Act.put, List.setIfInBounds_toArray, List.set_cons_zero, List.set_cons_succ]
        refine wpAnyH_take (i := 1) (v := ?xv1) (by simp only [List.getElem?_toArray, List.getElem?_cons_succ, List.getElem?_cons_zero]; exact rfl) (by kernel_rfl) (by kernel_rfl) (by kernel_rfl) ?xq1 ?xy1 hH ?xr1
        case xq1 => exact fun _ _ _ h => h
        case xy1 =>
          refine Or.inl ⟨by rfl, fun v hv => ?_⟩
          go_simp
          rfl
        try simp only [Act.put, List.setIfInBounds_toArray, List.set_cons_zero, List.set_cons_succ]
        refine wpAnyH_take (i := 2) (v := ?xv2) (by simp only [List.getElem?_toArray, List.getElem?_cons_succ, List.getElem?_cons_zero]; exact rfl) (by kernel_rfl) (by kernel_rfl) (by kernel_rfl) ?xq2 ?xy2 hH ?xr2
        case xq2 => exact fun _ _ _ h => h
        case xy2 =>
          refine Or.inl ⟨by rfl, fun v hv => ?_⟩
          obtain ⟨y0, y1⟩ := hv
          go_simp
          rfl
        try simp only [Act.put, List.setIfInBounds_toArray, List.set_cons_zero, List.set_cons_succ]
        refine wpAnyH_take (i := 3) (v := ?xv3) (by simp only [List.getElem?_toArray, List.getElem?_cons_succ, List.getElem?_cons_zero]; exact rfl) (by kernel_rfl) (by kernel_rfl) (by kernel_rfl) ?xq3 ?xy3 hH ?xr3
        case xq3 => exact fun _ _ _ h => h
        case xy3 =>
          refine Or.inl ⟨by rfl, fun v hv => ?_⟩
          go_simp
          rfl
        try simp only [Act.put, List.setIfInBounds_toArray, List.set_cons_zero, List.set_cons_succ]
        refine wpAnyH_take (i := 4) (v := ?xv4) (by simp only [List.getElem?_toArray, List.getElem?_cons_succ, List.getElem?_cons_zero]; exact rfl) (by kernel_rfl) (by kernel_rfl) (by kernel_rfl) ?xq4 ?xy4 hH ?xr4
        case xq4 => exact fun _ _ _ h => h
        case xy4 =>
          refine Or.inl ⟨by rfl, fun v hv => ?_⟩
          obtain ⟨y0, y1⟩ := hv
          go_simp
          rfl
        try simp only [Act.put, List.setIfInBounds_toArray, List.set_cons_zero, List.set_cons_succ]
        refine wpAnyH_take (i := 6) (v := ?xv6) (by simp only [List.getElem?_toArray, List.getElem?_cons_succ, List.getElem?_cons_zero]; exact rfl) (by kernel_rfl) (by kernel_rfl) (by kernel_rfl) ?xq6 ?xy6 hH ?xr6
        case xq6 => exact fun _ _ _ h => h
        case xy6 =>
          refine Or.inl ⟨by rfl, fun v hv => ?_⟩
          go_simp
          rfl
        try simp only [Act.put, List.setIfInBounds_toArray, List.set_cons_zero, List.set_cons_succ]
        refine wpAnyH_take (i := 7) (v := ?xv7) (by simp only [List.getElem?_toArray, List.getElem?_cons_succ, List.getElem?_cons_zero]; exact rfl) (by kernel_rfl) (by kernel_rfl) (by kernel_rfl) ?xq7 ?xy7 hH ?xr7
        case xq7 => exact fun _ _ _ h => h
        case xy7 =>
          refine Or.inl ⟨by rfl, fun v hv => ?_⟩
          go_simp
          rfl
        try simp only [Act.put, List.setIfInBounds_toArray, List.set_cons_zero, List.set_cons_succ]
        refine wpAnyH_take (i := 8) (v := ?xv8) (by simp only [List.getElem?_toArray, List.getElem?_cons_succ, List.getElem?_cons_zero]; exact rfl) (by kernel_rfl) (by kernel_rfl) (by kernel_rfl) ?xq8 ?xy8 hH ?xr8
        case xq8 => exact fun _ _ _ h => h
        case xy8 =>
          refine Or.inl ⟨by rfl, fun v hv => ?_⟩
          obtain ⟨y0, y1⟩ := hv
          go_simp
          rfl
        try simp only [Act.put, List.setIfInBounds_toArray, List.set_cons_zero, List.set_cons_succ]
        refine wpAnyH_take (i := 9) (v := ?xv9) (by simp only [List.getElem?_toArray, List.getElem?_cons_succ, List.getElem?_cons_zero]; exact rfl) (by kernel_rfl) (by kernel_rfl) (by kernel_rfl) ?xq9 ?xy9 hH ?xr9
        case xq9 => exact fun _ _ _ h => h
        case xy9 =>
          refine Or.inl ⟨by rfl, fun v hv => ?_⟩
          go_simp
          rfl
        try simp only [Act.put, List.setIfInBounds_toArray, List.set_cons_zero, List.set_cons_succ]
        refine wpAnyH_take (i := 10) (v := ?xv10) (by simp only [List.getElem?_toArray, List.getElem?_cons_succ, List.getElem?_cons_zero]; exact rfl) (by kernel_rfl) (by kernel_rfl) (by kernel_rfl) ?xq10 ?xy10 hH ?xr10
        case xq10 => exact fun _ _ _ h => h
        case xy10 =>
          refine Or.inl ⟨by rfl, fun v hv => ?_⟩
          obtain ⟨y0, y1⟩ := hv
          go_simp
          rfl
        try simp only [Act.put, List.setIfInBounds_toArray, List.set_cons_zero, List.set_cons_succ]
        refine wpAnyH_ready (rs := [5]) (by kernel_rfl) (by simp) ?_
        refine AllReadyH.cons (by simp only [List.getElem?_toArray, List.getElem?_cons_succ, List.getElem?_cons_zero]; exact rfl) (fun K hK => ?_) AllReadyH.nil
        go_simp
        refine C1.out.mono ?_
        rintro en w3 ⟨rfl, hC3, hM3⟩
        have HM3 := hide hM3
        have HX3 := hide (HXd.out.agree (Agree.of_chg hC3 (fun j hj => by subst hj; exact HXd.out.lt) fun j hj hF => by subst hj; exact HPF.out _ hF rfl) rfl)
        have hN : (fun v => v.cell? ⟨wr.heap.size, 1, none⟩ = some (.int .i64 num) ∧ v.cell? ⟨wr.heap.size, 2, none⟩ = some (.slice DA ds.length dc)) w3 := ⟨HX3.out.cell 1, HX3.out.cell 2⟩
        have HC3 := hide hC3
        clear hC3 hM3
        refine hK.out _ _ hN (fun hH' => ?_)
        clear hK hH hN K
        have hH := hH'
        clear hH'
        try simp only [Act.put, List.setIfInBounds_toArray, List.set_cons_zero, List.set_cons_succ]
        refine wpAnyH_ready (rs := [11]) (by kernel_rfl) (by simp) ?_
        refine AllReadyH.cons (by simp only [List.getElem?_toArray, List.getElem?_cons_succ, List.getElem?_cons_zero]; exact rfl) (fun K hK => ?_) AllReadyH.nil
        go_simp
        refine (C2.out w3 HM3.out).mono ?_
        rintro en w4 ⟨rfl, hC4, F4, hBO4⟩
        have HBOn := hide hBO4
        have HC4 := hide hC4
        have hX4 := HX3.out.agree (Agree.of_chg hC4 (fun j hj => by subst hj; exact HX3.out.lt) fun j hj hF => by subst hj; exact HPF.out _ hF rfl) rfl
        have hN : (fun v => v.cell? ⟨wr.heap.size, 1, none⟩ = some (.int .i64 num) ∧ v.cell? ⟨wr.heap.size, 2, none⟩ = some (.slice DA ds.length dc)) w4 := ⟨hX4.cell 1, hX4.cell 2⟩
        clear hC4 hBO4 hX4
        refine hK.out _ _ hN (fun hH' => ?_)
        clear hK hH hN K
        have hH := hH'
        clear hH'
        try simp only [Act.put, List.setIfInBounds_toArray, List.set_cons_zero, List.set_cons_succ]
        refine wpAnyH_take (i := 12) (v := ?xv12) (by simp only [List.getElem?_toArray, List.getElem?_cons_succ, List.getElem?_cons_zero]; exact rfl) (by kernel_rfl) (by kernel_rfl) (by kernel_rfl) ?xq12 ?xy12 hH ?xr12
        case xq12 => exact fun _ _ _ h => h
        case xy12 =>
          refine Or.inl ⟨by rfl, fun v hv => ?_⟩
          go_simp
          rfl
        try simp only [Act.put, List.setIfInBounds_toArray, List.set_cons_zero, List.set_cons_succ]
        refine wpAnyH_done (by kernel_rfl) ?_ _
        have HBn : Hid (Below W.heap.size W w4) := (HBd.out.trans (HC3.out.below (fun j hj hF => by have := HLO.out j hF; omega) HBd.out.size)).trans (HC4.out.below (fun j hj hF => by have := HLO.out j hF; omega) (Nat.le_trans HBd.out.size HC3.out.size))
        go_wp2_with fail
        refine (step_same HBOn.out).mono ?_
        rintro en w9 ⟨rfl, hB9⟩
        have HBO9 := hide (HBOn.out.kept hB9)
        have HB9 := hide (HBn.out.trans (hB9.mono HBn.out.size))
        clear hB9
        go_wp2_with fail
        go_roundw
        case rel => exact ⟨k + 1, by omega, by omega, by go_num, _, _, _, rfl, rfl, HB9, HBO9⟩
        case measure => simp [iOf]; omega
      by_cases k1 : kind = 1
      · have b0 : (kind == 0) = false := beq_eq_false_iff_ne.2 k0
        have b1 : (kind == 1) = true := beq_iff_eq.2 k1
        obtain ⟨code, x, hx64, hc1, hc2⟩ := step_read HBOA.out num
        have C1 := hide hc1
        have C2 := hide hc2
        clear hc1 hc2
        go_wp2_with fail
        refine C1.out.mono ?_
        rintro en w3 ⟨A3, c3, rfl, hb3, hB3⟩
        have HX3 := hide (HX.out.kept hB3)
        have HC2 := hide (C2.out w3 hB3)
        have HBO3 := hide (HBOA.out.kept hB3)
        have HB3 := hide (HBA.out.trans (hB3.mono hszA))
        have y1 : w3.cell? ⟨wr.heap.size, 1, none⟩ = some (.int .i64 num) := HX3.out.cell 1
        have HBY3 := hide hb3
        clear hb3 hB3
        go_wp2_with fail
        refine HC2.out.mono ?_
        rintro en wx ⟨rfl, A4, c4, rfl, hb4⟩
        have HE := hide (eq04_any A3 A4 c3 c4 x x w3 HBY3.out hb4 (by unfold maxLen; omega) (by unfold maxLen; omega))
        clear hb4
        go_wp2_with fail
        refine HE.out.mono ?_
        rintro en w5 ⟨rfl, hB5⟩
        rw [show (x == x) = true from beq_self_eq_true _]
        have HBOn := hide (HBO3.out.next.kept hB5)
        have HBn := hide (HB3.out.trans (hB5.mono HB3.out.size))
        clear hB5
        go_wp2_with fail
        refine (step_same HBOn.out).mono ?_
        rintro en w9 ⟨rfl, hB9⟩
        have HBO9 := hide (HBOn.out.kept hB9)
        have HB9 := hide (HBn.out.trans (hB9.mono HBn.out.size))
        clear hB9
        go_wp2_with fail
        go_roundw
        case rel => exact ⟨k + 1, by omega, by omega, by go_num, _, _, _, rfl, rfl, HB9, HBO9⟩
        case measure => simp [iOf]; omega
      by_cases k2 : kind = 2
      · have b0 : (kind == 0) = false := beq_eq_false_iff_ne.2 k0
        have b1 : (kind == 1) = false := beq_eq_false_iff_ne.2 k1
        have b2 : (kind == 2) = true := beq_iff_eq.2 k2
        obtain ⟨code, M, hc1, hc2⟩ := step_sync HBOA.out (by omega) hszA
        have C1 := hide hc1
        have C2 := hide hc2
        clear hc1 hc2
        go_wp2_with fail
        refine C1.out.mono ?_
        rintro en w3 ⟨rfl, hC3, hM3⟩
        have HX3 := hide (HX.out.agree (Agree.of_chg hC3 (fun j hj => by subst hj; exact HX.out.lt) fun j hj hF => by subst hj; exact HPF.out _ hF rfl) rfl)
        have y1 : w3.cell? ⟨wr.heap.size, 1, none⟩ = some (.int .i64 num) := HX3.out.cell 1
        have HC2 := hide (C2.out w3 hM3)
        have HB3 : Hid (Below W.heap.size W w3) := HBA.out.trans (hC3.below (fun j hj hF => by have := HLO.out j hF; omega) hszA)
        clear hC3 hM3
        go_wp2_with fail
        refine HC2.out.mono ?_
        rintro en w4 ⟨rfl, hC4, F4, hBO4⟩
        have HBOn := hide hBO4
        have HBn : Hid (Below W.heap.size W w4) := HB3.out.trans (hC4.below (fun j hj hF => by have := HLO.out j hF; omega) HB3.out.size)
        clear hC4 hBO4
        go_wp2_with fail
        refine (step_same HBOn.out).mono ?_
        rintro en w9 ⟨rfl, hB9⟩
        have HBO9 := hide (HBOn.out.kept hB9)
        have HB9 := hide (HBn.out.trans (hB9.mono HBn.out.size))
        clear hB9
        go_wp2_with fail
        go_roundw
        case rel => exact ⟨k + 1, by omega, by omega, by go_num, _, _, _, rfl, rfl, HB9, HBO9⟩
        case measure => simp [iOf]; omega
      by_cases k3 : kind = 3
      · have b0 : (kind == 0) = false := beq_eq_false_iff_ne.2 k0
        have b1 : (kind == 1) = false := beq_eq_false_iff_ne.2 k1
        have b2 : (kind == 2) = false := beq_eq_false_iff_ne.2 k2
        have b3 : (kind == 3) = true := beq_iff_eq.2 k3
        obtain ⟨M, hc1, hc2⟩ := step_fuse HBOA.out hszA num HRN.out
        have C1 := hide hc1
        have C2 := hide hc2
        clear hc1 hc2
        go_wp2_with fail
        refine C1.out.mono ?_
        rintro en w3 ⟨rfl, hC3, hM3⟩
        have HX3 := hide (HX.out.agree (Agree.of_chg hC3 (fun j hj => by subst hj; exact HX.out.lt) fun j hj hF => by subst hj; exact HPF.out _ hF rfl) rfl)
        have y1 : w3.cell? ⟨wr.heap.size, 1, none⟩ = some (.int .i64 num) := HX3.out.cell 1
        have HC2 := hide (C2.out w3 hM3)
        have HB3 : Hid (Below W.heap.size W w3) := HBA.out.trans (hC3.below (fun j hj hF => by have := HLO.out j hF; omega) hszA)
        clear hC3 hM3
        go_wp2_with fail
        refine HC2.out.mono ?_
        rintro en w4 ⟨rfl, hC4, F4, hBO4⟩
        have HBOn := hide hBO4
        have HBn : Hid (Below W.heap.size W w4) := HB3.out.trans (hC4.below (fun j hj hF => by have := HLO.out j hF; omega) HB3.out.size)
        clear hC4 hBO4
        go_wp2_with fail
        refine (step_same HBOn.out).mono ?_
        rintro en w9 ⟨rfl, hB9⟩
        have HBO9 := hide (HBOn.out.kept hB9)
        have HB9 := hide (HBn.out.trans (hB9.mono HBn.out.size))
        clear hB9
        go_wp2_with fail
        go_roundw
        case rel => exact ⟨k + 1, by omega, by omega, by go_num, _, _, _, rfl, rfl, HB9, HBO9⟩
        case measure => simp [iOf]; omega
      have b0 : (kind == 0) = false := beq_eq_false_iff_ne.2 k0
      have b1 : (kind == 1) = false := beq_eq_false_iff_ne.2 k1
      have b2 : (kind == 2) = false := beq_eq_false_iff_ne.2 k2
      have b3 : (kind == 3) = false := beq_eq_false_iff_ne.2 k3
      have hbd : Below wA.heap.size wA wA.drew := below_drew (Below.refl _ _) 1
      have HBOd := hide (HBOA.out.kept hbd)
      have HXd : Hid (Box wA.drew wr.heap.size 44 #[.int .i64 kind, .int .i64 num, .slice DA ds.length dc, .slice KA ks.length kc]) := HX.out.drew
      have HBd : Hid (Below W.heap.size W wA.drew) := HBA.out.trans (hbd.mono hszA)
      have hszd : W.heap.size ≤ wA.drew.heap.size := hszA
      clear hbd
      obtain ⟨M, hc1, hc2⟩ := step_crash HBOd.out hszd KA kc ke HKA.out (by omega)
      have C1 := hide hc1
      have C2 := hide hc2
      clear hc1 hc2
      go_upto_region 9 with fail
      refine wp_region_held_drew (S := fun v => v.cell? ⟨wr.heap.size, 3, none⟩ = some (.slice KA ks.length kc)) (by kernel_rfl) (HXd.out.cell 3) (fun hH => ?_)
      refine wpAnyH_take (i := 0) (v := ?zv0) (by simp only [List.getElem?_toArray, List.getElem?_cons_succ, List.getElem?_cons_zero]; exact rfl) (by kernel_rfl) (by kernel_rfl) (by kernel_rfl) ?zq0 ?zy0 hH ?zr0
      case zq0 => exact fun _ _ _ h => h
      case zy0 =>
        refine Or.inl ⟨by rfl, fun v hv => ?_⟩
        go_simp
        rfl
      try simp only [Act.put, List.setIfInBounds_toArray, List.set_cons_zero, List.set_cons_succ]
      refine wpAnyH_take (i := 1) (v := ?zv1) (by simp only [List.getElem?_toArray, List.getElem?_cons_succ, List.getElem?_cons_zero]; exact rfl) (by kernel_rfl) (by kernel_rfl) (by kernel_rfl) ?zq1 ?zy1 hH ?zr1
      case zq1 => exact fun _ _ _ h => h
      case zy1 =>
        refine Or.inl ⟨by rfl, fun v hv => ?_⟩
        go_simp
        rfl
      try simp only [Act.put, List.setIfInBounds_toArray, List.set_cons_zero, List.set_cons_succ]
      refine wpAnyH_take (i := 2) (v := ?zv2) (by simp only [List.getElem?_toArray, List.getElem?_cons_succ, List.getElem?_cons_zero]; exact rfl) (by kernel_rfl) (by kernel_rfl) (by kernel_rfl) ?zq2 ?zy2 hH ?zr2
      case zq2 => exact fun _ _ _ h => h
      case zy2 =>
        refine Or.inl ⟨by rfl, fun v hv => ?_⟩
        have y0 : v.cell? ⟨wr.heap.size, 3, none⟩ = some (.slice KA ks.length kc) := hv
        go_simp
        rfl
      try simp only [Act.put, List.setIfInBounds_toArray, List.set_cons_zero, List.set_cons_succ]
      refine wpAnyH_take (i := 3) (v := ?zv3) (by simp only [List.getElem?_toArray, List.getElem?_cons_succ, List.getElem?_cons_zero]; exact rfl) (by kernel_rfl) (by kernel_rfl) (by kernel_rfl) ?zq3 ?zy3 hH ?zr3
      case zq3 => exact fun _ _ _ h => h
      case zy3 =>
        refine Or.inl ⟨by rfl, fun v hv => ?_⟩
        go_simp
        rfl
      try simp only [Act.put, List.setIfInBounds_toArray, List.set_cons_zero, List.set_cons_succ]
      refine wpAnyH_take (i := 4) (v := ?zv4) (by simp only [List.getElem?_toArray, List.getElem?_cons_succ, List.getElem?_cons_zero]; exact rfl) (by kernel_rfl) (by kernel_rfl) (by kernel_rfl) ?zq4 ?zy4 hH ?zr4
      case zq4 => exact fun _ _ _ h => h
      case zy4 =>
        refine Or.inl ⟨by rfl, fun v hv => ?_⟩
        have y0 : v.cell? ⟨wr.heap.size, 3, none⟩ = some (.slice KA ks.length kc) := hv
        go_simp
        rfl
      try simp only [Act.put, List.setIfInBounds_toArray, List.set_cons_zero, List.set_cons_succ]
      refine wpAnyH_take (i := 5) (v := ?zv5) (by simp only [List.getElem?_toArray, List.getElem?_cons_succ, List.getElem?_cons_zero]; exact rfl) (by kernel_rfl) (by kernel_rfl) (by kernel_rfl) ?zq5 ?zy5 hH ?zr5
      case zq5 => exact fun _ _ _ h => h
      case zy5 =>
        refine Or.inl ⟨by rfl, fun v hv => ?_⟩
        go_simp
        rfl
      try simp only [Act.put, List.setIfInBounds_toArray, List.set_cons_zero, List.set_cons_succ]
      refine wpAnyH_take (i := 6) (v := ?zv6) (by simp only [List.getElem?_toArray, List.getElem?_cons_succ, List.getElem?_cons_zero]; exact rfl) (by kernel_rfl) (by kernel_rfl) (by kernel_rfl) ?zq6 ?zy6 hH ?zr6
      case zq6 => exact fun _ _ _ h => h
      case zy6 =>
        refine Or.inl ⟨by rfl, fun v hv => ?_⟩
        go_simp
        rfl
      try simp only [Act.put, List.setIfInBounds_toArray, List.set_cons_zero, List.set_cons_succ]
      refine wpAnyH_take (i := 7) (v := ?zv7) (by simp only [List.getElem?_toArray, List.getElem?_cons_succ, List.getElem?_cons_zero]; exact rfl) (by kernel_rfl) (by kernel_rfl) (by kernel_rfl) ?zq7 ?zy7 hH ?zr7
      case zq7 => exact fun _ _ _ h => h
      case zy7 =>
        refine Or.inl ⟨by rfl, fun v hv => ?_⟩
        go_simp
        rfl
      try simp only [Act.put, List.setIfInBounds_toArray, List.set_cons_zero, List.set_cons_succ]
      refine wpAnyH_take (i := 9) (v := ?zv9) (by simp only [List.getElem?_toArray, List.getElem?_cons_succ, List.getElem?_cons_zero]; exact rfl) (by kernel_rfl) (by kernel_rfl) (by kernel_rfl) ?zq9 ?zy9 hH ?zr9
      case zq9 => exact fun _ _ _ h => h
      case zy9 =>
        refine Or.inl ⟨by rfl, fun v hv => ?_⟩
        go_simp
        rfl
      try simp only [Act.put, List.setIfInBounds_toArray, List.set_cons_zero, List.set_cons_succ]
      refine wpAnyH_take (i := 10) (v := ?zv10) (by simp only [List.getElem?_toArray, List.getElem?_cons_succ, List.getElem?_cons_zero]; exact rfl) (by kernel_rfl) (by kernel_rfl) (by kernel_rfl) ?zq10 ?zy10 hH ?zr10
      case zq10 => exact fun _ _ _ h => h
      case zy10 =>
        refine Or.inl ⟨by rfl, fun v hv => ?_⟩
        go_simp
        rfl
      try simp only [Act.put, List.setIfInBounds_toArray, List.set_cons_zero, List.set_cons_succ]
      refine wpAnyH_take (i := 11) (v := ?zv11) (by simp only [List.getElem?_toArray, List.getElem?_cons_succ, List.getElem?_cons_zero]; exact rfl) (by kernel_rfl) (by kernel_rfl) (by kernel_rfl) ?zq11 ?zy11 hH ?zr11
      case zq11 => exact fun _ _ _ h => h
      case zy11 =>
        refine Or.inl ⟨by rfl, fun v hv => ?_⟩
        have y0 : v.cell? ⟨wr.heap.size, 3, none⟩ = some (.slice KA ks.length kc) := hv
        go_simp
        rfl
      try simp only [Act.put, List.setIfInBounds_toArray, List.set_cons_zero, List.set_cons_succ]
      refine wpAnyH_take (i := 12) (v := ?zv12) (by simp only [List.getElem?_toArray, List.getElem?_cons_succ, List.getElem?_cons_zero]; exact rfl) (by kernel_rfl) (by kernel_rfl) (by kernel_rfl) ?zq12 ?zy12 hH ?zr12
      case zq12 => exact fun _ _ _ h => h
      case zy12 =>
        refine Or.inl ⟨by rfl, fun v hv => ?_⟩
        go_simp
        rfl
      try simp only [Act.put, List.setIfInBounds_toArray, List.set_cons_zero, List.set_cons_succ]
      refine wpAnyH_take (i := 13) (v := ?zv13) (by simp only [List.getElem?_toArray, List.getElem?_cons_succ, List.getElem?_cons_zero]; exact rfl) (by kernel_rfl) (by kernel_rfl) (by kernel_rfl) ?zq13 ?zy13 hH ?zr13
      case zq13 => exact fun _ _ _ h => h
      case zy13 =>
        refine Or.inl ⟨by rfl, fun v hv => ?_⟩
        have y0 : v.cell? ⟨wr.heap.size, 3, none⟩ = some (.slice KA ks.length kc) := hv
        go_simp
        rfl
      try simp only [Act.put, List.setIfInBounds_toArray, List.set_cons_zero, List.set_cons_succ]
      refine wpAnyH_take (i := 14) (v := ?zv14) (by simp only [List.getElem?_toArray, List.getElem?_cons_succ, List.getElem?_cons_zero]; exact rfl) (by kernel_rfl) (by kernel_rfl) (by kernel_rfl) ?zq14 ?zy14 hH ?zr14
      case zq14 => exact fun _ _ _ h => h
      case zy14 =>
        refine Or.inl ⟨by rfl, fun v hv => ?_⟩
        go_simp
        rfl
      try simp only [Act.put, List.setIfInBounds_toArray, List.set_cons_zero, List.set_cons_succ]
      refine wpAnyH_take (i := 15) (v := ?zv15) (by simp only [List.getElem?_toArray, List.getElem?_cons_succ, List.getElem?_cons_zero]; exact rfl) (by kernel_rfl) (by kernel_rfl) (by kernel_rfl) ?zq15 ?zy15 hH ?zr15
      case zq15 => exact fun _ _ _ h => h
      case zy15 =>
        refine Or.inl ⟨by rfl, fun v hv => ?_⟩
        go_simp
        rfl
      try simp only [Act.put, List.setIfInBounds_toArray, List.set_cons_zero, List.set_cons_succ]
      refine wpAnyH_take (i := 16) (v := ?zv16) (by simp only [List.getElem?_toArray, List.getElem?_cons_succ, List.getElem?_cons_zero]; exact rfl) (by kernel_rfl) (by kernel_rfl) (by kernel_rfl) ?zq16 ?zy16 hH ?zr16
      case zq16 => exact fun _ _ _ h => h
      case zy16 =>
        refine Or.inl ⟨by rfl, fun v hv => ?_⟩
        go_simp
        rfl
      try simp only [Act.put, List.setIfInBounds_toArray, List.set_cons_zero, List.set_cons_succ]
      refine wpAnyH_ready (rs := [8]) (by kernel_rfl) (by simp) ?_
      refine AllReadyH.cons (by simp only [List.getElem?_toArray, List.getElem?_cons_succ, List.getElem?_cons_zero]; exact rfl) (fun K hK => ?_) AllReadyH.nil
      go_simp
      refine C1.out.mono ?_
      rintro en w3 ⟨s3, rfl, hB3, hM3⟩
      have HM3 := hide hM3
      have HX3 := hide (HXd.out.kept hB3)
      have hN : (fun v => v.cell? ⟨wr.heap.size, 3, none⟩ = some (.slice KA ks.length kc)) w3 := HX3.out.cell 3
      have HB3 := hide hB3
      clear hB3 hM3
      refine hK.out _ _ hN (fun hH' => ?_)
      clear hK hH hN K
      have hH := hH'
      clear hH'
      try simp only [Act.put, List.setIfInBounds_toArray, List.set_cons_zero, List.set_cons_succ]
      refine wpAnyH_ready (rs := [17]) (by kernel_rfl) (by simp) ?_
      refine AllReadyH.cons (by simp only [List.getElem?_toArray, List.getElem?_cons_succ, List.getElem?_cons_zero]; exact rfl) (fun K hK => ?_) AllReadyH.nil
      go_simp
      refine (C2.out s3 w3 HM3.out).mono ?_
      rintro en w4 ⟨m4, rfl, hB4, F4, hBO4⟩
      have HBOn := hide hBO4
      have HB4 := hide hB4
      have hN : (fun v => v.cell? ⟨wr.heap.size, 3, none⟩ = some (.slice KA ks.length kc)) w4 := (HX3.out.kept hB4).cell 3
      clear hB4 hBO4
      refine hK.out _ _ hN (fun hH' => ?_)
      clear hK hH hN K
      have hH := hH'
      clear hH'
      try simp only [Act.put, List.setIfInBounds_toArray, List.set_cons_zero, List.set_cons_succ]
      refine wpAnyH_take (i := 18) (v := ?zv18) (by simp only [List.getElem?_toArray, List.getElem?_cons_succ, List.getElem?_cons_zero]; exact rfl) (by kernel_rfl) (by kernel_rfl) (by kernel_rfl) ?zq18 ?zy18 hH ?zr18
      case zq18 => exact fun _ _ _ h => h
      case zy18 =>
        refine Or.inl ⟨by rfl, fun v hv => ?_⟩
        go_simp
        rfl
      try simp only [Act.put, List.setIfInBounds_toArray, List.set_cons_zero, List.set_cons_succ]
      refine wpAnyH_take (i := 19) (v := ?zv19) (by simp only [List.getElem?_toArray, List.getElem?_cons_succ, List.getElem?_cons_zero]; exact rfl) (by kernel_rfl) (by kernel_rfl) (by kernel_rfl) ?zq19 ?zy19 hH ?zr19
      case zq19 => exact fun _ _ _ h => h
      case zy19 =>
        refine Or.inl ⟨by rfl, fun v hv => ?_⟩
        go_simp
        rfl
      try simp only [Act.put, List.setIfInBounds_toArray, List.set_cons_zero, List.set_cons_succ]
      refine wpAnyH_done (by kernel_rfl) ?_ _
      have HB3w : Hid (Below W.heap.size W w3) := HBd.out.trans (HB3.out.mono HBd.out.size)
      have HBn : Hid (Below W.heap.size W w4) := HB3w.out.trans (HB4.out.mono HB3w.out.size)
      go_wp2_with fail
      refine (step_same HBOn.out).mono ?_
      rintro en w9 ⟨rfl, hB9⟩
      have HBO9 := hide (HBOn.out.kept hB9)
      have HB9 := hide (HBn.out.trans (hB9.mono HBn.out.size))
      clear hB9
      go_wp2_with fail
      go_roundw
      case rel => exact ⟨k + 1, by omega, by omega, by go_num, _, _, _, rfl, rfl, HB9, HBO9⟩
      case measure => simp [iOf]; omega
    · have h3 : k = xs.length ∨ (k < xs.length ∧ k = 30) := by omega
      rcases h3 with rfl | ⟨h3, rfl⟩
      all_goals
        go_wp2_with fail
        refine (awake_any wr).mono ?_
        rintro en w4 ⟨rfl, hB4⟩
        have HB4 := hide (HB.out.trans (hB4.mono HB.out.size))
        clear hB4
        go_wp2_with fail
        go_ret
        exact ⟨rfl, HB4.out⟩

set_option maxRecDepth 100000 in
theorem lifted (os : Os) (started : os.Started) (H : Type) (enc : TypeId × Value → H) :
    ReturnsInHanded {} Try.checked os 6 .any (Rows.diskScriptSpec.pre6 enc Try.prog Try.f6 Rows.diskScriptRow.domain false) (Rows.diskScriptSpec.post enc Try.prog Try.f6 false true false false) := by
  refine returnsInHanded_of_change (C := Try.checked) own started (by kernel_rfl) Try.func6
    (ChangeSpec.witness6 (enc := enc) (C := Try.checked) false ⟨#[], #[.int .i64 0, .slice none 0 0], []⟩ 8 (by kernel_rfl) (by kernel_rfl) (by kernel_rfl) (by kernel_rfl)) ?_
  intro W base args ds gs before hval0 hW hcnd _
  have hval : ∀ (j : Nat) t v, Try.f6.params[j]? = some t → args[j]? = some v → Value.okWide Try.prog W .any base t v := hval0
  have hW' := hW
  obtain ⟨p, q, hA0, hV, rfl, hfz, hnd⟩ := hW
  have hA : DataW.TrodAll enc Try.prog W 0 (fun _ => true) true Try.f6.params.toList args.toList ds p := hA0
  rw [Try.params6] at hA hval
  obtain ⟨v0, vs0, d0, ds0, p0, q0, hargs, rfl, rfl, h0, r0⟩ := trodAll_cons hA
  obtain ⟨v1, vs1, d1, ds1, p1, q1, rfl, rfl, rfl, h1, r1⟩ := trodAll_cons r0
  obtain ⟨rfl, rfl, rfl⟩ := trodAll_nil r1
  obtain rfl : args = #[v0, v1] := by cases args; simp_all
  obtain ⟨a0, rfl, _, _, w0⟩ := open_int Try.underlying3 (hval 0 3 v0 rfl rfl) h0
  obtain ⟨A1, c1, xs1, rfl, hf1, hm1, hl1⟩ := open_ops (hval 1 40 v1 rfl rfl) h1
  refine (walk a0 A1 c1 xs1 W hf1 hm1 hl1).mono fun e W' ⟨he, hb⟩ => ?_
  subst he
  exact ⟨_, rfl, post_law hW' rfl hb (by rw [Try.params6]; exact params_ok (by kernel_rfl)) rfl rfl⟩

theorem over : Rows.diskScriptRow.holds Try.pinned (OpenSpec.ofChange Rows.diskScriptSpec) :=
  OpenClaim.holds_of_wide 6 Try.f6 rfl rfl rfl rfl rfl rfl rfl ⟨rfl, rfl, rfl, rfl, rfl⟩ rfl rfl rfl rfl rfl (by kernel_rfl) Try.func6 (by kernel_rfl)
    (of_decide_eq_true (by kernel_rfl)) (by unfold Func.isWrapper; first | (rw [if_pos (by decide +kernel)]; kernel_rfl) | (rw [if_neg (by decide +kernel)]; exact ⟨rfl, rfl⟩))
    (fun os started H enc _ => lifted os started H enc)

theorem proved : Rows.DiskScriptSaid := over
end Go.Proofs.Ytcmchnddnglnfaa.lawScript
