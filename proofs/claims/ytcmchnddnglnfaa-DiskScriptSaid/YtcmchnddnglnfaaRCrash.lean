/-
  The reference: Crash.
-/
import Derived.Test.YtcmchnddnglnfaaRNew
namespace Go.Proofs.Ytcmchnddnglnfaa
open Go.RowKit
set_option linter.unusedVariables false
set_option linter.unusedSimpArgs false

/-- a sector behind the reference's crash -/
def rcr (safe last : List (List UInt8)) (dirt keep : List Bool) (i : Nat) : List UInt8 := if dirt.getD i false = true ∧ keep.getD (trueN (dirt.take i)) false = true then last.getD i [] else safe.getD i []
def RCrPost (w : World) (safe last : List (List UInt8)) (dirt keep : List Bool) (en : Ending) (w' : World) : Prop :=
  ∃ m bs, en = .returned (.pointer (some ⟨m, 0, none⟩)) ∧ Below w.heap.size w w' ∧ bs.length = last.length ∧ (∀ i, i < last.length → bs.getD i [] = rcr safe last dirt keep i) ∧ RDsk (fun i => w.heap.size ≤ i ∧ i < w'.heap.size) w' m bs bs (List.replicate last.length false) false 0 false
section
variable {F Gk : Nat → Prop} {w : World} {m gs gl gd cS cL cD : Nat} {safe last : List (List UInt8)} {dirt : List Bool} {has : Bool} {left : Int} {gone : Bool}
theorem copy64 (w : World) (A : Option Addr) (c : Nat) (bs : List UInt8) (hb : Bys w A bs) (h64 : bs.length = 64) :
    ∃ g d w', (Builtin.append_ #[22, 22] 22 #[.slice none 0 0, .slice A 64 c]).run Try.prog w = .ok (.slice (some ⟨g, 0, none⟩) 64 d) w' ∧ w.heap.size ≤ g ∧ Row w' g bs ∧ 64 ≤ d ∧ Below w.heap.size w w' := by
  obtain ⟨D, d, w', hr, h1, h2⟩ := run_append_copy w 22 none A c bs hb (by omega)
  obtain ⟨g, rfl, h3, h4, h5⟩ := h1.2 (by omega)
  rw [h64] at hr
  exact ⟨g, d, w', hr, h3, h5, by rw [← h64]; exact h1.1, h2⟩
set_option maxHeartbeats 6400000 in
theorem rcrash_any (h : RDat F w m gs gl gd cS cL cD safe last dirt has left gone) (A : Option Addr) (c : Nat) (keep : List Bool) (hk : BoolsIn Gk w A keep) (hG : Lt Gk w) (hkl : keep.length ≤ 1000000) : Calls Try.prog 24 #[.pointer (some ⟨m, 0, none⟩), .slice A keep.length c] w (RCrPost w safe last dirt keep) := by
  obtain ⟨c0, c1, c2, c3, c4, c5⟩ := h.cells
  have hmo := h.most
  have hso := h.some_
  have HD := hide h
  have HK := hide hk
  have HG := hide hG
  clear h c0 c2 c3 c4 c5 hk hG
  go_enter Try.func24, Try.ntmps24
  go_wp2_with fail
  refine (rnew_ok last.length w hso hmo).mono ?_
  rintro en w1 ⟨mc, rfl, hB1, ns, nl, nd, nS, nL, nD, hN1⟩
  have hln : (List.replicate last.length zeroS).length = last.length := List.length_replicate ..
  have HD1 := hide (HD.out.kept hB1)
  have HB1 := hide hB1
  have HN1 := hide hN1
  have HMC := hide hN1.mem
  have HNE := hide hN1.ne
  obtain ⟨c0, c1, c2, _, _, _⟩ := HD1.out.cells
  clear hB1 hN1
  go_wp2_with fail
  go_loopw [6, 20] (fun v i wr => ∃ j : Nat, j ≤ last.length ∧ i = .int .i64 j ∧ v = .int .i64 (trueN (dirt.take j) : Nat) ∧ ∃ sf la, Hid (sf.length = last.length ∧ la.length = last.length ∧ ∀ q, q < j → sf.getD q [] = rcr safe last dirt keep q ∧ la.getD q [] = rcr safe last dirt keep q) ∧ Hid (Chg (fun i => w.heap.size ≤ i) w1 wr) ∧ Hid (RDat (fun i => w.heap.size ≤ i ∧ i < wr.heap.size) wr mc ns nl nd nS nL nD sf la (List.replicate last.length false) false 0 false)) (fun _ i _ => last.length - (iOf i).toNat)
  case atStart => exact ⟨0, by omega, rfl, rfl, _, _, ⟨hln, hln, fun q hq => absurd hq (by omega)⟩, Chg.refl _ _, HN1⟩
  case round =>
    obtain ⟨i, hi, rfl, rfl, sf, la, HP, HX, HDr⟩ := hrel
    clear c0 c1 c2
    have hsr := HX.out.size
    have hs1 := HB1.out.size
    have HOr := hide (HD1.out.chg HX.out (fun q hq e => by have := HD.out.lt q hq; omega))
    by_cases hlt : i < last.length
    · have HKr := hide ((HK.out.agree (Agree.of_below HB1.out HG.out)).agree (Agree.of_chg HX.out (fun q hq => Nat.lt_of_lt_of_le (HG.out q hq) hs1) (fun q hq e => by have := HG.out q hq; omega)))
      obtain ⟨d0, d1, d2, _, _, _⟩ := HOr.out.cells
      obtain ⟨hl0, A0, k0, q0, hk0, hb0⟩ := HOr.out.rowsS.at_ (k := i) (by rw [HOr.out.lens]; exact hlt)
      obtain ⟨hl1, A1, k1, q1, hk1, hb1⟩ := HOr.out.rowsL.at_ hlt
      have q2 := HOr.out.bools.cell (k := i) (by rw [HOr.out.lend]; exact hlt)
      have htk := trueN_take dirt (k := i) (by rw [HOr.out.lend]; exact hlt)
      have htb : trueN (dirt.take i) ≤ i := by
        unfold trueN
        exact Nat.le_trans (List.length_filter_le _ _) (by rw [List.length_take]; omega)
      have HRC : Hid (rcr safe last dirt keep i = if dirt.getD i false = true ∧ keep.getD (trueN (dirt.take i)) false = true then last.getD i [] else safe.getD i []) := rfl
      have HB0 := hide hb0
      have HBb1 := hide hb1
      have HL0 := hide hl0
      have HL1 := hide hl1
      generalize hT1 : trueN (dirt.take (i + 1)) = t1 at htk ⊢
      have HT1 := hide hT1
      clear hT1
      generalize trueN (dirt.take i) = t0 at htk htb HRC ⊢
      generalize dirt.getD i false = dd at q2 htk HRC
      have HTK := hide htk
      clear hb0 hb1 hl0 hl1 htk
      go_upto_if 36 with fail
      go_cut [6, 8] (fun v6 v8 wx => ∃ Ab cb, v8 = .slice Ab 64 cb ∧ v6 = .int .i64 (t1 : Nat) ∧ Hid (BysIn F wr Ab (rcr safe last dirt keep i)) ∧ Hid (wx = wr))
      case first =>
        cases dd with
        | false =>
          have e1 : t1 = t0 := by have h := HTK.out; simpa using h
          go_wp2_with fail
          go_meet
          refine ⟨A0, k0, rfl, by first | trivial | rw [e1], ?_, rfl⟩
          rw [HRC.out, if_neg (fun h => by cases h.1)]
          exact HB0.out.mono fun q hq => hq.1
        | true =>
          have e1 : t1 = t0 + 1 := by have h := HTK.out; simpa using h
          by_cases hkk : t0 < keep.length ∧ keep.getD t0 false = true
          · obtain ⟨n1, n2⟩ := hkk
            obtain ⟨kb, ko, rfl, _, hkc⟩ := HKr.out (by omega)
            have hkc' := hkc t0 n1
            rw [n2] at hkc'
            clear hkc
            go_wp2_with fail
            go_meet
            refine ⟨A1, k1, rfl, by first | trivial | (rw [e1]; go_num) | rw [e1], ?_, rfl⟩
            rw [HRC.out, if_pos (by first | exact ⟨trivial, n2⟩ | exact ⟨rfl, n2⟩)]
            exact HBb1.out.mono fun q hq => hq.1
          · have n2 : keep.getD t0 false = false := by
              by_cases n1 : t0 < keep.length
              · cases hh : keep.getD t0 false with
                | false => rfl
                | true => exact absurd ⟨n1, hh⟩ hkk
              · rw [List.getD_eq_getElem?_getD, List.getElem?_eq_none (by omega)]; rfl
            have hc3 : (decide (t0 < keep.length) = false) ∨ (t0 < keep.length ∧ ∃ kb ko, A = some ⟨kb, ko, none⟩ ∧ wr.cell? ⟨kb, ko + t0, none⟩ = some (.bool false)) := by
              by_cases n1 : t0 < keep.length
              · obtain ⟨kb, ko, e3, _, hkc⟩ := HKr.out (by omega)
                have h := hkc t0 n1
                rw [n2] at h
                exact .inr ⟨n1, kb, ko, e3, h⟩
              · exact .inl (decide_eq_false n1)
            clear hkk
            rcases hc3 with n1 | ⟨n1, kb, ko, rfl, hkc⟩
            all_goals
              go_wp2_with fail
              go_meet
              refine ⟨A0, k0, rfl, by first | trivial | (rw [e1]; go_num) | rw [e1], ?_, rfl⟩
              rw [HRC.out, if_neg (fun h => by rw [n2] at h; cases h.2)]
              exact HB0.out.mono fun q hq => hq.1
      case rest =>
        obtain ⟨Ab, cb, rfl, rfl, HBb, hwx⟩ := hcut
        rw [hwx.out]
        have h64 : (rcr safe last dirt keep i).length = 64 := by
          rw [HRC.out]
          split
          · exact HL1.out
          · exact HL0.out
        have HBY : Hid (Bys wr.drew Ab (rcr safe last dirt keep i)) := HBb.out.bys (fun q hq => HOr.out.lt q hq)
        obtain ⟨g1, d1', v1, hr1, hg1, hR1, hd1, hB1'⟩ := copy64 wr.drew Ab cb _ HBY.out h64
        obtain ⟨g2, d2', v2, hr2, hg2, hR2, hd2, hB2'⟩ := copy64 v1 Ab cb _ (HBY.out.below hB1') h64
        have hnsl := HDr.out.lt ns HDr.out.mem.2.1
        have hmcl := HDr.out.lt mc HDr.out.mem.1
        have hnll := HDr.out.lt nl HDr.out.mem.2.2.1
        have hndl := HDr.out.lt nd HDr.out.mem.2.2.2
        have hv1 := hB1'.size
        have hv2 := hB2'.size
        have hwd : wr.drew.heap.size = wr.heap.size := rfl
        have hDd : RDat (fun i => w.heap.size ≤ i ∧ i < wr.heap.size) wr.drew mc ns nl nd nS nL nD sf la (List.replicate last.length false) false 0 false := HDr.out.agree (fun _ _ => rfl) (Nat.le_refl _)
        have hDv1 := hDd.kept hB1'
        have hDv2a := hDv1.agree (Agree.of_below hB2' (fun q hq => by omega)) hv2
        have hDv2 := hDv2a.mono (G := fun q => w.heap.size ≤ q ∧ q < v2.heap.size) (fun q hq => ⟨hq.1, by omega⟩) (fun q hq => hq.2)
        have hR1' := hR1.kept hB2'
        have hla : i < la.length := by rw [HP.out.2.1]; exact hlt
        have hg2l := hR2.lt
        have hDv3 := hDv2.setSafe hla (A := some ⟨g1, 0, none⟩) (c := d1') h64 hd1 (fun hp => ⟨g1, 0, rfl, ⟨⟨by omega, hR1'.lt⟩, by omega, by omega, by omega, by omega⟩, fun k hk => by rw [Nat.zero_add]; exact hR1'.cell hk⟩)
        have hR2' : Row (v2.setCell ⟨ns, i, none⟩ (.slice (some ⟨g1, 0, none⟩) 64 d1')) g2 (rcr safe last dirt keep i) := hR2.far (by show g2 ≠ ns; omega) _
        have hDv4 := hDv3.setLast hla (A := some ⟨g2, 0, none⟩) (c := d2') h64 hd2 (fun hp => ⟨g2, 0, rfl, ⟨⟨by omega, by omega⟩, by omega, by omega, by omega, by omega⟩, fun k hk => by rw [Nat.zero_add]; exact hR2'.cell hk⟩)
        have ells : (la.set i (rcr safe last dirt keep i)).length = last.length := by rw [List.length_set]; exact HP.out.2.1
        have HR1 := hide hr1
        have HR2 := hide hr2
        have hc1 := hDd.cells
        have hc2 := hDv1.cells
        have hc3 := hDv2.cells
        have hc4 := hDv3.cells
        have hc5 := hDv4.cells
        rw [HP.out.2.1] at hc1 hc2 hc3 hc4
        rw [ells] at hc5
        have HS0 : Hid ((fun v => v.cell? ⟨mc, 0, none⟩ = some (.slice (some ⟨ns, 0, none⟩) last.length nS) ∧ v.cell? ⟨mc, 1, none⟩ = some (.slice (some ⟨nl, 0, none⟩) last.length nL)) wr.drew) := ⟨hc1.1, hc1.2.1⟩
        have HS1 : Hid ((fun v => v.cell? ⟨mc, 0, none⟩ = some (.slice (some ⟨ns, 0, none⟩) last.length nS) ∧ v.cell? ⟨mc, 1, none⟩ = some (.slice (some ⟨nl, 0, none⟩) last.length nL)) v1) := ⟨hc2.1, hc2.2.1⟩
        have HS2 : Hid ((fun v => v.cell? ⟨mc, 0, none⟩ = some (.slice (some ⟨ns, 0, none⟩) last.length nS) ∧ v.cell? ⟨mc, 1, none⟩ = some (.slice (some ⟨nl, 0, none⟩) last.length nL)) v2) := ⟨hc3.1, hc3.2.1⟩
        have HS3 : Hid ((fun v => v.cell? ⟨mc, 0, none⟩ = some (.slice (some ⟨ns, 0, none⟩) last.length nS) ∧ v.cell? ⟨mc, 1, none⟩ = some (.slice (some ⟨nl, 0, none⟩) last.length nL)) (v2.setCell ⟨ns, i, none⟩ (.slice (some ⟨g1, 0, none⟩) 64 d1'))) := ⟨hc4.1, hc4.2.1⟩
        have HS4 : Hid ((fun v => v.cell? ⟨mc, 0, none⟩ = some (.slice (some ⟨ns, 0, none⟩) last.length nS) ∧ v.cell? ⟨mc, 1, none⟩ = some (.slice (some ⟨nl, 0, none⟩) last.length nL)) ((v2.setCell ⟨ns, i, none⟩ (.slice (some ⟨g1, 0, none⟩) 64 d1')).setCell ⟨nl, i, none⟩ (.slice (some ⟨g2, 0, none⟩) 64 d2'))) := ⟨hc5.1, hc5.2.1⟩
        obtain ⟨_, Az, cz, qz, _, _⟩ := hDv2.rowsS.at_ (k := i) (by rw [hDv2.lens]; exact hla)
        obtain ⟨_, Ay, cy, qy, _, _⟩ := hDv3.rowsL.at_ (k := i) hla
        have HF2 := hide (hDv2.rowsS.frozen i)
        have HZ2 := hide qz
        have HF3 := hide (hDv3.rowsL.frozen i)
        have HZ3 := hide qy
        obtain ⟨w4, hw4⟩ : ∃ w4, w4 = (v2.setCell ⟨ns, i, none⟩ (.slice (some ⟨g1, 0, none⟩) 64 d1')).setCell ⟨nl, i, none⟩ (.slice (some ⟨g2, 0, none⟩) 64 d2') := ⟨_, rfl⟩
        have hw4s : w4.heap.size = v2.heap.size := by rw [hw4]; simp [World.setCell]
        rw [← hw4] at hDv4
        have HD4 : Hid (RDat (fun q => w.heap.size ≤ q ∧ q < w4.heap.size) w4 mc ns nl nd nS nL nD (sf.set i (rcr safe last dirt keep i)) (la.set i (rcr safe last dirt keep i)) (List.replicate last.length false) false 0 false) := by rw [hw4s]; exact hDv4
        have HX4 : Hid (Chg (fun q => w.heap.size ≤ q) w1 w4) := by
          rw [hw4]
          exact ((HX.out.drew.trans ((Chg.of_below hB1' (fun _ => False)).trans (Chg.of_below hB2' (fun _ => False)) fun _ _ e => e.elim) fun _ _ e => e.elim).setCell (fun _ => HMC.out.2.1.1) _ _).setCell (fun _ => HMC.out.2.2.1.1) _ _
        have HP4 : Hid ((sf.set i (rcr safe last dirt keep i)).length = last.length ∧ (la.set i (rcr safe last dirt keep i)).length = last.length ∧ ∀ q, q < i + 1 → (sf.set i (rcr safe last dirt keep i)).getD q [] = rcr safe last dirt keep q ∧ (la.set i (rcr safe last dirt keep i)).getD q [] = rcr safe last dirt keep q) := by
          refine ⟨by rw [List.length_set]; exact HP.out.1, ells, fun q hq => ?_⟩
          by_cases e : q = i
          · subst e
            exact ⟨set_at _ _ _ (by rw [HP.out.1]; exact hlt), set_at _ _ _ hla⟩
          · have h1 := HP.out.2.2 q (by omega)
            exact ⟨by rw [List.getD_eq_getElem?_getD, List.getElem?_set_ne (fun e' => e e'.symm), ← List.getD_eq_getElem?_getD]; exact h1.1, by rw [List.getD_eq_getElem?_getD, List.getElem?_set_ne (fun e' => e e'.symm), ← List.getD_eq_getElem?_getD]; exact h1.2⟩
        have HW4 := hide hw4
        clear d0 d1 d2 q0 q1 q2 hr1 hr2 hc1 hc2 hc3 hc4 hc5 hDd hDv1 hDv2a hDv2 hDv3 hDv4 hR1 hR1' hR2 hR2' qz qy hB1' hB2' hw4 hw4s ells
        go_upto_region 11 with fail
        refine wp_region_held_drew (S := fun v => v.cell? ⟨mc, 0, none⟩ = some (.slice (some ⟨ns, 0, none⟩) last.length nS) ∧ v.cell? ⟨mc, 1, none⟩ = some (.slice (some ⟨nl, 0, none⟩) last.length nL)) (by kernel_rfl) (HS0.out) (fun hH => ?_)
        refine wpAnyH_take (i := 0) (v := ?xv0) (by simp only [List.getElem?_toArray, List.getElem?_cons_succ, List.getElem?_cons_zero]; exact rfl) (by kernel_rfl) (by kernel_rfl) (by kernel_rfl) ?xq0 ?xy0 hH ?xr0
        case xq0 => exact fun _ _ _ h => h
        case xy0 =>
          refine Or.inl ⟨by rfl, fun v hv => ?_⟩
          go_simp
          rfl
        try simp only [Act.put, List.setIfInBounds_toArray, List.set_cons_zero, List.set_cons_succ]
        refine wpAnyH_take (i := 1) (v := ?xv1) (by simp only [List.getElem?_toArray, List.getElem?_cons_succ, List.getElem?_cons_zero]; exact rfl) (by kernel_rfl) (by kernel_rfl) (by kernel_rfl) ?xq1 ?xy1 hH ?xr1
        case xq1 => exact fun _ _ _ h => h
        case xy1 =>
          refine Or.inl ⟨by rfl, fun v hv => ?_⟩
          go_simp
          rfl
        try simp only [Act.put, List.setIfInBounds_toArray, List.set_cons_zero, List.set_cons_succ]
        refine wpAnyH_take (i := 2) (v := ?xv2) (by simp only [List.getElem?_toArray, List.getElem?_cons_succ, List.getElem?_cons_zero]; exact rfl) (by kernel_rfl) (by kernel_rfl) (by kernel_rfl) ?xq2 ?xy2 hH ?xr2
        case xq2 => exact fun _ _ _ h => h
        case xy2 =>
          refine Or.inl ⟨by rfl, fun v hv => ?_⟩
          go_simp
          rfl
        try simp only [Act.put, List.setIfInBounds_toArray, List.set_cons_zero, List.set_cons_succ]
        refine wpAnyH_take (i := 3) (v := ?xv3) (by simp only [List.getElem?_toArray, List.getElem?_cons_succ, List.getElem?_cons_zero]; exact rfl) (by kernel_rfl) (by kernel_rfl) (by kernel_rfl) ?xq3 ?xy3 hH ?xr3
        case xq3 => exact fun _ _ _ h => h
        case xy3 =>
          refine Or.inl ⟨by rfl, fun v hv => ?_⟩
          obtain ⟨y0, y1⟩ := hv
          go_simp
          rfl
        try simp only [Act.put, List.setIfInBounds_toArray, List.set_cons_zero, List.set_cons_succ]
        refine wpAnyH_take (i := 4) (v := ?xv4) (by simp only [List.getElem?_toArray, List.getElem?_cons_succ, List.getElem?_cons_zero]; exact rfl) (by kernel_rfl) (by kernel_rfl) (by kernel_rfl) ?xq4 ?xy4 hH ?xr4
        case xq4 => exact fun _ _ _ h => h
        case xy4 =>
          refine Or.inl ⟨by rfl, fun v hv => ?_⟩
          go_simp
          rfl
        try simp only [Act.put, List.setIfInBounds_toArray, List.set_cons_zero, List.set_cons_succ]
        refine wpAnyH_take (i := 5) (v := ?xv5) (by simp only [List.getElem?_toArray, List.getElem?_cons_succ, List.getElem?_cons_zero]; exact rfl) (by kernel_rfl) (by kernel_rfl) (by kernel_rfl) ?xq5 ?xy5 hH ?xr5
        case xq5 => exact fun _ _ _ h => h
        case xy5 =>
          refine Or.inl ⟨by rfl, fun v hv => ?_⟩
          go_simp
          rfl
        try simp only [Act.put, List.setIfInBounds_toArray, List.set_cons_zero, List.set_cons_succ]
        refine wpAnyH_take (i := 6) (v := ?xv6) (by simp only [List.getElem?_toArray, List.getElem?_cons_succ, List.getElem?_cons_zero]; exact rfl) (by kernel_rfl) (by kernel_rfl) (by kernel_rfl) ?xq6 ?xy6 hH ?xr6
        case xq6 => exact fun _ _ _ h => h
        case xy6 =>
          refine Or.inl ⟨by rfl, fun v hv => ?_⟩
          go_simp
          rfl
        try simp only [Act.put, List.setIfInBounds_toArray, List.set_cons_zero, List.set_cons_succ]
        refine wpAnyH_take (i := 7) (v := ?xv7) (by simp only [List.getElem?_toArray, List.getElem?_cons_succ, List.getElem?_cons_zero]; exact rfl) (by kernel_rfl) (by kernel_rfl) (by kernel_rfl) ?xq7 ?xy7 hH ?xr7
        case xq7 => exact fun _ _ _ h => h
        case xy7 =>
          refine Or.inl ⟨by rfl, fun v hv => ?_⟩
          go_simp
          rfl
        try simp only [Act.put, List.setIfInBounds_toArray, List.set_cons_zero, List.set_cons_succ]
        refine wpAnyH_take (i := 8) (v := ?xv8) (by simp only [List.getElem?_toArray, List.getElem?_cons_succ, List.getElem?_cons_zero]; exact rfl) (by kernel_rfl) (by kernel_rfl) (by kernel_rfl) ?xq8 ?xy8 hH ?xr8
        case xq8 => exact fun _ _ _ h => h
        case xy8 =>
          refine Or.inl ⟨by rfl, fun v hv => ?_⟩
          obtain ⟨y0, y1⟩ := hv
          go_simp
          rfl
        try simp only [Act.put, List.setIfInBounds_toArray, List.set_cons_zero, List.set_cons_succ]
        refine wpAnyH_take (i := 9) (v := ?xv9) (by simp only [List.getElem?_toArray, List.getElem?_cons_succ, List.getElem?_cons_zero]; exact rfl) (by kernel_rfl) (by kernel_rfl) (by kernel_rfl) ?xq9 ?xy9 hH ?xr9
        case xq9 => exact fun _ _ _ h => h
        case xy9 =>
          refine Or.inl ⟨by rfl, fun v hv => ?_⟩
          go_simp
          rfl
        try simp only [Act.put, List.setIfInBounds_toArray, List.set_cons_zero, List.set_cons_succ]
        refine wpAnyH_take (i := 10) (v := ?xv10) (by simp only [List.getElem?_toArray, List.getElem?_cons_succ, List.getElem?_cons_zero]; exact rfl) (by kernel_rfl) (by kernel_rfl) (by kernel_rfl) ?xq10 ?xy10 hH ?xr10
        case xq10 => exact fun _ _ _ h => h
        case xy10 =>
          refine Or.inl ⟨by rfl, fun v hv => ?_⟩
          go_simp
          rfl
        try simp only [Act.put, List.setIfInBounds_toArray, List.set_cons_zero, List.set_cons_succ]
        refine wpAnyH_take (i := 12) (v := ?xv12) (by simp only [List.getElem?_toArray, List.getElem?_cons_succ, List.getElem?_cons_zero]; exact rfl) (by kernel_rfl) (by kernel_rfl) (by kernel_rfl) ?xq12 ?xy12 hH ?xr12
        case xq12 => exact fun _ _ _ h => h
        case xy12 =>
          refine Or.inl ⟨by rfl, fun v hv => ?_⟩
          go_simp
          rfl
        try simp only [Act.put, List.setIfInBounds_toArray, List.set_cons_zero, List.set_cons_succ]
        refine wpAnyH_ready (rs := [11]) (by kernel_rfl) (by simp) ?_
        refine AllReadyH.cons (by simp only [List.getElem?_toArray, List.getElem?_cons_succ, List.getElem?_cons_zero]; exact rfl) (fun K hK => ?_) AllReadyH.nil
        refine step_gives (v := .slice (some ⟨g1, 0, none⟩) 64 d1') (w' := v1) (by rfl) (gives_append (by rfl) (by rfl) (by rfl) HR1.out) ?_
        have hN := HS1.out
        refine hK.out _ _ hN (fun hH' => ?_)
        clear hK hH hN K
        have hH := hH'
        clear hH'
        try simp only [Act.put, List.setIfInBounds_toArray, List.set_cons_zero, List.set_cons_succ]
        refine wpAnyH_ready (rs := [13]) (by kernel_rfl) (by simp) ?_
        refine AllReadyH.cons (by simp only [List.getElem?_toArray, List.getElem?_cons_succ, List.getElem?_cons_zero]; exact rfl) (fun K hK => ?_) AllReadyH.nil
        refine step_gives (v := .slice (some ⟨g2, 0, none⟩) 64 d2') (w' := v2) (by rfl) (gives_append (by rfl) (by rfl) (by rfl) HR2.out) ?_
        have hN := HS2.out
        refine hK.out _ _ hN (fun hH' => ?_)
        clear hK hH hN K
        have hH := hH'
        clear hH'
        try simp only [Act.put, List.setIfInBounds_toArray, List.set_cons_zero, List.set_cons_succ]
        refine wpAnyH_take (i := 14) (v := ?xv14) (by simp only [List.getElem?_toArray, List.getElem?_cons_succ, List.getElem?_cons_zero]; exact rfl) (by kernel_rfl) (by kernel_rfl) (by kernel_rfl) ?xq14 ?xy14 hH ?xr14
        case xq14 => exact fun _ _ _ h => h
        case xy14 =>
          refine Or.inl ⟨by rfl, fun v hv => ?_⟩
          go_simp
          rfl
        try simp only [Act.put, List.setIfInBounds_toArray, List.set_cons_zero, List.set_cons_succ]
        refine wpAnyH_ready (rs := [15]) (by kernel_rfl) (by simp) ?_
        refine AllReadyH.cons (by simp only [List.getElem?_toArray, List.getElem?_cons_succ, List.getElem?_cons_zero]; exact rfl) (fun K hK => ?_) AllReadyH.nil
        have yf := HF2.out
        have yz := HZ2.out
        go_simp
        have hN := HS3.out
        clear yf yz
        refine hK.out _ _ hN (fun hH' => ?_)
        clear hK hH hN K
        have hH := hH'
        clear hH'
        try simp only [Act.put, List.setIfInBounds_toArray, List.set_cons_zero, List.set_cons_succ]
        refine wpAnyH_take (i := 16) (v := ?xv16) (by simp only [List.getElem?_toArray, List.getElem?_cons_succ, List.getElem?_cons_zero]; exact rfl) (by kernel_rfl) (by kernel_rfl) (by kernel_rfl) ?xq16 ?xy16 hH ?xr16
        case xq16 => exact fun _ _ _ h => h
        case xy16 =>
          refine Or.inl ⟨by rfl, fun v hv => ?_⟩
          go_simp
          rfl
        try simp only [Act.put, List.setIfInBounds_toArray, List.set_cons_zero, List.set_cons_succ]
        refine wpAnyH_ready (rs := [17]) (by kernel_rfl) (by simp) ?_
        refine AllReadyH.cons (by simp only [List.getElem?_toArray, List.getElem?_cons_succ, List.getElem?_cons_zero]; exact rfl) (fun K hK => ?_) AllReadyH.nil
        have yf := HF3.out
        have yz := HZ3.out
        go_simp
        have hN := HS4.out
        clear yf yz
        refine hK.out _ _ hN (fun hH' => ?_)
        clear hK hH hN K
        have hH := hH'
        clear hH'
        try simp only [Act.put, List.setIfInBounds_toArray, List.set_cons_zero, List.set_cons_succ]
        refine wpAnyH_done (by kernel_rfl) ?_ _
        rw [← HW4.out]
        go_wp2_with fail
        go_roundw
        case rel => exact ⟨i + 1, by omega, by go_num, by rw [HT1.out], _, _, HP4, HX4, HD4⟩
        case measure => simp [iOf]; omega
    · obtain rfl : i = last.length := by omega
      have e1 : sf = la := by
        refine List.ext_getElem (by rw [HP.out.1, HP.out.2.1]) fun q h1 h2 => ?_
        obtain ⟨a1, a2⟩ := HP.out.2.2 q (by rw [← HP.out.1]; exact h1)
        rw [← a2, List.getD_eq_getElem?_getD, List.getD_eq_getElem?_getD, List.getElem?_eq_getElem h1, List.getElem?_eq_getElem h2] at a1
        exact a1
      rw [e1] at HDr
      obtain ⟨d0, d1, d2, _, _, _⟩ := HOr.out.cells
      have HBe : Hid (Below w.heap.size w wr) := HB1.out.trans (HX.out.below (fun q hq e => by omega) hs1)
      go_wp2_with fail
      go_ret
      exact ⟨mc, la, rfl, HBe.out, HP.out.2.1, fun q hq => (HP.out.2.2 q hq).2, HDr.out.rdsk⟩
end
end Go.Proofs.Ytcmchnddnglnfaa
