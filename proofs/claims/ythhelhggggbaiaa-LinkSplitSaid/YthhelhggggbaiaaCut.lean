/-
  electionref04.Cut and the laws' cut.
-/
import Derived.Test.YthhelhggggbaiaaEqs
import Derived.Test.YthhelhggggbaiaaFrame
namespace Go.Proofs.Ythhelhggggbaiaa
open Go.RowKit
set_option linter.unusedVariables false
set_option linter.unusedSimpArgs false
attribute [local go_sem ↓] Go.wp_at_zero Go.wp_at_succ

def cutK (fs : List (List UInt8)) (k : Nat) : List (List UInt8) := (fs.take k).map (List.take 10)
theorem cutK_length (fs : List (List UInt8)) (k : Nat) (h : k ≤ fs.length) : (cutK fs k).length = k := by simp [cutK]; omega
theorem cutK_succ (fs : List (List UInt8)) (k : Nat) (h : k < fs.length) : cutK fs (k + 1) = cutK fs k ++ [(fs.getD k []).take 10] := by
  unfold cutK
  rw [List.take_add_one, List.map_append]
  simp [List.getD_eq_getElem?_getD, h]
theorem cutK_getD (fs : List (List UInt8)) (k m : Nat) (h : k < m) (hm : m ≤ fs.length) : (cutK fs m).getD k [] = (fs.getD k []).take 10 := by
  have h1 : k < fs.length := by omega
  simp [cutK, List.getD_eq_getElem?_getD, List.getElem?_take, h, h1]
theorem bysIn_take {F : Nat → Prop} {w : World} {A : Option Addr} {bs : List UInt8} (h : BysIn F w A bs) (n : Nat) : BysIn F w A (bs.take n) := fun hp => by
  rw [List.length_take] at hp
  obtain ⟨b, off, e, h1, h2⟩ := h (by omega)
  refine ⟨b, off, e, h1, fun k hk => ?_⟩
  rw [List.length_take] at hk
  rw [h2 k (by omega)]
  congr 2
  have h3 : k < n := by omega
  simp [List.getD_eq_getElem?_getD, List.getElem?_take, h3]
/-- the frames of a law -/
def cutFs (fs : List (List UInt8)) : List (List UInt8) := if fs.length = 0 then [[]] else cutK fs (min 8 fs.length)
theorem cutFs_bd (fs : List (List UInt8)) : 1 ≤ (cutFs fs).length ∧ (cutFs fs).length ≤ 8 ∧ ∀ k, k < (cutFs fs).length → ((cutFs fs).getD k []).length ≤ 10 := by
  unfold cutFs
  split
  · refine ⟨by simp, by simp, fun k hk => ?_⟩
    obtain rfl : k = 0 := by have : k < 1 := hk; omega
    simp
  · rw [cutK_length _ _ (by omega)]
    refine ⟨by omega, by omega, fun k hk => ?_⟩
    rw [cutK_getD _ _ _ hk (by omega), List.length_take]
    omega
def CutPost (w : World) (fs : List (List UInt8)) (e : Ending) (w' : World) : Prop :=
  ∃ A c, e = .returned (.slice A fs.length c) ∧ FrIn (fun i => i < w'.heap.size) w' A fs ∧ fs.length ≤ c ∧ Below w.heap.size w w'

theorem ownsRow_lt {w : World} {B : Nat} {e : TypeId} {z : Nat} {v : Value} {n : Nat} {xs : List Value} (h : w.ownsRow B e z v n xs) : ∀ i, v.ownBlock = some i → i < w.heap.size := fun i hi => by
  rcases h.2 with ⟨e, h0⟩ | ⟨g, cap, cur, e, _, hh, _⟩
  · rw [e] at hi; cases hi
  · rw [e] at hi
    have hi' : g = i := by injection hi
    subst hi'
    rcases Nat.lt_or_ge g w.heap.size with hlt | hge
    · exact hlt
    · rw [Array.getElem?_eq_none hge] at hh; cases hh
theorem cut_step {w wr v1 v2 : World} {v v' : Value} {fs : List (List UInt8)} {vals : List Value} {Ak : Option Addr} {ck k : Nat} {ys : List UInt8} (hG : GotsV (fun i => i < wr.heap.size) wr v fs vals) (hkl : fs.length = k) (hB : Below wr.heap.size wr v1) (hby : BysIn (fun i => i < w.heap.size) wr Ak ys) (hyc : ys.length ≤ ck)
    (hVB : ∀ g, v.ownBlock = some g → w.heap.size ≤ g) (ho : v2.ownsRow 0 32 1 v' (k + 1) (vals ++ [.slice Ak ys.length ck])) (hg : v1.grownBy v2 v.ownBlock) (hat : v'.ownBlock = v.ownBlock ∨ v'.ownBlock = some v1.heap.size) (hbl : Below w.heap.size w wr) :
    Gots (fun i => i < v2.heap.size) v2 v' (fs ++ [ys]) ∧ (∀ g, v'.ownBlock = some g → w.heap.size ≤ g) ∧ Below w.heap.size w v2 := by
  subst hkl
  have ha : Agree (fun i => i < wr.heap.size) wr v1 := Agree.of_below hB fun i hi => hi
  have hs1 := hB.size
  have hs0 := hbl.size
  have hG1 : GotsV (fun i => i < wr.heap.size) v1 v fs vals := ⟨ownsRow_heap hG.1 fun g e => ha g (hG.2.2.1 g e), hG.2.1, hG.2.2.1, fun k hk => by
    obtain ⟨Ak, ck, g1, g2, g3⟩ := hG.2.2.2 k hk
    exact ⟨Ak, ck, g1, g2.agree (ha.mono fun i hi => hi.1), g3⟩⟩
  have hb1 : BysIn (fun b => b < wr.heap.size ∧ v.ownBlock ≠ some b) v1 Ak ys := (hby.agree (ha.mono fun i (hi : i < w.heap.size) => by omega)).mono fun i hi => ⟨by omega, fun e => by have := hVB i e; omega⟩
  refine ⟨(hG1.push (n := v1.heap.size) (fun i hi => by omega) hb1 hyc ho hg rfl hat).mono fun i hi => ?_, fun g e => ?_, ?_⟩
  · rcases hi with hi | hi
    · have := hg.size; omega
    · exact ownsRow_lt ho i hi
  · rcases hat with h | h
    · exact hVB g (h ▸ e)
    · rw [h] at e; injection e with e; omega
  · exact (hbl.trans (hB.mono hs0)).grown hg (by omega) (fun j hj => hVB j hj)

set_option maxHeartbeats 3200000 in
theorem Cut_any (A : Option Addr) (c : Nat) (fs : List (List UInt8)) (w : World) (hf : Fr w A fs) (hm : fs.length ≤ maxLen) (hfm : ∀ k, k < fs.length → (fs.getD k []).length ≤ maxLen) (hc : fs.length ≤ c) :
    Calls Try.prog 31 #[.slice A fs.length c, .int .i64 8, .int .i64 10] w (CutPost w (cutK fs (min 8 fs.length))) := by
  obtain ⟨i0, hi, hz0, hz1, hz2⟩ := info_parts sliceinfo
  have HF := hide hf
  have HFM := hide hfm
  unfold maxLen at hm
  clear hf hfm
  go_enter Try.func31, Try.ntmps31
  go_wp2_with fail
  go_loopw [7, 8] (fun v i wr => ∃ k : Nat, k ≤ min 8 fs.length ∧ i = .int .i64 k ∧ Hid (Gots (fun i => i < wr.heap.size) wr v (cutK fs k)) ∧ Hid (∀ g, v.ownBlock = some g → w.heap.size ≤ g) ∧ Hid (Below w.heap.size w wr)) (fun _ i wr => 8 - (intOf i).toNat)
  case atStart => exact ⟨0, Nat.zero_le _, rfl, Gots.nil _ _, fun g e => (by cases e), Below.refl _ _⟩
  case round =>
    obtain ⟨k, hk, rfl, HGo, HVB, HBL⟩ := hrel
    obtain ⟨A', c', rfl, hc', _, hfr'⟩ := HGo.out.shape
    have HKL : Hid ((cutK fs k).length = k) := cutK_length fs k (by omega)
    rw [HKL.out] at hc' HGo HVB ⊢
    have hk8 : k ≤ 8 := by omega
    have hkf : k ≤ fs.length := by omega
    have HK := hide hk
    by_cases hlt : k < 8 ∧ k < fs.length
    · obtain ⟨hl8, hlt⟩ := hlt
      obtain ⟨b, off, Ak, ck, rfl, hb0, q0, hby0, hck⟩ := HF.out.at_ hlt
      have hfl := HFM.out k hlt
      obtain ⟨fk, hfk⟩ : ∃ fk, fk = fs.getD k [] := ⟨_, rfl⟩
      rw [← hfk] at q0 hby0 hck hfl
      have q : wr.cell? ⟨b, off + k, none⟩ = some (.slice Ak fk.length ck) := (HBL.out.cell (p := ⟨b, off + k, none⟩) hb0).trans q0
      have hb1 : b < wr.heap.size := Nat.lt_of_lt_of_le hb0 HBL.out.size
      obtain ⟨ys, hys⟩ : ∃ ys, ys = fk.take 10 := ⟨_, rfl⟩
      have HCS : Hid (cutK fs (k + 1) = cutK fs k ++ [ys]) := by rw [Hid, hys, hfk]; exact cutK_succ fs k hlt
      have HBY : Hid (BysIn (fun i => i < w.heap.size) wr Ak ys) := by
        rw [hys]
        exact bysIn_take ((BysIn.of_bys hby0).agree (Agree.of_below HBL.out fun i hi => hi)) 10
      have hyl : ys.length = min 10 fk.length := by rw [hys, List.length_take]
      have hyc : ys.length ≤ ck := by omega
      obtain ⟨vals, hG⟩ := HGo.out
      have HG := hide hG
      have hk63 : k + 1 ≤ maxLen := by unfold maxLen; omega
      have i0' : (0 : Int) ≤ (k : Int) := by omega
      have i1' : (k : Int) < (fs.length : Int) := by omega
      unfold maxLen at hfl
      clear hfk hys q0 hby0 hG
      by_cases hbig : 10 < fk.length
      · have hbig' : (10 : Int) < (fk.length : Int) := by omega
        have HLIT : Hid ((10 : Nat) = ys.length) := by rw [Hid]; omega
        have hc10 : (10 : Int) ≤ (ck : Int) := by omega
        clear hyl
        go_wp2_with fail
        refine wp_region_held_drew (S := fun v => v.cell? ⟨b, off + k, none⟩ = some (.slice Ak fk.length ck)) (by kernel_rfl) (q) (fun hH => ?_)
        obtain ⟨v0, hv0⟩ : ∃ v0, v0 = wr.drew := ⟨_, rfl⟩
        rw [← hv0] at hH ⊢
        have HB0 : Hid (Below wr.heap.size wr v0) := by rw [hv0]; exact (Below.refl _ _).drew
        clear hv0
        refine wpAnyH_take (i := 0) (v := ?xv0) (by simp only [List.getElem?_toArray, List.getElem?_cons_succ, List.getElem?_cons_zero]; exact rfl) (by kernel_rfl) (by kernel_rfl) (by kernel_rfl) ?xq0 ?xy0 hH ?xr0
        case xq0 => exact fun _ _ _ h => h
        case xy0 =>
          refine Or.inl ⟨by rfl, fun v hv => ?_⟩
          go_simp
          rfl
        try simp only [Act.put, List.setIfInBounds_toArray, List.set_cons_zero, List.set_cons_succ]
        refine wpAnyH_take (i := 1) (v := ?xv1) (by simp only [List.getElem?_toArray, List.getElem?_cons_succ, List.getElem?_cons_zero]; exact rfl) (by kernel_rfl) (by kernel_rfl) (by kernel_rfl) ?xq1 ?xy1 hH ?xr1
        case xq1 => exact fun _ _ _ h => h
        case xy1 =>
          refine Or.inl ⟨by rfl, fun v hv => ?_⟩
          go_simp
          rfl
        try simp only [Act.put, List.setIfInBounds_toArray, List.set_cons_zero, List.set_cons_succ]
        refine wpAnyH_take (i := 2) (v := ?xv2) (by simp only [List.getElem?_toArray, List.getElem?_cons_succ, List.getElem?_cons_zero]; exact rfl) (by kernel_rfl) (by kernel_rfl) (by kernel_rfl) ?xq2 ?xy2 hH ?xr2
        case xq2 => exact fun _ _ _ h => h
        case xy2 =>
          refine Or.inl ⟨by rfl, fun v hv => ?_⟩
          go_simp
          rfl
        try simp only [Act.put, List.setIfInBounds_toArray, List.set_cons_zero, List.set_cons_succ]
        refine wpAnyH_take (i := 3) (v := ?xv3) (by simp only [List.getElem?_toArray, List.getElem?_cons_succ, List.getElem?_cons_zero]; exact rfl) (by kernel_rfl) (by kernel_rfl) (by kernel_rfl) ?xq3 ?xy3 hH ?xr3
        case xq3 => exact fun _ _ _ h => h
        case xy3 =>
          refine Or.inl ⟨by rfl, fun v hv => ?_⟩
          go_simp
          rfl
        try simp only [Act.put, List.setIfInBounds_toArray, List.set_cons_zero, List.set_cons_succ]
        refine wpAnyH_take (i := 4) (v := ?xv4) (by simp only [List.getElem?_toArray, List.getElem?_cons_succ, List.getElem?_cons_zero]; exact rfl) (by kernel_rfl) (by kernel_rfl) (by kernel_rfl) ?xq4 ?xy4 hH ?xr4
        case xq4 => exact fun _ _ _ h => h
        case xy4 =>
          refine Or.inl ⟨by rfl, fun v hv => ?_⟩
          have y1 := hv
          go_simp
          rfl
        try simp only [Act.put, List.setIfInBounds_toArray, List.set_cons_zero, List.set_cons_succ]
        refine wpAnyH_take (i := 5) (v := ?xv5) (by simp only [List.getElem?_toArray, List.getElem?_cons_succ, List.getElem?_cons_zero]; exact rfl) (by kernel_rfl) (by kernel_rfl) (by kernel_rfl) ?xq5 ?xy5 hH ?xr5
        case xq5 => exact fun _ _ _ h => h
        case xy5 =>
          refine Or.inl ⟨by rfl, fun v hv => ?_⟩
          go_simp
          rfl
        try simp only [Act.put, List.setIfInBounds_toArray, List.set_cons_zero, List.set_cons_succ]
        refine wpAnyH_take (i := 6) (v := ?xv6) (by simp only [List.getElem?_toArray, List.getElem?_cons_succ, List.getElem?_cons_zero]; exact rfl) (by kernel_rfl) (by kernel_rfl) (by kernel_rfl) ?xq6 ?xy6 hH ?xr6
        case xq6 => exact fun _ _ _ h => h
        case xy6 =>
          refine Or.inl ⟨by rfl, fun v hv => ?_⟩
          go_simp
          rfl
        try simp only [Act.put, List.setIfInBounds_toArray, List.set_cons_zero, List.set_cons_succ]
        refine wpAnyH_take (i := 7) (v := ?xv7) (by simp only [List.getElem?_toArray, List.getElem?_cons_succ, List.getElem?_cons_zero]; exact rfl) (by kernel_rfl) (by kernel_rfl) (by kernel_rfl) ?xq7 ?xy7 hH ?xr7
        case xq7 => exact fun _ _ _ h => h
        case xy7 =>
          refine Or.inl ⟨by rfl, fun v hv => ?_⟩
          go_simp
          rfl
        try simp only [Act.put, List.setIfInBounds_toArray, List.set_cons_zero, List.set_cons_succ]
        refine wpAnyH_take (i := 8) (v := ?xv8) (by simp only [List.getElem?_toArray, List.getElem?_cons_succ, List.getElem?_cons_zero]; exact rfl) (by kernel_rfl) (by kernel_rfl) (by kernel_rfl) ?xq8 ?xy8 hH ?xr8
        case xq8 => exact fun _ _ _ h => h
        case xy8 =>
          refine Or.inl ⟨by rfl, fun v hv => ?_⟩
          have y1 := hv
          go_simp
          rfl
        try simp only [Act.put, List.setIfInBounds_toArray, List.set_cons_zero, List.set_cons_succ]
        refine wpAnyH_take (i := 9) (v := ?xv9) (by simp only [List.getElem?_toArray, List.getElem?_cons_succ, List.getElem?_cons_zero]; exact rfl) (by kernel_rfl) (by kernel_rfl) (by kernel_rfl) ?xq9 ?xy9 hH ?xr9
        case xq9 => exact fun _ _ _ h => h
        case xy9 =>
          refine Or.inl ⟨by rfl, fun v hv => ?_⟩
          go_simp
          rfl
        try simp only [Act.put, List.setIfInBounds_toArray, List.set_cons_zero, List.set_cons_succ]
        refine wpAnyH_take (i := 10) (v := ?xv10) (by simp only [List.getElem?_toArray, List.getElem?_cons_succ, List.getElem?_cons_zero]; exact rfl) (by kernel_rfl) (by kernel_rfl) (by kernel_rfl) ?xq10 ?xy10 hH ?xr10
        case xq10 => exact fun _ _ _ h => h
        case xy10 =>
          refine Or.inl ⟨by rfl, fun v hv => ?_⟩
          go_simp
          rfl
        try simp only [Act.put, List.setIfInBounds_toArray, List.set_cons_zero, List.set_cons_succ]
        refine wpAnyH_take (i := 11) (v := ?xv11) (by simp only [List.getElem?_toArray, List.getElem?_cons_succ, List.getElem?_cons_zero]; exact rfl) (by kernel_rfl) (by kernel_rfl) (by kernel_rfl) ?xq11 ?xy11 hH ?xr11
        case xq11 => exact fun _ _ _ h => h
        case xy11 =>
          refine Or.inl ⟨by rfl, fun v hv => ?_⟩
          go_simp
          rfl
        try simp only [Act.put, List.setIfInBounds_toArray, List.set_cons_zero, List.set_cons_succ]
        refine wpAnyH_take (i := 12) (v := ?xv12) (by simp only [List.getElem?_toArray, List.getElem?_cons_succ, List.getElem?_cons_zero]; exact rfl) (by kernel_rfl) (by kernel_rfl) (by kernel_rfl) ?xq12 ?xy12 hH ?xr12
        case xq12 => exact fun _ _ _ h => h
        case xy12 =>
          refine Or.inl ⟨by rfl, fun v hv => ?_⟩
          go_simp
          rfl
        try simp only [Act.put, List.setIfInBounds_toArray, List.set_cons_zero, List.set_cons_succ]
        refine wpAnyH_ready (rs := [13]) (by kernel_rfl) (by simp) ?_
        refine AllReadyH.cons (by simp only [List.getElem?_toArray, List.getElem?_cons_succ, List.getElem?_cons_zero]; exact rfl) (fun K hK => ?_) AllReadyH.nil
        go_simp
        obtain ⟨v1, hv1⟩ : ∃ x, x = v0.alloc (.cells #[.slice Ak 10 ck] 32) := ⟨_, rfl⟩
        rw [← hv1]
        rw [show (10 : Nat) = ys.length from HLIT.out] at hv1
        have hB1 : Below v0.heap.size v0 v1 := below_eq ((Below.refl _ _).alloc (Nat.le_refl _) _) hv1
        have HN1 : Hid (∀ j u, [Value.slice Ak ys.length ck][j]? = some u → v1.cell? ((⟨v0.heap.size, 0, none⟩ : Addr).add j) = some u) := by rw [hv1]; exact cell_one_new _ _ _
        have hN := (hB1.cell (p := ⟨b, off + k, none⟩) (Nat.lt_of_lt_of_le hb1 HB0.out.size)).trans hH
        have HB1 := hide (below_then HB0.out hB1)
        clear hv1 hB1
        refine hK.out _ _ hN (fun hH' => ?_)
        clear hK hH hN K
        have hH := hH'
        clear hH'
        try simp only [Act.put, List.setIfInBounds_toArray, List.set_cons_zero, List.set_cons_succ]
        refine wpAnyH_ready (rs := [14]) (by kernel_rfl) (by simp) ?_
        refine AllReadyH.cons (by simp only [List.getElem?_toArray, List.getElem?_cons_succ, List.getElem?_cons_zero]; exact rfl) (fun K hK => ?_) AllReadyH.nil
        have HO0 := ownsRow_heap (w' := v1) HG.out.1 (fun g e => HB1.out.block g (HG.out.2.2.1 g e))
        rw [HKL.out] at HO0
        have HO := hide HO0
        refine step_append_lies _ (by rfl) _ _ _ (by rfl) 0 32 i0 (.slice none 0 0) 1 24 Try.underlying22 hi hz0 hz1 hz2 rfl (by decide) (.slice A' k c') k vals (by rfl) HO.out ⟨v0.heap.size, 0, none⟩ 1 1 [.slice Ak ys.length ck] (by rfl) rfl HN1.out (by intro u hu; simp at hu; subst hu; rfl) (by decide) hk63 (by omega) (Nat.zero_le _) v1.heap.size rfl ?_
        intro g7 cap7 v2 hown hgrow hat hlt7
        have HST := hide (cut_step (v' := .slice (some ⟨g7, 0, none⟩) (k + 1) cap7) HG.out HKL.out HB1.out HBY.out hyc HVB.out hown hgrow (hat.imp (fun e => e.symm) (fun e => by rw [e]; rfl)) HBL.out)
        have hN := hgrow.cell hH (fun e => by have := HVB.out b e.symm; have : b < w.heap.size := hb0; omega)
        clear hown hgrow hat hlt7 HO0
        refine hK.out _ _ hN (fun hH' => ?_)
        clear hK hH hN K
        have hH := hH'
        clear hH'
        try simp only [Act.put, List.setIfInBounds_toArray, List.set_cons_zero, List.set_cons_succ]
        refine wpAnyH_take (i := 15) (v := ?xv15) (by simp only [List.getElem?_toArray, List.getElem?_cons_succ, List.getElem?_cons_zero]; exact rfl) (by kernel_rfl) (by kernel_rfl) (by kernel_rfl) ?xq15 ?xy15 hH ?xr15
        case xq15 => exact fun _ _ _ h => h
        case xy15 =>
          refine Or.inl ⟨by rfl, fun v hv => ?_⟩
          go_simp
          rfl
        try simp only [Act.put, List.setIfInBounds_toArray, List.set_cons_zero, List.set_cons_succ]
        refine wpAnyH_done (by kernel_rfl) ?_ _
        clear hH
        go_wp2_with fail
        go_roundw
        case rel => exact ⟨k + 1, by omega, by go_num, by rw [HCS.out]; exact HST.out.1, HST.out.2.1, HST.out.2.2⟩
        case measure => simp [intOf]; omega
      · have hyl' : fk.length = ys.length := by omega
        rw [hyl'] at hck q hbig hfl
        have hif : (if (10 : Int) < (ys.length : Int) then (10 : Int) else (ys.length : Int)) = (ys.length : Int) := if_neg (by omega)
        have hc10 : (ys.length : Int) ≤ (ck : Int) := by omega
        clear hyl
        go_wp2_with fail
        refine wp_region_held_drew (S := fun v => v.cell? ⟨b, off + k, none⟩ = some (.slice Ak ys.length ck)) (by kernel_rfl) (q) (fun hH => ?_)
        obtain ⟨v0, hv0⟩ : ∃ v0, v0 = wr.drew := ⟨_, rfl⟩
        rw [← hv0] at hH ⊢
        have HB0 : Hid (Below wr.heap.size wr v0) := by rw [hv0]; exact (Below.refl _ _).drew
        clear hv0
        refine wpAnyH_take (i := 0) (v := ?yv0) (by simp only [List.getElem?_toArray, List.getElem?_cons_succ, List.getElem?_cons_zero]; exact rfl) (by kernel_rfl) (by kernel_rfl) (by kernel_rfl) ?yq0 ?yy0 hH ?yr0
        case yq0 => exact fun _ _ _ h => h
        case yy0 =>
          refine Or.inl ⟨by rfl, fun v hv => ?_⟩
          go_simp
          rfl
        try simp only [Act.put, List.setIfInBounds_toArray, List.set_cons_zero, List.set_cons_succ]
        refine wpAnyH_take (i := 1) (v := ?yv1) (by simp only [List.getElem?_toArray, List.getElem?_cons_succ, List.getElem?_cons_zero]; exact rfl) (by kernel_rfl) (by kernel_rfl) (by kernel_rfl) ?yq1 ?yy1 hH ?yr1
        case yq1 => exact fun _ _ _ h => h
        case yy1 =>
          refine Or.inl ⟨by rfl, fun v hv => ?_⟩
          go_simp
          rfl
        try simp only [Act.put, List.setIfInBounds_toArray, List.set_cons_zero, List.set_cons_succ]
        refine wpAnyH_take (i := 2) (v := ?yv2) (by simp only [List.getElem?_toArray, List.getElem?_cons_succ, List.getElem?_cons_zero]; exact rfl) (by kernel_rfl) (by kernel_rfl) (by kernel_rfl) ?yq2 ?yy2 hH ?yr2
        case yq2 => exact fun _ _ _ h => h
        case yy2 =>
          refine Or.inl ⟨by rfl, fun v hv => ?_⟩
          go_simp
          rfl
        try simp only [Act.put, List.setIfInBounds_toArray, List.set_cons_zero, List.set_cons_succ]
        refine wpAnyH_take (i := 3) (v := ?yv3) (by simp only [List.getElem?_toArray, List.getElem?_cons_succ, List.getElem?_cons_zero]; exact rfl) (by kernel_rfl) (by kernel_rfl) (by kernel_rfl) ?yq3 ?yy3 hH ?yr3
        case yq3 => exact fun _ _ _ h => h
        case yy3 =>
          refine Or.inl ⟨by rfl, fun v hv => ?_⟩
          go_simp
          rfl
        try simp only [Act.put, List.setIfInBounds_toArray, List.set_cons_zero, List.set_cons_succ]
        refine wpAnyH_take (i := 4) (v := ?yv4) (by simp only [List.getElem?_toArray, List.getElem?_cons_succ, List.getElem?_cons_zero]; exact rfl) (by kernel_rfl) (by kernel_rfl) (by kernel_rfl) ?yq4 ?yy4 hH ?yr4
        case yq4 => exact fun _ _ _ h => h
        case yy4 =>
          refine Or.inl ⟨by rfl, fun v hv => ?_⟩
          have y1 := hv
          go_simp
          rfl
        try simp only [Act.put, List.setIfInBounds_toArray, List.set_cons_zero, List.set_cons_succ]
        refine wpAnyH_take (i := 5) (v := ?yv5) (by simp only [List.getElem?_toArray, List.getElem?_cons_succ, List.getElem?_cons_zero]; exact rfl) (by kernel_rfl) (by kernel_rfl) (by kernel_rfl) ?yq5 ?yy5 hH ?yr5
        case yq5 => exact fun _ _ _ h => h
        case yy5 =>
          refine Or.inl ⟨by rfl, fun v hv => ?_⟩
          go_simp
          rfl
        try simp only [Act.put, List.setIfInBounds_toArray, List.set_cons_zero, List.set_cons_succ]
        refine wpAnyH_take (i := 6) (v := ?yv6) (by simp only [List.getElem?_toArray, List.getElem?_cons_succ, List.getElem?_cons_zero]; exact rfl) (by kernel_rfl) (by kernel_rfl) (by kernel_rfl) ?yq6 ?yy6 hH ?yr6
        case yq6 => exact fun _ _ _ h => h
        case yy6 =>
          refine Or.inl ⟨by rfl, fun v hv => ?_⟩
          go_simp
          rfl
        try simp only [Act.put, List.setIfInBounds_toArray, List.set_cons_zero, List.set_cons_succ]
        refine wpAnyH_take (i := 7) (v := ?yv7) (by simp only [List.getElem?_toArray, List.getElem?_cons_succ, List.getElem?_cons_zero]; exact rfl) (by kernel_rfl) (by kernel_rfl) (by kernel_rfl) ?yq7 ?yy7 hH ?yr7
        case yq7 => exact fun _ _ _ h => h
        case yy7 =>
          refine Or.inl ⟨by rfl, fun v hv => ?_⟩
          go_simp
          rfl
        try simp only [Act.put, List.setIfInBounds_toArray, List.set_cons_zero, List.set_cons_succ]
        refine wpAnyH_take (i := 8) (v := ?yv8) (by simp only [List.getElem?_toArray, List.getElem?_cons_succ, List.getElem?_cons_zero]; exact rfl) (by kernel_rfl) (by kernel_rfl) (by kernel_rfl) ?yq8 ?yy8 hH ?yr8
        case yq8 => exact fun _ _ _ h => h
        case yy8 =>
          refine Or.inl ⟨by rfl, fun v hv => ?_⟩
          have y1 := hv
          go_simp
          rfl
        try simp only [Act.put, List.setIfInBounds_toArray, List.set_cons_zero, List.set_cons_succ]
        refine wpAnyH_take (i := 9) (v := ?yv9) (by simp only [List.getElem?_toArray, List.getElem?_cons_succ, List.getElem?_cons_zero]; exact rfl) (by kernel_rfl) (by kernel_rfl) (by kernel_rfl) ?yq9 ?yy9 hH ?yr9
        case yq9 => exact fun _ _ _ h => h
        case yy9 =>
          refine Or.inl ⟨by rfl, fun v hv => ?_⟩
          go_simp
          rfl
        try simp only [Act.put, List.setIfInBounds_toArray, List.set_cons_zero, List.set_cons_succ]
        refine wpAnyH_take (i := 10) (v := ?yv10) (by simp only [List.getElem?_toArray, List.getElem?_cons_succ, List.getElem?_cons_zero]; exact rfl) (by kernel_rfl) (by kernel_rfl) (by kernel_rfl) ?yq10 ?yy10 hH ?yr10
        case yq10 => exact fun _ _ _ h => h
        case yy10 =>
          refine Or.inl ⟨by rfl, fun v hv => ?_⟩
          go_simp
          rfl
        try simp only [Act.put, List.setIfInBounds_toArray, List.set_cons_zero, List.set_cons_succ]
        refine wpAnyH_take (i := 11) (v := ?yv11) (by simp only [List.getElem?_toArray, List.getElem?_cons_succ, List.getElem?_cons_zero]; exact rfl) (by kernel_rfl) (by kernel_rfl) (by kernel_rfl) ?yq11 ?yy11 hH ?yr11
        case yq11 => exact fun _ _ _ h => h
        case yy11 =>
          refine Or.inl ⟨by rfl, fun v hv => ?_⟩
          go_simp
          rfl
        try simp only [Act.put, List.setIfInBounds_toArray, List.set_cons_zero, List.set_cons_succ]
        refine wpAnyH_take (i := 12) (v := ?yv12) (by simp only [List.getElem?_toArray, List.getElem?_cons_succ, List.getElem?_cons_zero]; exact rfl) (by kernel_rfl) (by kernel_rfl) (by kernel_rfl) ?yq12 ?yy12 hH ?yr12
        case yq12 => exact fun _ _ _ h => h
        case yy12 =>
          refine Or.inl ⟨by rfl, fun v hv => ?_⟩
          go_simp
          rfl
        try simp only [Act.put, List.setIfInBounds_toArray, List.set_cons_zero, List.set_cons_succ]
        refine wpAnyH_ready (rs := [13]) (by kernel_rfl) (by simp) ?_
        refine AllReadyH.cons (by simp only [List.getElem?_toArray, List.getElem?_cons_succ, List.getElem?_cons_zero]; exact rfl) (fun K hK => ?_) AllReadyH.nil
        go_simp
        obtain ⟨v1, hv1⟩ : ∃ x, x = v0.alloc (.cells #[.slice Ak ys.length ck] 32) := ⟨_, rfl⟩
        rw [← hv1]
        have hB1 : Below v0.heap.size v0 v1 := below_eq ((Below.refl _ _).alloc (Nat.le_refl _) _) hv1
        have HN1 : Hid (∀ j u, [Value.slice Ak ys.length ck][j]? = some u → v1.cell? ((⟨v0.heap.size, 0, none⟩ : Addr).add j) = some u) := by rw [hv1]; exact cell_one_new _ _ _
        have hN := (hB1.cell (p := ⟨b, off + k, none⟩) (Nat.lt_of_lt_of_le hb1 HB0.out.size)).trans hH
        have HB1 := hide (below_then HB0.out hB1)
        clear hv1 hB1
        refine hK.out _ _ hN (fun hH' => ?_)
        clear hK hH hN K
        have hH := hH'
        clear hH'
        try simp only [Act.put, List.setIfInBounds_toArray, List.set_cons_zero, List.set_cons_succ]
        refine wpAnyH_ready (rs := [14]) (by kernel_rfl) (by simp) ?_
        refine AllReadyH.cons (by simp only [List.getElem?_toArray, List.getElem?_cons_succ, List.getElem?_cons_zero]; exact rfl) (fun K hK => ?_) AllReadyH.nil
        have HO0 := ownsRow_heap (w' := v1) HG.out.1 (fun g e => HB1.out.block g (HG.out.2.2.1 g e))
        rw [HKL.out] at HO0
        have HO := hide HO0
        refine step_append_lies _ (by rfl) _ _ _ (by rfl) 0 32 i0 (.slice none 0 0) 1 24 Try.underlying22 hi hz0 hz1 hz2 rfl (by decide) (.slice A' k c') k vals (by rfl) HO.out ⟨v0.heap.size, 0, none⟩ 1 1 [.slice Ak ys.length ck] (by rfl) rfl HN1.out (by intro u hu; simp at hu; subst hu; rfl) (by decide) hk63 (by omega) (Nat.zero_le _) v1.heap.size rfl ?_
        intro g7 cap7 v2 hown hgrow hat hlt7
        have HST := hide (cut_step (v' := .slice (some ⟨g7, 0, none⟩) (k + 1) cap7) HG.out HKL.out HB1.out HBY.out hyc HVB.out hown hgrow (hat.imp (fun e => e.symm) (fun e => by rw [e]; rfl)) HBL.out)
        have hN := hgrow.cell hH (fun e => by have := HVB.out b e.symm; have : b < w.heap.size := hb0; omega)
        clear hown hgrow hat hlt7 HO0
        refine hK.out _ _ hN (fun hH' => ?_)
        clear hK hH hN K
        have hH := hH'
        clear hH'
        try simp only [Act.put, List.setIfInBounds_toArray, List.set_cons_zero, List.set_cons_succ]
        refine wpAnyH_take (i := 15) (v := ?yv15) (by simp only [List.getElem?_toArray, List.getElem?_cons_succ, List.getElem?_cons_zero]; exact rfl) (by kernel_rfl) (by kernel_rfl) (by kernel_rfl) ?yq15 ?yy15 hH ?yr15
        case yq15 => exact fun _ _ _ h => h
        case yy15 =>
          refine Or.inl ⟨by rfl, fun v hv => ?_⟩
          go_simp
          rfl
        try simp only [Act.put, List.setIfInBounds_toArray, List.set_cons_zero, List.set_cons_succ]
        refine wpAnyH_done (by kernel_rfl) ?_ _
        clear hH
        go_wp2_with fail
        go_roundw
        case rel => exact ⟨k + 1, by omega, by go_num, by rw [HCS.out]; exact HST.out.1, HST.out.2.1, HST.out.2.2⟩
        case measure => simp [intOf]; omega
    · have HE : Hid (k = min 8 fs.length) := by rw [Hid]; omega
      have HFR := hide hfr'
      have hcc : k ≤ c' := hc'
      rcases (show ¬ k < fs.length ∨ (k < fs.length ∧ ¬ k < 8) by omega) with h1 | ⟨h1, h2⟩
      · have t1 : decide ((k : Int) < (fs.length : Int)) = false := decide_eq_false (by omega)
        go_wp2_with fail
        go_ret
        refine ⟨A', c', ?_, ?_, ?_, HBL.out⟩
        · rw [← HE.out, HKL.out]; rfl
        · rw [← HE.out]; exact HFR.out
        · rw [← HE.out, HKL.out]; exact hcc
      · have t2 : decide ((k : Int) < 8) = false := decide_eq_false (by omega)
        go_wp2_with fail
        go_ret
        refine ⟨A', c', ?_, ?_, ?_, HBL.out⟩
        · rw [← HE.out, HKL.out]; rfl
        · rw [← HE.out]; exact HFR.out
        · rw [← HE.out, HKL.out]; exact hcc

set_option maxHeartbeats 800000 in
theorem cut_any (A : Option Addr) (c : Nat) (fs : List (List UInt8)) (w : World) (hf : Fr w A fs) (hm : fs.length ≤ maxLen) (hfm : ∀ k, k < fs.length → (fs.getD k []).length ≤ maxLen) (hc : fs.length ≤ c) :
    Calls Try.prog 10 #[.slice A fs.length c] w (CutPost w (cutFs fs)) := by
  have HC := hide (Cut_any A c fs w hf hm hfm hc)
  have hkl := cutK_length fs (min 8 fs.length) (by omega)
  by_cases h0 : fs.length = 0
  · have HE : Hid (cutFs fs = [[]]) := by rw [Hid, cutFs, if_pos h0]
    have HL : Hid ((cutK fs (min 8 fs.length)).length = 0) := by rw [Hid, hkl]; omega
    clear hf hm hfm hc hkl h0
    go_enter Try.func10, Try.ntmps10
    go_wp2_with fail
    refine HC.out.mono ?_
    rintro e w1 ⟨A1, c1, rfl, hfr, hc1, hb1⟩
    rw [HL.out]
    have HB1 := hide hb1
    clear hfr hc1 hb1
    go_wp2_with fail
    go_ret
    rw [HE.out]
    refine ⟨some ⟨w1.heap.size, 0, none⟩, 1, rfl, fun _ => ⟨w1.heap.size, 0, rfl, by simp, fun k hk => ?_⟩, Nat.le_refl _, HB1.out.alloc HB1.out.size _⟩
    obtain rfl : k = 0 := by have : k < 1 := hk; omega
    exact ⟨none, 0, (Box.new w1 32 #[.slice none 0 0]).cell 0, BysIn.nil _ _ _, Nat.le_refl _⟩
  · have HE : Hid (cutFs fs = cutK fs (min 8 fs.length)) := by rw [Hid, cutFs, if_neg h0]
    obtain ⟨n, hn⟩ : ∃ n, n = (cutK fs (min 8 fs.length)).length := ⟨_, rfl⟩
    have HL : Hid ((cutK fs (min 8 fs.length)).length = n) := hn.symm
    have t0 : ((n : Int) == 0) = false := beq_eq_false_iff_ne.2 (by omega)
    clear hf hm hfm hc hkl h0 hn
    go_enter Try.func10, Try.ntmps10
    go_wp2_with fail
    refine HC.out.mono ?_
    rintro e w1 ⟨A1, c1, rfl, hfr, hc1, hb1⟩
    rw [HL.out] at hc1 ⊢
    have HB1 := hide hb1
    have HFr := hide hfr
    clear hfr hb1
    go_wp2_with fail
    go_ret
    rw [HE.out]
    refine ⟨A1, c1, ?_, HFr.out, ?_, HB1.out⟩
    · rw [HL.out]; rfl
    · rw [HL.out]; exact hc1
end Go.Proofs.Ythhelhggggbaiaa
