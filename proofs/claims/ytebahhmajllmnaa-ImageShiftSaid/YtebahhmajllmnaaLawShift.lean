/-
  Shift agrees with the reference, for all distances: the law ImageShift returns true for every input.
-/
import Derived.Test.YtebahhmajllmnaaTurn
import Derived.Deep.RegionHeld3
namespace Go.Proofs.Ytebahhmajllmnaa.lawShift
open Go.ChangeShapes Go.WideShapes Go.ChangeAt Go.RowKit Go.Proofs.Ytebahhmajllmnaa
set_option linter.unusedVariables false
set_option linter.unusedSimpArgs false

theorem refshift_all (W H : Nat) (A : Option Addr) (c : Nat) (f : Nat → Bool) (dx dy : Int) (w : World) (hb : Bys w A (pack (W * H) f)) (hW1 : 1 ≤ W) (hW : W ≤ 512) (hH1 : 1 ≤ H) (hH : H ≤ 512) :
    Calls Try.prog 28 #[.agg #[.int .i64 (W : Int), .int .i64 (H : Int), .slice A (pack (W * H) f).length c], .int .i64 dx, .int .i64 dy] w (Fresh w W H (pack (W * H) (flat W (shiftG W H f dx dy)))) := by
  by_cases h : dx ≤ -512 ∨ 512 ≤ dx ∨ dy ≤ -512 ∨ 512 ≤ dy
  · have h2 := refshift_far_any W H A c f dx dy w hb hW1 hW hH1 hH h
    rw [pack_congr (f := flat W fun _ _ => false) (g := flat W (shiftG W H f dx dy)) fun j hj => by rw [shift_far (by omega) hW hH h hj]; rfl] at h2
    exact h2
  · exact refshift_any W H A c f dx dy w hb hW1 hW hH1 hH (by omega) (by omega) (by omega) (by omega)

theorem walk_no (W H : Int) (A : Option Addr) (c : Nat) (bs : List UInt8) (dx dy : Int) (w : World) (hb : Bys w A bs) (hm : bs.length ≤ maxLen) (hs : smallB W H bs = false) :
    Calls Try.prog 8 #[.agg #[.int .i64 W, .int .i64 H, .slice A bs.length c], .int .i64 dx, .int .i64 dy] w fun e w' => e = .returned (.bool true) ∧ Below w.heap.size w w' := by
  have HS := hide hs
  have HB := hide hb
  clear hs hb
  go_enter Try.func8, Try.ntmps8
  go_wp2_with fail
  refine (small_any _ _ _ _ bs _ (HB.out.alloc _) hm).mono ?_
  rw [HS.out]
  rintro e w1 ⟨rfl, hb1⟩
  have B1 := hide (below_box hb1)
  clear hb1
  go_wp2_with fail
  refine (awake_any _).mono ?_
  rintro e w2 ⟨rfl, hb2⟩
  have B2 := hide hb2
  clear hb2
  go_wp2_with fail
  go_ret
  exact ⟨rfl, below_then B1.out B2.out⟩

set_option maxHeartbeats 1600000 in
theorem walk_yes (W H : Nat) (A : Option Addr) (c : Nat) (f : Nat → Bool) (dx dy : Int) (w : World) (hb : Bys w A (pack (W * H) f)) (hW1 : 1 ≤ W) (hW : W ≤ 24) (hH1 : 1 ≤ H) (hH : H ≤ 24) :
    Calls Try.prog 8 #[.agg #[.int .i64 (W : Int), .int .i64 (H : Int), .slice A (pack (W * H) f).length c], .int .i64 dx, .int .i64 dy] w fun e w' => e = .returned (.bool true) ∧ Below w.heap.size w w' := by
  have hm := len_pack_max f (show W ≤ 512 by omega) (show H ≤ 512 by omega)
  have HS : Hid (smallB W H (pack (W * H) f) = true) := by
    unfold Hid smallB
    rw [validB_pack f hW1 (by omega) hH1 (by omega), decide_eq_true (by omega), decide_eq_true (by omega)]
    rfl
  have HA := hide (fun w => awake_any w)
  have HSh : Hid (∀ v, Bys v A (pack (W * H) f) → Calls Try.prog 27 #[.agg #[.int .i64 (W : Int), .int .i64 (H : Int), .slice A (pack (W * H) f).length c], .int .i64 dx, .int .i64 dy] v (Fresh v W H (pack (W * H) (flat W (shiftG W H f dx dy))))) := fun v hb => shift_any W H A c f dx dy v hb hW1 (by omega) hH1 (by omega)
  have HRS : Hid (∀ v, Bys v A (pack (W * H) f) → Calls Try.prog 28 #[.agg #[.int .i64 (W : Int), .int .i64 (H : Int), .slice A (pack (W * H) f).length c], .int .i64 dx, .int .i64 dy] v (Fresh v W H (pack (W * H) (flat W (shiftG W H f dx dy))))) := fun v hb => refshift_all W H A c f dx dy v hb hW1 (by omega) hH1 (by omega)
  have hlj := len_pack_max (flat W (shiftG W H f dx dy)) (show W ≤ 512 by omega) (show H ≤ 512 by omega)
  have HB := hide (hb.alloc (.cells #[.int .i64 (W : Int), .int .i64 (H : Int), .slice A (pack (W * H) f).length c] 24))
  have S0 := hide (ImgSt.start (W := (W : Int)) (H := (H : Int)) (c := c) hb)
  clear hb
  generalize pack (W * H) (flat W (shiftG W H f dx dy)) = bj at *
  generalize pack (W * H) f = bs at *
  go_enter Try.func8, Try.ntmps8
  go_wp2_with fail
  refine (small_any _ _ _ _ bs _ HB.out hm).mono ?_
  rw [HS.out]
  rintro e w1 ⟨rfl, hb1⟩
  have S1 := hide (S0.out.next hb1)
  obtain ⟨q0, q1, q2⟩ := S1.out.cells
  clear hb1 S0
  go_wp2_with fail
  refine wp_region_held_drew (S := fun v => ImgSt w w.heap.size W H A c bs v) (by kernel_rfl) (S1.out.drew) (fun hH => ?_)
  refine wpAnyH_ready (rs := [0]) (by kernel_rfl) (by simp) ?_
  refine AllReadyH.cons (by simp only [List.getElem?_toArray, List.getElem?_cons_succ, List.getElem?_cons_zero]; exact rfl) (fun K hK => ?_) AllReadyH.nil
  go_simp
  refine (HA.out _).mono ?_
  rintro e w5 ⟨rfl, hb1⟩
  have hN := hH.next hb1
  clear hb1
  refine hK.out _ _ hN (fun hH' => ?_)
  clear hK hH hN K
  have hH := hH'
  clear hH'
  try simp only [Act.put, List.setIfInBounds_toArray, List.set_cons_zero, List.set_cons_succ]
  refine wpAnyH_take (i := 1) (v := ?av1) (by simp only [List.getElem?_toArray, List.getElem?_cons_succ, List.getElem?_cons_zero]; exact rfl) (by kernel_rfl) (by kernel_rfl) (by kernel_rfl) ?aq1 ?ay1 hH ?ar1
  case aq1 => exact fun _ _ _ h => h
  case ay1 =>
    refine Or.inl ⟨by rfl, fun v hv => ?_⟩
    go_simp
    rfl
  try simp only [Act.put, List.setIfInBounds_toArray, List.set_cons_zero, List.set_cons_succ]
  refine wpAnyH_take (i := 2) (v := ?av2) (by simp only [List.getElem?_toArray, List.getElem?_cons_succ, List.getElem?_cons_zero]; exact rfl) (by kernel_rfl) (by kernel_rfl) (by kernel_rfl) ?aq2 ?ay2 hH ?ar2
  case aq2 => exact fun _ _ _ h => h
  case ay2 =>
    refine Or.inl ⟨by rfl, fun v hv => ?_⟩
    obtain ⟨q0, q1, q2⟩ := ImgSt.cells hv
    go_simp
    rfl
  try simp only [Act.put, List.setIfInBounds_toArray, List.set_cons_zero, List.set_cons_succ]
  refine wpAnyH_take (i := 3) (v := ?av3) (by simp only [List.getElem?_toArray, List.getElem?_cons_succ, List.getElem?_cons_zero]; exact rfl) (by kernel_rfl) (by kernel_rfl) (by kernel_rfl) ?aq3 ?ay3 hH ?ar3
  case aq3 => exact fun _ _ _ h => h
  case ay3 =>
    refine Or.inl ⟨by rfl, fun v hv => ?_⟩
    go_simp
    rfl
  try simp only [Act.put, List.setIfInBounds_toArray, List.set_cons_zero, List.set_cons_succ]
  refine wpAnyH_take (i := 4) (v := ?av4) (by simp only [List.getElem?_toArray, List.getElem?_cons_succ, List.getElem?_cons_zero]; exact rfl) (by kernel_rfl) (by kernel_rfl) (by kernel_rfl) ?aq4 ?ay4 hH ?ar4
  case aq4 => exact fun _ _ _ h => h
  case ay4 =>
    refine Or.inl ⟨by rfl, fun v hv => ?_⟩
    go_simp
    rfl
  try simp only [Act.put, List.setIfInBounds_toArray, List.set_cons_zero, List.set_cons_succ]
  refine wpAnyH_take (i := 6) (v := ?av6) (by simp only [List.getElem?_toArray, List.getElem?_cons_succ, List.getElem?_cons_zero]; exact rfl) (by kernel_rfl) (by kernel_rfl) (by kernel_rfl) ?aq6 ?ay6 hH ?ar6
  case aq6 => exact fun _ _ _ h => h
  case ay6 =>
    refine Or.inl ⟨by rfl, fun v hv => ?_⟩
    obtain ⟨q0, q1, q2⟩ := ImgSt.cells hv
    go_simp
    rfl
  try simp only [Act.put, List.setIfInBounds_toArray, List.set_cons_zero, List.set_cons_succ]
  refine wpAnyH_take (i := 7) (v := ?av7) (by simp only [List.getElem?_toArray, List.getElem?_cons_succ, List.getElem?_cons_zero]; exact rfl) (by kernel_rfl) (by kernel_rfl) (by kernel_rfl) ?aq7 ?ay7 hH ?ar7
  case aq7 => exact fun _ _ _ h => h
  case ay7 =>
    refine Or.inl ⟨by rfl, fun v hv => ?_⟩
    go_simp
    rfl
  try simp only [Act.put, List.setIfInBounds_toArray, List.set_cons_zero, List.set_cons_succ]
  refine wpAnyH_take (i := 8) (v := ?av8) (by simp only [List.getElem?_toArray, List.getElem?_cons_succ, List.getElem?_cons_zero]; exact rfl) (by kernel_rfl) (by kernel_rfl) (by kernel_rfl) ?aq8 ?ay8 hH ?ar8
  case aq8 => exact fun _ _ _ h => h
  case ay8 =>
    refine Or.inl ⟨by rfl, fun v hv => ?_⟩
    go_simp
    rfl
  try simp only [Act.put, List.setIfInBounds_toArray, List.set_cons_zero, List.set_cons_succ]
  refine wpAnyH_ready (rs := [5]) (by kernel_rfl) (by simp) ?_
  refine AllReadyH.cons (by simp only [List.getElem?_toArray, List.getElem?_cons_succ, List.getElem?_cons_zero]; exact rfl) (fun K hK => ?_) AllReadyH.nil
  go_simp
  refine (HSh.out _ hH.2.1).mono ?_
  rintro e w5 ⟨g3, gc3, hg3, rfl, hr3, hb1⟩
  have R3 := hide hr3
  clear hr3
  have hN := hH.next hb1
  clear hb1
  refine hK.out _ _ hN (fun hH' => ?_)
  clear hK hH hN K
  have hH := hH'
  clear hH'
  try simp only [Act.put, List.setIfInBounds_toArray, List.set_cons_zero, List.set_cons_succ]
  refine wpAnyH_ready (rs := [9]) (by kernel_rfl) (by simp) ?_
  refine AllReadyH.cons (by simp only [List.getElem?_toArray, List.getElem?_cons_succ, List.getElem?_cons_zero]; exact rfl) (fun K hK => ?_) AllReadyH.nil
  go_simp
  refine (HRS.out _ hH.2.1).mono ?_
  rintro e w5 ⟨g4, gc4, hg4, rfl, hr4, hb1⟩
  have R4 := hide hr4
  have R3' := hide (R3.out.kept hb1)
  clear hr4
  have hN := hH.next hb1
  clear hb1
  refine hK.out _ _ hN (fun hH' => ?_)
  clear hK hH hN K
  have hH := hH'
  clear hH'
  try simp only [Act.put, List.setIfInBounds_toArray, List.set_cons_zero, List.set_cons_succ]
  refine wpAnyH_ready (rs := [10]) (by kernel_rfl) (by simp) ?_
  refine AllReadyH.cons (by simp only [List.getElem?_toArray, List.getElem?_cons_succ, List.getElem?_cons_zero]; exact rfl) (fun K hK => ?_) AllReadyH.nil
  go_simp
  refine (refeq_any W H W H _ _ _ _ bj bj _ R3'.out.bys R4.out.bys hlj hlj).mono ?_
  rw [eqB_self]
  rintro e w5 ⟨rfl, hb1⟩
  have hN := hH.next hb1
  clear hb1
  refine hK.out _ _ hN (fun hH' => ?_)
  clear hK hH hN K
  have hH := hH'
  clear hH'
  try simp only [Act.put, List.setIfInBounds_toArray, List.set_cons_zero, List.set_cons_succ]
  refine wpAnyH_take (i := 11) (v := ?av11) (by simp only [List.getElem?_toArray, List.getElem?_cons_succ, List.getElem?_cons_zero]; exact rfl) (by kernel_rfl) (by kernel_rfl) (by kernel_rfl) ?aq11 ?ay11 hH ?ar11
  case aq11 => exact fun _ _ _ h => h
  case ay11 =>
    refine Or.inl ⟨by rfl, fun v hv => ?_⟩
    go_simp
    rfl
  try simp only [Act.put, List.setIfInBounds_toArray, List.set_cons_zero, List.set_cons_succ]
  refine wpAnyH_take (i := 12) (v := ?av12) (by simp only [List.getElem?_toArray, List.getElem?_cons_succ, List.getElem?_cons_zero]; exact rfl) (by kernel_rfl) (by kernel_rfl) (by kernel_rfl) ?aq12 ?ay12 hH ?ar12
  case aq12 => exact fun _ _ _ h => h
  case ay12 =>
    refine Or.inl ⟨by rfl, fun v hv => ?_⟩
    go_simp
    rfl
  try simp only [Act.put, List.setIfInBounds_toArray, List.set_cons_zero, List.set_cons_succ]
  refine wpAnyH_done (by kernel_rfl) ?_ _
  go_wp2_with fail
  go_ret
  exact ⟨rfl, hH.2.2⟩

theorem walk (W H : Int) (A : Option Addr) (c : Nat) (bs : List UInt8) (dx dy : Int) (w : World) (hb : Bys w A bs) (hm : bs.length ≤ maxLen) :
    Calls Try.prog 8 #[.agg #[.int .i64 W, .int .i64 H, .slice A bs.length c], .int .i64 dx, .int .i64 dy] w fun e w' => e = .returned (.bool true) ∧ Below w.heap.size w w' := by
  by_cases hs : smallB W H bs = true
  · obtain ⟨W', H', f, rfl, rfl, rfl, h1, h2, h3, h4⟩ := small_form hs
    exact walk_yes W' H' A c f dx dy w hb h1 h2 h3 h4
  · exact walk_no W H A c bs dx dy w hb hm (Bool.eq_false_iff.2 hs)

set_option maxRecDepth 100000 in
theorem lifted (os : Os) (started : os.Started) (H : Type) (enc : TypeId × Value → H) :
    ReturnsInHanded {} Try.checked os 8 .any (Rows.imageShiftSpec.pre6 enc Try.prog Try.f8 Rows.imageShiftRow.domain false) (Rows.imageShiftSpec.post enc Try.prog Try.f8 false true false false) := by
  refine returnsInHanded_of_change (C := Try.checked) own started (by kernel_rfl) Try.func8
    (ChangeSpec.witness6 (enc := enc) (C := Try.checked) false ⟨#[], #[.agg #[.int .i64 0, .int .i64 0, .slice none 0 0], .int .i64 0, .int .i64 0], []⟩ 8 (by kernel_rfl) (by kernel_rfl) (by kernel_rfl) (by kernel_rfl)) ?_
  intro W base args ds gs before hval0 hW hcnd _
  have hval : ∀ (j : Nat) t v, Try.f8.params[j]? = some t → args[j]? = some v → Value.okWide Try.prog W .any base t v := hval0
  have hW' := hW
  obtain ⟨p, q, hA0, hV, rfl, hfz, hnd⟩ := hW
  have hA : DataW.TrodAll enc Try.prog W 0 (fun _ => true) true Try.f8.params.toList args.toList ds p := hA0
  rw [Try.params8] at hA hval
  obtain ⟨v0, vs0, d0, ds0, p0, q0, hargs, rfl, rfl, h0, r0⟩ := trodAll_cons hA
  obtain ⟨v1, vs1, d1, ds1, p1, q1, rfl, rfl, rfl, h1, r1⟩ := trodAll_cons r0
  obtain ⟨v2, vs2, d2, ds2, p2, q2, rfl, rfl, rfl, h2, r2⟩ := trodAll_cons r1
  obtain ⟨rfl, rfl, rfl⟩ := trodAll_nil r2
  obtain rfl : args = #[v0, v1, v2] := by cases args; simp_all
  obtain ⟨W0, H0, A0, c0, bs0, rfl, hb0, hm0⟩ := open_image (hval 0 24 v0 rfl rfl) h0
  obtain ⟨a1, rfl, _, _, w1⟩ := open_int Try.underlying3 (hval 1 3 v1 rfl rfl) h1
  obtain ⟨a2, rfl, _, _, w2⟩ := open_int Try.underlying3 (hval 2 3 v2 rfl rfl) h2
  refine (walk W0 H0 A0 c0 bs0 a1 a2 W hb0 hm0).mono fun e W' ⟨he, hb⟩ => ?_
  subst he
  exact ⟨_, rfl, post_law hW' rfl hb (by rw [Try.params8]; exact params_ok (by kernel_rfl)) rfl rfl⟩

theorem over : Rows.imageShiftRow.holds Try.pinned (OpenSpec.ofChange Rows.imageShiftSpec) :=
  OpenClaim.holds_of_wide 8 Try.f8 rfl rfl rfl rfl rfl rfl rfl ⟨rfl, rfl, rfl, rfl, rfl⟩ rfl rfl rfl rfl rfl (by kernel_rfl) Try.func8 (by kernel_rfl)
    (of_decide_eq_true (by kernel_rfl)) (by unfold Func.isWrapper; first | (rw [if_pos (by decide +kernel)]; kernel_rfl) | (rw [if_neg (by decide +kernel)]; exact ⟨rfl, rfl⟩))
    (fun os started H enc _ => lifted os started H enc)

theorem proved : Rows.ImageShiftSaid := over
end Go.Proofs.Ytebahhmajllmnaa.lawShift
