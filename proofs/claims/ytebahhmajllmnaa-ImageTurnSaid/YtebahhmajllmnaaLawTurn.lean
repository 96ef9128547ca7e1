/-
  Turn agrees with the reference, turning twice restores the image, and turning a shifted image shifts the turned one back: the law ImageTurn returns true for every input.
-/
import Derived.Test.YtebahhmajllmnaaTurn
import Derived.Deep.RegionHeld3
namespace Go.Proofs.Ytebahhmajllmnaa.lawTurn
open Go.ChangeShapes Go.WideShapes Go.ChangeAt Go.RowKit Go.Proofs.Ytebahhmajllmnaa
set_option linter.unusedVariables false
set_option linter.unusedSimpArgs false

theorem walk_no (W H : Int) (A : Option Addr) (c : Nat) (bs : List UInt8) (dx dy : Int) (w : World) (hb : Bys w A bs) (hm : bs.length ≤ maxLen) (hs : smallB W H bs = false) :
    Calls Try.prog 9 #[.agg #[.int .i64 W, .int .i64 H, .slice A bs.length c], .int .i64 dx, .int .i64 dy] w fun e w' => e = .returned (.bool true) ∧ Below w.heap.size w w' := by
  have HS := hide hs
  have HB := hide hb
  clear hs hb
  go_enter Try.func9, Try.ntmps9
  go_wp2_with fail
  refine (small_any _ _ _ _ bs _ (HB.out.alloc _) hm).mono ?_
  rw [HS.out]
  rintro e w1 ⟨rfl, hb1⟩
  have B1 := hide (below_box hb1)
  clear hb1
  go_wp2_with fail
  refine (awake_any _).mono ?_
  rintro e w2 ⟨rfl, hb2⟩
  have B2 := hide hb2
  clear hb2
  go_wp2_with fail
  go_ret
  exact ⟨rfl, below_then B1.out B2.out⟩

/-- the image, its turned copy, and that nothing old has turned -/
def Ts (w : World) (W H : Nat) (A : Option Addr) (c : Nat) (bs bt : List UInt8) (O7 tg tc : Nat) (v : World) : Prop :=
  ImgSt w w.heap.size W H A c bs v ∧ Row v tg bt ∧ Box v O7 24 #[.int .i64 (W : Int), .int .i64 (H : Int), .slice (some ⟨tg, 0, none⟩) bt.length tc]
section
variable {w v v' : World} {W H : Nat} {A : Option Addr} {c : Nat} {bs bt : List UInt8} {O7 tg tc : Nat}
theorem Ts.next (h : Ts w W H A c bs bt O7 tg tc v) (hb : Below v.heap.size v v') : Ts w W H A c bs bt O7 tg tc v' := ⟨h.1.next hb, h.2.1.kept hb, h.2.2.kept hb⟩
theorem Ts.cells (h : Ts w W H A c bs bt O7 tg tc v) : v.cell? ⟨w.heap.size, 0, none⟩ = some (.int .i64 (W : Int)) ∧ v.cell? ⟨w.heap.size, 1, none⟩ = some (.int .i64 (H : Int)) ∧ v.cell? ⟨w.heap.size, 2, none⟩ = some (.slice A bs.length c) ∧
    v.cell? ⟨O7, 0, none⟩ = some (.int .i64 (W : Int)) ∧ v.cell? ⟨O7, 1, none⟩ = some (.int .i64 (H : Int)) ∧ v.cell? ⟨O7, 2, none⟩ = some (.slice (some ⟨tg, 0, none⟩) bt.length tc) :=
  ⟨h.1.1.cell 0, h.1.1.cell 1, h.1.1.cell 2, h.2.2.cell 0, h.2.2.cell 1, h.2.2.cell 2⟩
end
theorem mod_bd (x : Int) : -29 ≤ x.tmod 30 ∧ x.tmod 30 ≤ 29 := by
  have h1 := Int.tmod_lt_of_pos x (show (0 : Int) < 30 by omega)
  have h2 := Int.lt_tmod_of_pos x (show (0 : Int) < 30 by omega)
  omega

set_option maxHeartbeats 3200000 in
theorem walk_yes (W H : Nat) (A : Option Addr) (c : Nat) (f : Nat → Bool) (dx dy : Int) (w : World) (hb : Bys w A (pack (W * H) f)) (hW1 : 1 ≤ W) (hW : W ≤ 24) (hH1 : 1 ≤ H) (hH : H ≤ 24) :
    Calls Try.prog 9 #[.agg #[.int .i64 (W : Int), .int .i64 (H : Int), .slice A (pack (W * H) f).length c], .int .i64 dx, .int .i64 dy] w fun e w' => e = .returned (.bool true) ∧ Below w.heap.size w w' := by
  have hm := len_pack_max f (show W ≤ 512 by omega) (show H ≤ 512 by omega)
  have HS : Hid (smallB W H (pack (W * H) f) = true) := by
    unfold Hid smallB
    rw [validB_pack f hW1 (by omega) hH1 (by omega), decide_eq_true (by omega), decide_eq_true (by omega)]
    rfl
  have HA := hide (fun w => awake_any w)
  obtain ⟨m1, m2⟩ := mod_bd dx
  obtain ⟨m3, m4⟩ := mod_bd dy
  have hWl : W ≤ 512 := by omega
  have hHl : H ≤ 512 := by omega
  have HT : Hid (∀ v, Bys v A (pack (W * H) f) → Calls Try.prog 29 #[.agg #[.int .i64 (W : Int), .int .i64 (H : Int), .slice A (pack (W * H) f).length c]] v (Fresh v W H (pack (W * H) (rev (W * H) f)))) := fun v hb => turn_any W H A c f v hb hW1 hWl hH1 hHl
  have HRT : Hid (∀ v, Bys v A (pack (W * H) f) → Calls Try.prog 30 #[.agg #[.int .i64 (W : Int), .int .i64 (H : Int), .slice A (pack (W * H) f).length c]] v (Fresh v W H (pack (W * H) (rev (W * H) f)))) := fun v hb => by
    have h := refturn_any W H A c f v hb hW1 hWl hH1 hHl
    rw [pack_congr fun j hj => turn_flat (by omega) hj] at h
    exact h
  have HTT : Hid (∀ B d v, Bys v B (pack (W * H) (rev (W * H) f)) → Calls Try.prog 29 #[.agg #[.int .i64 (W : Int), .int .i64 (H : Int), .slice B (pack (W * H) (rev (W * H) f)).length d]] v (Fresh v W H (pack (W * H) f))) := fun B d v hb => by
    have h := turn_any W H B d (rev (W * H) f) v hb hW1 hWl hH1 hHl
    rw [pack_congr fun j hj => rev_rev hj] at h
    exact h
  have HSh : Hid (∀ v, Bys v A (pack (W * H) f) → Calls Try.prog 27 #[.agg #[.int .i64 (W : Int), .int .i64 (H : Int), .slice A (pack (W * H) f).length c], .int .i64 (dx.tmod 30), .int .i64 (dy.tmod 30)] v (Fresh v W H (pack (W * H) (flat W (shiftG W H f (dx.tmod 30) (dy.tmod 30)))))) := fun v hb => shift_any W H A c f _ _ v hb hW1 hWl hH1 hHl
  have HTS : Hid (∀ B d v, Bys v B (pack (W * H) (flat W (shiftG W H f (dx.tmod 30) (dy.tmod 30)))) → Calls Try.prog 29 #[.agg #[.int .i64 (W : Int), .int .i64 (H : Int), .slice B (pack (W * H) (flat W (shiftG W H f (dx.tmod 30) (dy.tmod 30)))).length d]] v (Fresh v W H (pack (W * H) (flat W (shiftG W H (rev (W * H) f) (-(dx.tmod 30)) (-(dy.tmod 30))))))) := fun B d v hb => by
    have h := turn_any W H B d _ v hb hW1 hWl hH1 hHl
    rw [pack_congr fun j hj => turn_shift (by omega) hj] at h
    exact h
  have HST : Hid (∀ B d v, Bys v B (pack (W * H) (rev (W * H) f)) → Calls Try.prog 27 #[.agg #[.int .i64 (W : Int), .int .i64 (H : Int), .slice B (pack (W * H) (rev (W * H) f)).length d], .int .i64 (-(dx.tmod 30)), .int .i64 (-(dy.tmod 30))] v (Fresh v W H (pack (W * H) (flat W (shiftG W H (rev (W * H) f) (-(dx.tmod 30)) (-(dy.tmod 30))))))) := fun B d v hb => shift_any W H B d _ _ _ v hb hW1 hWl hH1 hHl
  have hlt := len_pack_max (rev (W * H) f) hWl hHl
  have hld := len_pack_max (flat W (shiftG W H (rev (W * H) f) (-(dx.tmod 30)) (-(dy.tmod 30)))) hWl hHl
  have HB := hide (hb.alloc (.cells #[.int .i64 (W : Int), .int .i64 (H : Int), .slice A (pack (W * H) f).length c] 24))
  have S0 := hide (ImgSt.start (W := (W : Int)) (H := (H : Int)) (c := c) hb)
  have e1 : IntKind.i64.wrap (-(dx.tmod 30)) = -(dx.tmod 30) := IntWalk.i64_in _ (by omega)
  have e2 : IntKind.i64.wrap (-(dy.tmod 30)) = -(dy.tmod 30) := IntWalk.i64_in _ (by omega)
  clear hb
  generalize pack (W * H) (flat W (shiftG W H (rev (W * H) f) (-(dx.tmod 30)) (-(dy.tmod 30)))) = bd at *
  generalize pack (W * H) (flat W (shiftG W H f (dx.tmod 30) (dy.tmod 30))) = bh at *
  generalize pack (W * H) (rev (W * H) f) = bt at *
  generalize pack (W * H) f = bs at *
  go_enter Try.func9, Try.ntmps9
  go_wp2_with fail
  refine (small_any _ _ _ _ bs _ HB.out hm).mono ?_
  rw [HS.out]
  rintro e w1 ⟨rfl, hb1⟩
  have S1 := hide (S0.out.next hb1)
  obtain ⟨q0, q1, q2⟩ := S1.out.cells
  clear hb1 S0
  go_wp2_with fail
  refine (HT.out _ S1.out.2.1).mono ?_
  rintro e w2 ⟨tg, tc, htg, rfl, htr, hb2⟩
  have S2 : Hid (Ts w W H A c bs bt w2.heap.size tg tc (w2.alloc (.cells #[.int .i64 (W : Int), .int .i64 (H : Int), .slice (some ⟨tg, 0, none⟩) bt.length tc] 24))) :=
    ⟨(S1.out.next hb2).alloc _, htr.alloc _, Box.new _ _ _⟩
  have S3 := hide (S2.out.next ((Below.refl _ _).drew))
  clear hb2 htr S1 q0 q1 q2 HT S2
  go_wp2_with fail
  refine wp_region_held_drew (S := fun v => Ts w W H A c bs bt w2.heap.size tg tc v) (by kernel_rfl) (S3.out) (fun hH => ?_)
  refine wpAnyH_ready (rs := [0]) (by kernel_rfl) (by simp) ?_
  refine AllReadyH.cons (by simp only [List.getElem?_toArray, List.getElem?_cons_succ, List.getElem?_cons_zero]; exact rfl) (fun K hK => ?_) AllReadyH.nil
  go_simp
  refine (HA.out _).mono ?_
  rintro e w5 ⟨rfl, hb1⟩
  have hN := hH.next hb1
  clear hb1
  refine hK.out _ _ hN (fun hH' => ?_)
  clear hK hH hN K
  have hH := hH'
  clear hH'
  try simp only [Act.put, List.setIfInBounds_toArray, List.set_cons_zero, List.set_cons_succ]
  refine wpAnyH_take (i := 1) (v := ?av1) (by simp only [List.getElem?_toArray, List.getElem?_cons_succ, List.getElem?_cons_zero]; exact rfl) (by kernel_rfl) (by kernel_rfl) (by kernel_rfl) ?aq1 ?ay1 hH ?ar1
  case aq1 => exact fun _ _ _ h => h
  case ay1 =>
    refine Or.inl ⟨by rfl, fun v hv => ?_⟩
    go_simp
    rfl
  try simp only [Act.put, List.setIfInBounds_toArray, List.set_cons_zero, List.set_cons_succ]
  refine wpAnyH_take (i := 2) (v := ?av2) (by simp only [List.getElem?_toArray, List.getElem?_cons_succ, List.getElem?_cons_zero]; exact rfl) (by kernel_rfl) (by kernel_rfl) (by kernel_rfl) ?aq2 ?ay2 hH ?ar2
  case aq2 => exact fun _ _ _ h => h
  case ay2 =>
    refine Or.inl ⟨by rfl, fun v hv => ?_⟩
    obtain ⟨q0, q1, q2, q3, q4, q5⟩ := Ts.cells hv
    go_simp
    rfl
  try simp only [Act.put, List.setIfInBounds_toArray, List.set_cons_zero, List.set_cons_succ]
  refine wpAnyH_take (i := 3) (v := ?av3) (by simp only [List.getElem?_toArray, List.getElem?_cons_succ, List.getElem?_cons_zero]; exact rfl) (by kernel_rfl) (by kernel_rfl) (by kernel_rfl) ?aq3 ?ay3 hH ?ar3
  case aq3 => exact fun _ _ _ h => h
  case ay3 =>
    refine Or.inl ⟨by rfl, fun v hv => ?_⟩
    obtain ⟨q0, q1, q2, q3, q4, q5⟩ := Ts.cells hv
    go_simp
    rfl
  try simp only [Act.put, List.setIfInBounds_toArray, List.set_cons_zero, List.set_cons_succ]
  refine wpAnyH_ready (rs := [4]) (by kernel_rfl) (by simp) ?_
  refine AllReadyH.cons (by simp only [List.getElem?_toArray, List.getElem?_cons_succ, List.getElem?_cons_zero]; exact rfl) (fun K hK => ?_) AllReadyH.nil
  go_simp
  refine (HRT.out _ hH.1.2.1).mono ?_
  rintro e w5 ⟨g3, gc3, hg3, rfl, hr3, hb1⟩
  have R3 := hide hr3
  clear hr3
  have hN := hH.next hb1
  clear hb1
  refine hK.out _ _ hN (fun hH' => ?_)
  clear hK hH hN K
  have hH := hH'
  clear hH'
  try simp only [Act.put, List.setIfInBounds_toArray, List.set_cons_zero, List.set_cons_succ]
  refine wpAnyH_ready (rs := [5]) (by kernel_rfl) (by simp) ?_
  refine AllReadyH.cons (by simp only [List.getElem?_toArray, List.getElem?_cons_succ, List.getElem?_cons_zero]; exact rfl) (fun K hK => ?_) AllReadyH.nil
  go_simp
  refine (refeq_any W H W H _ _ _ _ bt bt _ hH.2.1.bys R3.out.bys hlt hlt).mono ?_
  rw [eqB_self]
  rintro e w5 ⟨rfl, hb1⟩
  have hN := hH.next hb1
  clear hb1
  refine hK.out _ _ hN (fun hH' => ?_)
  clear hK hH hN K
  have hH := hH'
  clear hH'
  try simp only [Act.put, List.setIfInBounds_toArray, List.set_cons_zero, List.set_cons_succ]
  refine wpAnyH_take (i := 6) (v := ?av6) (by simp only [List.getElem?_toArray, List.getElem?_cons_succ, List.getElem?_cons_zero]; exact rfl) (by kernel_rfl) (by kernel_rfl) (by kernel_rfl) ?aq6 ?ay6 hH ?ar6
  case aq6 => exact fun _ _ _ h => h
  case ay6 =>
    refine Or.inl ⟨by rfl, fun v hv => ?_⟩
    go_simp
    rfl
  try simp only [Act.put, List.setIfInBounds_toArray, List.set_cons_zero, List.set_cons_succ]
  refine wpAnyH_take (i := 7) (v := ?av7) (by simp only [List.getElem?_toArray, List.getElem?_cons_succ, List.getElem?_cons_zero]; exact rfl) (by kernel_rfl) (by kernel_rfl) (by kernel_rfl) ?aq7 ?ay7 hH ?ar7
  case aq7 => exact fun _ _ _ h => h
  case ay7 =>
    refine Or.inl ⟨by rfl, fun v hv => ?_⟩
    go_simp
    rfl
  try simp only [Act.put, List.setIfInBounds_toArray, List.set_cons_zero, List.set_cons_succ]
  refine wpAnyH_take (i := 8) (v := ?av8) (by simp only [List.getElem?_toArray, List.getElem?_cons_succ, List.getElem?_cons_zero]; exact rfl) (by kernel_rfl) (by kernel_rfl) (by kernel_rfl) ?aq8 ?ay8 hH ?ar8
  case aq8 => exact fun _ _ _ h => h
  case ay8 =>
    refine Or.inl ⟨by rfl, fun v hv => ?_⟩
    obtain ⟨q0, q1, q2, q3, q4, q5⟩ := Ts.cells hv
    go_simp
    rfl
  try simp only [Act.put, List.setIfInBounds_toArray, List.set_cons_zero, List.set_cons_succ]
  refine wpAnyH_take (i := 10) (v := ?av10) (by simp only [List.getElem?_toArray, List.getElem?_cons_succ, List.getElem?_cons_zero]; exact rfl) (by kernel_rfl) (by kernel_rfl) (by kernel_rfl) ?aq10 ?ay10 hH ?ar10
  case aq10 => exact fun _ _ _ h => h
  case ay10 =>
    refine Or.inl ⟨by rfl, fun v hv => ?_⟩
    obtain ⟨q0, q1, q2, q3, q4, q5⟩ := Ts.cells hv
    go_simp
    rfl
  try simp only [Act.put, List.setIfInBounds_toArray, List.set_cons_zero, List.set_cons_succ]
  refine wpAnyH_ready (rs := [9]) (by kernel_rfl) (by simp) ?_
  refine AllReadyH.cons (by simp only [List.getElem?_toArray, List.getElem?_cons_succ, List.getElem?_cons_zero]; exact rfl) (fun K hK => ?_) AllReadyH.nil
  go_simp
  refine (HTT.out _ _ _ hH.2.1.bys).mono ?_
  rintro e w5 ⟨g4, gc4, hg4, rfl, hr4, hb1⟩
  have R4 := hide hr4
  clear hr4
  have hN := hH.next hb1
  clear hb1
  refine hK.out _ _ hN (fun hH' => ?_)
  clear hK hH hN K
  have hH := hH'
  clear hH'
  try simp only [Act.put, List.setIfInBounds_toArray, List.set_cons_zero, List.set_cons_succ]
  refine wpAnyH_ready (rs := [11]) (by kernel_rfl) (by simp) ?_
  refine AllReadyH.cons (by simp only [List.getElem?_toArray, List.getElem?_cons_succ, List.getElem?_cons_zero]; exact rfl) (fun K hK => ?_) AllReadyH.nil
  go_simp
  refine (refeq_any W H W H _ _ _ _ bs bs _ R4.out.bys hH.1.2.1 hm hm).mono ?_
  rw [eqB_self]
  rintro e w5 ⟨rfl, hb1⟩
  have hN := hH.next hb1
  clear hb1
  refine hK.out _ _ hN (fun hH' => ?_)
  clear hK hH hN K
  have hH := hH'
  clear hH'
  try simp only [Act.put, List.setIfInBounds_toArray, List.set_cons_zero, List.set_cons_succ]
  refine wpAnyH_take (i := 12) (v := ?av12) (by simp only [List.getElem?_toArray, List.getElem?_cons_succ, List.getElem?_cons_zero]; exact rfl) (by kernel_rfl) (by kernel_rfl) (by kernel_rfl) ?aq12 ?ay12 hH ?ar12
  case aq12 => exact fun _ _ _ h => h
  case ay12 =>
    refine Or.inl ⟨by rfl, fun v hv => ?_⟩
    go_simp
    rfl
  try simp only [Act.put, List.setIfInBounds_toArray, List.set_cons_zero, List.set_cons_succ]
  refine wpAnyH_take (i := 13) (v := ?av13) (by simp only [List.getElem?_toArray, List.getElem?_cons_succ, List.getElem?_cons_zero]; exact rfl) (by kernel_rfl) (by kernel_rfl) (by kernel_rfl) ?aq13 ?ay13 hH ?ar13
  case aq13 => exact fun _ _ _ h => h
  case ay13 =>
    refine Or.inl ⟨by rfl, fun v hv => ?_⟩
    go_simp
    rfl
  try simp only [Act.put, List.setIfInBounds_toArray, List.set_cons_zero, List.set_cons_succ]
  refine wpAnyH_take (i := 14) (v := ?av14) (by simp only [List.getElem?_toArray, List.getElem?_cons_succ, List.getElem?_cons_zero]; exact rfl) (by kernel_rfl) (by kernel_rfl) (by kernel_rfl) ?aq14 ?ay14 hH ?ar14
  case aq14 => exact fun _ _ _ h => h
  case ay14 =>
    refine Or.inl ⟨by rfl, fun v hv => ?_⟩
    obtain ⟨q0, q1, q2, q3, q4, q5⟩ := Ts.cells hv
    go_simp
    rfl
  try simp only [Act.put, List.setIfInBounds_toArray, List.set_cons_zero, List.set_cons_succ]
  refine wpAnyH_take (i := 15) (v := ?av15) (by simp only [List.getElem?_toArray, List.getElem?_cons_succ, List.getElem?_cons_zero]; exact rfl) (by kernel_rfl) (by kernel_rfl) (by kernel_rfl) ?aq15 ?ay15 hH ?ar15
  case aq15 => exact fun _ _ _ h => h
  case ay15 =>
    refine Or.inl ⟨by rfl, fun v hv => ?_⟩
    go_simp
    rfl
  try simp only [Act.put, List.setIfInBounds_toArray, List.set_cons_zero, List.set_cons_succ]
  refine wpAnyH_take (i := 16) (v := ?av16) (by simp only [List.getElem?_toArray, List.getElem?_cons_succ, List.getElem?_cons_zero]; exact rfl) (by kernel_rfl) (by kernel_rfl) (by kernel_rfl) ?aq16 ?ay16 hH ?ar16
  case aq16 => exact fun _ _ _ h => h
  case ay16 =>
    refine Or.inl ⟨by rfl, fun v hv => ?_⟩
    go_simp
    rfl
  try simp only [Act.put, List.setIfInBounds_toArray, List.set_cons_zero, List.set_cons_succ]
  refine wpAnyH_take (i := 19) (v := ?av19) (by simp only [List.getElem?_toArray, List.getElem?_cons_succ, List.getElem?_cons_zero]; exact rfl) (by kernel_rfl) (by kernel_rfl) (by kernel_rfl) ?aq19 ?ay19 hH ?ar19
  case aq19 => exact fun _ _ _ h => h
  case ay19 =>
    refine Or.inl ⟨by rfl, fun v hv => ?_⟩
    obtain ⟨q0, q1, q2, q3, q4, q5⟩ := Ts.cells hv
    go_simp
    rfl
  try simp only [Act.put, List.setIfInBounds_toArray, List.set_cons_zero, List.set_cons_succ]
  refine wpAnyH_take (i := 20) (v := ?av20) (by simp only [List.getElem?_toArray, List.getElem?_cons_succ, List.getElem?_cons_zero]; exact rfl) (by kernel_rfl) (by kernel_rfl) (by kernel_rfl) ?aq20 ?ay20 hH ?ar20
  case aq20 => exact fun _ _ _ h => h
  case ay20 =>
    refine Or.inl ⟨by rfl, fun v hv => ?_⟩
    go_simp
    rfl
  try simp only [Act.put, List.setIfInBounds_toArray, List.set_cons_zero, List.set_cons_succ]
  refine wpAnyH_take (i := 21) (v := ?av21) (by simp only [List.getElem?_toArray, List.getElem?_cons_succ, List.getElem?_cons_zero]; exact rfl) (by kernel_rfl) (by kernel_rfl) (by kernel_rfl) ?aq21 ?ay21 hH ?ar21
  case aq21 => exact fun _ _ _ h => h
  case ay21 =>
    refine Or.inl ⟨by rfl, fun v hv => ?_⟩
    go_simp
    rfl
  try simp only [Act.put, List.setIfInBounds_toArray, List.set_cons_zero, List.set_cons_succ]
  refine wpAnyH_take (i := 22) (v := ?av22) (by simp only [List.getElem?_toArray, List.getElem?_cons_succ, List.getElem?_cons_zero]; exact rfl) (by kernel_rfl) (by kernel_rfl) (by kernel_rfl) ?aq22 ?ay22 hH ?ar22
  case aq22 => exact fun _ _ _ h => h
  case ay22 =>
    refine Or.inl ⟨by rfl, fun v hv => ?_⟩
    go_simp
    rfl
  try simp only [Act.put, List.setIfInBounds_toArray, List.set_cons_zero, List.set_cons_succ]
  refine wpAnyH_take (i := 23) (v := ?av23) (by simp only [List.getElem?_toArray, List.getElem?_cons_succ, List.getElem?_cons_zero]; exact rfl) (by kernel_rfl) (by kernel_rfl) (by kernel_rfl) ?aq23 ?ay23 hH ?ar23
  case aq23 => exact fun _ _ _ h => h
  case ay23 =>
    refine Or.inl ⟨by rfl, fun v hv => ?_⟩
    go_simp
    rfl
  try simp only [Act.put, List.setIfInBounds_toArray, List.set_cons_zero, List.set_cons_succ]
  refine wpAnyH_ready (rs := [17]) (by kernel_rfl) (by simp) ?_
  refine AllReadyH.cons (by simp only [List.getElem?_toArray, List.getElem?_cons_succ, List.getElem?_cons_zero]; exact rfl) (fun K hK => ?_) AllReadyH.nil
  go_simp
  refine (HSh.out _ hH.1.2.1).mono ?_
  rintro e w5 ⟨g5, gc5, hg5, rfl, hr5, hb1⟩
  have R5 := hide hr5
  clear hr5
  have hN := hH.next hb1
  clear hb1
  refine hK.out _ _ hN (fun hH' => ?_)
  clear hK hH hN K
  have hH := hH'
  clear hH'
  try simp only [Act.put, List.setIfInBounds_toArray, List.set_cons_zero, List.set_cons_succ]
  refine wpAnyH_ready (rs := [18]) (by kernel_rfl) (by simp) ?_
  refine AllReadyH.cons (by simp only [List.getElem?_toArray, List.getElem?_cons_succ, List.getElem?_cons_zero]; exact rfl) (fun K hK => ?_) AllReadyH.nil
  go_simp
  refine (HTS.out _ _ _ R5.out.bys).mono ?_
  rintro e w5 ⟨g6, gc6, hg6, rfl, hr6, hb1⟩
  have R6 := hide hr6
  clear hr6
  have hN := hH.next hb1
  clear hb1
  refine hK.out _ _ hN (fun hH' => ?_)
  clear hK hH hN K
  have hH := hH'
  clear hH'
  try simp only [Act.put, List.setIfInBounds_toArray, List.set_cons_zero, List.set_cons_succ]
  refine wpAnyH_ready (rs := [24]) (by kernel_rfl) (by simp) ?_
  refine AllReadyH.cons (by simp only [List.getElem?_toArray, List.getElem?_cons_succ, List.getElem?_cons_zero]; exact rfl) (fun K hK => ?_) AllReadyH.nil
  go_simp
  refine (HST.out _ _ _ hH.2.1.bys).mono ?_
  rintro e w5 ⟨g7, gc7, hg7, rfl, hr7, hb1⟩
  have R7 := hide hr7
  have R6' := hide (R6.out.kept hb1)
  clear hr7
  have hN := hH.next hb1
  clear hb1
  refine hK.out _ _ hN (fun hH' => ?_)
  clear hK hH hN K
  have hH := hH'
  clear hH'
  try simp only [Act.put, List.setIfInBounds_toArray, List.set_cons_zero, List.set_cons_succ]
  refine wpAnyH_ready (rs := [25]) (by kernel_rfl) (by simp) ?_
  refine AllReadyH.cons (by simp only [List.getElem?_toArray, List.getElem?_cons_succ, List.getElem?_cons_zero]; exact rfl) (fun K hK => ?_) AllReadyH.nil
  go_simp
  refine (refeq_any W H W H _ _ _ _ bd bd _ R6'.out.bys R7.out.bys hld hld).mono ?_
  rw [eqB_self]
  rintro e w5 ⟨rfl, hb1⟩
  have hN := hH.next hb1
  clear hb1
  refine hK.out _ _ hN (fun hH' => ?_)
  clear hK hH hN K
  have hH := hH'
  clear hH'
  try simp only [Act.put, List.setIfInBounds_toArray, List.set_cons_zero, List.set_cons_succ]
  refine wpAnyH_take (i := 26) (v := ?av26) (by simp only [List.getElem?_toArray, List.getElem?_cons_succ, List.getElem?_cons_zero]; exact rfl) (by kernel_rfl) (by kernel_rfl) (by kernel_rfl) ?aq26 ?ay26 hH ?ar26
  case aq26 => exact fun _ _ _ h => h
  case ay26 =>
    refine Or.inl ⟨by rfl, fun v hv => ?_⟩
    go_simp
    rfl
  try simp only [Act.put, List.setIfInBounds_toArray, List.set_cons_zero, List.set_cons_succ]
  refine wpAnyH_take (i := 27) (v := ?av27) (by simp only [List.getElem?_toArray, List.getElem?_cons_succ, List.getElem?_cons_zero]; exact rfl) (by kernel_rfl) (by kernel_rfl) (by kernel_rfl) ?aq27 ?ay27 hH ?ar27
  case aq27 => exact fun _ _ _ h => h
  case ay27 =>
    refine Or.inl ⟨by rfl, fun v hv => ?_⟩
    go_simp
    rfl
  try simp only [Act.put, List.setIfInBounds_toArray, List.set_cons_zero, List.set_cons_succ]
  refine wpAnyH_done (by kernel_rfl) ?_ _
  go_wp2_with fail
  go_ret
  exact ⟨rfl, hH.1.2.2⟩

theorem walk (W H : Int) (A : Option Addr) (c : Nat) (bs : List UInt8) (dx dy : Int) (w : World) (hb : Bys w A bs) (hm : bs.length ≤ maxLen) :
    Calls Try.prog 9 #[.agg #[.int .i64 W, .int .i64 H, .slice A bs.length c], .int .i64 dx, .int .i64 dy] w fun e w' => e = .returned (.bool true) ∧ Below w.heap.size w w' := by
  by_cases hs : smallB W H bs = true
  · obtain ⟨W', H', f, rfl, rfl, rfl, h1, h2, h3, h4⟩ := small_form hs
    exact walk_yes W' H' A c f dx dy w hb h1 h2 h3 h4
  · exact walk_no W H A c bs dx dy w hb hm (Bool.eq_false_iff.2 hs)

set_option maxRecDepth 100000 in
theorem lifted (os : Os) (started : os.Started) (H : Type) (enc : TypeId × Value → H) :
    ReturnsInHanded {} Try.checked os 9 .any (Rows.imageTurnSpec.pre6 enc Try.prog Try.f9 Rows.imageTurnRow.domain false) (Rows.imageTurnSpec.post enc Try.prog Try.f9 false true false false) := by
  refine returnsInHanded_of_change (C := Try.checked) own started (by kernel_rfl) Try.func9
    (ChangeSpec.witness6 (enc := enc) (C := Try.checked) false ⟨#[], #[.agg #[.int .i64 0, .int .i64 0, .slice none 0 0], .int .i64 0, .int .i64 0], []⟩ 8 (by kernel_rfl) (by kernel_rfl) (by kernel_rfl) (by kernel_rfl)) ?_
  intro W base args ds gs before hval0 hW hcnd _
  have hval : ∀ (j : Nat) t v, Try.f9.params[j]? = some t → args[j]? = some v → Value.okWide Try.prog W .any base t v := hval0
  have hW' := hW
  obtain ⟨p, q, hA0, hV, rfl, hfz, hnd⟩ := hW
  have hA : DataW.TrodAll enc Try.prog W 0 (fun _ => true) true Try.f9.params.toList args.toList ds p := hA0
  rw [Try.params9] at hA hval
  obtain ⟨v0, vs0, d0, ds0, p0, q0, hargs, rfl, rfl, h0, r0⟩ := trodAll_cons hA
  obtain ⟨v1, vs1, d1, ds1, p1, q1, rfl, rfl, rfl, h1, r1⟩ := trodAll_cons r0
  obtain ⟨v2, vs2, d2, ds2, p2, q2, rfl, rfl, rfl, h2, r2⟩ := trodAll_cons r1
  obtain ⟨rfl, rfl, rfl⟩ := trodAll_nil r2
  obtain rfl : args = #[v0, v1, v2] := by cases args; simp_all
  obtain ⟨W0, H0, A0, c0, bs0, rfl, hb0, hm0⟩ := open_image (hval 0 24 v0 rfl rfl) h0
  obtain ⟨a1, rfl, _, _, w1⟩ := open_int Try.underlying3 (hval 1 3 v1 rfl rfl) h1
  obtain ⟨a2, rfl, _, _, w2⟩ := open_int Try.underlying3 (hval 2 3 v2 rfl rfl) h2
  refine (walk W0 H0 A0 c0 bs0 a1 a2 W hb0 hm0).mono fun e W' ⟨he, hb⟩ => ?_
  subst he
  exact ⟨_, rfl, post_law hW' rfl hb (by rw [Try.params9]; exact params_ok (by kernel_rfl)) rfl rfl⟩

theorem over : Rows.imageTurnRow.holds Try.pinned (OpenSpec.ofChange Rows.imageTurnSpec) :=
  OpenClaim.holds_of_wide 9 Try.f9 rfl rfl rfl rfl rfl rfl rfl ⟨rfl, rfl, rfl, rfl, rfl⟩ rfl rfl rfl rfl rfl (by kernel_rfl) Try.func9 (by kernel_rfl)
    (of_decide_eq_true (by kernel_rfl)) (by unfold Func.isWrapper; first | (rw [if_pos (by decide +kernel)]; kernel_rfl) | (rw [if_neg (by decide +kernel)]; exact ⟨rfl, rfl⟩))
    (fun os started H enc _ => lifted os started H enc)

theorem proved : Rows.ImageTurnSaid := over
end Go.Proofs.Ytebahhmajllmnaa.lawTurn
