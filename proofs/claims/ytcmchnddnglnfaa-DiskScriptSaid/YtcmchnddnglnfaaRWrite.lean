/-
  The reference: Write.
-/
import Derived.Test.YtcmchnddnglnfaaRPad
import Derived.Deep.RegionHeld3
import Derived.Deep.DeepCutAuto
namespace Go.Proofs.Ytcmchnddnglnfaa
open Go.RowKit
set_option linter.unusedVariables false
set_option linter.unusedSimpArgs false

theorem gives_append {w w' : World} {o : Oper} {a : Act} {v : Value} {x y : Operand} {t1 t2 : TypeId} {xv yv : Value} (ho : o.op = .call { callee := .builtin .append, args := #[x, y], argTypes := #[t1, t2] }) (hx : a.eval x = xv) (hy : a.eval y = yv) (h : (Builtin.append_ #[t1, t2] o.type #[xv, yv]).run Try.prog w = .ok v w') : Gives o a w v w' := by
  unfold Gives execOp
  simp only [ho, resolve, invoke, builtin, Sem.run_bind, Sem.run_pure, Result.andThen_ok, List.map_toArray, List.map_cons, List.map_nil, hx, hy, h]
/-- what a call leaves of the reference's disk -/
def RWrPost (F : Nat → Prop) (w : World) (m : Nat) (safe last : List (List UInt8)) (dirt : List Bool) (has : Bool) (left : Int) (gone : Bool) (k : Int) (en : Ending) (w' : World) : Prop :=
  en = .returned (.int .i64 k) ∧ Chg F w w' ∧ ∃ F', RDsk F' w' m safe last dirt has left gone ∧ ∀ i, F' i → F i ∨ w.heap.size ≤ i
section
variable {F G : Nat → Prop} {w : World} {m gs gl gd cS cL cD : Nat} {safe last : List (List UInt8)} {dirt : List Bool} {has : Bool} {left : Int} {gone : Bool}
theorem rwrite_err (h : RDat F w m gs gl gd cS cL cD safe last dirt has left gone) (i : Int) (k : Int) (hk : chkE gone last.length i = k) (hk0 : k ≠ 0) (A : Option Addr) (n c : Nat) : Calls Try.prog 19 #[.pointer (some ⟨m, 0, none⟩), .int .i64 i, .slice A n c] w fun en w' => en = .returned (.int .i64 k) ∧ w = w' := by
  obtain ⟨c0, c1, c2, c3, c4, c5⟩ := h.cells
  have hmo := h.most
  clear h c0 c2 c3 c4
  unfold chkE at hk
  cases gone with
  | true =>
    rw [if_pos rfl] at hk
    subst hk
    go_enter Try.func19, Try.ntmps19
    go_wp2_with fail
    go_ret
    exact ⟨rfl, rfl⟩
  | false =>
    rw [if_neg (by simp)] at hk
    by_cases h1 : i < 0
    · rw [if_pos h1] at hk
      subst hk
      have t1 : decide (i < 0) = true := decide_eq_true h1
      go_enter Try.func19, Try.ntmps19
      go_wp2_with fail
      go_ret
      exact ⟨rfl, rfl⟩
    · rw [if_neg h1] at hk
      have t1 : decide (i < 0) = false := decide_eq_false h1
      have q1 : 0 ≤ i := by omega
      by_cases h2 : (last.length : Int) ≤ i
      · rw [if_pos h2] at hk
        subst hk
        have t2 : decide ((last.length : Int) ≤ i) = true := decide_eq_true h2
        go_enter Try.func19, Try.ntmps19
        go_wp2_with fail
        go_ret
        exact ⟨rfl, rfl⟩
      · rw [if_neg h2] at hk
        exact absurd hk.symm hk0
theorem rwrite_long (h : RDat F w m gs gl gd cS cL cD safe last dirt has left false) (i : Nat) (hi : i < last.length) (A : Option Addr) (n c : Nat) (hn : 64 < n) : Calls Try.prog 19 #[.pointer (some ⟨m, 0, none⟩), .int .i64 (i : Int), .slice A n c] w fun en w' => en = .returned (.int .i64 7) ∧ w = w' := by
  obtain ⟨c0, c1, c2, c3, c4, c5⟩ := h.cells
  have hmo := h.most
  have t3 : decide ((64 : Int) < (n : Int)) = true := decide_eq_true (by omega)
  clear h c0 c2 c3 c4
  go_enter Try.func19, Try.ntmps19
  go_wp2_with fail
  go_ret
  exact ⟨rfl, rfl⟩
theorem rwrite_burnt (h : RDat F w m gs gl gd cS cL cD safe last dirt true 0 false) (i : Nat) (hi : i < last.length) (A : Option Addr) (n c : Nat) (hn : n ≤ 64) : Calls Try.prog 19 #[.pointer (some ⟨m, 0, none⟩), .int .i64 (i : Int), .slice A n c] w (RWrPost F w m safe last dirt true 0 true 12) := by
  obtain ⟨c0, c1, c2, c3, c4, c5⟩ := h.cells
  have hmo := h.most
  have t3 : decide ((64 : Int) < (n : Int)) = false := decide_eq_false (by omega)
  have HB := hide (rburn_any h (by omega) (by omega))
  have HMEM := hide h.mem
  clear h c0 c2 c3 c4
  go_enter Try.func19, Try.ntmps19
  go_wp2_with fail
  refine HB.out.mono ?_
  rintro en w1 ⟨hC, ⟨_, _, rfl, hD⟩ | ⟨hno, _⟩⟩
  · have HC := hide (hC.mono (N := F) fun j _ hj => by subst hj; exact HMEM.out.1)
    have HD := hide hD
    clear hC hD
    go_wp2_with fail
    go_ret
    exact ⟨rfl, HC.out, F, HD.out.rdsk, fun i hi => .inl hi⟩
  · exact absurd ⟨rfl, rfl⟩ hno
set_option maxHeartbeats 3200000 in
theorem rwrite_ok (h : RDat F w m gs gl gd cS cL cD safe last dirt has left false) (h1 : -1000 ≤ left) (h2 : left ≤ 9223372036854775807) (hno : ¬ (has = true ∧ left = 0)) (i : Nat) (hi : i < last.length) (A : Option Addr) (c : Nat) (bs : List UInt8) (hb : BysIn G w A bs) (hG : Lt G w) (hGF : ∀ j, G j → ¬ F j) (hn : bs.length ≤ 64) :
    Calls Try.prog 19 #[.pointer (some ⟨m, 0, none⟩), .int .i64 (i : Int), .slice A bs.length c] w (RWrPost F w m safe (last.set i (padS bs)) (dirt.set i true) has (left - 1) false 0) := by
  obtain ⟨c0, c1, c2, c3, c4, c5⟩ := h.cells
  have hmo := h.most
  have hld := h.lend
  have t3 : decide ((64 : Int) < (bs.length : Int)) = false := decide_eq_false (by omega)
  have HB := hide (rburn_any h h1 h2)
  have HMEM := hide h.mem
  have HNE := hide h.ne
  have HLT := hide h.lt
  have HBY := hide hb
  have HG := hide hG
  have HGF := hide hGF
  clear h c0 c2 c3 c4 hb hG hGF h1 h2
  go_enter Try.func19, Try.ntmps19
  go_wp2_with fail
  refine HB.out.mono ?_
  rintro en w1 ⟨hC, ⟨e1, e2, _⟩ | ⟨_, rfl, hD⟩⟩
  · exact absurd ⟨e1, e2⟩ hno
  clear hno c1 c5
  have HX1 := hide (hC.mono (N := F) fun j _ hj => by subst hj; exact HMEM.out.1)
  have HBY1 := hide (HBY.out.agree (Agree.of_chg HX1.out HG.out HGF.out))
  have HD1 := hide hD
  have hs1 := hC.size
  clear hC hD
  have HDd : Hid (RDat F w1.drew m gs gl gd cS cL cD safe last dirt has (left - 1) false) := HD1.out.agree (fun _ _ => rfl) (Nat.le_refl _)
  have HBYd : Hid (Bys w1.drew A bs) := HBY1.out.bys (fun j hj => Nat.lt_of_lt_of_le (HG.out j hj) hs1)
  obtain ⟨D, d, w2, g', d', w3, hr1, hr2, hB2, hPP⟩ := run_pad w1.drew 22 22 A c bs HBYd.out hn
  have hwr : IntKind.i64.wrap (64 - (bs.length : Int)) = 64 - (bs.length : Int) := IntWalk.i64_in _ (by omega)
  rw [← hwr] at hr2
  have HR1 := hide hr1
  have HR2 := hide hr2
  have HD2 := hide (HDd.out.kept hB2)
  have HPP := hide (show w.heap.size ≤ g' ∧ Row w3 g' (padS bs) ∧ 64 ≤ d' from ⟨Nat.le_trans hs1 hPP.1, hPP.2.1, hPP.2.2.1⟩)
  have hgl' : g' < w3.heap.size := hPP.2.1.lt
  have HD3a := HDd.out.kept hPP.2.2.2
  have HD3 := hide (HD3a.mono (G := fun j => F j ∨ j = g') (fun j hj => .inl hj) (fun j hj => by
    rcases hj with hj | hj
    · exact HD3a.lt j hj
    · rw [hj]; exact hgl'))
  have HX3 : Hid (Chg F w w3) := HX1.out.drew.trans (Chg.of_below hPP.2.2.2 (fun _ => False)) fun _ _ e => e.elim
  have hgF : Hid (¬ F g') := fun e => by have := HLT.out g' e; have := HPP.out.1; omega
  have HC1 : Hid (w1.drew.cell? ⟨m, 1, none⟩ = some (.slice (some ⟨gl, 0, none⟩) last.length cL)) := HDd.out.cells.2.1
  have HC2 := hide HD2.out.cells.2.1
  have HC3 := hide HD3.out.cells.2.1
  have HF3 := hide (HD3.out.rowsL.frozen i)
  have HD4a := HD3.out.setLast hi (A := some ⟨g', 0, none⟩) (c := d') (padS_length hn) HPP.out.2.2 (fun hp => ⟨g', 0, rfl, ⟨.inr rfl, fun e => hgF.out (by rw [e]; exact HMEM.out.1), fun e => hgF.out (by rw [e]; exact HMEM.out.2.1), fun e => hgF.out (by rw [e]; exact HMEM.out.2.2.1), fun e => hgF.out (by rw [e]; exact HMEM.out.2.2.2)⟩, fun k hk => by rw [Nat.zero_add]; exact HPP.out.2.1.cell hk⟩)
  obtain ⟨w4, hw4⟩ : ∃ w4, w4 = w3.setCell ⟨gl, i, none⟩ (.slice (some ⟨g', 0, none⟩) 64 d') := ⟨_, rfl⟩
  have HX4 : Hid (Chg F w w4) := by rw [hw4]; exact HX3.out.setCell (fun _ => HMEM.out.2.2.1) _ _
  rw [← hw4] at HD4a
  have HD4 := hide HD4a
  have HC4 : Hid ((w3.setCell ⟨gl, i, none⟩ (.slice (some ⟨g', 0, none⟩) 64 d')).cell? ⟨m, 1, none⟩ = some (.slice (some ⟨gl, 0, none⟩) last.length cL)) := by
    have h := HD4.out.cells.2.1
    rw [hw4, List.length_set] at h
    exact h
  have HW4 := hide hw4
  obtain ⟨_, Ai, ci, qi, _⟩ := HD3.out.rowsL.at_ hi
  clear hwr hr1 hr2 hB2 hPP HD3a HD4a hw4
  go_upto_region 9 with fail
  refine wp_region_held_drew (S := fun v => v.cell? ⟨m, 1, none⟩ = some (.slice (some ⟨gl, 0, none⟩) last.length cL)) (by kernel_rfl) (HC1.out) (fun hH => ?_)
  refine wpAnyH_take (i := 0) (v := ?xv0) (by simp only [List.getElem?_toArray, List.getElem?_cons_succ, List.getElem?_cons_zero]; exact rfl) (by kernel_rfl) (by kernel_rfl) (by kernel_rfl) ?xq0 ?xy0 hH ?xr0
  case xq0 => exact fun _ _ _ h => h
  case xy0 =>
    refine Or.inl ⟨by rfl, fun v hv => ?_⟩
    go_simp
    rfl
  try simp only [Act.put, List.setIfInBounds_toArray, List.set_cons_zero, List.set_cons_succ]
  refine wpAnyH_take (i := 1) (v := ?xv1) (by simp only [List.getElem?_toArray, List.getElem?_cons_succ, List.getElem?_cons_zero]; exact rfl) (by kernel_rfl) (by kernel_rfl) (by kernel_rfl) ?xq1 ?xy1 hH ?xr1
  case xq1 => exact fun _ _ _ h => h
  case xy1 =>
    refine Or.inl ⟨by rfl, fun v hv => ?_⟩
    go_simp
    rfl
  try simp only [Act.put, List.setIfInBounds_toArray, List.set_cons_zero, List.set_cons_succ]
  refine wpAnyH_take (i := 2) (v := ?xv2) (by simp only [List.getElem?_toArray, List.getElem?_cons_succ, List.getElem?_cons_zero]; exact rfl) (by kernel_rfl) (by kernel_rfl) (by kernel_rfl) ?xq2 ?xy2 hH ?xr2
  case xq2 => exact fun _ _ _ h => h
  case xy2 =>
    refine Or.inl ⟨by rfl, fun v hv => ?_⟩
    go_simp
    rfl
  try simp only [Act.put, List.setIfInBounds_toArray, List.set_cons_zero, List.set_cons_succ]
  refine wpAnyH_take (i := 3) (v := ?xv3) (by simp only [List.getElem?_toArray, List.getElem?_cons_succ, List.getElem?_cons_zero]; exact rfl) (by kernel_rfl) (by kernel_rfl) (by kernel_rfl) ?xq3 ?xy3 hH ?xr3
  case xq3 => exact fun _ _ _ h => h
  case xy3 =>
    refine Or.inl ⟨by rfl, fun v hv => ?_⟩
    have yc : v.cell? ⟨m, 1, none⟩ = some (.slice (some ⟨gl, 0, none⟩) last.length cL) := hv
    go_simp
    rfl
  try simp only [Act.put, List.setIfInBounds_toArray, List.set_cons_zero, List.set_cons_succ]
  refine wpAnyH_take (i := 4) (v := ?xv4) (by simp only [List.getElem?_toArray, List.getElem?_cons_succ, List.getElem?_cons_zero]; exact rfl) (by kernel_rfl) (by kernel_rfl) (by kernel_rfl) ?xq4 ?xy4 hH ?xr4
  case xq4 => exact fun _ _ _ h => h
  case xy4 =>
    refine Or.inl ⟨by rfl, fun v hv => ?_⟩
    go_simp
    rfl
  try simp only [Act.put, List.setIfInBounds_toArray, List.set_cons_zero, List.set_cons_succ]
  refine wpAnyH_take (i := 5) (v := ?xv5) (by simp only [List.getElem?_toArray, List.getElem?_cons_succ, List.getElem?_cons_zero]; exact rfl) (by kernel_rfl) (by kernel_rfl) (by kernel_rfl) ?xq5 ?xy5 hH ?xr5
  case xq5 => exact fun _ _ _ h => h
  case xy5 =>
    refine Or.inl ⟨by rfl, fun v hv => ?_⟩
    go_simp
    rfl
  try simp only [Act.put, List.setIfInBounds_toArray, List.set_cons_zero, List.set_cons_succ]
  refine wpAnyH_take (i := 7) (v := ?xv7) (by simp only [List.getElem?_toArray, List.getElem?_cons_succ, List.getElem?_cons_zero]; exact rfl) (by kernel_rfl) (by kernel_rfl) (by kernel_rfl) ?xq7 ?xy7 hH ?xr7
  case xq7 => exact fun _ _ _ h => h
  case xy7 =>
    refine Or.inl ⟨by rfl, fun v hv => ?_⟩
    go_simp
    rfl
  try simp only [Act.put, List.setIfInBounds_toArray, List.set_cons_zero, List.set_cons_succ]
  refine wpAnyH_take (i := 8) (v := ?xv8) (by simp only [List.getElem?_toArray, List.getElem?_cons_succ, List.getElem?_cons_zero]; exact rfl) (by kernel_rfl) (by kernel_rfl) (by kernel_rfl) ?xq8 ?xy8 hH ?xr8
  case xq8 => exact fun _ _ _ h => h
  case xy8 =>
    refine Or.inl ⟨by rfl, fun v hv => ?_⟩
    go_simp
    rfl
  try simp only [Act.put, List.setIfInBounds_toArray, List.set_cons_zero, List.set_cons_succ]
  refine wpAnyH_take (i := 9) (v := ?xv9) (by simp only [List.getElem?_toArray, List.getElem?_cons_succ, List.getElem?_cons_zero]; exact rfl) (by kernel_rfl) (by kernel_rfl) (by kernel_rfl) ?xq9 ?xy9 hH ?xr9
  case xq9 => exact fun _ _ _ h => h
  case xy9 =>
    refine Or.inl ⟨by rfl, fun v hv => ?_⟩
    go_simp
    rfl
  try simp only [Act.put, List.setIfInBounds_toArray, List.set_cons_zero, List.set_cons_succ]
  refine wpAnyH_ready (rs := [6]) (by kernel_rfl) (by simp) ?_
  refine AllReadyH.cons (by simp only [List.getElem?_toArray, List.getElem?_cons_succ, List.getElem?_cons_zero]; exact rfl) (fun K hK => ?_) AllReadyH.nil
  refine step_gives (v := .slice D bs.length d) (w' := w2) (by rfl) (gives_append (by rfl) (by rfl) (by rfl) HR1.out) ?_
  have hN := HC2.out
  refine hK.out _ _ hN (fun hH' => ?_)
  clear hK hH hN K
  have hH := hH'
  clear hH'
  try simp only [Act.put, List.setIfInBounds_toArray, List.set_cons_zero, List.set_cons_succ]
  refine wpAnyH_ready (rs := [10]) (by kernel_rfl) (by simp) ?_
  refine AllReadyH.cons (by simp only [List.getElem?_toArray, List.getElem?_cons_succ, List.getElem?_cons_zero]; exact rfl) (fun K hK => ?_) AllReadyH.nil
  refine step_gives (v := .slice (some ⟨g', 0, none⟩) 64 d') (w' := w3) (by rfl) (gives_append (by rfl) (by rfl) (by rfl) HR2.out) ?_
  have hN := HC3.out
  refine hK.out _ _ hN (fun hH' => ?_)
  clear hK hH hN K
  have hH := hH'
  clear hH'
  try simp only [Act.put, List.setIfInBounds_toArray, List.set_cons_zero, List.set_cons_succ]
  refine wpAnyH_take (i := 11) (v := ?xv11) (by simp only [List.getElem?_toArray, List.getElem?_cons_succ, List.getElem?_cons_zero]; exact rfl) (by kernel_rfl) (by kernel_rfl) (by kernel_rfl) ?xq11 ?xy11 hH ?xr11
  case xq11 => exact fun _ _ _ h => h
  case xy11 =>
    refine Or.inl ⟨by rfl, fun v hv => ?_⟩
    go_simp
    rfl
  try simp only [Act.put, List.setIfInBounds_toArray, List.set_cons_zero, List.set_cons_succ]
  refine wpAnyH_ready (rs := [12]) (by kernel_rfl) (by simp) ?_
  refine AllReadyH.cons (by simp only [List.getElem?_toArray, List.getElem?_cons_succ, List.getElem?_cons_zero]; exact rfl) (fun K hK => ?_) AllReadyH.nil
  have yf := HF3.out
  go_simp
  have hN := HC4.out
  clear yf
  refine hK.out _ _ hN (fun hH' => ?_)
  clear hK hH hN K
  have hH := hH'
  clear hH'
  try simp only [Act.put, List.setIfInBounds_toArray, List.set_cons_zero, List.set_cons_succ]
  refine wpAnyH_done (by kernel_rfl) ?_ _
  have HE4 := hide (HD4.out)
  obtain ⟨_, _, e2, _, _, _⟩ := HE4.out.cells
  have hfd := HE4.out.bools.frozen i
  have HD5 := hide (HE4.out.setDirt (i := i) (by rw [List.length_set]; exact hi) true)
  rw [List.length_set] at e2
  have HX5 : Hid (Chg F w (w4.setCell ⟨gd, i, none⟩ (.bool true))) := HX4.out.setCell (fun _ => HMEM.out.2.2.2) _ _
  have hid : i < dirt.length := by omega
  have hgs := HE4.out.bools.cell (k := i) hid
  rw [← HW4.out]
  go_wp2_with fail
  go_ret
  refine ⟨rfl, HX5.out, _, HD5.out.rdsk, ?_⟩
  intro j hj
  rcases hj with hj | hj
  · exact .inl hj
  · exact .inr (by rw [hj]; exact HPP.out.1)
end
end Go.Proofs.Ytcmchnddnglnfaa
