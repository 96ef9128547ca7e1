/-
  DiskSafe: what was synchronized survives every crash, unless the sector was written later: for every two contents, every sector and all that survives.
-/
import Derived.Test.YtcmchnddnglnfaaFrame
import Derived.BigQuiet
namespace Go.Proofs.Ytcmchnddnglnfaa.lawSafe
open Go.ChangeShapes Go.WideShapes Go.ChangeAt Go.RowKit
set_option linter.unusedVariables false
set_option linter.unusedSimpArgs false

/-- the argument, opened -/
structure SafeArg (W : World) (A B K : Option Addr) (a b k : Nat) (us vs : List UInt8) (ks : List Bool) (z : Int) : Prop where
  ha : Bys W A us
  hb : Bys W B vs
  hk : BoolsIn (fun i => i < W.heap.size) W K ks
  ma : us.length ≤ maxLen
  mb : vs.length ≤ maxLen
  mc : ks.length ≤ maxLen
  ca : us.length ≤ a
  cb : vs.length ≤ b
  ck : ks.length ≤ k
  hz : InR z
theorem cellsSafe : Try.prog.cellsOf 35 = 4 := by kernel_rfl
theorem i64_bd {z : Int} (h : (Lit.int .i64 z).wf = true) : InR z := by
  have hmin : IntKind.i64.min = -9223372036854775808 := rfl
  have hmax : IntKind.i64.max = 9223372036854775807 := rfl
  simp only [Lit.wf, Bool.and_eq_true, decide_eq_true_eq] at h
  unfold InR
  omega
theorem open_safe {H : Type} {enc : TypeId × Value → H} {r : Reach} {b0 : Nat} {W : World} {v : Value} {d : DataW H} {p : List MemPlace} (hv : Value.okWide Try.prog W r b0 35 v) (h : DataW.Trod enc Try.prog W 0 (fun _ => true) true 35 v d p) :
    ∃ A a us B b vs z K k ks, v = .agg #[.slice A us.length a, .slice B vs.length b, .int .i64 z, .slice K ks.length k] ∧ SafeArg W A B K a b k us vs ks z := by
  obtain ⟨c0, c1, c2, c3, y0, y1, y2, y3, n, rfl, _, _, hy0, hy1, hy2, hy3⟩ := Go.Joins.open_agg4 Try.underlying35 (by kernel_rfl) cellsSafe hv h
  obtain ⟨A, a, us, e0, p1, p2, p3⟩ := open_bytes hy0
  obtain ⟨B, b, vs, e1, q1, q2, q3⟩ := open_bytes hy1
  obtain ⟨z, e2, _, w2⟩ := DataW.trod_int Try.underlying3 hy2
  obtain ⟨K, k, ks, e3, r1, r2, r3⟩ := open_bools0 hy3
  cases e2
  subst e0 e1 e3
  exact ⟨A, a, us, B, b, vs, z, K, k, ks, rfl, p1, q1, r1, p2, q2, r2, p3, q3, r3, i64_bd w2⟩

theorem later_ok (z : Int) : ∃ l : Nat, l < 6 ∧ (wrap64 (z.tmod 6 + 6)).tmod 6 = (l : Int) := by
  have h1 := Int.tmod_lt_of_pos z (show (0 : Int) < 6 by omega)
  have h2 := Int.lt_tmod_of_pos z (show (0 : Int) < 6 by omega)
  have e : wrap64 (z.tmod 6 + 6) = z.tmod 6 + 6 := by unfold wrap64; omega
  rw [e, Int.tmod_eq_emod_of_nonneg (by omega)]
  exact ⟨((z.tmod 6 + 6) % 6).toNat, by omega, by omega⟩
theorem dirty_one (l : Nat) (hl : l < 6) (x : List UInt8) : dirtyL 6 (fun j => if j = l then some x else none) = [l] := by
  have : l = 0 ∨ l = 1 ∨ l = 2 ∨ l = 3 ∨ l = 4 ∨ l = 5 := by omega
  rcases this with rfl | rfl | rfl | rfl | rfl | rfl <;> rfl
theorem take_bys {W : World} {A : Option Addr} {us : List UInt8} (h : Bys W A us) (n : Nat) : Bys W A (us.take n) := fun hp => by
  rw [List.length_take] at hp
  obtain ⟨b, off, e, h1, h2⟩ := h (by omega)
  refine ⟨b, off, e, h1, fun j hj => ?_⟩
  rw [List.length_take] at hj
  rw [h2 j (by omega)]
  congr 2
  rw [List.getD_eq_getElem?_getD, List.getD_eq_getElem?_getD, List.getElem?_take_of_lt (by omega)]
theorem take_bools {F : Nat → Prop} {W : World} {A : Option Addr} {us : List Bool} (h : BoolsIn F W A us) (n : Nat) : BoolsIn F W A (us.take n) := fun hp => by
  rw [List.length_take] at hp
  obtain ⟨b, off, e, h1, h2⟩ := h (by omega)
  refine ⟨b, off, e, h1, fun j hj => ?_⟩
  rw [List.length_take] at hj
  rw [h2 j (by omega)]
  congr 2
  rw [List.getD_eq_getElem?_getD, List.getD_eq_getElem?_getD, List.getElem?_take_of_lt (by omega)]
theorem read_pad {F : Nat → Prop} {w : World} {s : Nat} {ss : List (List UInt8)} {e : Nat → Option (List UInt8)} {fuse : Int} (h : Dsk F w s ss e fuse false) (i : Nat) (hi : i < ss.length) (zs : List UInt8) (hz : zs.length ≤ 64) (hx : ss.getD i [] = padS zs) :
    Calls Try.prog 10 #[.pointer (some ⟨s, 0, none⟩), .int .i64 (i : Int)] w fun en w' => ∃ g c, w.heap.size ≤ g ∧ en = .returned (.tuple #[.slice (some ⟨g, 0, none⟩) 64 c, .int .i64 0]) ∧ Row w' g (padS zs) ∧ Below w.heap.size w w' ∧ 64 ≤ c := by
  refine (read_ok h i hi).mono ?_
  rw [hx]
  rintro en w' ⟨g, c, h1, rfl, h2, h3, h4⟩
  rw [padS_length hz] at h4
  exact ⟨g, c, h1, by rw [padS_length hz], h2, h3, h4⟩
theorem pad_bys {w : World} {g : Nat} {zs : List UInt8} (h : Row w g (padS zs)) (hz : zs.length ≤ 64) : Bys w (some ⟨g, 0, none⟩) zs := fun hp => ⟨g, 0, rfl, h.lt, fun k hk => by
  rw [Nat.zero_add, h.cell (by rw [padS_length hz]; omega)]
  congr 2
  rw [padS, List.getD_eq_getElem?_getD, List.getElem?_append_left hk, List.getD_eq_getElem?_getD]⟩
theorem pad_zero {w : World} {g k : Nat} {zs : List UInt8} (h : Row w g (padS zs)) (hz : zs.length ≤ 64) (hk : k < 64 - zs.length) : w.cell? ⟨g, zs.length + k, none⟩ = some (.int .u8 0) := by
  rw [h.cell (by rw [padS_length hz]; omega), padS, List.getD_eq_getElem?_getD, List.getElem?_append_right (by omega), List.getElem?_replicate, if_pos (by omega)]
  rfl
/-- the sectors of the crashed disk -/
theorem crash_at (ss : List (List UInt8)) (xs ys : List UInt8) (ke : List Bool) (l : Nat) (hl : l < 6) (h6 : ss.length = 6) (hs : ∀ j, j < 6 → ss.getD j [] = padS xs) (i : Nat) (hi : i < 6) :
    (crashS (ss.set l (padS ys)) (markE (fun _ => none) ss l) ke (dirtyL (ss.set l (padS ys)).length (markE (fun _ => none) ss l)) (dirtyL (ss.set l (padS ys)).length (markE (fun _ => none) ss l)).length).getD i [] = padS (if i = l ∧ ke.getD 0 false = true then ys else xs) := by
  have e1 : markE (fun _ => none) ss l = fun j => if j = l then some (ss.getD l []) else none := markE_none rfl
  rw [List.length_set, h6, e1, dirty_one l hl]
  show (if ke.getD 0 false then ss.set l (padS ys) else (ss.set l (padS ys)).set l _).getD i [] = _
  have e2 : (if l = l then some (ss.getD l []) else none).getD [] = padS xs := by rw [if_pos rfl]; exact hs l hl
  show (if ke.getD 0 false then ss.set l (padS ys) else (ss.set l (padS ys)).set l ((if l = l then some (ss.getD l []) else none).getD [])).getD i [] = _
  rw [e2]
  by_cases hk : ke.getD 0 false = true
  · rw [if_pos hk]
    by_cases hil : i = l
    · subst hil
      rw [if_pos ⟨rfl, hk⟩, set_at _ _ _ (by omega)]
    · rw [if_neg (fun h => hil h.1), List.getD_eq_getElem?_getD, List.getElem?_set_ne (by omega), ← List.getD_eq_getElem?_getD]
      exact hs i hi
  · rw [if_neg hk, if_neg (fun h => hk h.2)]
    by_cases hil : i = l
    · subst hil
      rw [set_at _ _ _ (by rw [List.length_set]; omega)]
    · rw [List.getD_eq_getElem?_getD, List.getElem?_set_ne (by omega), List.getElem?_set_ne (by omega), ← List.getD_eq_getElem?_getD]
      exact hs i hi

set_option maxHeartbeats 3200000 in
set_option maxRecDepth 100000 in
theorem walk (A B K : Option Addr) (a b k : Nat) (us vs : List UInt8) (ks : List Bool) (z : Int) (W : World) (h : SafeArg W A B K a b k us vs ks z) : Calls Try.prog 4 #[.agg #[.slice A us.length a, .slice B vs.length b, .int .i64 z, .slice K ks.length k]] W fun e W' => e = .returned (.bool true) ∧ Below W.heap.size W W' := by
  obtain ⟨w0, hw0⟩ : ∃ w0, w0 = W.alloc (.cells #[.slice A us.length a, .slice B vs.length b, .int .i64 z, .slice K ks.length k] 35) := ⟨_, rfl⟩
  have hB0 : Hid (Box w0 W.heap.size 35 #[.slice A us.length a, .slice B vs.length b, .int .i64 z, .slice K ks.length k]) := by rw [hw0]; exact Box.new _ _ _
  have c0 := hB0.out.cell 0
  have c1 := hB0.out.cell 1
  have c2 := hB0.out.cell 2
  have c3 := hB0.out.cell 3
  have HW0 := hide hw0
  clear hw0
  obtain ⟨xs, hxs⟩ : ∃ xs, xs = us.take 64 := ⟨_, rfl⟩
  obtain ⟨ys, hys⟩ : ∃ ys, ys = vs.take 64 := ⟨_, rfl⟩
  obtain ⟨ke, hke⟩ : ∃ ke, ke = ks.take 9 := ⟨_, rfl⟩
  have lx : xs.length = min us.length 64 := by rw [hxs, List.length_take]; omega
  have ly : ys.length = min vs.length 64 := by rw [hys, List.length_take]; omega
  have lk : ke.length = min ks.length 9 := by rw [hke, List.length_take]; omega
  have ex : min (us.length : Int) 64 = (xs.length : Int) := by omega
  have ey : min (vs.length : Int) 64 = (ys.length : Int) := by omega
  have ek : min (ks.length : Int) 9 = (ke.length : Int) := by omega
  have hca := h.ca
  have hcb := h.cb
  have hck := h.ck
  have ax : xs.length ≤ a := by omega
  have ay : ys.length ≤ b := by omega
  have ak : ke.length ≤ k := by omega
  have x64 : xs.length ≤ 64 := by omega
  have y64 : ys.length ≤ 64 := by omega
  have k9 : ke.length ≤ 9 := by omega
  have HXS := hide hxs
  have HYS := hide hys
  have HKE := hide hke
  have HA := hide h
  clear lx ly lk hxs hys hke hca hcb hck h
  go_enter Try.func4, Try.ntmps4
  go_upto_region 1 with fail
  rw [← HW0.out]
  go_quiet (fail)
  obtain ⟨l, hl6, hel⟩ := later_ok z
  go_wp2_with fail
  rw [hel]
  obtain ⟨w2, hw2⟩ : ∃ w2, w2 = w0.drewN nq := ⟨_, rfl⟩
  have hB2 : Below W.heap.size W w2 := by rw [hw2, HW0.out]; exact below_drew ((Below.refl _ _).alloc (Nat.le_refl _) _) nq
  rw [← hw2]
  have HX2 : Hid (BysIn (fun i => i < W.heap.size) w2 A xs) := by rw [HXS.out]; exact BysIn.agree (BysIn.of_bys (take_bys HA.out.ha 64)) (Agree.of_below hB2 fun i hi => hi)
  have HY2 : Hid (BysIn (fun i => i < W.heap.size) w2 B ys) := by rw [HYS.out]; exact BysIn.agree (BysIn.of_bys (take_bys HA.out.hb 64)) (Agree.of_below hB2 fun i hi => hi)
  have HK2 : Hid (BoolsIn (fun i => i < W.heap.size) w2 K ke) := by rw [HKE.out]; exact BoolsIn.agree (take_bools HA.out.hk 9) (Agree.of_below hB2 fun i hi => hi)
  have HB2 := hide hB2
  clear hw2 hB2 c0 c1 c2 c3 hel ex ey ek
  refine (new_ok 6 w2 (by omega) (by omega)).mono ?_
  rintro en w3 ⟨s, rfl, hB3, hD3⟩
  have hs2 := HB2.out.size
  have HD3 := hide hD3
  have hs3 := hB3.size
  have HB3 := hide (HB2.out.trans (hB3.mono HB2.out.size))
  clear hB3 hD3
  go_wp2_with fail
  go_loopw [8] (fun i wr => ∃ j : Nat, j ≤ 6 ∧ i = .int .i64 j ∧ w3.heap.size ≤ wr.heap.size ∧ Hid (Below W.heap.size W wr) ∧ ∃ ss e, Hid (ss.length = 6) ∧ Hid (∀ m, m < j → ss.getD m [] = padS xs) ∧ Hid (Dsk (fun i => w2.heap.size ≤ i ∧ i < w3.heap.size) wr s ss e (-1) false)) (fun i _ => 6 - (iOf i).toNat)
  case atStart => exact ⟨0, by omega, rfl, Nat.le_refl _, HB3, _, _, List.length_replicate .., fun m hm => absurd hm (by omega), HD3⟩
  case round =>
    obtain ⟨j, hj, rfl, hwr, HBr, ss, e, HL, HP, HDr⟩ := hrel
    by_cases hlt : j < 6
    · have HXr := hide ((HA.out.ha))
      go_wp2_with fail
      have HW := write_ok (G := fun i => i < W.heap.size) HDr.out (by omega) (by omega) (by omega) j (by rw [HL.out]; exact hlt) A a xs (by rw [HXS.out]; exact BysIn.agree (BysIn.of_bys (take_bys HA.out.ha 64)) (Agree.of_below HBr.out fun i hi => hi)) (fun i hi => by have := HBr.out.size; omega) (fun i hi hF => by omega) x64
      refine HW.mono ?_
      rintro en w4 ⟨rfl, hC4, hD4⟩
      have HD4 := hide hD4
      have HB4 : Hid (Below W.heap.size W w4) := HBr.out.trans (hC4.below (fun i hi hF => by omega) HBr.out.size)
      have hs4 : w3.heap.size ≤ w4.heap.size := Nat.le_trans hwr hC4.size
      have HL4 : Hid ((ss.set j (padS xs)).length = 6) := by rw [List.length_set]; exact HL.out
      have HP4 : Hid (∀ m, m < j + 1 → (ss.set j (padS xs)).getD m [] = padS xs) := fun m hm => by
        by_cases e1 : m = j
        · subst e1; exact set_at _ _ _ (by rw [HL.out]; exact hlt)
        · rw [List.getD_eq_getElem?_getD, List.getElem?_set_ne (by omega), ← List.getD_eq_getElem?_getD]
          exact HP.out m (by omega)
      clear hC4 hD4 HW
      go_wp2_with fail
      go_roundw
      case rel => exact ⟨j + 1, by omega, by go_num, hs4, HB4, _, _, HL4, HP4, HD4⟩
      case measure => simp [iOf]; omega
    · obtain rfl : j = 6 := by omega
      go_wp2_with fail
      refine (sync_ok HDr.out (by omega) (by omega) (by omega)).mono ?_
      rintro en w4 ⟨rfl, hC4, hD4⟩
      have HD4 : Hid (Dsk (fun i => w2.heap.size ≤ i ∧ i < w3.heap.size) w4 s ss (fun _ => none) (-1) false) := hD4
      have HB4 : Hid (Below W.heap.size W w4) := HBr.out.trans (hC4.below (fun i hi hF => by omega) HBr.out.size)
      have hs4 : w3.heap.size ≤ w4.heap.size := Nat.le_trans hwr hC4.size
      clear hC4 hD4
      go_wp2_with fail
      have HW := write_ok (G := fun i => i < W.heap.size) HD4.out (by omega) (by omega) (by omega) l (by rw [HL.out]; exact hl6) B b ys (by rw [HYS.out]; exact BysIn.agree (BysIn.of_bys (take_bys HA.out.hb 64)) (Agree.of_below HB4.out fun i hi => hi)) (fun i hi => by have := HB4.out.size; omega) (fun i hi hF => by omega) y64
      refine HW.mono ?_
      rintro en w5 ⟨rfl, hC5, hD5⟩
      have HD5 := hide hD5
      have HB5 : Hid (Below W.heap.size W w5) := HB4.out.trans (hC5.below (fun i hi hF => by omega) HB4.out.size)
      clear hC5 hD5 HW
      go_wp2_with fail
      refine (crash_any (Gk := fun i => i < W.heap.size) (hide keys_ok) HD5.out K k ke (by rw [HKE.out]; exact BoolsIn.agree (take_bools HA.out.hk 9) (Agree.of_below HB5.out fun i hi => hi)) (fun i hi => by have := HB5.out.size; omega) (by omega)).mono ?_
      rintro en w6 ⟨c, rfl, hB6, hD6⟩
      have HCR : Hid (∀ i, i < 6 → (crashS (ss.set l (padS ys)) (markE (fun _ => none) ss l) ke (dirtyL (ss.set l (padS ys)).length (markE (fun _ => none) ss l)) (dirtyL (ss.set l (padS ys)).length (markE (fun _ => none) ss l)).length).getD i [] = padS (if i = l ∧ ke.getD 0 false = true then ys else xs)) := fun i hi => crash_at ss xs ys ke l hl6 HL.out HP.out i hi
      have HCL : Hid ((crashS (ss.set l (padS ys)) (markE (fun _ => none) ss l) ke (dirtyL (ss.set l (padS ys)).length (markE (fun _ => none) ss l)) (dirtyL (ss.set l (padS ys)).length (markE (fun _ => none) ss l)).length).length = 6) := by rw [Hid, crashS_length, List.length_set]; exact HL.out
      generalize crashS (ss.set l (padS ys)) (markE (fun _ => none) ss l) ke (dirtyL (ss.set l (padS ys)).length (markE (fun _ => none) ss l)) (dirtyL (ss.set l (padS ys)).length (markE (fun _ => none) ss l)).length = cc at hD6 HCR HCL
      have HD6 := hide hD6
      have HB6 := hide (HB5.out.trans (hB6.mono HB5.out.size))
      have hs6 := HB6.out.size
      clear hB6 hD6 HD5 HD4 HP HDr
      go_wp2_with fail
      go_loopw [10] (fun i wr => ∃ j : Nat, j ≤ 6 ∧ i = .int .i64 j ∧ Hid (Below w6.heap.size w6 wr)) (fun i _ => 6 - (iOf i).toNat)
      case atStart => exact ⟨0, by omega, rfl, Below.refl _ _⟩
      case round =>
        rename_i wr
        obtain ⟨j, hj, rfl, HBr⟩ := hrel
        have HCr := hide (HD6.out.kept HBr.out)
        have hsr := HBr.out.size
        by_cases hlt : j < 6
        · have HKr : Hid (BoolsIn (fun i => i < W.heap.size) wr K ke) := by rw [HKE.out]; exact BoolsIn.agree (take_bools HA.out.hk 9) (Agree.of_below (HB6.out.trans (HBr.out.mono hs6)) fun i hi => hi)
          obtain ⟨zs, hzs⟩ : ∃ zs, zs = if j = l ∧ ke.getD 0 false = true then ys else xs := ⟨_, rfl⟩
          have hz64 : zs.length ≤ 64 := by rw [hzs]; split <;> assumption
          have HR : Hid (cc.getD j [] = padS zs) := by rw [hzs]; exact HCR.out j hlt
          have HZS := hide hzs
          clear hzs
          go_wp2_with fail
          refine (read_pad HCr.out j (by rw [HCL.out]; exact hlt) zs hz64 HR.out).mono ?_
          rintro en w7 ⟨gx, cx, hgx, rfl, hR7, hB7, hcx⟩
          have HR7 := hide hR7
          have HC7 : Hid (Below w6.heap.size w6 w7) := HBr.out.trans (hB7.mono HBr.out.size)
          have HB7 : Hid (Below W.heap.size W w7) := HB6.out.trans (HC7.out.mono hs6)
          have HK7 := hide (HKr.out.agree (Agree.of_below hB7 fun i hi => by omega))
          have HX7 := hide (pad_bys hR7 hz64)
          have hs7 := HB7.out.size
          have hs71 := hB7.size
          have HG7 := hide hgx
          clear hR7 hB7
          have hc5 : (((((j : Int) == (l : Int)) = false) ∨ (((j : Int) == (l : Int)) = true ∧ decide (0 < ke.length) = false) ∨ (((j : Int) == (l : Int)) = true ∧ 0 < ke.length ∧ ∃ kb ko, K = some ⟨kb, ko, none⟩ ∧ w7.cell? ⟨kb, ko, none⟩ = some (.bool false))) ∧ xs = zs) ∨ (((j : Int) == (l : Int)) = true ∧ 0 < ke.length ∧ (∃ kb ko, K = some ⟨kb, ko, none⟩ ∧ w7.cell? ⟨kb, ko, none⟩ = some (.bool true)) ∧ ys = zs) := by
            have h0 := HZS.out
            by_cases e1 : j = l
            · by_cases e2 : ke.length = 0
              · refine .inl ⟨.inr (.inl ⟨beq_iff_eq.2 (by omega), decide_eq_false (by omega)⟩), ?_⟩
                rw [h0, if_neg]
                rw [List.length_eq_zero_iff.1 e2]
                exact fun h => by cases h.2
              · obtain ⟨kb, ko, k1, _, k2⟩ := HK7.out (by omega)
                have k3 := k2 0 (by omega)
                cases e3 : ke.getD 0 false with
                | false =>
                  rw [e3] at k3
                  exact .inl ⟨.inr (.inr ⟨beq_iff_eq.2 (by omega), by omega, kb, ko, k1, k3⟩), by rw [h0, if_neg (by rw [e3]; exact fun h => by cases h.2)]⟩
                | true =>
                  rw [e3] at k3
                  exact .inr ⟨beq_iff_eq.2 (by omega), by omega, ⟨kb, ko, k1, k3⟩, by rw [h0, if_pos ⟨e1, e3⟩]⟩
            · exact .inl ⟨.inl (beq_eq_false_iff_ne.2 (by omega)), by rw [h0, if_neg (fun h => e1 h.1)]⟩
          rcases hc5 with ⟨hcs, rfl⟩ | ⟨n2, hk0, ⟨kb, ko, rfl, hkc⟩, rfl⟩
          · have HZ7 : Hid (BysIn (fun i => i < W.heap.size) w7 A xs) := by rw [HXS.out]; exact BysIn.agree (BysIn.of_bys (take_bys HA.out.ha 64)) (Agree.of_below HB7.out fun i hi => hi)
            rcases hcs with n2 | ⟨n2, hk0⟩ | ⟨n2, hk0, kb, ko, rfl, hkc⟩
            all_goals
              go_wp2_with fail
              refine (eq04_any (some ⟨gx, 0, none⟩) _ cx _ xs xs w7 HX7.out (HZ7.out.bys (fun i hi => by omega)) (by unfold maxLen; omega) (by unfold maxLen; omega)).mono ?_
              rintro en w8 ⟨rfl, hB8⟩
              rw [show (xs == xs) = true from beq_self_eq_true xs]
              have HB8 := hide (HB7.out.trans (hB8.mono HB7.out.size))
              have HC8 : Hid (Below w6.heap.size w6 w8) := HC7.out.trans (hB8.mono HC7.out.size)
              have HR8 := hide (HR7.out.kept hB8)
              clear hB8
              have HZ8 : Hid (∀ k, k < 64 - xs.length → w8.cell? ⟨gx, xs.length + k, none⟩ = some (.int .u8 0)) := fun k hk => pad_zero HR8.out x64 hk
              rcases (show cx = xs.length ∨ xs.length < cx by omega) with rfl | hcx3
              · go_wp2_with fail
                go_loopw [111] (fun i wr => i = .int .i64 0 ∧ wr = w8) (fun i _ => 0)
                case atStart => exact ⟨rfl, rfl⟩
                case round =>
                  obtain ⟨rfl, rfl⟩ := hrel
                  have hz0 : ¬ 0 < 64 - xs.length := by omega
                  go_wp2_with fail
                  go_roundw
                  case rel => exact ⟨j + 1, by omega, by go_num, HC8⟩
                  case measure => simp [iOf]; omega
              · go_wp2_with fail
                go_loopw [111] (fun i wr => ∃ n : Nat, n ≤ 64 - xs.length ∧ i = .int .i64 n ∧ wr = w8) (fun i _ => 64 - (iOf i).toNat)
                case atStart => exact ⟨0, by omega, rfl, rfl⟩
                case round =>
                  obtain ⟨n, hn, rfl, rfl⟩ := hrel
                  by_cases hn2 : n < 64 - xs.length
                  · have q := HZ8.out n hn2
                    go_wp2_with fail
                    go_roundw
                    case rel => exact ⟨n + 1, by omega, by go_num, trivial⟩
                    case measure => simp [iOf]; omega
                  · obtain rfl : n = 64 - xs.length := by omega
                    go_wp2_with fail
                    go_roundw
                    case rel => exact ⟨j + 1, by omega, by go_num, HC8⟩
                    case measure => simp [iOf]; omega
          · have HZ7 : Hid (BysIn (fun i => i < W.heap.size) w7 B ys) := by rw [HYS.out]; exact BysIn.agree (BysIn.of_bys (take_bys HA.out.hb 64)) (Agree.of_below HB7.out fun i hi => hi)
            go_wp2_with fail
            refine (eq04_any (some ⟨gx, 0, none⟩) _ cx _ ys ys w7 HX7.out (HZ7.out.bys (fun i hi => by omega)) (by unfold maxLen; omega) (by unfold maxLen; omega)).mono ?_
            rintro en w8 ⟨rfl, hB8⟩
            rw [show (ys == ys) = true from beq_self_eq_true ys]
            have HB8 := hide (HB7.out.trans (hB8.mono HB7.out.size))
            have HC8 : Hid (Below w6.heap.size w6 w8) := HC7.out.trans (hB8.mono HC7.out.size)
            have HR8 := hide (HR7.out.kept hB8)
            clear hB8
            have HZ8 : Hid (∀ k, k < 64 - ys.length → w8.cell? ⟨gx, ys.length + k, none⟩ = some (.int .u8 0)) := fun k hk => pad_zero HR8.out y64 hk
            rcases (show cx = ys.length ∨ ys.length < cx by omega) with rfl | hcx3
            · go_wp2_with fail
              go_loopw [111] (fun i wr => i = .int .i64 0 ∧ wr = w8) (fun i _ => 0)
              case atStart => exact ⟨rfl, rfl⟩
              case round =>
                obtain ⟨rfl, rfl⟩ := hrel
                have hz0 : ¬ 0 < 64 - ys.length := by omega
                go_wp2_with fail
                go_roundw
                case rel => exact ⟨j + 1, by omega, by go_num, HC8⟩
                case measure => simp [iOf]; omega
            · go_wp2_with fail
              go_loopw [111] (fun i wr => ∃ n : Nat, n ≤ 64 - ys.length ∧ i = .int .i64 n ∧ wr = w8) (fun i _ => 64 - (iOf i).toNat)
              case atStart => exact ⟨0, by omega, rfl, rfl⟩
              case round =>
                obtain ⟨n, hn, rfl, rfl⟩ := hrel
                by_cases hn2 : n < 64 - ys.length
                · have q := HZ8.out n hn2
                  go_wp2_with fail
                  go_roundw
                  case rel => exact ⟨n + 1, by omega, by go_num, trivial⟩
                  case measure => simp [iOf]; omega
                · obtain rfl : n = 64 - ys.length := by omega
                  go_wp2_with fail
                  go_roundw
                  case rel => exact ⟨j + 1, by omega, by go_num, HC8⟩
                  case measure => simp [iOf]; omega
        · obtain rfl : j = 6 := by omega
          have HBw : Hid (Below W.heap.size W wr) := HB6.out.trans (HBr.out.mono hs6)
          go_wp2_with fail
          refine (awake_any wr).mono ?_
          rintro en w7 ⟨rfl, hB7⟩
          have HC7 := hide (HCr.out.kept hB7)
          have HB7 := hide (HBw.out.trans (hB7.mono HBw.out.size))
          clear hB7
          go_wp2_with fail
          refine (dead_any HC7.out).mono ?_
          rintro en wx ⟨rfl, rfl⟩
          go_wp2_with fail
          refine (dirty_any HC7.out).mono ?_
          rintro en wx ⟨rfl, rfl⟩
          rw [HCL.out, show (dirtyL 6 fun _ => none).length = 0 from rfl]
          go_wp2_with fail
          go_ret
          exact ⟨rfl, HB7.out⟩

set_option maxRecDepth 100000 in
theorem lifted (os : Os) (started : os.Started) (H : Type) (enc : TypeId × Value → H) :
    ReturnsInHanded {} Try.checked os 4 .any (Rows.diskSafeSpec.pre6 enc Try.prog Try.f4 Rows.diskSafeRow.domain false) (Rows.diskSafeSpec.post enc Try.prog Try.f4 false true false false) := by
  refine returnsInHanded_of_change (C := Try.checked) own started (by kernel_rfl) Try.func4
    (ChangeSpec.witness6 (enc := enc) (C := Try.checked) false ⟨#[], #[.agg #[.slice none 0 0, .slice none 0 0, .int .i64 0, .slice none 0 0]], []⟩ 8 (by kernel_rfl) (by kernel_rfl) (by kernel_rfl) (by kernel_rfl)) ?_
  intro W base args ds gs before hval0 hW hcnd _
  have hval : ∀ (j : Nat) t v, Try.f4.params[j]? = some t → args[j]? = some v → Value.okWide Try.prog W .any base t v := hval0
  have hW' := hW
  obtain ⟨p, q, hA0, hV, rfl, hfz, hnd⟩ := hW
  have hA : DataW.TrodAll enc Try.prog W 0 (fun _ => true) true Try.f4.params.toList args.toList ds p := hA0
  rw [Try.params4] at hA hval
  obtain ⟨v0, vs0, d0, ds0, p0, q0, hargs, rfl, rfl, h0, r0⟩ := trodAll_cons hA
  obtain ⟨rfl, rfl, rfl⟩ := trodAll_nil r0
  obtain rfl : args = #[v0] := by cases args; simp_all
  obtain ⟨A0, a0, us0, B0, b0, vs0, z0, K0, k0, ks0, rfl, hS0⟩ := open_safe (hval 0 35 v0 rfl rfl) h0
  refine (walk A0 B0 K0 a0 b0 k0 us0 vs0 ks0 z0 W hS0).mono fun e W' ⟨he, hb⟩ => ?_
  subst he
  exact ⟨_, rfl, post_law hW' rfl hb (by rw [Try.params4]; exact params_ok (by kernel_rfl)) rfl rfl⟩

theorem over : Rows.diskSafeRow.holds Try.pinned (OpenSpec.ofChange Rows.diskSafeSpec) :=
  OpenClaim.holds_of_wide 4 Try.f4 rfl rfl rfl rfl rfl rfl rfl ⟨rfl, rfl, rfl, rfl, rfl⟩ rfl rfl rfl rfl rfl (by kernel_rfl) Try.func4 (by kernel_rfl)
    (of_decide_eq_true (by kernel_rfl)) (by unfold Func.isWrapper; first | (rw [if_pos (by decide +kernel)]; kernel_rfl) | (rw [if_neg (by decide +kernel)]; exact ⟨rfl, rfl⟩))
    (fun os started H enc _ => lifted os started H enc)

theorem proved : Rows.DiskSafeSaid := over
end Go.Proofs.Ytcmchnddnglnfaa.lawSafe
