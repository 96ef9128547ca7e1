/-
  For any up to 30 messages, every reply, the frames and Complete agree with the reference: the law LinkReceiver returns true for every input.
-/
import Derived.Test.YthhelhggggbaiaaBoth
namespace Go.Proofs.Ythhelhggggbaiaa.lawReceiver
open Go.ChangeShapes Go.WideShapes Go.ChangeAt Go.RowKit Go.Proofs.Ythhelhggggbaiaa
set_option linter.unusedVariables false
set_option linter.unusedSimpArgs false

def Yes (w : World) (e : Ending) (w' : World) : Prop := e = .returned (.bool true) ∧ Below w.heap.size w w'
theorem win_ex (x : Int) : ∃ W : Nat, 1 + x.tmod 8 % 8 = (W : Int) ∧ 1 ≤ W ∧ W ≤ 8 := ⟨(1 + x.tmod 8 % 8).toNat, by omega, by omega, by omega⟩
theorem tmod_bd (x : Int) : -8 < x.tmod 8 ∧ x.tmod 8 < 8 := by
  have h1 := Int.tmod_lt_of_pos x (show (0 : Int) < 8 by decide)
  have h2 := Int.lt_tmod_of_pos x (show (0 : Int) < 8 by decide)
  omega
def St (w0 : World) (r t W k : Nat) (w : World) : Prop := ∃ L H g last FR FT, Alike L H W g last ∧ Short H 10 ∧ g ≤ 8 * k ∧ L.length ≤ k ∧ Rcv FR w r W (gots H g) (earlyOf H g) last k ∧ RefR FT w t W L ∧ (∀ i, FR i → ¬ FT i) ∧ (∀ i, FR i → w0.heap.size ≤ i) ∧ (∀ i, FT i → w0.heap.size ≤ i) ∧ Below w0.heap.size w0 w
theorem framesEq_refl {w : World} {A B : Option Addr} {c d : Nat} {fs : List (List UInt8)} (hx : Fr w A fs) (hy : Fr w B fs) (hm : fs.length ≤ 1000000) (hb : ∀ k, k < fs.length → (fs.getD k []).length ≤ 10) :
    Calls Try.prog 23 #[.slice A fs.length c, .slice B fs.length d] w (Yes w) := by
  refine (framesEq_any A B c d fs fs w hx hy hm hm (fun k hk => by have := hb k hk; unfold maxLen; omega) (fun k hk => by have := hb k hk; unfold maxLen; omega)).mono fun e w' h => ?_
  rw [beq_self_eq_true] at h
  exact h

set_option maxHeartbeats 6400000 in
set_option maxRecDepth 100000 in
theorem walk (x : Int) (B : Option Addr) (c2 : Nat) (ms : List Msg) (w : World) (hms : MsIn (fun i => i < w.heap.size) w B ms) (hml : ms.length ≤ maxLen) (hmb : ∀ k, k < ms.length → InR (ms.getD k zeroM).num ∧ (ms.getD k zeroM).data.length ≤ maxLen) :
    Calls Try.prog 5 #[.int .i64 x, .slice B ms.length c2] w (Yes w) := by
  have HMS := hide hms
  have HMB := hide hmb
  obtain ⟨hx1, hx2⟩ := tmod_bd x
  obtain ⟨W, hWe, hW1, hW8⟩ := win_ex x
  have HWE := hide hWe
  unfold maxLen at hml
  clear hms hmb hWe
  go_enter Try.func5, Try.ntmps5
  go_wp2_with fail
  rw [HWE.out]
  refine (newreceiver_ok W w hW1 hW8).mono ?_
  rintro e w1 ⟨r, rfl, hr1, hB1, hR1⟩
  obtain ⟨w2, hw2⟩ : ∃ w2, w2 = w1.alloc (.cells #[.int .i64 (W : Int), .slice none 0 0] 51) := ⟨_, rfl⟩
  have hq2 : Below w1.heap.size w1 w2 := by rw [hw2]; exact (Below.refl _ _).alloc (Nat.le_refl _) _
  have hT2 : RefR (fun i => i = w1.heap.size) w2 w1.heap.size W [] := by rw [hw2]; exact RefR.new w1 W
  have HST : Hid (St w r w1.heap.size W 0 w2) := ⟨[], HA, 0, -1, (fun i => w.heap.size ≤ i ∧ i < w1.heap.size), (fun i => i = w1.heap.size), alike_start W, fun n bs h => (by cases h), Nat.le_refl _, Nat.le_refl _, (by rw [gotsA, earlyA]; exact hR1.kept hq2), hT2, fun i hi (e : i = w1.heap.size) => (by omega), fun i hi => hi.1, fun i (hi : i = w1.heap.size) => (by have := hB1.size; omega), hB1.trans (hq2.mono hB1.size)⟩
  have HW2 := hide hw2
  clear hB1 hR1 hq2 hT2 hw2
  go_wp2_with fail
  go_loopw [8] (fun i wr => ∃ k : Nat, k ≤ 30 ∧ i = .int .i64 k ∧ Hid (St w r w1.heap.size W k wr)) (fun i wr => 30 - (intOf i).toNat)
  case atStart => exact ⟨0, Nat.zero_le _, rfl, by rw [← HW2.out]; exact HST⟩
  case round =>
    clear HST HW2
    obtain ⟨k, hk, rfl, hSt⟩ := hrel
    by_cases hkk : k < ms.length ∧ k < 30
    · obtain ⟨hlt, h30⟩ := hkk
      obtain ⟨L, H, g, last, FR, FT, hA, hsh, hg, hL, hR, hT, hdj, hFR, hFT, hB⟩ := hSt.out
      obtain ⟨xb, xo, Ak, ck, rfl, hxb, hxm⟩ := (HMS.out.agree (Agree.of_below hB (fun i hi => hi))).at_ hlt
      obtain ⟨hxr, hxl⟩ := HMB.out k hlt
      obtain ⟨xk, hxk⟩ : ∃ xk, xk = ms.getD k zeroM := ⟨_, rfl⟩
      rw [← hxk] at hxm hxr hxl
      obtain ⟨y0, y1, y2, y3, hby, hck⟩ := hxm
      obtain ⟨ys, hys⟩ : ∃ ys, ys = xk.data.take 10 := ⟨_, rfl⟩
      have hyl : ys.length = min 10 xk.data.length := by rw [hys, List.length_take]
      have hby10 : BysIn (fun i => i < w.heap.size) wr Ak ys := by rw [hys]; exact bysIn_take hby 10
      obtain ⟨L', H', g', last', ok, rn, hA', hsh', hg', hL', hRC, hTC⟩ := both hA hW8 (by omega) (by omega) k (by omega) hsh xk.ack xk.last xk.num hxr ck ys (by omega)
      have HRC := hide hRC
      have HTC := hide hTC
      have HA' := hide hA'
      have HSH' := hide hsh'
      have HBY := hide hby10
      have HR := hide hR
      have HT := hide hT
      have HDJ := hide hdj
      have HFR := hide hFR
      have HFT := hide hFT
      have HB := hide hB
      have hi0 : (0 : Int) ≤ (k : Int) := by omega
      have hi1 : (k : Int) < (ms.length : Int) := by omega
      unfold maxLen at hxl
      have hwr := hB.size
      obtain ⟨nd, hnd⟩ : ∃ nd, nd = xk.data.length := ⟨_, rfl⟩
      rw [← hnd] at y3 hck hyl hxl
      have HCUT : Hid ((if (10 : Int) < (nd : Int) then (10 : Int) else (nd : Int)) = (ys.length : Int)) := by
        rw [Hid, hyl]
        split <;> omega
      have hyc : ys.length ≤ ck := by omega
      have hyl10 : ys.length ≤ 10 := by omega
      clear hA hR hT hdj hFR hFT hB hby hby10 hRC hTC hA' hsh' hys hxk hSt hnd hyl
      go_upto_region 11 with fail
      rw [HCUT.out, Int.toNat_natCast]
      obtain ⟨v0, hv0⟩ : ∃ v0, v0 = wr.alloc (.cells #[.bool xk.ack, .int .i64 xk.num, .bool xk.last, .slice Ak ys.length ck] 34) := ⟨_, rfl⟩
      have hq0 : Below wr.heap.size wr v0 := by rw [hv0]; exact (Below.refl _ _).alloc (Nat.le_refl _) _
      have HM0 : Hid (Box v0 wr.heap.size 34 #[.bool xk.ack, .int .i64 xk.num, .bool xk.last, .slice Ak ys.length ck]) := by rw [hv0]; exact Box.new _ _ _
      have HR0 := hide (HR.out.kept hq0)
      have HT0 := hide (HT.out.kept hq0)
      have HBY0 := hide (HBY.out.agree (Agree.of_below hq0 (fun i (hi : i < w.heap.size) => by omega)))
      have HB0 : Hid (Below w.heap.size w v0) := HB.out.trans (hq0.mono hwr)
      have hv0s := hq0.size
      rw [← hv0]
      have x0 : v0.cell? ⟨wr.heap.size, 0, none⟩ = some (.bool xk.ack) := HM0.out.cell 0
      have x1 : v0.cell? ⟨wr.heap.size, 1, none⟩ = some (.int .i64 xk.num) := HM0.out.cell 1
      have x2 : v0.cell? ⟨wr.heap.size, 2, none⟩ = some (.bool xk.last) := HM0.out.cell 2
      have x3 : v0.cell? ⟨wr.heap.size, 3, none⟩ = some (.slice Ak ys.length ck) := HM0.out.cell 3
      clear hq0 hv0 y0 y1 y2 y3
      go_wp2_with fail
      refine (HRC.out _ _ _ _ HR0.out (HBY0.out.bys (fun i (hi : i < w.heap.size) => by omega))).mono ?_
      rintro e w3 ⟨rfl, FR', hR3, hF3, hC3⟩
      obtain ⟨v3, hv3⟩ : ∃ v3, v3 = w3.alloc (.cells #[.bool ok, .int .i64 rn, .bool false, .slice none 0 0] 34) := ⟨_, rfl⟩
      have hq3 : Below w3.heap.size w3 v3 := by rw [hv3]; exact (Below.refl _ _).alloc (Nat.le_refl _) _
      have hmF : ¬ FR wr.heap.size := fun h => absurd (HR.out.lt _ h) (Nat.lt_irrefl _)
      have HN3 : Hid (Box v3 w3.heap.size 34 #[.bool ok, .int .i64 rn, .bool false, .slice none 0 0]) := by rw [hv3]; exact Box.new _ _ _
      have HM3 := hide (Box.kept (show Box w3 wr.heap.size 34 #[.bool xk.ack, .int .i64 xk.num, .bool xk.last, .slice Ak ys.length ck] from (hC3.block _ HM0.out.lt hmF).trans HM0.out) hq3)
      have HR3 := hide (hR3.kept hq3)
      have HT3 := hide ((HT0.out.chg hC3 (fun i hi e => HDJ.out i e hi)).kept hq3)
      have HBY3 := hide ((HBY0.out.agree (Agree.of_chg hC3 (fun i (hi : i < w.heap.size) => by omega) (fun i (hi : i < w.heap.size) e => by have := HFR.out i e; omega))).agree (Agree.of_below hq3 (fun i (hi : i < w.heap.size) => by have := hC3.size; omega)))
      have HB3 : Hid (Below w.heap.size w v3) := (HB0.out.trans (hC3.below (fun i hi e => by have := HFR.out i e; omega) (by omega))).trans (hq3.mono (by have := hC3.size; omega))
      have hv3s : v0.heap.size ≤ w3.heap.size := hC3.size
      have hv3t : w3.heap.size ≤ v3.heap.size := hq3.size
      have HFR' : Hid (∀ i, FR' i → FR i ∨ v0.heap.size ≤ i) := hF3
      have HV3 := hide hv3
      clear hR3 hF3 hC3 hq3 hv3 x0 x1 x2 x3
      go_upto_region 12 with fail
      rw [← HV3.out]
      have x0 : v3.cell? ⟨wr.heap.size, 0, none⟩ = some (.bool xk.ack) := HM3.out.cell 0
      have x1 : v3.cell? ⟨wr.heap.size, 1, none⟩ = some (.int .i64 xk.num) := HM3.out.cell 1
      have x2 : v3.cell? ⟨wr.heap.size, 2, none⟩ = some (.bool xk.last) := HM3.out.cell 2
      have x3 : v3.cell? ⟨wr.heap.size, 3, none⟩ = some (.slice Ak ys.length ck) := HM3.out.cell 3
      go_wp2_with fail
      refine (HTC.out _ _ _ _ HT3.out (HBY3.out.bys (fun i (hi : i < w.heap.size) => by omega))).mono ?_
      rintro e w4 ⟨rfl, FT', hT4, hF4, hC4⟩
      obtain ⟨v4, hv4⟩ : ∃ v4, v4 = w4.alloc (.cells #[.bool ok, .int .i64 rn, .bool false, .slice none 0 0] 34) := ⟨_, rfl⟩
      have hq4 : Below w4.heap.size w4 v4 := by rw [hv4]; exact (Below.refl _ _).alloc (Nat.le_refl _) _
      have HP4 : Hid (Box v4 w4.heap.size 34 #[.bool ok, .int .i64 rn, .bool false, .slice none 0 0]) := by rw [hv4]; exact Box.new _ _ _
      have hnF : ¬ FT w3.heap.size := fun h => by have := HT.out.lt _ h; omega
      have HN4 := hide (Box.kept (show Box w4 w3.heap.size 34 #[.bool ok, .int .i64 rn, .bool false, .slice none 0 0] from (hC4.block _ HN3.out.lt hnF).trans HN3.out) hq4)
      have HDJ' : Hid (∀ i, FR' i → ¬ FT i) := fun i hi e => by
        rcases HFR'.out i hi with h | h
        · exact HDJ.out i h e
        · have := HT.out.lt i e; omega
      have HR4 := hide ((HR3.out.chg hC4 (fun i hi e => HDJ'.out i hi e)).kept hq4)
      have HT4 := hide (hT4.kept hq4)
      have HB4 : Hid (Below w.heap.size w v4) := (HB3.out.trans (hC4.below (fun i hi e => by have := HFT.out i e; omega) (by omega))).trans (hq4.mono (by have := hC4.size; omega))
      have hv4s : v3.heap.size ≤ w4.heap.size := hC4.size
      have HFT' : Hid (∀ i, FT' i → FT i ∨ v3.heap.size ≤ i) := hF4
      have HFRl := hide (fun i (hi : FR' i) => HR3.out.lt i hi)
      have HV4 := hide hv4
      clear hT4 hF4 hC4 hq4 hv4 x0 x1 x2 x3
      have tok : (!ok == ok) = false := by cases ok <;> rfl
      go_upto_region 13 with fail
      rw [← HV4.out]
      have p0 : v4.cell? ⟨w4.heap.size, 0, none⟩ = some (.bool ok) := HP4.out.cell 0
      have p1 : v4.cell? ⟨w4.heap.size, 1, none⟩ = some (.int .i64 rn) := HP4.out.cell 1
      have p2 : v4.cell? ⟨w4.heap.size, 2, none⟩ = some (.bool false) := HP4.out.cell 2
      have p3 : v4.cell? ⟨w4.heap.size, 3, none⟩ = some (.slice none 0 0) := HP4.out.cell 3
      have n0 : v4.cell? ⟨w3.heap.size, 0, none⟩ = some (.bool ok) := HN4.out.cell 0
      have n1 : v4.cell? ⟨w3.heap.size, 1, none⟩ = some (.int .i64 rn) := HN4.out.cell 1
      have n2 : v4.cell? ⟨w3.heap.size, 2, none⟩ = some (.bool false) := HN4.out.cell 2
      have n3 : v4.cell? ⟨w3.heap.size, 3, none⟩ = some (.slice none 0 0) := HN4.out.cell 3
      go_wp2_with fail
      refine (msgEq_same ⟨ok, rn, false, []⟩ (A := none) (B := none) (c := 0) (d := 0) (fun h => absurd h (by simp)) (fun h => absurd h (by simp)) (Nat.zero_le _)).mono ?_
      rintro e w5 ⟨rfl, hB5⟩
      have HR5 := hide (HR4.out.kept hB5)
      have HT5 := hide (HT4.out.kept hB5)
      have HB5 : Hid (Below w.heap.size w w5) := HB4.out.trans (hB5.mono HB4.out.size)
      clear hB5 p0 p1 p2 p3 n0 n1 n2 n3
      go_wp2_with fail
      have HG := HA'.out
      have hgl : g' ≤ 100000 := by omega
      have hLl : L'.length ≤ 100000 := by omega
      have H1 : Hid (∀ k : Nat, k < g' → (hasL L' (k : Int)).isSome = true) := fun k hk => by rw [HG.hasIs]; exact HG.got k hk
      have H2 : Hid (hasL L' (g' : Int) = none) := by
        have h := HG.hasIs g'
        rw [HG.next] at h
        rcases hq : hasL L' (g' : Int) with _ | x
        · rfl
        · rw [hq] at h; cases h
      have HNB : Hid (∀ k, k < L'.length → -1000000 ≤ (L'.getD k zeroM).num ∧ (L'.getD k zeroM).num ≤ 1000000) := fun k hk => by
        have h1 := HG.nonneg k hk
        have h2 := HG.numBd hk
        omega
      have HGL : Hid ((gots H' g').length = g') := gots_length H' g'
      have HGS : Hid (∀ k, k < (gots H' g').length → ((gots H' g').getD k []).length ≤ 10) := gots_short HSH'.out
      have HHL : Hid (HL L' = H') := alike_HL HG
      clear HG
      refine (rframes_any HR5.out (by rw [HGL.out]; exact hgl) (fun k hk => Nat.le_trans (HGS.out k hk) (by decide))).mono ?_
      rintro e w6 ⟨v6, r6, c6, rfl, hO6, hB6⟩
      obtain ⟨A6, c6', rfl, _, hf6⟩ := hO6.frIn
      have HF6 : Hid (FrIn (fun i => i < w6.heap.size) w6 A6 (gots H' g')) := hf6.mono fun i hi => hi.2
      have HR6 := hide (HR5.out.kept hB6)
      have HT6 := hide (HT5.out.kept hB6)
      have HB6 : Hid (Below w.heap.size w w6) := HB5.out.trans (hB6.mono HB5.out.size)
      clear hO6 hf6 hB6 r6 c6
      go_wp2_with fail
      refine (refframes_any HT6.out hLl g' hgl H1.out H2.out).mono ?_
      rintro e w7 ⟨A7, c7, rfl, hf7, hB7⟩
      rw [HHL.out] at hf7
      rw [HHL.out]
      have HF7 := hide hf7
      have HF7' := hide (HF6.out.agree (Agree.of_below hB7 (fun i hi => hi)))
      have HR7 := hide (HR6.out.kept hB7)
      have HT7 := hide (HT6.out.kept hB7)
      have HB7 : Hid (Below w.heap.size w w7) := HB6.out.trans (hB7.mono HB6.out.size)
      have hw67 := hB7.size
      clear hf7 hB7
      go_wp2_with fail
      refine (framesEq_refl (HF7'.out.fr (fun i (hi : i < w6.heap.size) => by omega)) (HF7.out.fr (fun i hi => hi)) (by rw [HGL.out]; omega) HGS.out).mono ?_
      rintro e w8 ⟨rfl, hB8⟩
      have HR8 := hide (HR7.out.kept hB8)
      have HT8 := hide (HT7.out.kept hB8)
      have HB8 : Hid (Below w.heap.size w w8) := HB7.out.trans (hB8.mono HB7.out.size)
      clear hB8
      go_wp2_with fail
      refine (complete_any HR8.out (by rw [HGL.out]; exact hgl)).mono ?_
      rintro e w9 ⟨rfl, nq, rfl⟩
      have hq9 : Below w8.heap.size w8 (w8.drewN nq) := below_drew (Below.refl _ _) nq
      obtain ⟨w9, hw9⟩ : ∃ w9, w9 = w8.drewN nq := ⟨_, rfl⟩
      rw [← hw9] at hq9
      rw [← hw9]
      have HR9 := hide (HR8.out.kept hq9)
      have HT9 := hide (HT8.out.kept hq9)
      have HB9 : Hid (Below w.heap.size w w9) := HB8.out.trans (hq9.mono HB8.out.size)
      clear hq9 hw9
      obtain ⟨b, hb⟩ : ∃ b, b = (decide (0 ≤ last') && decide (last' < (((gots H' g').length : Nat) : Int))) := ⟨_, rfl⟩
      have HCB : Hid (compB L' g' = b) := by rw [hb, HGL.out]; exact HA'.out.comp
      rw [← hb]
      clear hb
      go_wp2_with fail
      refine (refcomplete_any HT9.out hLl HNB.out g' hgl H1.out H2.out).mono ?_
      rintro e wA ⟨rfl, hBA⟩
      rw [HCB.out]
      have HRA := hide (HR9.out.kept hBA)
      have HTA := hide (HT9.out.kept hBA)
      have HBA : Hid (Below w.heap.size w wA) := HB9.out.trans (hBA.mono HB9.out.size)
      clear hBA
      have tb : (!b == b) = false := by cases b <;> rfl
      go_wp2_with fail
      go_roundw
      case rel =>
        refine ⟨k + 1, by omega, by go_num, L', H', g', last', FR', FT', HA'.out, HSH'.out, by omega, by omega, HRA.out, HTA.out, fun i hi e => ?_, fun i hi => ?_, fun i hi => ?_, HBA.out⟩
        · rcases HFT'.out i e with h | h
          · exact HDJ'.out i hi h
          · have := HFRl.out i hi; omega
        · rcases HFR'.out i hi with h | h
          · exact HFR.out i h
          · omega
        · rcases HFT'.out i hi with h | h
          · exact HFT.out i h
          · omega
      case measure => simp [intOf]; omega
    · obtain ⟨_, _, _, _, _, _, _, _, _, _, _, _, _, _, _, hB⟩ := hSt.out
      have HB := hide hB
      clear hB
      rcases (show ¬ k < ms.length ∨ (k < ms.length ∧ ¬ k < 30) by omega) with h1 | ⟨h1, h2⟩
      · have t1 : decide ((k : Int) < (ms.length : Int)) = false := decide_eq_false (by omega)
        go_wp2_with fail
        refine (awake_any _).mono ?_
        rintro e w9 ⟨rfl, hB9⟩
        have HL9 := hide (HB.out.trans (hB9.mono HB.out.size))
        clear hB9
        go_wp2_with fail
        go_ret
        exact ⟨rfl, HL9.out⟩
      · have t2 : decide ((k : Int) < 30) = false := decide_eq_false (by omega)
        go_wp2_with fail
        refine (awake_any _).mono ?_
        rintro e w9 ⟨rfl, hB9⟩
        have HL9 := hide (HB.out.trans (hB9.mono HB.out.size))
        clear hB9
        go_wp2_with fail
        go_ret
        exact ⟨rfl, HL9.out⟩

set_option maxRecDepth 100000 in
theorem lifted (os : Os) (started : os.Started) (H : Type) (enc : TypeId × Value → H) :
    ReturnsInHanded {} Try.checked os 5 .any (Rows.linkReceiverSpec.pre6 enc Try.prog Try.f5 Rows.linkReceiverRow.domain false) (Rows.linkReceiverSpec.post enc Try.prog Try.f5 false true false false) := by
  refine returnsInHanded_of_change (C := Try.checked) own started (by kernel_rfl) Try.func5
    (ChangeSpec.witness6 (enc := enc) (C := Try.checked) false ⟨#[], #[.int .i64 0, .slice none 0 0], []⟩ 8 (by kernel_rfl) (by kernel_rfl) (by kernel_rfl) (by kernel_rfl)) ?_
  intro W base args ds gs before hval0 hW hcnd _
  have hval : ∀ (j : Nat) t v, Try.f5.params[j]? = some t → args[j]? = some v → Value.okWide Try.prog W .any base t v := hval0
  have hW' := hW
  obtain ⟨p, q, hA0, hV, rfl, hfz, hnd⟩ := hW
  have hA : DataW.TrodAll enc Try.prog W 0 (fun _ => true) true Try.f5.params.toList args.toList ds p := hA0
  rw [Try.params5] at hA hval
  obtain ⟨v0, vs0, d0, ds0, p0, q0, hargs, rfl, rfl, h0, r0⟩ := trodAll_cons hA
  obtain ⟨v1, vs1, d1, ds1, p1, q1, rfl, rfl, rfl, h1, r1⟩ := trodAll_cons r0
  obtain ⟨rfl, rfl, rfl⟩ := trodAll_nil r1
  obtain rfl : args = #[v0, v1] := by cases args; simp_all
  obtain ⟨a0, rfl, _, _, w0⟩ := open_int Try.underlying3 (hval 0 3 v0 rfl rfl) h0
  obtain ⟨A1, c1, ms1, rfl, hf1, hm1, hl1⟩ := open_msgs (hval 1 23 v1 rfl rfl) h1
  refine (walk a0 A1 c1 ms1 W hf1 hm1 hl1).mono fun e W' ⟨he, hb⟩ => ?_
  subst he
  exact ⟨_, rfl, post_law hW' rfl hb (by rw [Try.params5]; exact params_ok (by kernel_rfl)) rfl rfl⟩

theorem over : Rows.linkReceiverRow.holds Try.pinned (OpenSpec.ofChange Rows.linkReceiverSpec) :=
  OpenClaim.holds_of_wide 5 Try.f5 rfl rfl rfl rfl rfl rfl rfl ⟨rfl, rfl, rfl, rfl, rfl⟩ rfl rfl rfl rfl rfl (by kernel_rfl) Try.func5 (by kernel_rfl)
    (of_decide_eq_true (by kernel_rfl)) (by unfold Func.isWrapper; first | (rw [if_pos (by decide +kernel)]; kernel_rfl) | (rw [if_neg (by decide +kernel)]; exact ⟨rfl, rfl⟩))
    (fun os started H enc _ => lifted os started H enc)

theorem proved : Rows.LinkReceiverSaid := over
end Go.Proofs.Ythhelhggggbaiaa.lawReceiver
