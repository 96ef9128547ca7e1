/-
  In any sequence of up to 40 calls of Next and Receive, every message and Done agree with the reference: the law LinkSender returns true for every input.
-/
import Derived.Test.YthhelhggggbaiaaNextAny
import Derived.Deep.DeepCutAuto
namespace Go.Proofs.Ythhelhggggbaiaa.lawSender
open Go.ChangeShapes Go.WideShapes Go.ChangeAt Go.RowKit Go.Proofs.Ythhelhggggbaiaa
set_option linter.unusedVariables false
set_option linter.unusedSimpArgs false

def Yes (w : World) (e : Ending) (w' : World) : Prop := e = .returned (.bool true) ∧ Below w.heap.size w w'
theorem win_ex (x : Int) : ∃ W : Nat, 1 + (x.tmod 8 + 8) % 8 = (W : Int) ∧ 1 ≤ W ∧ W ≤ 8 := ⟨(1 + (x.tmod 8 + 8) % 8).toNat, by omega, by omega, by omega⟩
theorem tmod_bd (x : Int) : -8 < x.tmod 8 ∧ x.tmod 8 < 8 := by
  have h1 := Int.tmod_lt_of_pos x (show (0 : Int) < 8 by decide)
  have h2 := Int.lt_tmod_of_pos x (show (0 : Int) < 8 by decide)
  omega

set_option maxHeartbeats 6400000 in
set_option maxRecDepth 100000 in
theorem walk (A : Option Addr) (c : Nat) (fs0 : List (List UInt8)) (x : Int) (B : Option Addr) (c2 : Nat) (ms : List Msg) (w : World) (hf : Fr w A fs0) (hm : fs0.length ≤ maxLen) (hfm : ∀ k, k < fs0.length → (fs0.getD k []).length ≤ maxLen) (hc : fs0.length ≤ c) (hms : MsIn (fun i => i < w.heap.size) w B ms) (hml : ms.length ≤ maxLen) (hmb : ∀ k, k < ms.length → InR (ms.getD k zeroM).num ∧ (ms.getD k zeroM).data.length ≤ maxLen) :
    Calls Try.prog 3 #[.slice A fs0.length c, .int .i64 x, .slice B ms.length c2] w (Yes w) := by
  have HC := hide (cut_any A c fs0 w hf hm hfm hc)
  have HMS := hide hms
  have HMB := hide hmb
  obtain ⟨hx1, hx2⟩ := tmod_bd x
  obtain ⟨W, hWe, hW1, hW8⟩ := win_ex x
  obtain ⟨hb1, hb8, hbd⟩ := cutFs_bd fs0
  have HWE : Hid (1 + x.tmod 8 % 8 = (W : Int)) := by rw [Hid, ← hWe]; omega
  generalize hfs : cutFs fs0 = fs at *
  have HBD := hide hbd
  unfold maxLen at hm hml
  clear hf hfm hc hms hmb hWe hfs hbd
  go_enter Try.func3, Try.ntmps3
  go_wp2_with fail
  refine HC.out.mono ?_
  rintro e w1 ⟨A1, c1, rfl, hfr1, hc1, hB1⟩
  have HFR1 := hide hfr1
  have HB1 := hide hB1
  clear hfr1 hB1
  go_wp2_with fail
  rw [HWE.out]
  refine (newsender_ok A1 c1 fs W w1 (HFR1.out.fr (fun i hi => hi)) hb1 (by omega) (fun k hk => by have := HBD.out k hk; omega) hW1 hW8).mono ?_
  rintro e w2 ⟨s, rfl, hs1, hB2, hS2⟩
  obtain ⟨w3, hw3⟩ : ∃ w3, w3 = w2.alloc (.cells #[.slice A1 fs.length c1, .int .i64 (W : Int), .int .i64 0, .int .i64 0] 31) := ⟨_, rfl⟩
  have hq3 : Below w2.heap.size w2 w3 := by rw [hw3]; exact (Below.refl _ _).alloc (Nat.le_refl _) _
  have hs2 := hS2.here
  have hn1 := HB1.out.size
  have hn2 := hB2.size
  have hn3 : w2.heap.size < w3.heap.size := by rw [hw3]; simp
  have HS3 := hide (hS2.kept hq3)
  have HT3 : Hid (Snd 31 (fun i => i < w1.heap.size ∨ i = w2.heap.size) w3 w2.heap.size fs W 0 0) := ⟨⟨A1, c1, hc1, by rw [hw3]; exact Box.new _ _ _, ((HFR1.out.agree (Agree.of_below hB2 (fun i hi => hi))).agree (Agree.of_below hq3 (fun i (hi : i < w1.heap.size) => by omega))).mono fun i (hi : i < w1.heap.size) => ⟨.inl hi, by omega⟩⟩, .inr rfl, fun i hi => by rcases hi with hi | hi <;> omega⟩
  have HB3 : Hid (Below w.heap.size w w3) := (HB1.out.trans (hB2.mono hn1)).trans (hq3.mono (by omega))
  have HW3 := hide hw3
  clear hB2 hS2 hq3 hw3
  go_wp2_with fail
  go_loopw [10] (fun i wr => ∃ k : Nat, k ≤ 40 ∧ i = .int .i64 k ∧ ∃ base nxt : Nat, Hid (base ≤ fs.length ∧ nxt ≤ fs.length) ∧ Hid (Snd 64 (fun i => w1.heap.size ≤ i ∧ i < w2.heap.size) wr s fs W base nxt) ∧ Hid (Snd 31 (fun i => i < w1.heap.size ∨ i = w2.heap.size) wr w2.heap.size fs W base nxt) ∧ Hid (Below w.heap.size w wr)) (fun i wr => 40 - (intOf i).toNat)
  case atStart => exact ⟨0, Nat.zero_le _, rfl, 0, 0, ⟨Nat.zero_le _, Nat.zero_le _⟩, by rw [← HW3.out]; exact HS3, by rw [← HW3.out]; exact HT3, by rw [← HW3.out]; exact HB3⟩
  case round =>
    clear HS3 HT3 HB3 HW3
    obtain ⟨k, hk, rfl, base, nxt, hbn, hS, hT, hB⟩ := hrel
    by_cases hkk : k < ms.length ∧ k < 40
    · obtain ⟨hlt, h40⟩ := hkk
      have hS' := hide (next_any hS.out hbn.out.1 (by omega) hW8 (by have := hbn.out.2; omega) (fun k hk => by have := HBD.out k hk; omega))
      obtain ⟨mm, hmm⟩ : ∃ mm, mm = nextMsg fs W base nxt := ⟨_, rfl⟩
      obtain ⟨ok, hok⟩ : ∃ ok, ok = decide (base ≠ fs.length) := ⟨_, rfl⟩
      rw [← hmm, ← hok] at hS'
      have HMM := hide hmm
      have HOK := hide hok
      clear hmm hok
      have hmmd : mm.data.length ≤ maxLen := by
        rw [HMM.out, nextMsg]
        unfold maxLen
        split
        · simp [zeroM]
        · have hal : nextAt fs.length W base nxt < fs.length := nextAt_lt (by have := hbn.out.1; omega)
          have := HBD.out _ hal
          show (fs.getD (nextAt fs.length W base nxt) []).length ≤ _
          omega
      go_wp2_with fail
      refine hS'.out.mono ?_
      rintro e w4 ⟨D, d, rfl, hby4, hd4, hC4, hS4⟩
      obtain ⟨nn, hnn⟩ : ∃ nn, nn = nextNxt fs W base nxt := ⟨_, rfl⟩
      rw [← hnn] at hS4
      have hnl : nn ≤ fs.length := by rw [hnn]; exact nextNxt_le hbn.out.1 hbn.out.2
      obtain ⟨v4, hv4⟩ : ∃ v4, v4 = w4.alloc (.cells #[.bool mm.ack, .int .i64 mm.num, .bool mm.last, .slice D mm.data.length d] 34) := ⟨_, rfl⟩
      have hq4 : Below w4.heap.size w4 v4 := by rw [hv4]; exact (Below.refl _ _).alloc (Nat.le_refl _) _
      have HM4 : Hid (Box v4 w4.heap.size 34 #[.bool mm.ack, .int .i64 mm.num, .bool mm.last, .slice D mm.data.length d]) := by rw [hv4]; exact Box.new _ _ _
      have HS4 := hide (hS4.kept hq4)
      have HT4 := hide ((hT.out.chg hC4 (fun i hi e => by omega)).kept hq4)
      have hwr2 := hT.out.here
      have HBY4 := hide (hby4.agree (Agree.of_below hq4 (fun i hi => hi.2)))
      have HB4 : Hid (Below w.heap.size w v4) := (hB.out.trans (hC4.below (fun i hi e => by omega) hB.out.size)).trans (hq4.mono (by have := hC4.size; have := hB.out.size; omega))
      have hm4 : w2.heap.size < w4.heap.size := by have := hC4.size; have := hT.out.here; omega
      have hm4' : w4.heap.size < v4.heap.size := by rw [hv4]; simp
      have HV4 := hide hv4
      have HNN := hide hnn
      have HT4' := hide (refnext_any HT4.out hbn.out.1 (by omega) hW8 (by have := hbn.out.2; omega) (fun k hk => by have := HBD.out k hk; omega))
      rw [← HMM.out, ← HOK.out] at HT4'
      clear hby4 hC4 hS4 hq4 hv4 hnn
      go_wp2_with fail
      rw [← HV4.out]
      refine HT4'.out.mono ?_
      rintro e w5 ⟨D5, d5, rfl, hby5, hd5, hC5, hT5⟩
      rw [← HNN.out] at hT5
      obtain ⟨v5, hv5⟩ : ∃ v5, v5 = w5.alloc (.cells #[.bool mm.ack, .int .i64 mm.num, .bool mm.last, .slice D5 mm.data.length d5] 34) := ⟨_, rfl⟩
      have hq5 : Below w5.heap.size w5 v5 := by rw [hv5]; exact (Below.refl _ _).alloc (Nat.le_refl _) _
      have HM5 : Hid (Box v5 w5.heap.size 34 #[.bool mm.ack, .int .i64 mm.num, .bool mm.last, .slice D5 mm.data.length d5]) := by rw [hv5]; exact Box.new _ _ _
      have HN5 := hide (Box.kept (show Box w5 w4.heap.size 34 #[.bool mm.ack, .int .i64 mm.num, .bool mm.last, .slice D mm.data.length d] from (hC5.block _ HM4.out.lt (by omega)).trans HM4.out) hq5)
      have HS5 := hide ((HS4.out.chg hC5 (fun i hi e => by omega)).kept hq5)
      have HT5 := hide (hT5.kept hq5)
      have HBY5 := hide ((hby5.bys (fun i hi => hi.2)).below hq5)
      have HBZ5 := hide ((HBY4.out.agree (Agree.of_chg hC5 (fun i hi => by omega) (fun i hi e => by omega))).agree (Agree.of_below hq5 (fun i hi => by have := hC5.size; omega)))
      have HB5 : Hid (Below w.heap.size w v5) := (HB4.out.trans (hC5.below (fun i hi e => by omega) HB4.out.size)).trans (hq5.mono (by have := hC5.size; have := HB4.out.size; omega))
      have hm5 : v4.heap.size ≤ w5.heap.size := hC5.size
      have hm5' : w5.heap.size < v5.heap.size := by rw [hv5]; simp
      have HV5 := hide hv5
      have tok : (ok != ok) = false := by simp
      clear hby5 hC5 hT5 hq5 hv5
      go_upto_region 11 with fail
      rw [← HV5.out]
      have m0 : v5.cell? ⟨w5.heap.size, 0, none⟩ = some (.bool mm.ack) := HM5.out.cell 0
      have m1 : v5.cell? ⟨w5.heap.size, 1, none⟩ = some (.int .i64 mm.num) := HM5.out.cell 1
      have m2 : v5.cell? ⟨w5.heap.size, 2, none⟩ = some (.bool mm.last) := HM5.out.cell 2
      have m3 : v5.cell? ⟨w5.heap.size, 3, none⟩ = some (.slice D5 mm.data.length d5) := HM5.out.cell 3
      have n0 : v5.cell? ⟨w4.heap.size, 0, none⟩ = some (.bool mm.ack) := HN5.out.cell 0
      have n1 : v5.cell? ⟨w4.heap.size, 1, none⟩ = some (.int .i64 mm.num) := HN5.out.cell 1
      have n2 : v5.cell? ⟨w4.heap.size, 2, none⟩ = some (.bool mm.last) := HN5.out.cell 2
      have n3 : v5.cell? ⟨w4.heap.size, 3, none⟩ = some (.slice D mm.data.length d) := HN5.out.cell 3
      go_wp2_with fail
      refine (msgEq_same mm (HBZ5.out.bys (fun i hi => by omega)) HBY5.out hmmd).mono ?_
      rintro e w6 ⟨rfl, hB6⟩
      have HS6 := hide (HS5.out.kept hB6)
      have HT6 := hide (HT5.out.kept hB6)
      have HB6 : Hid (Below w.heap.size w w6) := HB5.out.trans (hB6.mono HB5.out.size)
      have hm6 := hB6.size
      obtain ⟨xb, xo, Ak, ck, rfl, hxb, hxm⟩ := (HMS.out.agree (Agree.of_below HB6.out (fun i hi => hi))).at_ hlt
      obtain ⟨xk, hxk⟩ : ∃ xk, xk = ms.getD k zeroM := ⟨_, rfl⟩
      rw [← hxk] at hxm
      obtain ⟨y0, y1, y2, y3, _, _⟩ := hxm
      have hi0 : (0 : Int) ≤ (k : Int) := by omega
      have hi1 : (k : Int) < (ms.length : Int) := by omega
      clear hB6 m0 m1 m2 m3 n0 n1 n2 n3 hxk
      go_wp2_with fail
      obtain ⟨v6, hv6⟩ : ∃ v6, v6 = w6.alloc (.cells #[.bool xk.ack, .int .i64 xk.num, .bool xk.last, .slice none 0 0] 34) := ⟨_, rfl⟩
      have hq6 : Below w6.heap.size w6 v6 := by rw [hv6]; exact (Below.refl _ _).alloc (Nat.le_refl _) _
      have HM6 : Hid (Box v6 w6.heap.size 34 #[.bool xk.ack, .int .i64 xk.num, .bool xk.last, .slice none 0 0]) := by rw [hv6]; exact Box.new _ _ _
      have HS6' := hide (HS6.out.kept hq6)
      have HT6' := hide (HT6.out.kept hq6)
      have HL6 : Hid (Below w.heap.size w v6) := HB6.out.trans (hq6.mono HB6.out.size)
      have hm6' := hq6.size
      rw [← hv6]
      clear hq6 hv6 y0 y1 y2 y3
      refine (s_recv HS6'.out (by omega) xk.ack xk.last xk.num none 0 0).mono ?_
      rintro e w7 ⟨rfl, hC7, hS7⟩
      obtain ⟨bb, hbb⟩ : ∃ bb, bb = newBase fs.length base xk.ack xk.num := ⟨_, rfl⟩
      have hbl : bb ≤ fs.length := by rw [hbb]; exact newBase_le hbn.out.1
      rw [← hbb] at hS7
      have HS7 := hide hS7
      have HT7 := hide (HT6'.out.chg hC7 (fun i hi e => by omega))
      have HM7 : Hid (Box w7 w6.heap.size 34 #[.bool xk.ack, .int .i64 xk.num, .bool xk.last, .slice none 0 0]) := (hC7.block _ HM6.out.lt (by omega)).trans HM6.out
      have HL7 : Hid (Below w.heap.size w w7) := HL6.out.trans (hC7.below (fun i hi e => by omega) HL6.out.size)
      have hm7 := hC7.size
      have HBB := hide hbb
      have m0 : w7.cell? ⟨w6.heap.size, 0, none⟩ = some (.bool xk.ack) := HM7.out.cell 0
      have m1 : w7.cell? ⟨w6.heap.size, 1, none⟩ = some (.int .i64 xk.num) := HM7.out.cell 1
      have m2 : w7.cell? ⟨w6.heap.size, 2, none⟩ = some (.bool xk.last) := HM7.out.cell 2
      have m3 : w7.cell? ⟨w6.heap.size, 3, none⟩ = some (.slice none 0 0) := HM7.out.cell 3
      clear hC7 hS7 hbb
      go_wp2_with fail
      refine (ref_recv HT7.out (by omega) xk.ack xk.last xk.num none 0 0).mono ?_
      rintro e w8 ⟨rfl, hC8, hT8⟩
      rw [← HBB.out] at hT8
      have HT8 := hide hT8
      have HS8 := hide (HS7.out.chg hC8 (fun i hi e => by omega))
      have HL8 : Hid (Below w.heap.size w w8) := HL7.out.trans (hC8.below (fun i hi e => by omega) HL7.out.size)
      obtain ⟨_, _, _, _, _, t2, _⟩ := HT8.out.cells
      clear hC8 hT8 m0 m1 m2 m3
      have HDN := hide (fun nq => done_any (HS8.out.kept (below_drew (Below.refl _ _) nq)) hbl (by omega))
      have tdn : (!decide (bb = fs.length) == ((bb : Int) == (fs.length : Int))) = false := by
        have e : decide (bb = fs.length) = ((bb : Int) == (fs.length : Int)) := by
          rw [Bool.eq_iff_iff, decide_eq_true_eq, beq_iff_eq]
          omega
        rw [e]
        cases ((bb : Int) == (fs.length : Int)) <;> rfl
      go_upto_region 17 with fail
      go_quiet ((go_at_call 17; exact Calls.quiet_of (HDN.out _)))
      go_wp2_with fail
      go_roundw
      case rel => exact ⟨k + 1, by omega, by go_num, bb, nn, ⟨hbl, hnl⟩, HS8.out.kept (below_drew (Below.refl _ _) _), HT8.out.kept (below_drew (Below.refl _ _) _), below_drew HL8.out _⟩
      case measure => simp [intOf]; omega
    · rcases (show ¬ k < ms.length ∨ (k < ms.length ∧ ¬ k < 40) by omega) with h1 | ⟨h1, h2⟩
      · have t1 : decide ((k : Int) < (ms.length : Int)) = false := decide_eq_false (by omega)
        go_wp2_with fail
        refine (awake_any _).mono ?_
        rintro e w9 ⟨rfl, hB9⟩
        have HL9 := hide (hB.out.trans (hB9.mono hB.out.size))
        clear hB9
        go_wp2_with fail
        go_ret
        exact ⟨rfl, HL9.out⟩
      · have t2 : decide ((k : Int) < 40) = false := decide_eq_false (by omega)
        go_wp2_with fail
        refine (awake_any _).mono ?_
        rintro e w9 ⟨rfl, hB9⟩
        have HL9 := hide (hB.out.trans (hB9.mono hB.out.size))
        clear hB9
        go_wp2_with fail
        go_ret
        exact ⟨rfl, HL9.out⟩

set_option maxRecDepth 100000 in
theorem lifted (os : Os) (started : os.Started) (H : Type) (enc : TypeId × Value → H) :
    ReturnsInHanded {} Try.checked os 3 .any (Rows.linkSenderSpec.pre6 enc Try.prog Try.f3 Rows.linkSenderRow.domain false) (Rows.linkSenderSpec.post enc Try.prog Try.f3 false true false false) := by
  refine returnsInHanded_of_change (C := Try.checked) own started (by kernel_rfl) Try.func3
    (ChangeSpec.witness6 (enc := enc) (C := Try.checked) false ⟨#[], #[.slice none 0 0, .int .i64 0, .slice none 0 0], []⟩ 8 (by kernel_rfl) (by kernel_rfl) (by kernel_rfl) (by kernel_rfl)) ?_
  intro W base args ds gs before hval0 hW hcnd _
  have hval : ∀ (j : Nat) t v, Try.f3.params[j]? = some t → args[j]? = some v → Value.okWide Try.prog W .any base t v := hval0
  have hW' := hW
  obtain ⟨p, q, hA0, hV, rfl, hfz, hnd⟩ := hW
  have hA : DataW.TrodAll enc Try.prog W 0 (fun _ => true) true Try.f3.params.toList args.toList ds p := hA0
  rw [Try.params3] at hA hval
  obtain ⟨v0, vs0, d0, ds0, p0, q0, hargs, rfl, rfl, h0, r0⟩ := trodAll_cons hA
  obtain ⟨v1, vs1, d1, ds1, p1, q1, rfl, rfl, rfl, h1, r1⟩ := trodAll_cons r0
  obtain ⟨v2, vs2, d2, ds2, p2, q2, rfl, rfl, rfl, h2, r2⟩ := trodAll_cons r1
  obtain ⟨rfl, rfl, rfl⟩ := trodAll_nil r2
  obtain rfl : args = #[v0, v1, v2] := by cases args; simp_all
  obtain ⟨A0, c0, fs0, rfl, hf0, hm0, hl0, hcp0⟩ := open_frames (hval 0 22 v0 rfl rfl) h0
  obtain ⟨a1, rfl, _, _, w1⟩ := open_int Try.underlying3 (hval 1 3 v1 rfl rfl) h1
  obtain ⟨A2, c2, ms2, rfl, hf2, hm2, hl2⟩ := open_msgs (hval 2 23 v2 rfl rfl) h2
  refine (walk A0 c0 fs0 a1 A2 c2 ms2 W hf0 hm0 hl0 hcp0 hf2 hm2 hl2).mono fun e W' ⟨he, hb⟩ => ?_
  subst he
  exact ⟨_, rfl, post_law hW' rfl hb (by rw [Try.params3]; exact params_ok (by kernel_rfl)) rfl rfl⟩

theorem over : Rows.linkSenderRow.holds Try.pinned (OpenSpec.ofChange Rows.linkSenderSpec) :=
  OpenClaim.holds_of_wide 3 Try.f3 rfl rfl rfl rfl rfl rfl rfl ⟨rfl, rfl, rfl, rfl, rfl⟩ rfl rfl rfl rfl rfl (by kernel_rfl) Try.func3 (by kernel_rfl)
    (of_decide_eq_true (by kernel_rfl)) (by unfold Func.isWrapper; first | (rw [if_pos (by decide +kernel)]; kernel_rfl) | (rw [if_neg (by decide +kernel)]; exact ⟨rfl, rfl⟩))
    (fun os started H enc _ => lifted os started H enc)

theorem proved : Rows.LinkSenderSaid := over
end Go.Proofs.Ythhelhggggbaiaa.lawSender
