/-
  If from then on no message is lost, the sender ends: the law LinkEnds returns true for every input.
-/
import Derived.Test.YthhelhggggbaiaaEnds
namespace Go.Proofs.Ythhelhggggbaiaa.lawEnds
open Go.ChangeShapes Go.WideShapes Go.ChangeAt Go.RowKit Go.Proofs.Ythhelhggggbaiaa
set_option linter.unusedVariables false
set_option linter.unusedSimpArgs false

def Yes (w : World) (e : Ending) (w' : World) : Prop := e = .returned (.bool true) ∧ Below w.heap.size w w'
theorem win_ex (x : Int) : ∃ W : Nat, 1 + (x.tmod 8 + 8).tmod 8 = (W : Int) ∧ 1 ≤ W ∧ W ≤ 8 := by
  have h1 := Int.tmod_lt_of_pos x (show (0 : Int) < 8 by decide)
  have h2 := Int.lt_tmod_of_pos x (show (0 : Int) < 8 by decide)
  have h3 := Int.tmod_lt_of_pos (x.tmod 8 + 8) (show (0 : Int) < 8 by decide)
  have h4 := Int.tmod_nonneg 8 (show 0 ≤ x.tmod 8 + 8 by omega)
  exact ⟨(1 + (x.tmod 8 + 8).tmod 8).toNat, by omega, by omega, by omega⟩
theorem tmod_bd (x : Int) : -8 < x.tmod 8 ∧ x.tmod 8 < 8 := by
  have h1 := Int.tmod_lt_of_pos x (show (0 : Int) < 8 by decide)
  have h2 := Int.lt_tmod_of_pos x (show (0 : Int) < 8 by decide)
  omega

set_option maxHeartbeats 6400000 in
set_option maxRecDepth 100000 in
theorem walk (A : Option Addr) (c : Nat) (fs0 : List (List UInt8)) (x : Int) (B : Option Addr) (c2 : Nat) (xs : List Stp) (w : World) (hf : Fr w A fs0) (hm : fs0.length ≤ maxLen) (hfm : ∀ k, k < fs0.length → (fs0.getD k []).length ≤ maxLen) (hc : fs0.length ≤ c) (hst : StIn w B xs) (hxl : xs.length ≤ maxLen) (hxb : ∀ k, k < xs.length → InR (xs.getD k zeroS).kind ∧ InR (xs.getD k zeroS).num) :
    Calls Try.prog 7 #[.slice A fs0.length c, .int .i64 x, .slice B xs.length c2] w (Yes w) := by
  have HC := hide (cut_any A c fs0 w hf hm hfm hc)
  have HST := hide hst
  have HXB := hide hxb
  have HXL := hide hxl
  obtain ⟨hx1, hx2⟩ := tmod_bd x
  obtain ⟨W, hWe, hW1, hW8⟩ := win_ex x
  obtain ⟨hb1, hb8, hbd⟩ := cutFs_bd fs0
  have HWE : Hid (1 + x.tmod 8 % 8 = (W : Int)) := by
    rw [Hid, ← hWe, Int.tmod_eq_emod_of_nonneg (by omega : 0 ≤ x.tmod 8 + 8)]; omega
  generalize hfs : cutFs fs0 = fs at *
  have HNF : Hid (NetF fs W) := ⟨hb1, hb8, hbd, hW1, hW8⟩
  unfold maxLen at hm hxl
  clear hf hfm hc hst hxb hWe hfs hbd
  go_enter Try.func7, Try.ntmps7
  go_wp2_with fail
  refine HC.out.mono ?_
  rintro e w1 ⟨A1, c1, rfl, hfr1, hc1, hB1⟩
  have HFR1 := hide (hfr1.fr (fun i hi => hi))
  have HB1 := hide hB1
  have HNW := hide (network_any A1 c1 fs W B c2 xs w1 HFR1.out HNF.out hc1 (HST.out.kept hB1) HXL.out HXB.out)
  clear hfr1 hB1
  go_wp2_with fail
  rw [HWE.out]
  refine HNW.out.mono ?_
  rintro e w2 ⟨s, r, ka, kr, v, rfl, hkr, hN⟩
  have HES : Hid (EndS w1 s r W fs 0 w2) := ends_start hW1 hkr hN
  clear hN hkr ka kr v
  obtain ⟨P, hP⟩ : ∃ P : Nat, fs.length * W = P := ⟨_, rfl⟩
  have hPi : (fs.length : Int) * (W : Int) = (P : Int) := by rw [← hP]; push_cast; rfl
  have hP64 : P ≤ 64 := by rw [← hP]; exact Nat.le_trans (Nat.mul_le_mul hb8 hW8) (by decide)
  have HP := hide hP
  clear hP
  go_wp2_with fail
  go_loopw [10] (fun i wr => ∃ k : Nat, k ≤ P ∧ i = .int .i64 k ∧ Hid (EndS w1 s r W fs k wr)) (fun i wr => P - (intOf i).toNat)
  case atStart => exact ⟨0, Nat.zero_le _, rfl, HES⟩
  case round =>
    clear HES
    obtain ⟨k, hk, rfl, hS⟩ := hrel
    obtain ⟨ka, kr, v, base, nxt, H, g, last, nR, FS, FR, FA, air, As, Cs, hc, hkr2, hmu⟩ := hS.out
    have HC := hide hc
    have HMU := hide hmu
    have hbg := hc.bg
    have hgl := hc.got.le
    have hnr := hc.nr
    clear hc hmu hS
    by_cases hkP : k < P
    · have tP : decide ((k : Int) < (P : Int)) = true := decide_eq_true (by omega)
      go_wp2_with fail
      refine (done_any HC.out.snd (by omega) (by omega)).mono ?_
      rintro e w3 ⟨rfl, n3, rfl⟩
      have HC3 := hide (HC.out.kept (below_drew (Below.refl _ _) n3))
      obtain ⟨w3, hw3⟩ : ∃ w3, w3 = wr.drewN n3 := ⟨_, rfl⟩
      rw [← hw3] at HC3
      rw [← hw3]
      have HW3 := hide hw3
      clear hw3
      by_cases hd : base = fs.length
      · have td : decide (base = fs.length) = true := decide_eq_true hd
        rw [td]
        have HC4 := HC3
        have hgf : g = fs.length := by omega
        have HLF : Hid (gots H g = fs) := by rw [Hid, HC4.out.got.gots, hgf]; exact List.take_length
        have HRB : Hid (((gots H g).length : Int) = (g : Int)) := by rw [Hid, gots_length]
        have HWH : Hid ((decide (0 ≤ last) && decide (last < (g : Int))) = true) := HC4.out.got.whole hb1 hgf
        have HB4 := hide (HC4.out.below)
        go_wp2_with fail
        refine (awake_any _).mono ?_
        rintro e w5 ⟨rfl, hB5⟩
        have HC5 := hide (HC4.out.kept hB5)
        clear hB5
        go_wp2_with fail
        refine (done_any HC5.out.snd (by omega) (by omega)).mono ?_
        rintro e w6 ⟨rfl, n6, rfl⟩
        rw [td]
        go_wp2_with fail
        refine (complete_any (HC5.out.kept (below_drew (Below.refl _ _) _)).rcv (by rw [gots_length]; omega)).mono ?_
        rintro e w7 ⟨rfl, n7, rfl⟩
        rw [HRB.out, HWH.out]
        go_wp2_with fail
        refine (rframes_any (HC5.out.kept (below_drew (Below.refl _ _) _)).rcv (by rw [gots_length]; omega) (fun q hq => by rw [HLF.out] at hq ⊢; exact Nat.le_trans (HNF.out.bd q hq) (by decide))).mono ?_
        rw [HLF.out]
        rintro e w8 ⟨v8, r8, c8, rfl, hO8, hB8⟩
        obtain ⟨A8, c8', rfl, hcap8, hf8⟩ := hO8.frIn
        have HB8 := hide ((HC5.out.kept (below_drew (Below.refl _ _) _)).kept hB8).below
        have HF8 : Hid (Fr w8 A8 fs) := hf8.fr fun q hq => hq.2
        have HFA : Hid (Fr w8 A1 fs) := HFR1.out.below HB8.out
        clear hO8 hf8 hB8 r8 c8
        go_wp2_with fail
        refine (framesEq_same HF8.out HFA.out rfl (by omega) HNF.out.bd).mono ?_
        rintro e w9 ⟨rfl, hB9⟩
        have HL9 : Hid (Below w.heap.size w w9) := HB1.out.trans ((HB8.out.trans (hB9.mono HB8.out.size)).mono HB1.out.size)
        clear hB9
        go_wp2_with fail
        go_ret
        exact ⟨rfl, HL9.out⟩
      · have td : decide (base = fs.length) = false := decide_eq_false hd
        rw [td]
        have hbn : base < fs.length := by omega
        go_wp2_with fail
        refine (netc_next HNF.out HC3.out hbn).mono ?_
        rintro e w4 ⟨D, d, rfl, hby4, hC4⟩
        have hmg : GoodM fs g (nextMsg fs W base nxt) := nextMsg_good hbn
        have hma : (nextMsg fs W base nxt).ack = false := by unfold nextMsg; rw [if_neg hd]
        have hmn : (nextMsg fs W base nxt).num = (nextAt fs.length W base nxt : Int) := by unfold nextMsg; rw [if_neg hd]
        have hmw := nextAt_win (n := fs.length) (base := base) (nxt := nxt) hW1
        have hround := fun (x : Nat) => mu_round (g := g) (g' := x) (nxt := nxt) hW1 hbn hbg
        obtain ⟨kn, hkn⟩ : ∃ kn, kn = nextAt fs.length W base nxt := ⟨_, rfl⟩
        obtain ⟨m, hm⟩ : ∃ m, m = nextMsg fs W base nxt := ⟨_, rfl⟩
        rw [← hkn] at hC4 hmn hmw hround
        rw [← hm] at hby4 hmg hma hmn
        rw [← hm]
        obtain ⟨H', g', last', ok, rn, hG', hgg, hrn, hwin, hprog, hcall⟩ := recv_good hC4.got hb1 hb8 HNF.out.bd hW1 hW8 hmg nR (by omega) d
        obtain rfl : ok = true := hwin hma (by omega)
        obtain rfl : rn = (g' : Int) := hrn rfl
        have HMU6 : Hid (g' < fs.length → (k + 1) + mu fs.length W g' g' (kn + 1) ≤ fs.length * W) := fun hg' => by
          have h1 := HMU.out hbn
          have h2 := hround g' hgg hg' (fun e => hprog hma (by omega))
          omega
        have hgl' := hG'.le
        obtain ⟨v4, hv4⟩ : ∃ v4, v4 = w4.alloc (.cells #[.bool m.ack, .int .i64 m.num, .bool m.last, .slice D m.data.length d] 34) := ⟨_, rfl⟩
        have hq4 : Below w4.heap.size w4 v4 := by rw [hv4]; exact (Below.refl _ _).alloc (Nat.le_refl _) _
        have HZ4 : Hid (Box v4 w4.heap.size 34 #[.bool m.ack, .int .i64 m.num, .bool m.last, .slice D m.data.length d]) := by rw [hv4]; exact Box.new _ _ _
        have HC4 := hide (hC4.kept hq4)
        have HCALL := hide (hcall FR v4 r D HC4.out.rcv (hby4.below hq4))
        have HG' := hide hG'
        have HV4 := hide hv4
        clear hmg hmn hmw hround hkn hm hcall hG' hrn hwin hprog hC4 hby4 hq4 hv4 hma
        go_upto_region 9 with fail
        rw [← HV4.out]
        have z0 : v4.cell? ⟨w4.heap.size, 0, none⟩ = some (.bool m.ack) := HZ4.out.cell 0
        have z1 : v4.cell? ⟨w4.heap.size, 1, none⟩ = some (.int .i64 m.num) := HZ4.out.cell 1
        have z2 : v4.cell? ⟨w4.heap.size, 2, none⟩ = some (.bool m.last) := HZ4.out.cell 2
        have z3 : v4.cell? ⟨w4.heap.size, 3, none⟩ = some (.slice D m.data.length d) := HZ4.out.cell 3
        go_wp2_with fail
        refine HCALL.out.mono ?_
        intro e w5 hp
        obtain ⟨rfl, FR', hN5⟩ := HC4.out.recv HG'.out hgg hp
        clear hp z0 z1 z2 z3
        obtain ⟨v5, hv5⟩ : ∃ v5, v5 = w5.alloc (.cells #[.bool true, .int .i64 (g' : Int), .bool false, .slice none 0 0] 34) := ⟨_, rfl⟩
        have hq5 : Below w5.heap.size w5 v5 := by rw [hv5]; exact (Below.refl _ _).alloc (Nat.le_refl _) _
        have HZ5 : Hid (Box v5 w5.heap.size 34 #[.bool true, .int .i64 (g' : Int), .bool false, .slice none 0 0]) := by rw [hv5]; exact Box.new _ _ _
        have HC5 := hide (hN5.kept hq5)
        have HV5 := hide hv5
        clear hq5 hv5 hN5
        go_upto_region 12 with fail
        rw [← HV5.out]
        have z0 : v5.cell? ⟨w5.heap.size, 0, none⟩ = some (.bool true) := HZ5.out.cell 0
        have z1 : v5.cell? ⟨w5.heap.size, 1, none⟩ = some (.int .i64 (g' : Int)) := HZ5.out.cell 1
        have z2 : v5.cell? ⟨w5.heap.size, 2, none⟩ = some (.bool false) := HZ5.out.cell 2
        have z3 : v5.cell? ⟨w5.heap.size, 3, none⟩ = some (.slice none 0 0) := HZ5.out.cell 3
        go_wp2_with fail
        refine (s_recv HC5.out.snd (by omega) true false (g' : Int) none 0 0).mono ?_
        intro e w6 hp
        rw [newBase_ack (by omega) hgl'] at hp
        obtain ⟨rfl, hN6⟩ := HC5.out.srecv (Nat.le_refl _) hp
        have HN6 := hide hN6
        clear hp z0 z1 z2 z3 hN6
        go_wp2_with fail
        go_roundw
        case rel => exact ⟨k + 1, by omega, by go_num, ka, kr + 1, v, g', kn + 1, H', g', last', nR + 1, FS, FR', FA, air, As, Cs, HN6.out, by omega, HMU6.out⟩
        case measure => simp [intOf]; omega
    · have hd : base = fs.length := by
        rcases Nat.lt_or_ge base fs.length with hlt | hge
        · have h1 := HMU.out hlt
          have h2 := mu_pos (g := g) (nxt := nxt) hW1 hlt
          rw [HP.out] at h1
          omega
        · omega
      have tP : decide ((k : Int) < (P : Int)) = false := decide_eq_false (by omega)
      have td : decide (base = fs.length) = true := decide_eq_true hd
      · have HC4 := HC
        have hgf : g = fs.length := by omega
        have HLF : Hid (gots H g = fs) := by rw [Hid, HC4.out.got.gots, hgf]; exact List.take_length
        have HRB : Hid (((gots H g).length : Int) = (g : Int)) := by rw [Hid, gots_length]
        have HWH : Hid ((decide (0 ≤ last) && decide (last < (g : Int))) = true) := HC4.out.got.whole hb1 hgf
        have HB4 := hide (HC4.out.below)
        go_wp2_with fail
        refine (awake_any _).mono ?_
        rintro e w5 ⟨rfl, hB5⟩
        have HC5 := hide (HC4.out.kept hB5)
        clear hB5
        go_wp2_with fail
        refine (done_any HC5.out.snd (by omega) (by omega)).mono ?_
        rintro e w6 ⟨rfl, n6, rfl⟩
        rw [td]
        go_wp2_with fail
        refine (complete_any (HC5.out.kept (below_drew (Below.refl _ _) _)).rcv (by rw [gots_length]; omega)).mono ?_
        rintro e w7 ⟨rfl, n7, rfl⟩
        rw [HRB.out, HWH.out]
        go_wp2_with fail
        refine (rframes_any (HC5.out.kept (below_drew (Below.refl _ _) _)).rcv (by rw [gots_length]; omega) (fun q hq => by rw [HLF.out] at hq ⊢; exact Nat.le_trans (HNF.out.bd q hq) (by decide))).mono ?_
        rw [HLF.out]
        rintro e w8 ⟨v8, r8, c8, rfl, hO8, hB8⟩
        obtain ⟨A8, c8', rfl, hcap8, hf8⟩ := hO8.frIn
        have HB8 := hide ((HC5.out.kept (below_drew (Below.refl _ _) _)).kept hB8).below
        have HF8 : Hid (Fr w8 A8 fs) := hf8.fr fun q hq => hq.2
        have HFA : Hid (Fr w8 A1 fs) := HFR1.out.below HB8.out
        clear hO8 hf8 hB8 r8 c8
        go_wp2_with fail
        refine (framesEq_same HF8.out HFA.out rfl (by omega) HNF.out.bd).mono ?_
        rintro e w9 ⟨rfl, hB9⟩
        have HL9 : Hid (Below w.heap.size w w9) := HB1.out.trans ((HB8.out.trans (hB9.mono HB8.out.size)).mono HB1.out.size)
        clear hB9
        go_wp2_with fail
        go_ret
        exact ⟨rfl, HL9.out⟩

set_option maxRecDepth 100000 in
theorem lifted (os : Os) (started : os.Started) (H : Type) (enc : TypeId × Value → H) :
    ReturnsInHanded {} Try.checked os 7 .any (Rows.linkEndsSpec.pre6 enc Try.prog Try.f7 Rows.linkEndsRow.domain false) (Rows.linkEndsSpec.post enc Try.prog Try.f7 false true false false) := by
  refine returnsInHanded_of_change (C := Try.checked) own started (by kernel_rfl) Try.func7
    (ChangeSpec.witness6 (enc := enc) (C := Try.checked) false ⟨#[], #[.slice none 0 0, .int .i64 0, .slice none 0 0], []⟩ 8 (by kernel_rfl) (by kernel_rfl) (by kernel_rfl) (by kernel_rfl)) ?_
  intro W base args ds gs before hval0 hW hcnd _
  have hval : ∀ (j : Nat) t v, Try.f7.params[j]? = some t → args[j]? = some v → Value.okWide Try.prog W .any base t v := hval0
  have hW' := hW
  obtain ⟨p, q, hA0, hV, rfl, hfz, hnd⟩ := hW
  have hA : DataW.TrodAll enc Try.prog W 0 (fun _ => true) true Try.f7.params.toList args.toList ds p := hA0
  rw [Try.params7] at hA hval
  obtain ⟨v0, vs0, d0, ds0, p0, q0, hargs, rfl, rfl, h0, r0⟩ := trodAll_cons hA
  obtain ⟨v1, vs1, d1, ds1, p1, q1, rfl, rfl, rfl, h1, r1⟩ := trodAll_cons r0
  obtain ⟨v2, vs2, d2, ds2, p2, q2, rfl, rfl, rfl, h2, r2⟩ := trodAll_cons r1
  obtain ⟨rfl, rfl, rfl⟩ := trodAll_nil r2
  obtain rfl : args = #[v0, v1, v2] := by cases args; simp_all
  obtain ⟨A0, c0, fs0, rfl, hf0, hm0, hl0, hcp0⟩ := open_frames (hval 0 22 v0 rfl rfl) h0
  obtain ⟨a1, rfl, _, _, w1⟩ := open_int Try.underlying3 (hval 1 3 v1 rfl rfl) h1
  obtain ⟨A2, c2, xs2, rfl, hf2, hm2, hl2⟩ := open_steps (hval 2 53 v2 rfl rfl) h2
  refine (walk A0 c0 fs0 a1 A2 c2 xs2 W hf0 hm0 hl0 hcp0 hf2 hm2 hl2).mono fun e W' ⟨he, hb⟩ => ?_
  subst he
  exact ⟨_, rfl, post_law hW' rfl hb (by rw [Try.params7]; exact params_ok (by kernel_rfl)) rfl rfl⟩

theorem over : Rows.linkEndsRow.holds Try.pinned (OpenSpec.ofChange Rows.linkEndsSpec) :=
  OpenClaim.holds_of_wide 7 Try.f7 rfl rfl rfl rfl rfl rfl rfl ⟨rfl, rfl, rfl, rfl, rfl⟩ rfl rfl rfl rfl rfl (by kernel_rfl) Try.func7 (by kernel_rfl)
    (of_decide_eq_true (by kernel_rfl)) (by unfold Func.isWrapper; first | (rw [if_pos (by decide +kernel)]; kernel_rfl) | (rw [if_neg (by decide +kernel)]; exact ⟨rfl, rfl⟩))
    (fun os started H enc _ => lifted os started H enc)

theorem proved : Rows.LinkEndsSaid := over
end Go.Proofs.Ythhelhggggbaiaa.lawEnds
