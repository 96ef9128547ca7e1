/-
  Whatever a network does, the received frames are the first ones of those sent: the law LinkPrefix returns true for every input.
-/
import Derived.Test.YthhelhggggbaiaaNet
namespace Go.Proofs.Ythhelhggggbaiaa.lawPrefix
open Go.ChangeShapes Go.WideShapes Go.ChangeAt Go.RowKit Go.Proofs.Ythhelhggggbaiaa
set_option linter.unusedVariables false
set_option linter.unusedSimpArgs false

def Yes (w : World) (e : Ending) (w' : World) : Prop := e = .returned (.bool true) ∧ Below w.heap.size w w'
theorem win_ex (x : Int) : ∃ W : Nat, 1 + (x.tmod 8 + 8).tmod 8 = (W : Int) ∧ 1 ≤ W ∧ W ≤ 8 := by
  have h1 := Int.tmod_lt_of_pos x (show (0 : Int) < 8 by decide)
  have h2 := Int.lt_tmod_of_pos x (show (0 : Int) < 8 by decide)
  have h3 := Int.tmod_lt_of_pos (x.tmod 8 + 8) (show (0 : Int) < 8 by decide)
  have h4 := Int.tmod_nonneg 8 (show 0 ≤ x.tmod 8 + 8 by omega)
  exact ⟨(1 + (x.tmod 8 + 8).tmod 8).toNat, by omega, by omega, by omega⟩
theorem tmod_bd (x : Int) : -8 < x.tmod 8 ∧ x.tmod 8 < 8 := by
  have h1 := Int.tmod_lt_of_pos x (show (0 : Int) < 8 by decide)
  have h2 := Int.lt_tmod_of_pos x (show (0 : Int) < 8 by decide)
  omega

set_option maxHeartbeats 3200000 in
set_option maxRecDepth 100000 in
theorem walk (A : Option Addr) (c : Nat) (fs0 : List (List UInt8)) (x : Int) (B : Option Addr) (c2 : Nat) (xs : List Stp) (w : World) (hf : Fr w A fs0) (hm : fs0.length ≤ maxLen) (hfm : ∀ k, k < fs0.length → (fs0.getD k []).length ≤ maxLen) (hc : fs0.length ≤ c) (hst : StIn w B xs) (hxl : xs.length ≤ maxLen) (hxb : ∀ k, k < xs.length → InR (xs.getD k zeroS).kind ∧ InR (xs.getD k zeroS).num) :
    Calls Try.prog 6 #[.slice A fs0.length c, .int .i64 x, .slice B xs.length c2] w (Yes w) := by
  have HC := hide (cut_any A c fs0 w hf hm hfm hc)
  have HST := hide hst
  have HXB := hide hxb
  have HXL := hide hxl
  obtain ⟨hx1, hx2⟩ := tmod_bd x
  obtain ⟨W, hWe, hW1, hW8⟩ := win_ex x
  obtain ⟨hb1, hb8, hbd⟩ := cutFs_bd fs0
  have HWE : Hid (1 + x.tmod 8 % 8 = (W : Int)) := by
    rw [Hid, ← hWe, Int.tmod_eq_emod_of_nonneg (by omega : 0 ≤ x.tmod 8 + 8)]; omega
  generalize hfs : cutFs fs0 = fs at *
  have HNF : Hid (NetF fs W) := ⟨hb1, hb8, hbd, hW1, hW8⟩
  unfold maxLen at hm hxl
  clear hf hfm hc hst hxb hWe hfs hbd
  go_enter Try.func6, Try.ntmps6
  go_wp2_with fail
  refine HC.out.mono ?_
  rintro e w1 ⟨A1, c1, rfl, hfr1, hc1, hB1⟩
  have HFR1 := hide (hfr1.fr (fun i hi => hi))
  have HB1 := hide hB1
  have HNW := hide (network_any A1 c1 fs W B c2 xs w1 HFR1.out HNF.out hc1 (HST.out.kept hB1) HXL.out HXB.out)
  clear hfr1 hB1
  go_wp2_with fail
  rw [HWE.out]
  refine HNW.out.mono ?_
  rintro e w2 ⟨s, r, ka, kr, v, rfl, hkr, hN⟩
  have HB2 := hide (HB1.out.trans (hN.below.mono HB1.out.size))
  clear hN
  go_wp2_with fail
  refine (awake_any _).mono ?_
  rintro e w9 ⟨rfl, hB9⟩
  have HL9 := hide (HB2.out.trans (hB9.mono HB2.out.size))
  clear hB9
  go_wp2_with fail
  go_ret
  exact ⟨rfl, HL9.out⟩

set_option maxRecDepth 100000 in
theorem lifted (os : Os) (started : os.Started) (H : Type) (enc : TypeId × Value → H) :
    ReturnsInHanded {} Try.checked os 6 .any (Rows.linkPrefixSpec.pre6 enc Try.prog Try.f6 Rows.linkPrefixRow.domain false) (Rows.linkPrefixSpec.post enc Try.prog Try.f6 false true false false) := by
  refine returnsInHanded_of_change (C := Try.checked) own started (by kernel_rfl) Try.func6
    (ChangeSpec.witness6 (enc := enc) (C := Try.checked) false ⟨#[], #[.slice none 0 0, .int .i64 0, .slice none 0 0], []⟩ 8 (by kernel_rfl) (by kernel_rfl) (by kernel_rfl) (by kernel_rfl)) ?_
  intro W base args ds gs before hval0 hW hcnd _
  have hval : ∀ (j : Nat) t v, Try.f6.params[j]? = some t → args[j]? = some v → Value.okWide Try.prog W .any base t v := hval0
  have hW' := hW
  obtain ⟨p, q, hA0, hV, rfl, hfz, hnd⟩ := hW
  have hA : DataW.TrodAll enc Try.prog W 0 (fun _ => true) true Try.f6.params.toList args.toList ds p := hA0
  rw [Try.params6] at hA hval
  obtain ⟨v0, vs0, d0, ds0, p0, q0, hargs, rfl, rfl, h0, r0⟩ := trodAll_cons hA
  obtain ⟨v1, vs1, d1, ds1, p1, q1, rfl, rfl, rfl, h1, r1⟩ := trodAll_cons r0
  obtain ⟨v2, vs2, d2, ds2, p2, q2, rfl, rfl, rfl, h2, r2⟩ := trodAll_cons r1
  obtain ⟨rfl, rfl, rfl⟩ := trodAll_nil r2
  obtain rfl : args = #[v0, v1, v2] := by cases args; simp_all
  obtain ⟨A0, c0, fs0, rfl, hf0, hm0, hl0, hcp0⟩ := open_frames (hval 0 22 v0 rfl rfl) h0
  obtain ⟨a1, rfl, _, _, w1⟩ := open_int Try.underlying3 (hval 1 3 v1 rfl rfl) h1
  obtain ⟨A2, c2, xs2, rfl, hf2, hm2, hl2⟩ := open_steps (hval 2 53 v2 rfl rfl) h2
  refine (walk A0 c0 fs0 a1 A2 c2 xs2 W hf0 hm0 hl0 hcp0 hf2 hm2 hl2).mono fun e W' ⟨he, hb⟩ => ?_
  subst he
  exact ⟨_, rfl, post_law hW' rfl hb (by rw [Try.params6]; exact params_ok (by kernel_rfl)) rfl rfl⟩

theorem over : Rows.linkPrefixRow.holds Try.pinned (OpenSpec.ofChange Rows.linkPrefixSpec) :=
  OpenClaim.holds_of_wide 6 Try.f6 rfl rfl rfl rfl rfl rfl rfl ⟨rfl, rfl, rfl, rfl, rfl⟩ rfl rfl rfl rfl rfl (by kernel_rfl) Try.func6 (by kernel_rfl)
    (of_decide_eq_true (by kernel_rfl)) (by unfold Func.isWrapper; first | (rw [if_pos (by decide +kernel)]; kernel_rfl) | (rw [if_neg (by decide +kernel)]; exact ⟨rfl, rfl⟩))
    (fun os started H enc _ => lifted os started H enc)

theorem proved : Rows.LinkPrefixSaid := over
end Go.Proofs.Ythhelhggggbaiaa.lawPrefix
