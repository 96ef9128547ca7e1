/-
  Join of the frames of Split is the whole, all frames but the last have the given size, the last one is neither longer nor, except for an empty whole, empty: the law LinkSplit returns true for every input.
-/
import Derived.Test.YthhelhggggbaiaaJoin
import Derived.Test.YthhelhggggbaiaaFrame
import Derived.Deep.DeepCutAuto
namespace Go.Proofs.Ythhelhggggbaiaa.lawSplit
open Go.ChangeShapes Go.WideShapes Go.ChangeAt Go.RowKit Go.Proofs.Ythhelhggggbaiaa
set_option linter.unusedVariables false
set_option linter.unusedSimpArgs false

theorem bys_take {w : World} {A : Option Addr} {bs : List UInt8} (h : Bys w A bs) (n : Nat) : Bys w A (bs.take n) := fun hp => by
  rw [List.length_take] at hp
  obtain ⟨b, off, e, h1, h2⟩ := h (by omega)
  refine ⟨b, off, e, h1, fun k hk => ?_⟩
  rw [List.length_take] at hk
  rw [h2 k (by omega)]
  congr 2
  have h3 : k < n := by omega
  simp [List.getD_eq_getElem?_getD, List.getElem?_take, h3]
theorem sames (bs : List UInt8) : (bs == bs) = true := beq_self_eq_true _
def Yes (w : World) (e : Ending) (w' : World) : Prop := e = .returned (.bool true) ∧ Below w.heap.size w w'
theorem eq_same {w : World} {A B : Option Addr} {c d : Nat} {bs : List UInt8} (hx : Bys w A bs) (hy : Bys w B bs) (hm : bs.length ≤ 4096) : Calls Try.prog 20 #[.slice A bs.length c, .slice B bs.length d] w (Yes w) := by
  refine (eq04_any A B c d bs bs w hx hy (by unfold maxLen; omega) (by unfold maxLen; omega)).mono fun e w' h => ?_
  rw [sames] at h
  exact h

set_option maxHeartbeats 6400000 in
set_option maxRecDepth 100000 in
theorem walk (A : Option Addr) (c : Nat) (bs : List UInt8) (size : Int) (w : World) (hb : Bys w A bs) (hm : bs.length ≤ maxLen) (hcap : bs.length ≤ c) :
    Calls Try.prog 9 #[.slice A bs.length c, .int .i64 size] w (Yes w) := by
  obtain ⟨xs, hxs⟩ : ∃ xs, xs = bs.take 100 := ⟨_, rfl⟩
  have HX : Hid (Bys w A xs) := by rw [hxs]; exact bys_take hb 100
  have hxl : xs.length = min 100 bs.length := by rw [hxs, List.length_take]
  have hxl2 : xs.length ≤ 100 := by omega
  have hxc : xs.length ≤ c := by omega
  have hcut : (100 < bs.length ∧ 100 = xs.length) ∨ (bs.length ≤ 100 ∧ bs.length = xs.length) := by omega
  obtain ⟨n, hn⟩ : ∃ n, n = bs.length := ⟨_, rfl⟩
  rw [← hn] at hm hcut hcap ⊢
  unfold maxLen at hm
  clear hb hn hxl hxs
  go_enter Try.func9, Try.ntmps9
  go_upto_region 1 with fail
  go_cut [0] (fun v wx => v = .slice A xs.length c ∧ w = wx)
  case first =>
    rcases hcut with ⟨h10, hxe⟩ | ⟨h10, hxe⟩
    · have h10' : (100 : Int) < (n : Int) := by omega
      have HE := hide hxe
      clear hxe
      go_wp2_with fail
      go_meet
      exact ⟨by rw [← HE.out, show (min (n : Int) 100).toNat = 100 by omega], rfl⟩
    · obtain rfl := hxe
      go_wp2_with fail
      go_meet
      exact ⟨by rw [show (min (xs.length : Int) 100).toNat = xs.length by omega], rfl⟩
  case rest =>
    obtain ⟨rfl, rfl⟩ := hcut
    by_cases hsz : 1 ≤ size ∧ size ≤ 4096
    · obtain ⟨h1, h2⟩ := hsz
      obtain ⟨sz, rfl⟩ := Int.eq_ofNat_of_zero_le (show 0 ≤ size by omega)
      have t1 : decide ((sz : Int) < 1) = false := decide_eq_false (by omega)
      have t2 : decide ((4096 : Int) < (sz : Int)) = false := decide_eq_false (by omega)
      go_wp2_with fail
      refine (split_any A c xs sz w HX.out (by omega) hxc (by omega) (by omega)).mono ?_
      rintro e w1 ⟨A1, c1, k, rfl, hok, hfr, hc1, hB1⟩
      obtain ⟨L, hL⟩ : ∃ L, L = splitL xs sz k := ⟨_, rfl⟩
      have hL1 : L.length = k + 1 := by rw [hL, splitL_length]
      have hLF : L.flatten = xs := by rw [hL, splitL_flat _ _ _ hok]
      have hLA : ∀ j, j < k → (L.getD j []).length = sz := fun j hj => by rw [hL]; exact splitL_at xs sz k j hok hj
      have hLK : (L.getD k []).length = xs.length - k * sz := by rw [hL, splitL_last, List.length_drop]
      have hq1 := hok.le
      have hq2 := hok.some_
      rw [← hL] at hfr hc1 ⊢
      have HL1 := hide hL1
      have HLF := hide hLF
      have HLA := hide hLA
      have HLK := hide hLK
      have HFR := hide hfr
      have HB1 := hide hB1
      have HX1 := hide (HX.out.below hB1)
      clear hL hok hfr hB1 hL1 hLF hLA hLK HX
      obtain ⟨m, hmk⟩ : ∃ m, m = k + 1 := ⟨_, rfl⟩
      have HLm : Hid (L.length = m) := by rw [hmk]; exact HL1.out
      rw [HL1.out, ← hmk] at hc1
      have hm101 : m ≤ 101 := by
        rcases Nat.eq_zero_or_pos k with e | e
        · omega
        · have := hq2 e
          have hks : k ≤ k * sz := Nat.le_mul_of_pos_right _ (by omega)
          omega
      have HJ := hide (join_any A1 c1 L w1 HFR.out (by rw [HLm.out]; exact hc1) (by rw [HLm.out]; omega) (by rw [HLm.out]; omega) (by rw [HLF.out]; omega))
      rw [HLm.out] at HJ ⊢
      have HM := hide hmk
      have hm1 : 1 ≤ m := by omega
      have t3 : ((m : Int) == 0) = false := by rw [beq_eq_false_iff_ne]; omega
      clear hmk
      go_wp2_with fail
      refine HJ.out.mono ?_
      rintro e w2 ⟨A2, c2, rfl, hb2, hB2⟩
      rw [HLF.out] at hb2 ⊢
      have HB2 := hide (HB1.out.trans (hB2.mono HB1.out.size))
      have HX2 := hide (HX1.out.below hB2)
      have HFR2 := hide ((HFR.out.agree (Agree.of_below hB2 fun i hi => hi)).mono (G := fun i => i < w2.heap.size) fun i hi => Nat.lt_of_lt_of_le hi hB2.size)
      have HB22 := hide hb2
      clear hB2 hb2 HJ HFR HX1 HB1
      go_wp2_with fail
      refine (eq_same HB22.out HX2.out (by omega)).mono ?_
      rintro e w3 ⟨rfl, hB3⟩
      have HB3 := hide (HB2.out.trans (hB3.mono HB2.out.size))
      have HFR3 := hide ((HFR2.out.agree (Agree.of_below hB3 fun i hi => hi)).mono (G := fun i => i < w3.heap.size) fun i hi => Nat.lt_of_lt_of_le hi hB3.size)
      clear hB3 HB22 HX2 HFR2 HB2
      have HLP : Hid (∀ j, j < m → (L.getD j []).length ≤ sz ∧ (j + 1 < m → (L.getD j []).length = sz) ∧ (j + 1 = m → (L.getD j []).length = xs.length - k * sz)) := fun j hj => by
        have hmk := HM.out
        by_cases e : j = k
        · subst e
          have := HLK.out
          exact ⟨by omega, fun h => by omega, fun _ => this⟩
        · have := HLA.out j (by omega)
          exact ⟨by omega, fun _ => this, fun h => by omega⟩
      clear HLA HLK HLF
      obtain ⟨b, off, rfl, hF, hcells⟩ := HFR3.out (by rw [HLm.out]; omega)
      rw [HLm.out] at hcells
      have HC := hide hcells
      have HBlt := hide hF
      clear hcells hF HFR3
      go_wp2_with fail
      go_loopw [39] (fun v wr => ∃ i : Nat, i ≤ m ∧ v = .int .i64 (i : Int) ∧ Hid (Below w3.heap.size w3 wr)) (fun v _ => m - (intOf v).toNat)
      case atStart => exact ⟨0, Nat.zero_le _, rfl, Below.refl _ _⟩
      case round =>
        obtain ⟨i, him, rfl, HW⟩ := hrel
        by_cases hlt : i < m
        · obtain ⟨Ak, ck, g1, _, _⟩ := HC.out i hlt
          obtain ⟨p1, p2, p3⟩ := HLP.out i hlt
          generalize (L.getD i []).length = q at g1 p1 p2 p3
          have g2 : wr.cell? ⟨b, off + i, none⟩ = some (.slice Ak q ck) := (HW.out.cell (p := ⟨b, off + i, none⟩) HBlt.out).trans g1
          have hlti : (i : Int) < (m : Int) := by omega
          have t4 : decide ((sz : Int) < (q : Int)) = false := decide_eq_false (by omega)
          have hqs : q ≤ sz := p1
          by_cases hla : i + 1 < m
          · have hq := p2 hla
            have t5 : decide ((i : Int) < (m : Int) - 1) = true := decide_eq_true (by omega)
            have t6 : ((q : Int) != (sz : Int)) = false := by rw [bne_eq_false_iff_eq]; omega
            have t7 : ((q : Int) == 0) = false := by rw [beq_eq_false_iff_ne]; omega
            clear hq p1 p2 p3 g1
            go_wp2_with fail
            go_roundw
            case rel => exact ⟨i + 1, by omega, by go_num, HW⟩
            case measure => simp [intOf]; omega
          · have hq := p3 (by omega)
            have t5 : decide ((i : Int) < (m : Int) - 1) = false := decide_eq_false (by omega)
            have hmk := HM.out
            by_cases hq0 : q = 0
            · have hx0 : xs.length = 0 := by
                rcases Nat.eq_zero_or_pos k with e | e
                · subst e; omega
                · have := hq2 e; omega
              have t7 : ((q : Int) == 0) = true := by rw [beq_iff_eq]; omega
              have t8 : ¬ 0 < xs.length := by omega
              have t9 : decide (0 < (xs.length : Int)) = false := decide_eq_false (by omega)
              clear hx0 hq0 hq p1 p2 p3 g1 hmk
              go_wp2_with fail
              go_roundw
              case rel => exact ⟨i + 1, by omega, by go_num, HW⟩
              case measure => simp [intOf]; omega
            · have t7 : ((q : Int) == 0) = false := by rw [beq_eq_false_iff_ne]; omega
              clear hq0 hq p1 p2 p3 g1 hmk
              go_wp2_with fail
              go_roundw
              case rel => exact ⟨i + 1, by omega, by go_num, HW⟩
              case measure => simp [intOf]; omega
        · obtain rfl : i = m := by omega
          have HYB := hide (HB3.out.trans (HW.out.mono HB3.out.size))
          have hmk := HM.out
          by_cases hx : 0 < xs.length
          · have t9 : decide (0 < (xs.length : Int)) = true := decide_eq_true (by omega)
            clear hmk
            go_wp2_with fail
            refine (awake_any _).mono ?_
            rintro e w4 ⟨rfl, hB4⟩
            have HB4 := hide (HYB.out.trans (hB4.mono HYB.out.size))
            clear hB4
            go_wp2_with fail
            go_ret
            exact ⟨rfl, HB4.out⟩
          · have t9 : decide (0 < (xs.length : Int)) = false := decide_eq_false (by omega)
            have t10 : ((i : Int) == 1) = true := by
              rw [beq_iff_eq]
              rcases Nat.eq_zero_or_pos k with e | e
              · subst e; omega
              · have := hq2 e; omega
            clear hmk
            go_wp2_with fail
            refine (awake_any _).mono ?_
            rintro e w4 ⟨rfl, hB4⟩
            have HB4 := hide (HYB.out.trans (hB4.mono HYB.out.size))
            clear hB4
            go_wp2_with fail
            go_ret
            exact ⟨rfl, HB4.out⟩
    · have HN := hide (split_none A xs.length c size w hsz)
      by_cases hs1 : size < 1
      · have t1 : decide (size < 1) = true := decide_eq_true hs1
        go_wp2_with fail
        refine HN.out.mono ?_
        rintro e w1 ⟨rfl, hB1⟩
        have HB1 := hide hB1
        clear hB1
        go_wp2_with fail
        refine (awake_any _).mono ?_
        rintro e w4 ⟨rfl, hB4⟩
        have HB4 := hide (HB1.out.trans (hB4.mono HB1.out.size))
        clear hB4
        go_wp2_with fail
        go_ret
        exact ⟨rfl, HB4.out⟩
      · have t1 : decide (size < 1) = false := decide_eq_false hs1
        have t2 : decide ((4096 : Int) < size) = true := decide_eq_true (by omega)
        go_wp2_with fail
        refine HN.out.mono ?_
        rintro e w1 ⟨rfl, hB1⟩
        have HB1 := hide hB1
        clear hB1
        go_wp2_with fail
        refine (awake_any _).mono ?_
        rintro e w4 ⟨rfl, hB4⟩
        have HB4 := hide (HB1.out.trans (hB4.mono HB1.out.size))
        clear hB4
        go_wp2_with fail
        go_ret
        exact ⟨rfl, HB4.out⟩

set_option maxRecDepth 100000 in
theorem lifted (os : Os) (started : os.Started) (H : Type) (enc : TypeId × Value → H) :
    ReturnsInHanded {} Try.checked os 9 .any (Rows.linkSplitSpec.pre6 enc Try.prog Try.f9 Rows.linkSplitRow.domain false) (Rows.linkSplitSpec.post enc Try.prog Try.f9 false true false false) := by
  refine returnsInHanded_of_change (C := Try.checked) own started (by kernel_rfl) Try.func9
    (ChangeSpec.witness6 (enc := enc) (C := Try.checked) false ⟨#[], #[.slice none 0 0, .int .i64 0], []⟩ 8 (by kernel_rfl) (by kernel_rfl) (by kernel_rfl) (by kernel_rfl)) ?_
  intro W base args ds gs before hval0 hW hcnd _
  have hval : ∀ (j : Nat) t v, Try.f9.params[j]? = some t → args[j]? = some v → Value.okWide Try.prog W .any base t v := hval0
  have hW' := hW
  obtain ⟨p, q, hA0, hV, rfl, hfz, hnd⟩ := hW
  have hA : DataW.TrodAll enc Try.prog W 0 (fun _ => true) true Try.f9.params.toList args.toList ds p := hA0
  rw [Try.params9] at hA hval
  obtain ⟨v0, vs0, d0, ds0, p0, q0, hargs, rfl, rfl, h0, r0⟩ := trodAll_cons hA
  obtain ⟨v1, vs1, d1, ds1, p1, q1, rfl, rfl, rfl, h1, r1⟩ := trodAll_cons r0
  obtain ⟨rfl, rfl, rfl⟩ := trodAll_nil r1
  obtain rfl : args = #[v0, v1] := by cases args; simp_all
  obtain ⟨A0, c0, bs0, rfl, hb0, hm0, hcp0⟩ := open_bytes_arg (hval 0 32 v0 rfl rfl) h0
  obtain ⟨a1, rfl, _, _, w1⟩ := open_int Try.underlying3 (hval 1 3 v1 rfl rfl) h1
  refine (walk A0 c0 bs0 a1 W hb0 hm0 hcp0).mono fun e W' ⟨he, hb⟩ => ?_
  subst he
  exact ⟨_, rfl, post_law hW' rfl hb (by rw [Try.params9]; exact params_ok (by kernel_rfl)) rfl rfl⟩

theorem over : Rows.linkSplitRow.holds Try.pinned (OpenSpec.ofChange Rows.linkSplitSpec) :=
  OpenClaim.holds_of_wide 9 Try.f9 rfl rfl rfl rfl rfl rfl rfl ⟨rfl, rfl, rfl, rfl, rfl⟩ rfl rfl rfl rfl rfl (by kernel_rfl) Try.func9 (by kernel_rfl)
    (of_decide_eq_true (by kernel_rfl)) (by unfold Func.isWrapper; first | (rw [if_pos (by decide +kernel)]; kernel_rfl) | (rw [if_neg (by decide +kernel)]; exact ⟨rfl, rfl⟩))
    (fun os started H enc _ => lifted os started H enc)

theorem proved : Rows.LinkSplitSaid := over
end Go.Proofs.Ythhelhggggbaiaa.lawSplit
