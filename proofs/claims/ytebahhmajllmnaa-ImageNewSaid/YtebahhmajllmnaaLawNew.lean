/-
  New accepts sizes from 1 to 512 and returns a valid image without filled pixels: the law ImageNew returns true for every input.
-/
import Derived.Test.YtebahhmajllmnaaOpen
namespace Go.Proofs.Ytebahhmajllmnaa.lawNew
open Go.ChangeShapes Go.WideShapes Go.ChangeAt Go.RowKit Go.Proofs.Ytebahhmajllmnaa
set_option linter.unusedVariables false
set_option linter.unusedSimpArgs false

set_option maxHeartbeats 1600000 in
theorem walk_yes (W H : Nat) (w : World) (hW1 : 1 ≤ W) (hW : W ≤ 512) (hH1 : 1 ≤ H) (hH : H ≤ 512) :
    Calls Try.prog 3 #[.int .i64 (W : Int), .int .i64 (H : Int)] w fun e w' => e = .returned (.bool true) ∧ Below w.heap.size w w' := by
  have hN := size_bd hW hH
  have hlen := length_pack (W * H) fun _ => false
  have hl1 := len_pack_bd (fun _ => false) hW hH
  have HZ : Hid (∀ k, k < (pack (W * H) fun _ => false).length → (pack (W * H) fun _ => false).getD k 0 = 0) := fun k hk => by
    rw [pack_false]
    rw [List.getD_eq_getElem?_getD, List.getElem?_replicate]
    split <;> rfl
  obtain ⟨P, hP⟩ : ∃ P, P = pack (W * H) fun _ => false := ⟨_, rfl⟩
  have HN : Hid (∀ w, Calls Try.prog 13 #[.int .i64 (W : Int), .int .i64 (H : Int)] w (Fresh2 w W H P (.int .i64 0))) := fun w => by rw [hP]; exact new_yes W H w hW1 hW hH1 hH
  rw [← hP] at hlen hl1 HZ
  have a1 : (1 : Int) ≤ (W : Int) := by omega
  have a2 : (W : Int) ≤ 512 := by omega
  have a3 : (1 : Int) ≤ (H : Int) := by omega
  have a4 : (H : Int) ≤ 512 := by omega
  have hp0 : (0 : Int) ≤ (W : Int) * (H : Int) := by rw [← Int.natCast_mul]; omega
  have hp1 : (W : Int) * (H : Int) ≤ 262144 := by rw [← Int.natCast_mul]; omega
  have t5 : ((P.length : Int) != ((W : Int) * (H : Int) + 7) / 8) = false := by rw [bne_eq_false_iff_eq, hlen, ← Int.natCast_mul]; omega
  clear hP hlen hN
  go_enter Try.func3, Try.ntmps3
  go_wp2_with fail
  refine (HN.out _).mono ?_
  rintro e w1 ⟨g, gc, hg, rfl, hrow, hb1⟩
  have HB1 := hide hb1
  have R1 := hide (hrow.alloc (.cells #[.int .i64 (W : Int), .int .i64 (H : Int), .slice (some ⟨g, 0, none⟩) P.length gc] 24))
  clear hrow hb1
  go_wp2_with fail
  go_loop [66] (fun i => ∃ k : Nat, k ≤ P.length ∧ i = .int .i64 k) (fun i => P.length - (intOf i).toNat)
  case atStart => exact ⟨0, Nat.zero_le _, rfl⟩
  case round =>
    obtain ⟨k, hk, rfl⟩ := hrel
    by_cases hlt : k < P.length
    · obtain ⟨x, hx, hX, hc⟩ := R1.out.at_ hlt
      obtain rfl : x = 0 := by rw [hX.out, HZ.out k hlt]; rfl
      clear hX
      go_wp2_with fail
      go_round
      case rel => exact ⟨k + 1, by omega, by go_num⟩
      case measure => simp [intOf]; omega
    · go_wp2_with fail
      refine (awake_any _).mono ?_
      rintro e w2 ⟨rfl, hb2⟩
      have HB2 := hide hb2
      clear hb2
      go_wp2_with fail
      go_ret
      exact ⟨rfl, below_then HB1.out (below_box HB2.out)⟩

set_option maxHeartbeats 800000 in
theorem walk_no (W H : Int) (w : World) (h : W < 1 ∨ 512 < W ∨ H < 1 ∨ 512 < H) :
    Calls Try.prog 3 #[.int .i64 W, .int .i64 H] w fun e w' => e = .returned (.bool true) ∧ Below w.heap.size w w' := by
  have HN := hide (new_no W H · h)
  have HE : Hid (∀ w, Calls Try.prog 15 #[.agg #[.int .i64 0, .int .i64 0, .slice none 0 0], .agg #[.int .i64 0, .int .i64 0, .slice none 0 0]] w fun e w' => e = .returned (.bool true) ∧ Below w.heap.size w w') := fun w => by
    have h := refeq_any 0 0 0 0 none none 0 0 [] [] w (fun h => absurd h (by simp)) (fun h => absurd h (by simp)) (Nat.zero_le _) (Nat.zero_le _)
    exact h
  unfold zeroIm at HN
  have A := hide (fun w => awake_any w)
  have four : W < 1 ∨ (1 ≤ W ∧ 512 < W) ∨ ((1 ≤ W ∧ W ≤ 512) ∧ H < 1) ∨ ((1 ≤ W ∧ W ≤ 512) ∧ 1 ≤ H ∧ 512 < H) := by omega
  clear h
  rcases four with h1 | ⟨h1, h2⟩ | ⟨⟨h1, h2⟩, h3⟩ | ⟨⟨h1, h2⟩, h3, h4⟩
  all_goals
    go_enter Try.func3, Try.ntmps3
    go_wp2_with fail
    refine (HN.out _).mono ?_
    rintro e w1 ⟨rfl, hb1⟩
    have HB1 := hide hb1
    clear hb1
    go_wp2_with fail
    refine (A.out _).mono ?_
    rintro e w2 ⟨rfl, hb2⟩
    have X2 := hide ((Box.new w1 24 #[.int .i64 0, .int .i64 0, .slice none 0 0]).kept hb2)
    have HB2 := hide hb2
    have k0 : w2.cell? ⟨w1.heap.size, 0, none⟩ = some (.int .i64 0) := X2.out.cell 0
    have k1 : w2.cell? ⟨w1.heap.size, 1, none⟩ = some (.int .i64 0) := X2.out.cell 1
    have k2 : w2.cell? ⟨w1.heap.size, 2, none⟩ = some (.slice none 0 0) := X2.out.cell 2
    clear hb2
    go_wp2_with fail
    refine (HE.out _).mono ?_
    rintro e w3 ⟨rfl, hb3⟩
    have HB3 := hide hb3
    clear hb3
    go_wp2_with fail
    go_ret
    exact ⟨rfl, below_then (below_then HB1.out (below_box HB2.out)) HB3.out⟩

theorem walk (a0 : Int) (a1 : Int) (w : World) :
    Calls Try.prog 3 #[.int .i64 a0, .int .i64 a1] w fun e w' => e = .returned (.bool true) ∧ Below w.heap.size w w' := by
  by_cases h : a0 < 1 ∨ 512 < a0 ∨ a1 < 1 ∨ 512 < a1
  · exact walk_no a0 a1 w h
  · obtain ⟨W, rfl⟩ := Int.eq_ofNat_of_zero_le (show 0 ≤ a0 by omega)
    obtain ⟨H, rfl⟩ := Int.eq_ofNat_of_zero_le (show 0 ≤ a1 by omega)
    exact walk_yes W H w (by omega) (by omega) (by omega) (by omega)

set_option maxRecDepth 100000 in
theorem lifted (os : Os) (started : os.Started) (H : Type) (enc : TypeId × Value → H) :
    ReturnsInHanded {} Try.checked os 3 .any (Rows.imageNewSpec.pre6 enc Try.prog Try.f3 Rows.imageNewRow.domain false) (Rows.imageNewSpec.post enc Try.prog Try.f3 false true false false) := by
  refine returnsInHanded_of_change (C := Try.checked) own started (by kernel_rfl) Try.func3
    (ChangeSpec.witness6 (enc := enc) (C := Try.checked) false ⟨#[], #[.int .i64 0, .int .i64 0], []⟩ 8 (by kernel_rfl) (by kernel_rfl) (by kernel_rfl) (by kernel_rfl)) ?_
  intro W base args ds gs before hval0 hW hcnd _
  have hval : ∀ (j : Nat) t v, Try.f3.params[j]? = some t → args[j]? = some v → Value.okWide Try.prog W .any base t v := hval0
  have hW' := hW
  obtain ⟨p, q, hA0, hV, rfl, hfz, hnd⟩ := hW
  have hA : DataW.TrodAll enc Try.prog W 0 (fun _ => true) true Try.f3.params.toList args.toList ds p := hA0
  rw [Try.params3] at hA hval
  obtain ⟨v0, vs0, d0, ds0, p0, q0, hargs, rfl, rfl, h0, r0⟩ := trodAll_cons hA
  obtain ⟨v1, vs1, d1, ds1, p1, q1, rfl, rfl, rfl, h1, r1⟩ := trodAll_cons r0
  obtain ⟨rfl, rfl, rfl⟩ := trodAll_nil r1
  obtain rfl : args = #[v0, v1] := by cases args; simp_all
  obtain ⟨a0, rfl, _, _, _⟩ := open_int Try.underlying3 (hval 0 3 v0 rfl rfl) h0
  obtain ⟨a1, rfl, _, _, _⟩ := open_int Try.underlying3 (hval 1 3 v1 rfl rfl) h1
  refine (walk a0 a1 W).mono fun e W' ⟨he, hb⟩ => ?_
  subst he
  exact ⟨_, rfl, post_law hW' rfl hb (by rw [Try.params3]; exact params_ok (by kernel_rfl)) rfl rfl⟩

theorem over : Rows.imageNewRow.holds Try.pinned (OpenSpec.ofChange Rows.imageNewSpec) :=
  OpenClaim.holds_of_wide 3 Try.f3 rfl rfl rfl rfl rfl rfl rfl ⟨rfl, rfl, rfl, rfl, rfl⟩ rfl rfl rfl rfl rfl (by kernel_rfl) Try.func3 (by kernel_rfl)
    (of_decide_eq_true (by kernel_rfl)) (by unfold Func.isWrapper; first | (rw [if_pos (by decide +kernel)]; kernel_rfl) | (rw [if_neg (by decide +kernel)]; exact ⟨rfl, rfl⟩))
    (fun os started H enc _ => lifted os started H enc)

theorem proved : Rows.ImageNewSaid := over
end Go.Proofs.Ytebahhmajllmnaa.lawNew
