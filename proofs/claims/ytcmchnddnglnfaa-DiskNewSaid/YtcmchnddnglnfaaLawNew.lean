/-
  DiskNew: New accepts exactly the numbers from 1 to 4,096, and the disk is empty: for every number.
-/
import Derived.Test.YtcmchnddnglnfaaFrame
namespace Go.Proofs.Ytcmchnddnglnfaa.lawNew
open Go.ChangeShapes Go.WideShapes Go.ChangeAt Go.RowKit
set_option linter.unusedVariables false
set_option linter.unusedSimpArgs false

set_option maxHeartbeats 3200000 in
set_option maxRecDepth 100000 in
theorem walk_no (a : Int) (W : World) (h : ¬ (1 ≤ a ∧ a ≤ 4096)) : Calls Try.prog 5 #[.int .i64 a] W fun e W' => e = .returned (.bool true) ∧ Below W.heap.size W W' := by
  have hc : (decide (a < 1) = true) ∨ (decide (a < 1) = false ∧ decide (4096 < a) = true) := by
    by_cases h1 : a < 1
    · exact .inl (decide_eq_true h1)
    · exact .inr ⟨decide_eq_false h1, decide_eq_true (by omega)⟩
  have HN := hide (new_no a W h)
  clear h
  rcases hc with t1 | ⟨t1, t2⟩
  all_goals
    go_enter Try.func5, Try.ntmps5
    go_wp2_with fail
    refine HN.out.mono ?_
    rintro en w1 ⟨rfl, hB1⟩
    have HB1 := hide hB1
    clear hB1
    go_wp2_with fail
    refine (awake_any w1).mono ?_
    rintro en w2 ⟨rfl, hB2⟩
    have HB2 := hide (HB1.out.trans (hB2.mono HB1.out.size))
    clear hB2
    go_wp2_with fail
    refine (sectors_nil w2).mono ?_
    rintro en wx ⟨rfl, rfl⟩
    go_wp2_with fail
    refine (dead_nil w2).mono ?_
    rintro en wx ⟨rfl, rfl⟩
    go_wp2_with fail
    refine (write_nil 0 w2 none 0 0).mono ?_
    rintro en wx ⟨rfl, rfl⟩
    go_wp2_with fail
    refine (sync_nil w2).mono ?_
    rintro en wx ⟨rfl, rfl⟩
    go_wp2_with fail
    refine (crash_nil w2 none 0 0).mono ?_
    rintro en wx ⟨rfl, rfl⟩
    go_wp2_with fail
    refine (dirty_nil w2).mono ?_
    rintro en wx ⟨rfl, rfl⟩
    go_wp2_with fail
    go_ret
    exact ⟨rfl, HB2.out⟩

set_option maxHeartbeats 3200000 in
set_option maxRecDepth 100000 in
theorem walk_yes (n : Nat) (W : World) (h1 : 1 ≤ n) (h2 : n ≤ 4096) : Calls Try.prog 5 #[.int .i64 (n : Int)] W fun e W' => e = .returned (.bool true) ∧ Below W.heap.size W W' := by
  have HN := hide (new_ok n W h1 h2)
  have t1 : decide ((n : Int) < 1) = false := decide_eq_false (by omega)
  have t2 : decide ((4096 : Int) < (n : Int)) = false := decide_eq_false (by omega)
  have q : (0 : Int) ≤ (n : Int) - 1 := by omega
  have hmk : ∀ (w : World), (Instr.makeSlice 22 (.int .i64 64) (.int .i64 64)).run Try.prog w = .ok (.slice (some ⟨w.heap.size, 0, none⟩) 64 64) (w.alloc (.cells (madeCells #[.int .u8 0] 64) 5)) := fun w =>
    run_make_row' 22 5 (.int .u8 0) 1 Try.underlying22 u8info rfl .i64 .i64 64 (by omega) (by omega) w
  have hs : (List.replicate n zeroS).getD (n - 1) [] = zeroS := by
    rw [List.getD_eq_getElem?_getD, List.getElem?_replicate, if_pos (by omega)]
    rfl
  have HS := hide hs
  clear hs
  go_enter Try.func5, Try.ntmps5
  go_wp2_with fail
  refine HN.out.mono ?_
  rintro en w1 ⟨s, rfl, hB1, hD1⟩
  have HB1 := hide hB1
  have hR := read_ok hD1 (n - 1) (by rw [List.length_replicate]; omega)
  rw [HS.out, show ((n - 1 : Nat) : Int) = (n : Int) - 1 by omega] at hR
  have HR := hide hR
  have HD1 := hide hD1
  clear hB1 hD1 hR
  go_wp2_with fail
  refine HR.out.mono ?_
  rintro en w2 ⟨gb, cb, hgb, rfl, hR2, hB2⟩
  have HD2 := hide (HD1.out.kept hB2)
  have HR2 := hide hR2
  have HB2 := hide (HB1.out.trans (hB2.mono HB1.out.size))
  clear hB2 hR2 hgb
  have hE := read_err HD2.out (n : Int) 4 (by unfold chkE; rw [List.length_replicate, if_neg (by simp), if_neg (by omega), if_pos (by omega)]) (by omega)
  have HE := hide hE
  clear hE
  go_wp2_with fail
  refine HE.out.mono ?_
  rintro en wx ⟨rfl, rfl⟩
  go_wp2_with fail
  refine (awake_any w2).mono ?_
  rintro en w3 ⟨rfl, hB3⟩
  have HD3 := hide (HD2.out.kept hB3)
  have HR3 := hide (HR2.out.kept hB3)
  have HB3 := hide (HB2.out.trans (hB3.mono HB2.out.size))
  clear hB3
  go_wp2_with fail
  refine (sectors_any HD3.out).mono ?_
  rintro en wx ⟨rfl, rfl⟩
  rw [List.length_replicate]
  go_wp2_with fail
  have HR4 := hide (HR3.out.alloc (.cells (madeCells #[.int .u8 0] 64) 5))
  have HZ := hide (Row.made w3 64)
  have HD4 := hide (HD3.out.kept ((Below.refl _ _).alloc (Nat.le_refl _) (.cells (madeCells #[.int .u8 0] 64) 5)))
  have HB4 : Hid (Below W.heap.size W (w3.alloc (.cells (madeCells #[.int .u8 0] 64) 5))) := HB3.out.alloc HB3.out.size _
  refine (eq04_any (some ⟨gb, 0, none⟩) (some ⟨w3.heap.size, 0, none⟩) cb 64 zeroS (List.replicate 64 0) _ HR4.out.bys HZ.out.bys (by decide) (by decide)).mono ?_
  rintro en w5 ⟨rfl, hB5⟩
  rw [show (zeroS == List.replicate 64 0) = true by decide]
  have HD5 := hide (HD4.out.kept hB5)
  have HB5 := hide (HB4.out.trans (hB5.mono HB4.out.size))
  clear hB5
  go_wp2_with fail
  refine (dead_any HD5.out).mono ?_
  rintro en wx ⟨rfl, rfl⟩
  go_wp2_with fail
  go_ret
  exact ⟨rfl, HB5.out⟩
theorem walk (a : Int) (W : World) : Calls Try.prog 5 #[.int .i64 a] W fun e W' => e = .returned (.bool true) ∧ Below W.heap.size W W' := by
  by_cases h : 1 ≤ a ∧ a ≤ 4096
  · obtain ⟨n, rfl⟩ : ∃ n : Nat, a = (n : Int) := ⟨a.toNat, by omega⟩
    exact walk_yes n W (by omega) (by omega)
  · exact walk_no a W h

set_option maxRecDepth 100000 in
theorem lifted (os : Os) (started : os.Started) (H : Type) (enc : TypeId × Value → H) :
    ReturnsInHanded {} Try.checked os 5 .any (Rows.diskNewSpec.pre6 enc Try.prog Try.f5 Rows.diskNewRow.domain false) (Rows.diskNewSpec.post enc Try.prog Try.f5 false true false false) := by
  refine returnsInHanded_of_change (C := Try.checked) own started (by kernel_rfl) Try.func5
    (ChangeSpec.witness6 (enc := enc) (C := Try.checked) false ⟨#[], #[.int .i64 0], []⟩ 8 (by kernel_rfl) (by kernel_rfl) (by kernel_rfl) (by kernel_rfl)) ?_
  intro W base args ds gs before hval0 hW hcnd _
  have hval : ∀ (j : Nat) t v, Try.f5.params[j]? = some t → args[j]? = some v → Value.okWide Try.prog W .any base t v := hval0
  have hW' := hW
  obtain ⟨p, q, hA0, hV, rfl, hfz, hnd⟩ := hW
  have hA : DataW.TrodAll enc Try.prog W 0 (fun _ => true) true Try.f5.params.toList args.toList ds p := hA0
  rw [Try.params5] at hA hval
  obtain ⟨v0, vs0, d0, ds0, p0, q0, hargs, rfl, rfl, h0, r0⟩ := trodAll_cons hA
  obtain ⟨rfl, rfl, rfl⟩ := trodAll_nil r0
  obtain rfl : args = #[v0] := by cases args; simp_all
  obtain ⟨a0, rfl, _, _, w0⟩ := open_int Try.underlying3 (hval 0 3 v0 rfl rfl) h0
  refine (walk a0 W).mono fun e W' ⟨he, hb⟩ => ?_
  subst he
  exact ⟨_, rfl, post_law hW' rfl hb (by rw [Try.params5]; exact params_ok (by kernel_rfl)) rfl rfl⟩

theorem over : Rows.diskNewRow.holds Try.pinned (OpenSpec.ofChange Rows.diskNewSpec) :=
  OpenClaim.holds_of_wide 5 Try.f5 rfl rfl rfl rfl rfl rfl rfl ⟨rfl, rfl, rfl, rfl, rfl⟩ rfl rfl rfl rfl rfl (by kernel_rfl) Try.func5 (by kernel_rfl)
    (of_decide_eq_true (by kernel_rfl)) (by unfold Func.isWrapper; first | (rw [if_pos (by decide +kernel)]; kernel_rfl) | (rw [if_neg (by decide +kernel)]; exact ⟨rfl, rfl⟩))
    (fun os started H enc _ => lifted os started H enc)

theorem proved : Rows.DiskNewSaid := over
end Go.Proofs.Ytcmchnddnglnfaa.lawNew
