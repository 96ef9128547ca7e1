/-
  THE LAW JournalNone: disks that are missing, too small, dead or empty, and a nil journal, are refused as the law says. No condition.
-/
import Derived.Test.YtlelkhonkhlflaaDoorFrame
namespace Go.Proofs.YtlelkhonkhlflaaDoor.lawNone
open Go.ChangeShapes Go.WideShapes Go.ChangeAt Go.RowKit
set_option linter.unusedVariables false
set_option linter.unusedSimpArgs false
set_option maxRecDepth 100000

theorem all_nil (w : World) : Calls Tryd.prog 11 #[.pointer none] w fun en w' => en = .returned (.slice none 0 0) ∧ w = w' := by
  go_enter Tryd.func11, Tryd.ntmps11
  go_wp2_with fail
  go_ret
  exact ⟨rfl, rfl⟩
theorem conv_x (w : World) : (convert 22 22 (.slice (some ⟨w.heap.size, 0, none⟩) 1 1)).run Tryd.prog (w.alloc (.cells #[.int .u8 120] 5)) = .ok (.slice (some ⟨w.heap.size, 0, none⟩) 1 1) (w.alloc (.cells #[.int .u8 120] 5 (1, 2))) :=
  Lib.run_convert_bytes_const w 22 5 #[.int .u8 120] 1 1 Tryd.underlying22 Tryd.underlying5
set_option maxHeartbeats 3200000 in
theorem walk {W : World} (hK : Kon konN W) : Calls Tryd.prog 8 #[] W fun e W' => e = .returned (.bool true) ∧ Below W.heap.size W W' := by
  have h0 := hK.some_
  have HK := hide hK
  have HN := hide (new_ok 8 W (by omega) (by omega))
  have hcx := conv_x
  clear hK
  go_enter Tryd.func8, Tryd.ntmps8
  go_wp2_with fail
  refine HN.out.mono ?_
  rintro en w1 ⟨s, rfl, hB1, hD1⟩
  have hs1 := hB1.size
  have HFU := hide (fuse_any hD1 0)
  have HB1 := hide hB1
  have HLT := hide hD1.mem
  clear hB1 hD1
  go_wp2_with fail
  refine HFU.out.mono ?_
  rintro en w2 ⟨rfl, hC2, hD2⟩
  rw [show max (0 : Int) (-1) = 0 from rfl] at hD2
  have hB2 : Below W.heap.size W w2 := HB1.out.trans (hC2.below (fun i hi hF => by have := HLT.out.1; omega) hs1)
  have HSY := hide (sync_burnt hD2)
  have HB2 := hide hB2
  clear hC2 hB2 hD2
  go_wp2_with fail
  refine HSY.out.mono ?_
  rintro en w3 ⟨rfl, hC3, hD3⟩
  have hB3 : Below W.heap.size W w3 := HB2.out.trans (hC3.below (fun i hi hF => by omega) HB2.out.size)
  have HD3 := hide hD3
  have HB3 := hide hB3
  have HON := hide (open_nil w3)
  have HOD := hide (open_dead hD3)
  have HN3 := hide (new_ok 8 w3 (by omega) (by omega))
  clear hC3 hB3 hD3
  go_wp2_with fail
  refine HON.out.mono ?_
  rintro en wx ⟨rfl, rfl⟩
  go_wp2_with fail
  refine HOD.out.mono ?_
  rintro en wx ⟨rfl, rfl⟩
  go_wp2_with fail
  refine HN3.out.mono ?_
  rintro en w4 ⟨s4, rfl, hB4, hD4⟩
  have HOF := hide (open_form hD4 (by rw [show (List.replicate 8 zeroS).getD 0 [] = zeroS from rfl]; decide))
  have HD4 := hide (HD3.out.kept hB4)
  have HB4 := hide (HB3.out.trans (hB4.mono HB3.out.size))
  clear hB4 hD4
  go_wp2_with fail
  refine HOF.out.mono ?_
  rintro en w5 ⟨rfl, hB5⟩
  have HD5 := hide (HD4.out.kept hB5)
  have HB5 := hide (HB4.out.trans (hB5.mono HB4.out.size))
  have HAW := hide (awake_any (HK.out.below HB5.out h0))
  clear hB5
  go_wp2_with fail
  refine HAW.out.mono ?_
  rintro en w6 ⟨rfl, hB6⟩
  have HD6 := hide (HD5.out.kept hB6)
  have HB6 := hide (HB5.out.trans (hB6.mono HB5.out.size))
  have HFN := hide (format_nil w6)
  have HFD := hide (format_dead HD6.out)
  have HN6 := hide (new_ok 7 w6 (by omega) (by omega))
  clear hB6
  go_wp2_with fail
  refine HFN.out.mono ?_
  rintro en wx ⟨rfl, rfl⟩
  go_wp2_with fail
  refine HFD.out.mono ?_
  rintro en wx ⟨rfl, rfl⟩
  go_wp2_with fail
  refine HN6.out.mono ?_
  rintro en w7 ⟨s7, rfl, hB7, hD7⟩
  have HFS := hide (format_small hD7 (by rw [List.length_replicate]; omega))
  have HB7 := hide (HB6.out.trans (hB7.mono HB6.out.size))
  clear hB7 hD7
  go_wp2_with fail
  refine HFS.out.mono ?_
  rintro en wx ⟨rfl, rfl⟩
  go_wp2_with fail
  refine (append_nil _ _ 1 1).mono ?_
  rintro en wx ⟨rfl, rfl⟩
  go_wp2_with fail
  refine (all_nil _).mono ?_
  rintro en wx ⟨rfl, rfl⟩
  go_wp2_with fail
  refine (len_nil _).mono ?_
  rintro en wx ⟨rfl, rfl⟩
  go_wp2_with fail
  refine (room_nil _).mono ?_
  rintro en wx ⟨rfl, rfl⟩
  go_wp2_with fail
  go_ret
  exact ⟨rfl, HB7.out.alloc HB7.out.size _⟩

theorem laid_met (os : Os) : laidMet Tryd.prog Rows.journalNoneRow.laid ((laidWorld os).forCall (fun _ _ => 0) ⟨#[], #[], []⟩).memory :=
  laidMet_of_run' 8 (by kernel_rfl) (by kernel_rfl)
theorem lifted (os : Os) (started : os.Started) (H : Type) (enc : TypeId × Value → H) :
    ReturnsInHanded {} Tryd.checked os 8 .any (fun w args => (Rows.journalNoneSpec.pre enc Tryd.prog Tryd.f8 [] false w args ∧ laidMetH Tryd.prog Rows.journalNoneRow.laid w) ∧ sizedMet enc Tryd.prog Tryd.f8 (OpenSpec.ofChange Rows.journalNoneSpec) false w args)
      (Rows.journalNoneSpec.post enc Tryd.prog Tryd.f8 false true false false) := by
  refine returnsInHanded_of_change_and (C := Tryd.checked) (X := fun w _ => laidMetH Tryd.prog Rows.journalNoneRow.laid w) (fun _ _ _ hh h => h.of_heap hh) own started (by kernel_rfl) Tryd.func8
    (ChangeSpec.witness_at (enc := enc) (C := Tryd.checked) (os := os) (X := fun w _ => laidMetH Tryd.prog Rows.journalNoneRow.laid w) false (laidWorld os) #[] 8 rfl (by kernel_rfl) (by kernel_rfl) (by kernel_rfl) (by kernel_rfl) (by kernel_rfl) (laid_met os)) ?_
  intro W base args ds gs before hval0 hW hcnd _ hL _
  have hval : ∀ (j : Nat) t v, Tryd.f8.params[j]? = some t → args[j]? = some v → Value.okWide Tryd.prog W .any base t v := hval0
  have hK : Kon konN W := kon_of_laid hL
  have hW' := hW
  obtain ⟨p, q, hA0, hV, rfl, hfz, hnd⟩ := hW
  have hA : DataW.TrodAll enc Tryd.prog W 0 (fun _ => true) true Tryd.f8.params.toList args.toList ds p := hA0
  rw [Tryd.params8] at hA hval
  obtain ⟨hargs, rfl, rfl⟩ := trodAll_nil hA
  obtain rfl : args = #[] := by cases args; simp_all
  refine (walk hK).mono fun e W' ⟨he, hb⟩ => ?_
  subst he
  exact ⟨_, rfl, post_law hW' rfl hb (by rw [Tryd.params8]; exact params_ok (by kernel_rfl)) rfl rfl⟩

theorem over : Rows.journalNoneRow.holds Tryd.pinned (OpenSpec.ofChange Rows.journalNoneSpec) :=
  OpenClaim.holds_of_wide 8 Tryd.f8 rfl rfl rfl rfl rfl rfl rfl ⟨rfl, rfl, rfl, rfl, rfl⟩ rfl rfl rfl rfl rfl (by kernel_rfl) Tryd.func8 (by kernel_rfl)
    (of_decide_eq_true (by kernel_rfl)) (by unfold Func.isWrapper; first | (rw [if_pos (by decide +kernel)]; kernel_rfl) | (rw [if_neg (by decide +kernel)]; exact ⟨rfl, rfl⟩))
    (fun os started H enc _ => lifted os started H enc)

theorem plain (f : FuncId) (fn : Func) (hf : Tryd.pinned.checked.prog.funcNamed "election/electionlaw16.JournalNone" = some f) (hfn : Tryd.pinned.checked.prog.funcs[f]? = some fn) :
    false = Tryd.pinned.checked.prog.looks [] ∧ ∀ (j : Nat) t, fn.params[j]? = some t → Tryd.pinned.checked.prog.wantsStandIn t = false := by
  obtain rfl : f = 8 := Option.some.inj ((show Tryd.prog.funcNamed "election/electionlaw16.JournalNone" = some 8 by kernel_rfl).symm.trans hf) |>.symm
  obtain rfl : fn = Tryd.f8 := (Option.some.inj (Tryd.func8.symm.trans hfn)).symm
  refine ⟨by kernel_rfl, fun j t ht => ?_⟩
  rw [Tryd.params8] at ht
  simp at ht
theorem proved : Rows.JournalNoneCardSaid :=
  Claim7.holds_tied_plain_at .later [] _ _ _ _ over (fun _ h => by cases h) (by kernel_rfl) (fun _ h => by cases h) journalNone_row_tie rfl ⟨rfl, rfl⟩ (by kernel_rfl) rfl plain (by kernel_rfl)
end Go.Proofs.YtlelkhonkhlflaaDoor.lawNone
