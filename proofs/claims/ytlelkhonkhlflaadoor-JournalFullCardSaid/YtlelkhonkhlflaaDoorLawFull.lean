/-
  THE LAW JournalFull: exactly as many entries as the capacity are accepted, whatever their lengths. For every number and every slice of bytes, no condition.
-/
import Derived.Test.YtlelkhonkhlflaaDoorFrame
namespace Go.Proofs.YtlelkhonkhlflaaDoor.lawFull
open Go.ChangeShapes Go.WideShapes Go.ChangeAt Go.RowKit
set_option linter.unusedVariables false
set_option linter.unusedSimpArgs false
set_option maxRecDepth 100000

theorem sectors_ok (z : Int) : ∃ l : Nat, l < 40 ∧ (wrap64 (z.tmod 40 + 40)).tmod 40 = (l : Int) := by
  have h1 : -40 < z.tmod 40 ∧ z.tmod 40 < 40 := ⟨by have := Int.lt_tmod_of_pos z (show (0 : Int) < 40 by omega); omega, Int.tmod_lt_of_pos z (by omega)⟩
  have h2 : wrap64 (z.tmod 40 + 40) = z.tmod 40 + 40 := by
    unfold wrap64
    omega
  rw [h2, Int.tmod_eq_emod_of_nonneg (by omega)]
  exact ⟨((z.tmod 40 + 40) % 40).toNat, by omega, by omega⟩
theorem capRef_any (n : Nat) (w : World) (h4 : 4 ≤ n) (hn : n ≤ 4096) : Calls Tryd.prog 21 #[.int .i64 (n : Int)] w fun en w' => en = .returned (.int .i64 (capJ n : Nat)) ∧ w = w' := by
  have HC : Hid (((n : Int) - 4) / 4 = (capJ n : Nat)) := by
    unfold Hid capJ
    omega
  have ht : ((n : Int) - 4).tdiv 4 = ((n : Int) - 4) / 4 := Int.tdiv_eq_ediv_of_nonneg (by omega)
  go_enter Tryd.func21, Tryd.ntmps21
  go_wp2_with fail
  go_ret
  exact ⟨by rw [← HC.out]; rfl, rfl⟩
theorem conv_x (w : World) : (convert 22 22 (.slice (some ⟨w.heap.size, 0, none⟩) 1 1)).run Tryd.prog (w.alloc (.cells #[.int .u8 120] 5)) = .ok (.slice (some ⟨w.heap.size, 0, none⟩) 1 1) (w.alloc (.cells #[.int .u8 120] 5 (1, 2))) :=
  Lib.run_convert_bytes_const w 22 5 #[.int .u8 120] 1 1 Tryd.underlying22 Tryd.underlying5
/-- what the loop holds -/
def FullI (F : Nat → Prop) (W : World) (j s n k : Nat) (v : World) : Prop := ∃ G ss es, JOk konN F G v j s ss es ∧ ss.length = n ∧ es.length = k ∧ Below W.heap.size W v ∧ (∀ i, F i → W.heap.size ≤ i) ∧ ∀ i, G i → W.heap.size ≤ i
/-- an entry of m zeros is accepted -/
theorem zeros_any {F : Nat → Prop} {W w : World} {j s n k m : Nat} (hK : Kon konN W) (h : FullI F W j s n k w) (hk : k < capJ n) (h1 : 1 ≤ m) (h2 : m ≤ 200) :
    Calls Tryd.prog 10 #[.pointer (some ⟨j, 0, none⟩), .slice (some ⟨w.heap.size, 0, none⟩) m m] (w.alloc (.cells (madeCells #[.int .u8 0] m) 5)) fun en w' => en = .returned (.int .i64 0) ∧ FullI F W j s n (k + 1) w' := by
  obtain ⟨G, ss, es, hJ, hsl, hel, hB, hF, hG⟩ := h
  have hB2 : Below w.heap.size w (w.alloc (.cells (madeCells #[.int .u8 0] m) 5)) := (Below.refl _ _).alloc (Nat.le_refl _) _
  have hl : (List.replicate m (0 : UInt8)).length = m := List.length_replicate ..
  have hs := hB.size
  have h3 := append_jok (c := m) (hJ.kept hB2) (hK.below (hB.trans (hB2.mono hs)) hK.some_) (by rw [hel, hsl]; exact hk) (Row.made w m).bys (fun hi => by have := hJ.jrn.dsk.lt _ hi; omega) (fun hi => by have := hJ.jrn.lt _ hi; omega) (by rw [hl]; exact h1) (by rw [hl]; exact h2) (by rw [hl]; exact Nat.le_refl _)
  rw [hl] at h3
  refine h3.mono ?_
  rintro en w' ⟨rfl, G', ss', hJ', hsl', hC, hG'⟩
  refine ⟨rfl, G', ss', _, hJ', hsl'.trans hsl, by rw [List.length_append, hel]; rfl, ?_, hF, fun i hi => ?_⟩
  · have hs2 := hB2.size
    exact (hB.trans (hB2.mono hs)).trans (hC.below (fun i hi h5 => h5.elim (fun h6 => by have := hF i h6; omega) (fun h6 => by have := hG i h6; omega)) (by omega))
  · rcases hG' i hi with h5 | h5
    · exact hG i h5
    · have hs2 := hB2.size; omega
theorem full_room {F : Nat → Prop} {W w : World} {j s n k : Nat} (h : FullI F W j s n k w) (h4 : 4 ≤ n) : Calls Tryd.prog 22 #[.pointer (some ⟨j, 0, none⟩)] w fun en w' => en = .returned (.int .i64 ((capJ n : Nat) - (k : Nat) : Int)) ∧ FullI F W j s n k w' ∧ w.heap.size ≤ w'.heap.size := by
  obtain ⟨G, ss, es, hJ, hsl, hel, hB, hF, hG⟩ := h
  have h1 := room_any hJ.jrn (by rw [hsl]; exact h4)
  rw [hsl, hel] at h1
  refine h1.mono ?_
  rintro en w' ⟨rfl, hB2⟩
  exact ⟨rfl, ⟨G, ss, es, hJ.kept hB2, hsl, hel, hB.trans (hB2.mono hB.size), hF, hG⟩, hB2.size⟩
set_option maxHeartbeats 3200000 in
theorem walk (z : Int) (A : Option Addr) (c : Nat) (us : List UInt8) {W : World} (hK : Kon konN W) (hu : Bys W A us) (hm : us.length ≤ maxLen) (hcu : us.length ≤ c) : Calls Tryd.prog 6 #[.int .i64 z, .slice A us.length c] W fun e W' => e = .returned (.bool true) ∧ Below W.heap.size W W' := by
  have h0 := hK.some_
  have HK := hide hK
  have HU := hide hu
  obtain ⟨l, hl, hz⟩ := sectors_ok z
  obtain ⟨n, hn⟩ : ∃ n, n = 8 + l := ⟨_, rfl⟩
  have hn8 : 8 ≤ n := by omega
  have hn48 : n ≤ 47 := by omega
  have hnI : 8 + (l : Int) = (n : Int) := by omega
  have HF := hide (fresh_any (n := n) hK hn8 (by omega))
  have hcp1 : 1 ≤ capJ n := by unfold capJ; omega
  have hcp2 : capJ n ≤ 11 := by unfold capJ; omega
  have hcx := conv_x
  have hum : us.length ≤ maxLen := hm
  clear hK hu hn
  go_enter Tryd.func6, Tryd.ntmps6
  go_wp2_with fail
  refine HF.out.mono ?_
  rintro en w1 ⟨s, j, ss, F, G, rfl, hJ1, hsl, hB1, hF1, hG1⟩
  have HI : Hid (FullI F W j s n 0 w1) := ⟨G, ss, [], hJ1, hsl, rfl, hB1, hF1, hG1⟩
  have HCR := hide (capRef_any n w1 (by omega) (by omega))
  clear hJ1 hsl hB1 hF1 hG1
  go_wp2_with fail
  refine HCR.out.mono ?_
  rintro en wx ⟨rfl, rfl⟩
  obtain ⟨cp, hcp⟩ : ∃ cp, cp = capJ n := ⟨_, rfl⟩
  rw [← hcp] at hcp1 hcp2 ⊢
  have HCP := hide hcp
  clear hcp HCR HF
  go_wp2_with fail
  go_loopw [9] (fun i wr => ∃ k : Nat, k ≤ cp ∧ i = .int .i64 k ∧ Hid (FullI F W j s n k wr)) (fun i _ => cp - (iOf i).toNat)
  case atStart => exact ⟨0, by omega, rfl, HI⟩
  case round =>
    clear HI
    obtain ⟨k, hk, rfl, HI⟩ := hrel
    by_cases hlt : k < cp
    · have HRM := hide (full_room HI.out (by omega))
      rw [← HCP.out] at HRM
      have hwI : IntKind.i64.wrap ((cp : Int) - (k : Int)) = (cp : Int) - (k : Int) := IntWalk.i64_in _ (by omega)
      have hmk0 : ∀ (m : Nat), m ≤ 200 → ∀ (w : World), (Instr.makeSlice 22 (.int .i64 (m : Int)) (.int .i64 (m : Int))).run Tryd.prog w = .ok (.slice (some ⟨w.heap.size, 0, none⟩) m m) (w.alloc (.cells (madeCells #[.int .u8 0] m) 5)) := fun m hm w =>
        run_make_row' 22 5 (.int .u8 0) 1 Tryd.underlying22 u8info rfl .i64 .i64 m (by omega) (by omega) w
      by_cases hkl : k < us.length
      · obtain ⟨b, off, hA, hb1, hc1⟩ := HU.out (by omega)
        subst hA
        obtain ⟨x, hx⟩ : ∃ x, x = (us.getD k 0).toNat := ⟨_, rfl⟩
        have hx2 : x ≤ 255 := by rw [hx]; have := (us.getD k 0).toNat_lt; omega
        have q : wr.cell? ⟨b, off + k, none⟩ = some (.int .u8 (x : Int)) := by
          obtain ⟨_, _, _, _, _, _, hB, _⟩ := HI.out
          rw [hx]
          exact (hB.cell (p := ⟨b, off + k, none⟩) hb1).trans (hc1 k hkl)
        obtain ⟨m, hm⟩ : ∃ m, m = 1 + x % 200 := ⟨_, rfl⟩
        have hm1 : 1 ≤ m := by omega
        have hm2 : m ≤ 200 := by omega
        have hmI : 1 + (x : Int) % 200 = (m : Int) := by omega
        have hmk := hmk0 m hm2
        clear hmk0 hc1 hx hm
        go_wp2_with fail
        refine HRM.out.mono ?_
        rintro en w2 ⟨rfl, hI2, hs2⟩
        have HZ := hide (zeros_any HK.out hI2 (by rw [← HCP.out]; exact hlt) hm1 hm2)
        clear hI2 hs2
        go_wp2_with fail
        refine HZ.out.mono ?_
        rintro en w3 ⟨rfl, hI3⟩
        have HI3 := hide hI3
        clear hI3
        go_wp2_with fail
        go_roundw
        case rel => exact ⟨k + 1, by omega, by go_num, HI3⟩
        case measure => simp [iOf]; omega
      · obtain ⟨m, hm⟩ : ∃ m, m = 200 := ⟨_, rfl⟩
        have hm1 : 1 ≤ m := by omega
        have hm2 : m ≤ 200 := by omega
        have hmk : ∀ (w : World), (Instr.makeSlice 22 (.int .i64 200) (.int .i64 200)).run Tryd.prog w = .ok (.slice (some ⟨w.heap.size, 0, none⟩) 200 200) (w.alloc (.cells (madeCells #[.int .u8 0] 200) 5)) := hmk0 200 (by omega)
        clear hmk0 hm2
        subst hm
        have hm2 : 200 ≤ 200 := by omega
        go_wp2_with fail
        refine HRM.out.mono ?_
        rintro en w2 ⟨rfl, hI2, hs2⟩
        have HZ := hide (zeros_any HK.out hI2 (by rw [← HCP.out]; exact hlt) hm1 hm2)
        clear hI2 hs2
        go_wp2_with fail
        refine HZ.out.mono ?_
        rintro en w3 ⟨rfl, hI3⟩
        have HI3 := hide hI3
        clear hI3
        go_wp2_with fail
        go_roundw
        case rel => exact ⟨k + 1, by omega, by go_num, HI3⟩
        case measure => simp [iOf]; omega
    · obtain rfl : k = cp := by omega
      obtain ⟨G, ss, es, hJ, hsl, hel, hB, hF, hG⟩ := HI.out
      have hfull : es.length = capJ ss.length := by rw [hel, hsl]; exact HCP.out
      have HCR := hide (crash_jok hJ)
      have HJ := hide hJ
      have HB := hide hB
      have HEL := hide hel
      have HSL := hide hsl
      have HFU := hide hfull
      clear hJ hB hF hG hel hsl hfull
      go_wp2_with fail
      refine HCR.out.mono ?_
      rintro en w2 ⟨s2, rfl, hB2, hD2⟩
      have hB2' := HB.out.trans (hB2.mono HB.out.size)
      have HOP := hide (open_ok hD2 (HK.out.below hB2' h0) HJ.out.disk)
      have HJ2 := hide (HJ.out.kept hB2)
      have HB2 := hide hB2'
      clear hB2 hD2 hB2'
      go_wp2_with fail
      refine HOP.out.mono ?_
      rintro en w3 ⟨j2, G3, rfl, hK3, hB3, hG3⟩
      have HJ3 := hide (HJ2.out.kept hB3)
      have HB3 := hide (HB2.out.trans (hB3.mono HB2.out.size))
      have HK3 := hide hK3
      have HAW := hide (awake_any (HK.out.below HB3.out h0))
      clear hB3 hK3 hG3
      go_wp2_with fail
      refine HAW.out.mono ?_
      rintro en w4 ⟨rfl, hB4⟩
      have hB45 : Below w4.heap.size w4 (w4.alloc (.cells #[.int .u8 120] 5 (1, 2))) := (Below.refl _ _).alloc (Nat.le_refl _) _
      have hB35 := hB4.trans (hB45.mono hB4.size)
      have HAP := hide (append_full (HJ3.out.kept hB35).jrn HJ.out.four HFU.out (some ⟨w4.heap.size, 0, none⟩) 1 1 (by omega) (by omega))
      have HK5 := hide (HK3.out.kept hB35)
      have HB5 := hide (HB3.out.trans (hB35.mono HB3.out.size))
      clear hB4 hB45 hB35
      go_wp2_with fail
      refine HAP.out.mono ?_
      rintro en w6 ⟨rfl, hB6⟩
      have HK6 := hide (HK5.out.kept hB6)
      have HB6 := hide (HB5.out.trans (hB6.mono HB5.out.size))
      have hln := len_any HK6.out
      rw [HEL.out] at hln
      have HLN := hide hln
      clear hB6 hln
      go_wp2_with fail
      refine HLN.out.mono ?_
      rintro en wx ⟨rfl, rfl⟩
      have hB67 : Below w6.heap.size w6 (w6.alloc (.cells #[.int .u8 120] 5 (1, 2))) := (Below.refl _ _).alloc (Nat.le_refl _) _
      have HAP2 := hide (append_full (HK6.out.kept hB67) HJ.out.four HFU.out (some ⟨w6.heap.size, 0, none⟩) 1 1 (by omega) (by omega))
      have HK7 := hide (HK6.out.kept hB67)
      have HB7 := hide (HB6.out.trans (hB67.mono HB6.out.size))
      clear hB67
      go_wp2_with fail
      refine HAP2.out.mono ?_
      rintro en w8 ⟨rfl, hB8⟩
      have hrm := room_any (HK7.out.kept hB8) HJ.out.four
      rw [HFU.out, Int.sub_self] at hrm
      have HRM := hide hrm
      have HB8 := hide (HB7.out.trans (hB8.mono HB7.out.size))
      clear hB8 hrm
      go_wp2_with fail
      refine HRM.out.mono ?_
      rintro en w9 ⟨rfl, hB9⟩
      go_wp2_with fail
      go_ret
      exact ⟨rfl, HB8.out.trans (hB9.mono HB8.out.size)⟩

theorem laid_met (os : Os) : laidMet Tryd.prog Rows.journalFullRow.laid ((laidWorld os).forCall (fun _ _ => 0) ⟨#[], #[.int .i64 0, .slice none 0 0], []⟩).memory :=
  laidMet_of_run' 8 (by kernel_rfl) (by kernel_rfl)
theorem lifted (os : Os) (started : os.Started) (H : Type) (enc : TypeId × Value → H) :
    ReturnsInHanded {} Tryd.checked os 6 .any (fun w args => (Rows.journalFullSpec.pre enc Tryd.prog Tryd.f6 [] false w args ∧ laidMetH Tryd.prog Rows.journalFullRow.laid w) ∧ sizedMet enc Tryd.prog Tryd.f6 (OpenSpec.ofChange Rows.journalFullSpec) false w args)
      (Rows.journalFullSpec.post enc Tryd.prog Tryd.f6 false true false false) := by
  refine returnsInHanded_of_change_and (C := Tryd.checked) (X := fun w _ => laidMetH Tryd.prog Rows.journalFullRow.laid w) (fun _ _ _ hh h => h.of_heap hh) own started (by kernel_rfl) Tryd.func6
    (ChangeSpec.witness_at (enc := enc) (C := Tryd.checked) (os := os) (X := fun w _ => laidMetH Tryd.prog Rows.journalFullRow.laid w) false (laidWorld os) #[.int .i64 0, .slice none 0 0] 8 rfl (by kernel_rfl) (by kernel_rfl) (by kernel_rfl) (by kernel_rfl) (by kernel_rfl) (laid_met os)) ?_
  intro W base args ds gs before hval0 hW hcnd _ hL _
  have hval : ∀ (j : Nat) t v, Tryd.f6.params[j]? = some t → args[j]? = some v → Value.okWide Tryd.prog W .any base t v := hval0
  have hK : Kon konN W := kon_of_laid hL
  have hW' := hW
  obtain ⟨p, q, hA0, hV, rfl, hfz, hnd⟩ := hW
  have hA : DataW.TrodAll enc Tryd.prog W 0 (fun _ => true) true Tryd.f6.params.toList args.toList ds p := hA0
  rw [Tryd.params6] at hA hval
  obtain ⟨v0, vs0, d0, ds0, p0, q0, hargs, rfl, rfl, h0, r0⟩ := trodAll_cons hA
  obtain ⟨v1, vs1, d1, ds1, p1, q1, rfl, rfl, rfl, h1, r1⟩ := trodAll_cons r0
  obtain ⟨rfl, rfl, rfl⟩ := trodAll_nil r1
  obtain rfl : args = #[v0, v1] := by cases args; simp_all
  obtain ⟨a0, rfl, _, _, w0⟩ := open_int Tryd.underlying3 (hval 0 3 v0 rfl rfl) h0
  obtain ⟨A1, c1, bs1, rfl, hb1, hm1, hcp1⟩ := open_bytes_arg (hval 1 22 v1 rfl rfl) h1
  refine (walk a0 A1 c1 bs1 hK hb1 hm1 hcp1).mono fun e W' ⟨he, hb⟩ => ?_
  subst he
  exact ⟨_, rfl, post_law hW' rfl hb (by rw [Tryd.params6]; exact params_ok (by kernel_rfl)) rfl rfl⟩

theorem over : Rows.journalFullRow.holds Tryd.pinned (OpenSpec.ofChange Rows.journalFullSpec) :=
  OpenClaim.holds_of_wide 6 Tryd.f6 rfl rfl rfl rfl rfl rfl rfl ⟨rfl, rfl, rfl, rfl, rfl⟩ rfl rfl rfl rfl rfl (by kernel_rfl) Tryd.func6 (by kernel_rfl)
    (of_decide_eq_true (by kernel_rfl)) (by unfold Func.isWrapper; first | (rw [if_pos (by decide +kernel)]; kernel_rfl) | (rw [if_neg (by decide +kernel)]; exact ⟨rfl, rfl⟩))
    (fun os started H enc _ => lifted os started H enc)

theorem plain (f : FuncId) (fn : Func) (hf : Tryd.pinned.checked.prog.funcNamed "election/electionlaw16.JournalFull" = some f) (hfn : Tryd.pinned.checked.prog.funcs[f]? = some fn) :
    false = Tryd.pinned.checked.prog.looks [] ∧ ∀ (j : Nat) t, fn.params[j]? = some t → Tryd.pinned.checked.prog.wantsStandIn t = false := by
  obtain rfl : f = 6 := Option.some.inj ((show Tryd.prog.funcNamed "election/electionlaw16.JournalFull" = some 6 by kernel_rfl).symm.trans hf) |>.symm
  obtain rfl : fn = Tryd.f6 := (Option.some.inj (Tryd.func6.symm.trans hfn)).symm
  refine ⟨by kernel_rfl, fun j t ht => ?_⟩
  rw [Tryd.params6] at ht
  have hm := Array.mem_of_getElem? ht
  simp only [List.mem_toArray, List.mem_cons, List.not_mem_nil, or_false] at hm
  rcases hm with rfl | rfl
  · exact (show Tryd.prog.wantsStandIn 3 = false by kernel_rfl)
  · exact (show Tryd.prog.wantsStandIn 22 = false by kernel_rfl)
theorem proved : Rows.JournalFullCardSaid :=
  Claim7.holds_tied_plain_at .later [] _ _ _ _ over (fun _ h => by cases h) (by kernel_rfl) (fun _ h => by cases h) journalFull_row_tie rfl ⟨rfl, rfl⟩ (by kernel_rfl) rfl plain (by kernel_rfl)
end Go.Proofs.YtlelkhonkhlflaaDoor.lawFull
