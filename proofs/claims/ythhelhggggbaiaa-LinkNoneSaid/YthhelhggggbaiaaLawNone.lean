/-
  Numbers of frames and windows that are not allowed, and nil objects: the law LinkNone returns true for every input.
-/
import Derived.Test.YthhelhggggbaiaaNil
import Derived.Test.YthhelhggggbaiaaFrame
namespace Go.Proofs.Ythhelhggggbaiaa.lawNone
open Go.ChangeShapes Go.WideShapes Go.ChangeAt Go.RowKit Go.Proofs.Ythhelhggggbaiaa
set_option linter.unusedVariables false
set_option linter.unusedSimpArgs false

def Yes (w : World) (e : Ending) (w' : World) : Prop := e = .returned (.bool true) ∧ Below w.heap.size w w'
theorem tmod_bd (x : Int) : -8 < x.tmod 8 ∧ x.tmod 8 < 8 := by
  have h1 := Int.tmod_lt_of_pos x (show (0 : Int) < 8 by decide)
  have h2 := Int.lt_tmod_of_pos x (show (0 : Int) < 8 by decide)
  omega
theorem num_ex (x : Int) : ∃ N : Nat, 996 + x.tmod 8 % 8 = (N : Int) ∧ 996 ≤ N ∧ N ≤ 1003 := ⟨(996 + x.tmod 8 % 8).toNat, by omega, by omega, by omega⟩

theorem fr_made (w : World) (N : Nat) : Fr (w.alloc (.cells (madeCells #[.slice none 0 0] N) 32)) (some ⟨w.heap.size, 0, none⟩) (List.replicate N []) := fun hp => by
  rw [List.length_replicate] at hp
  refine ⟨w.heap.size, 0, rfl, by simp, fun k hk => ⟨none, 0, ?_, fun h => ?_, ?_⟩⟩
  · rw [List.length_replicate] at hk
    rw [Nat.zero_add, Box.cell (Box.new w 32 (madeCells #[.slice none 0 0] N)) k, ← Array.getElem?_toList, toList_madeCells_one]
    simp [hk, List.getD_eq_getElem?_getD]
  · rw [List.length_replicate] at hk
    simp [hk, List.getD_eq_getElem?_getD] at h
  · rw [List.length_replicate] at hk
    simp [hk, List.getD_eq_getElem?_getD]
theorem rep_len (N : Nat) : ∀ k, k < (List.replicate N ([] : List UInt8)).length → ((List.replicate N ([] : List UInt8)).getD k []).length ≤ 4096 := fun k hk => by
  rw [List.length_replicate] at hk
  simp [hk, List.getD_eq_getElem?_getD]
theorem newsender_made (N W : Nat) (w : World) (A : Option Addr) (h : Fr w A (List.replicate N [])) (h1 : 1 ≤ N) (h2 : N ≤ 1000) (hW1 : 1 ≤ W) (hW8 : W ≤ 8) :
    Calls Try.prog 11 #[.slice A N N, .int .i64 (W : Int)] w (NewSnd w (List.replicate N []) W) := by
  have := newsender_ok A N (List.replicate N []) W w h (by rw [List.length_replicate]; omega) (by rw [List.length_replicate]; omega) (rep_len N) hW1 hW8
  rwa [List.length_replicate] at this
theorem newsender_madeno (N : Nat) (W : Int) (w : World) (A : Option Addr) (h : Fr w A (List.replicate N [])) (h1 : 1 ≤ N) (h2 : N ≤ 1000) (hW : ¬ (1 ≤ W ∧ W ≤ 8)) :
    Calls Try.prog 11 #[.slice A N N, .int .i64 W] w (NoSnd w 4) := by
  have := newsender_no A N (List.replicate N []) W w h (by rw [List.length_replicate]; omega) (by rw [List.length_replicate]; omega) (rep_len N) hW
  rwa [List.length_replicate] at this
theorem long_cell (w : World) (o : Obj) {v : Value} {t : TypeId} : ((w.alloc o).alloc (.cells #[v] t)).cell? ⟨w.heap.size + 1, 0, none⟩ = some v := by
  have h := Box.cell (Box.new (w.alloc o) t #[v]) 0
  rw [World.size_alloc] at h
  exact h

set_option maxHeartbeats 3200000 in
set_option maxRecDepth 100000 in
theorem walk (x win : Int) (w : World) : Calls Try.prog 8 #[.int .i64 x, .int .i64 win] w (Yes w) := by
  obtain ⟨hx1, hx2⟩ := tmod_bd x
  obtain ⟨N, hNe, hN1, hN2⟩ := num_ex x
  have HNE := hide hNe
  clear hNe
  obtain ⟨m4, hm4⟩ : ∃ m4 : Nat, m4 = 4097 := ⟨_, rfl⟩
  have hmk1 : ∀ w : World, (Instr.makeSlice 22 (.int .i64 (N : Int)) (.int .i64 (N : Int))).run Try.prog w = .ok (.slice (some ⟨w.heap.size, 0, none⟩) N N) (w.alloc (.cells (madeCells #[.slice none 0 0] N) 32)) := fun w =>
    run_make_row' 22 32 (.slice none 0 0) 24 Try.underlying22 sliceinfo rfl .i64 .i64 N (by omega) (by omega) w
  have hmk2 : ∀ w : World, (Instr.makeSlice 32 (.int .i64 4097) (.int .i64 4097)).run Try.prog w = .ok (.slice (some ⟨w.heap.size, 0, none⟩) m4 m4) (w.alloc (.cells (madeCells #[.int .u8 0] m4) 5)) := fun w => by
    rw [hm4]
    exact run_make_row' 32 5 (.int .u8 0) 1 Try.underlying32 u8info rfl .i64 .i64 4097 (by omega) (by omega) w
  have hm5 : 4096 < m4 := by omega
  have hm6 : m4 ≤ 5000 := by omega
  clear hm4
  go_enter Try.func8, Try.ntmps8
  go_wp2_with fail
  refine (next_nil _).mono ?_
  rintro e w1 ⟨rfl, hB1⟩
  have HB1 := hide hB1
  have hs1 := hB1.size
  clear hB1
  go_wp2_with fail
  refine (receive_nil _ _ _ _ _ _ _).mono ?_
  rintro e w2 ⟨rfl, hB2⟩
  have HB2 : Hid (Below w.heap.size w w2) := (HB1.out.alloc hs1 _).trans (hB2.mono (by simp; omega))
  clear hB2 HB1 hs1
  have hs2 := HB2.out.size
  go_wp2_with fail
  refine (srecv_nil _ _ _ _ _ _ _).mono ?_
  rintro e w3 ⟨rfl, hB3⟩
  have HB3 : Hid (Below w.heap.size w w3) := (HB2.out.alloc hs2 _).trans (hB3.mono (by simp; omega))
  clear hB3 HB2 hs2
  go_wp2_with fail
  refine (done_nil _).mono ?_
  rintro e w4 ⟨rfl, n4, rfl⟩
  go_wp2_with fail
  refine (complete_nil _).mono ?_
  rintro e w5 ⟨rfl, n5, rfl⟩
  go_wp2_with fail
  refine (rframes_nil _).mono ?_
  rintro e w6 ⟨rfl, hB6⟩
  have HB6 : Hid (Below w.heap.size w w6) := (below_drew HB3.out _).trans (hB6.mono (by simpa using HB3.out.size))
  clear hB6 HB3
  go_upto_region 9 with fail
  rw [HNE.out]
  have hs6 := HB6.out.size
  have HFM6 := hide (fr_made w6 N)
  obtain ⟨w7, hw7⟩ : ∃ w7, w7 = w6.alloc (.cells (madeCells #[.slice none 0 0] N) 32) := ⟨_, rfl⟩
  have HFM : Hid (Fr w7 (some ⟨w6.heap.size, 0, none⟩) (List.replicate N [])) := by rw [hw7]; exact HFM6.out
  have HB7 : Hid (Below w.heap.size w w7) := by rw [hw7]; exact HB6.out.alloc hs6 _
  have HW7 := hide hw7
  clear HFM6 hw7
  go_wp2_with fail
  rw [← HW7.out]
  by_cases hW : 1 ≤ win ∧ win ≤ 8
  · obtain ⟨W, rfl⟩ : ∃ W : Nat, win = (W : Int) := ⟨win.toNat, by omega⟩
    have hW1 : 1 ≤ W := by omega
    have hW8 : W ≤ 8 := by omega
    have b1 : decide ((W : Int) < 1) = false := decide_eq_false (by omega)
    have b2 : decide ((8 : Int) < (W : Int)) = false := decide_eq_false (by omega)
    have b3 : decide ((1 : Int) ≤ (W : Int)) = true := decide_eq_true (by omega)
    have b4 : decide ((W : Int) ≤ 8) = true := decide_eq_true (by omega)
    by_cases hN : 1000 < N
    · skip
      refine (newsender_many _ N N _ _ hN (by unfold maxLen; omega)).mono ?_
      rintro e w8 ⟨rfl, hB8⟩
      have HB8 : Hid (Below w.heap.size w w8) := HB7.out.trans (hB8.mono (by have := HB7.out.size; omega))
      clear hB8
      have hs8 := HB8.out.size
      go_wp2_with fail
      refine (newsender_none _ _ _ _).mono ?_
      rintro e w9 ⟨rfl, hB9⟩
      have HB9 : Hid (Below w.heap.size w w9) := HB8.out.trans (hB9.mono hs8)
      clear hB9
      have hs9 := HB9.out.size
      go_wp2_with fail
      refine (newsender_long (w9.heap.size + 1) 0 1 m4 m4 (some ⟨w9.heap.size, 0, none⟩) _ _ (long_cell _ _) (by omega) (by omega)).mono ?_
      rintro e w10 ⟨rfl, hB10⟩
      have HB10 : Hid (Below w.heap.size w w10) := ((HB9.out.alloc hs9 _).alloc (by simp; omega) _).trans (hB10.mono (by simp; omega))
      clear hB10
      have hs10 := HB10.out.size
      go_wp2_with fail
      refine (newreceiver_ok W _ hW1 hW8).mono ?_
      rintro e w11 ⟨r, rfl, _, hB11, _⟩
      have HB11 : Hid (Below w.heap.size w w11) := HB10.out.trans (hB11.mono hs10)
      clear hB11
      go_wp2_with fail
      refine (awake_any _).mono ?_
      rintro e w12 ⟨rfl, hB12⟩
      have HB12 : Hid (Below w.heap.size w w12) := HB11.out.trans (hB12.mono HB11.out.size)
      clear hB12
      go_wp2_with fail
      go_ret
      exact ⟨rfl, HB12.out⟩
    · skip
      refine (newsender_made N W w7 _ HFM.out (by omega) (by omega) hW1 hW8).mono ?_
      rintro e w8 ⟨s, rfl, _, hB8, _⟩
      have HB8 : Hid (Below w.heap.size w w8) := HB7.out.trans (hB8.mono (by have := HB7.out.size; omega))
      clear hB8
      have hs8 := HB8.out.size
      go_wp2_with fail
      refine (newsender_none _ _ _ _).mono ?_
      rintro e w9 ⟨rfl, hB9⟩
      have HB9 : Hid (Below w.heap.size w w9) := HB8.out.trans (hB9.mono hs8)
      clear hB9
      have hs9 := HB9.out.size
      go_wp2_with fail
      refine (newsender_long (w9.heap.size + 1) 0 1 m4 m4 (some ⟨w9.heap.size, 0, none⟩) _ _ (long_cell _ _) (by omega) (by omega)).mono ?_
      rintro e w10 ⟨rfl, hB10⟩
      have HB10 : Hid (Below w.heap.size w w10) := ((HB9.out.alloc hs9 _).alloc (by simp; omega) _).trans (hB10.mono (by simp; omega))
      clear hB10
      have hs10 := HB10.out.size
      go_wp2_with fail
      refine (newreceiver_ok W _ hW1 hW8).mono ?_
      rintro e w11 ⟨r, rfl, _, hB11, _⟩
      have HB11 : Hid (Below w.heap.size w w11) := HB10.out.trans (hB11.mono hs10)
      clear hB11
      go_wp2_with fail
      refine (awake_any _).mono ?_
      rintro e w12 ⟨rfl, hB12⟩
      have HB12 : Hid (Below w.heap.size w w12) := HB11.out.trans (hB12.mono HB11.out.size)
      clear hB12
      go_wp2_with fail
      go_ret
      exact ⟨rfl, HB12.out⟩
  · rcases (show win < 1 ∨ 8 < win by omega) with hlo | hhi
    · have c1 : decide (win < 1) = true := decide_eq_true hlo
      have c2 : decide ((1 : Int) ≤ win) = false := decide_eq_false (by omega)
      by_cases hN : 1000 < N
      · skip
        refine (newsender_many _ N N _ _ hN (by unfold maxLen; omega)).mono ?_
        rintro e w8 ⟨rfl, hB8⟩
        have HB8 : Hid (Below w.heap.size w w8) := HB7.out.trans (hB8.mono (by have := HB7.out.size; omega))
        clear hB8
        have hs8 := HB8.out.size
        go_wp2_with fail
        refine (newsender_none _ _ _ _).mono ?_
        rintro e w9 ⟨rfl, hB9⟩
        have HB9 : Hid (Below w.heap.size w w9) := HB8.out.trans (hB9.mono hs8)
        clear hB9
        have hs9 := HB9.out.size
        go_wp2_with fail
        refine (newsender_long (w9.heap.size + 1) 0 1 m4 m4 (some ⟨w9.heap.size, 0, none⟩) _ _ (long_cell _ _) (by omega) (by omega)).mono ?_
        rintro e w10 ⟨rfl, hB10⟩
        have HB10 : Hid (Below w.heap.size w w10) := ((HB9.out.alloc hs9 _).alloc (by simp; omega) _).trans (hB10.mono (by simp; omega))
        clear hB10
        have hs10 := HB10.out.size
        go_wp2_with fail
        refine (newreceiver_no win _ hW).mono ?_
        rintro e w11 ⟨rfl, hB11⟩
        have HB11 : Hid (Below w.heap.size w w11) := HB10.out.trans (hB11.mono hs10)
        clear hB11
        go_wp2_with fail
        refine (awake_any _).mono ?_
        rintro e w12 ⟨rfl, hB12⟩
        have HB12 : Hid (Below w.heap.size w w12) := HB11.out.trans (hB12.mono HB11.out.size)
        clear hB12
        go_wp2_with fail
        go_ret
        exact ⟨rfl, HB12.out⟩
      · skip
        refine (newsender_madeno N win w7 _ HFM.out (by omega) (by omega) hW).mono ?_
        rintro e w8 ⟨rfl, hB8⟩
        have HB8 : Hid (Below w.heap.size w w8) := HB7.out.trans (hB8.mono (by have := HB7.out.size; omega))
        clear hB8
        have hs8 := HB8.out.size
        go_wp2_with fail
        refine (newsender_none _ _ _ _).mono ?_
        rintro e w9 ⟨rfl, hB9⟩
        have HB9 : Hid (Below w.heap.size w w9) := HB8.out.trans (hB9.mono hs8)
        clear hB9
        have hs9 := HB9.out.size
        go_wp2_with fail
        refine (newsender_long (w9.heap.size + 1) 0 1 m4 m4 (some ⟨w9.heap.size, 0, none⟩) _ _ (long_cell _ _) (by omega) (by omega)).mono ?_
        rintro e w10 ⟨rfl, hB10⟩
        have HB10 : Hid (Below w.heap.size w w10) := ((HB9.out.alloc hs9 _).alloc (by simp; omega) _).trans (hB10.mono (by simp; omega))
        clear hB10
        have hs10 := HB10.out.size
        go_wp2_with fail
        refine (newreceiver_no win _ hW).mono ?_
        rintro e w11 ⟨rfl, hB11⟩
        have HB11 : Hid (Below w.heap.size w w11) := HB10.out.trans (hB11.mono hs10)
        clear hB11
        go_wp2_with fail
        refine (awake_any _).mono ?_
        rintro e w12 ⟨rfl, hB12⟩
        have HB12 : Hid (Below w.heap.size w w12) := HB11.out.trans (hB12.mono HB11.out.size)
        clear hB12
        go_wp2_with fail
        go_ret
        exact ⟨rfl, HB12.out⟩
    · have c1 : decide (win < 1) = false := decide_eq_false (by omega)
      have c2 : decide ((1 : Int) ≤ win) = true := decide_eq_true (by omega)
      have c3 : decide ((8 : Int) < win) = true := decide_eq_true hhi
      have c4 : decide (win ≤ 8) = false := decide_eq_false (by omega)
      by_cases hN : 1000 < N
      · skip
        refine (newsender_many _ N N _ _ hN (by unfold maxLen; omega)).mono ?_
        rintro e w8 ⟨rfl, hB8⟩
        have HB8 : Hid (Below w.heap.size w w8) := HB7.out.trans (hB8.mono (by have := HB7.out.size; omega))
        clear hB8
        have hs8 := HB8.out.size
        go_wp2_with fail
        refine (newsender_none _ _ _ _).mono ?_
        rintro e w9 ⟨rfl, hB9⟩
        have HB9 : Hid (Below w.heap.size w w9) := HB8.out.trans (hB9.mono hs8)
        clear hB9
        have hs9 := HB9.out.size
        go_wp2_with fail
        refine (newsender_long (w9.heap.size + 1) 0 1 m4 m4 (some ⟨w9.heap.size, 0, none⟩) _ _ (long_cell _ _) (by omega) (by omega)).mono ?_
        rintro e w10 ⟨rfl, hB10⟩
        have HB10 : Hid (Below w.heap.size w w10) := ((HB9.out.alloc hs9 _).alloc (by simp; omega) _).trans (hB10.mono (by simp; omega))
        clear hB10
        have hs10 := HB10.out.size
        go_wp2_with fail
        refine (newreceiver_no win _ hW).mono ?_
        rintro e w11 ⟨rfl, hB11⟩
        have HB11 : Hid (Below w.heap.size w w11) := HB10.out.trans (hB11.mono hs10)
        clear hB11
        go_wp2_with fail
        refine (awake_any _).mono ?_
        rintro e w12 ⟨rfl, hB12⟩
        have HB12 : Hid (Below w.heap.size w w12) := HB11.out.trans (hB12.mono HB11.out.size)
        clear hB12
        go_wp2_with fail
        go_ret
        exact ⟨rfl, HB12.out⟩
      · skip
        refine (newsender_madeno N win w7 _ HFM.out (by omega) (by omega) hW).mono ?_
        rintro e w8 ⟨rfl, hB8⟩
        have HB8 : Hid (Below w.heap.size w w8) := HB7.out.trans (hB8.mono (by have := HB7.out.size; omega))
        clear hB8
        have hs8 := HB8.out.size
        go_wp2_with fail
        refine (newsender_none _ _ _ _).mono ?_
        rintro e w9 ⟨rfl, hB9⟩
        have HB9 : Hid (Below w.heap.size w w9) := HB8.out.trans (hB9.mono hs8)
        clear hB9
        have hs9 := HB9.out.size
        go_wp2_with fail
        refine (newsender_long (w9.heap.size + 1) 0 1 m4 m4 (some ⟨w9.heap.size, 0, none⟩) _ _ (long_cell _ _) (by omega) (by omega)).mono ?_
        rintro e w10 ⟨rfl, hB10⟩
        have HB10 : Hid (Below w.heap.size w w10) := ((HB9.out.alloc hs9 _).alloc (by simp; omega) _).trans (hB10.mono (by simp; omega))
        clear hB10
        have hs10 := HB10.out.size
        go_wp2_with fail
        refine (newreceiver_no win _ hW).mono ?_
        rintro e w11 ⟨rfl, hB11⟩
        have HB11 : Hid (Below w.heap.size w w11) := HB10.out.trans (hB11.mono hs10)
        clear hB11
        go_wp2_with fail
        refine (awake_any _).mono ?_
        rintro e w12 ⟨rfl, hB12⟩
        have HB12 : Hid (Below w.heap.size w w12) := HB11.out.trans (hB12.mono HB11.out.size)
        clear hB12
        go_wp2_with fail
        go_ret
        exact ⟨rfl, HB12.out⟩

set_option maxRecDepth 100000 in
theorem lifted (os : Os) (started : os.Started) (H : Type) (enc : TypeId × Value → H) :
    ReturnsInHanded {} Try.checked os 8 .any (Rows.linkNoneSpec.pre6 enc Try.prog Try.f8 Rows.linkNoneRow.domain false) (Rows.linkNoneSpec.post enc Try.prog Try.f8 false true false false) := by
  refine returnsInHanded_of_change (C := Try.checked) own started (by kernel_rfl) Try.func8
    (ChangeSpec.witness6 (enc := enc) (C := Try.checked) false ⟨#[], #[.int .i64 0, .int .i64 0], []⟩ 8 (by kernel_rfl) (by kernel_rfl) (by kernel_rfl) (by kernel_rfl)) ?_
  intro W base args ds gs before hval0 hW hcnd _
  have hval : ∀ (j : Nat) t v, Try.f8.params[j]? = some t → args[j]? = some v → Value.okWide Try.prog W .any base t v := hval0
  have hW' := hW
  obtain ⟨p, q, hA0, hV, rfl, hfz, hnd⟩ := hW
  have hA : DataW.TrodAll enc Try.prog W 0 (fun _ => true) true Try.f8.params.toList args.toList ds p := hA0
  rw [Try.params8] at hA hval
  obtain ⟨v0, vs0, d0, ds0, p0, q0, hargs, rfl, rfl, h0, r0⟩ := trodAll_cons hA
  obtain ⟨v1, vs1, d1, ds1, p1, q1, rfl, rfl, rfl, h1, r1⟩ := trodAll_cons r0
  obtain ⟨rfl, rfl, rfl⟩ := trodAll_nil r1
  obtain rfl : args = #[v0, v1] := by cases args; simp_all
  obtain ⟨a0, rfl, _, _, w0⟩ := open_int Try.underlying3 (hval 0 3 v0 rfl rfl) h0
  obtain ⟨a1, rfl, _, _, w1⟩ := open_int Try.underlying3 (hval 1 3 v1 rfl rfl) h1
  refine (walk a0 a1 W).mono fun e W' ⟨he, hb⟩ => ?_
  subst he
  exact ⟨_, rfl, post_law hW' rfl hb (by rw [Try.params8]; exact params_ok (by kernel_rfl)) rfl rfl⟩

theorem over : Rows.linkNoneRow.holds Try.pinned (OpenSpec.ofChange Rows.linkNoneSpec) :=
  OpenClaim.holds_of_wide 8 Try.f8 rfl rfl rfl rfl rfl rfl rfl ⟨rfl, rfl, rfl, rfl, rfl⟩ rfl rfl rfl rfl rfl (by kernel_rfl) Try.func8 (by kernel_rfl)
    (of_decide_eq_true (by kernel_rfl)) (by unfold Func.isWrapper; first | (rw [if_pos (by decide +kernel)]; kernel_rfl) | (rw [if_neg (by decide +kernel)]; exact ⟨rfl, rfl⟩))
    (fun os started H enc _ => lifted os started H enc)

theorem proved : Rows.LinkNoneSaid := over
end Go.Proofs.Ythhelhggggbaiaa.lawNone
