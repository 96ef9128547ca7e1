/-
  journal.Format.
-/
import Derived.Test.YtlelkhonkhlflaaDoorOpen
namespace Go.Proofs.YtlelkhonkhlflaaDoor
open Go.RowKit
set_option linter.unusedVariables false
set_option linter.unusedSimpArgs false

section
variable {F G : Nat → Prop} {w w' : World} {s : Nat} {ss : List (List UInt8)} {e : Nat → Option (List UInt8)} {fuse : Int} {dead : Bool}
/-- bytes that lie in a block outside of the disk are written -/
theorem write_bys (h : Dsk F w s ss e fuse false) (hf1 : -1 ≤ fuse) (hf2 : fuse ≤ 9223372036854775807) (hf0 : fuse ≠ 0) (i : Nat) (hi : i < ss.length) (b off c : Nat) (bs : List UInt8) (hb : Bys w (some ⟨b, off, none⟩) bs) (hF : ¬ F b) (hp : 0 < bs.length) (hm : bs.length ≤ 64) :
    Calls Tryd.prog 27 #[.pointer (some ⟨s, 0, none⟩), .int .i64 (i : Int), .slice (some ⟨b, off, none⟩) bs.length c] w (WrPost F w s (ss.set i (padS bs)) (markE e ss i) (burnF fuse) false 0) := by
  obtain ⟨b', off', e1, h1, h2⟩ := hb hp
  injection e1 with e1
  injection e1 with e1 e2 e3
  subst e1
  subst e2
  refine write_ok (G := fun j => j = b) h hf1 hf2 hf0 i hi _ c bs (fun _ => ⟨b, off, rfl, rfl, h2⟩) ?_ ?_ hm
  · intro j hj
    rw [hj]; exact h1
  · intro j hj
    rw [hj]; exact hF
theorem write_empty (h : Dsk F w s ss e fuse false) (hf1 : -1 ≤ fuse) (hf2 : fuse ≤ 9223372036854775807) (hf0 : fuse ≠ 0) (i : Nat) (hi : i < ss.length) :
    Calls Tryd.prog 27 #[.pointer (some ⟨s, 0, none⟩), .int .i64 (i : Int), .slice none 0 0] w (WrPost F w s (ss.set i (padS [])) (markE e ss i) (burnF fuse) false 0) :=
  write_ok (G := fun _ => False) h hf1 hf2 hf0 i hi none 0 [] (BysIn.nil _ _ _) (fun j hj => hj.elim) (fun j hj => hj.elim) (by simp)
theorem format_nil (w : World) : Calls Tryd.prog 19 #[.pointer none] w fun en w' => en = .returned (.int .i64 12) ∧ w = w' := by
  have HN := hide (dead_nil w)
  go_enter Tryd.func19, Tryd.ntmps19
  go_wp2_with fail
  refine HN.out.mono ?_
  rintro en wx ⟨rfl, rfl⟩
  go_wp2_with fail
  go_ret
  exact ⟨rfl, rfl⟩
theorem format_dead (h : Dsk F w s ss e fuse true) : Calls Tryd.prog 19 #[.pointer (some ⟨s, 0, none⟩)] w fun en w' => en = .returned (.int .i64 12) ∧ w = w' := by
  have HN := hide (dead_any h)
  clear h
  go_enter Tryd.func19, Tryd.ntmps19
  go_wp2_with fail
  refine HN.out.mono ?_
  rintro en wx ⟨rfl, rfl⟩
  go_wp2_with fail
  go_ret
  exact ⟨rfl, rfl⟩
theorem format_small (h : Dsk F w s ss e fuse false) (h8 : ss.length < 8) : Calls Tryd.prog 19 #[.pointer (some ⟨s, 0, none⟩)] w fun en w' => en = .returned (.int .i64 7) ∧ w = w' := by
  have HN := hide (dead_any h)
  have HS := hide (sectors_any h)
  have t1 : decide ((ss.length : Int) < 8) = true := decide_eq_true (by omega)
  clear h
  go_enter Tryd.func19, Tryd.ntmps19
  go_wp2_with fail
  refine HN.out.mono ?_
  rintro en wx ⟨rfl, rfl⟩
  go_wp2_with fail
  refine HS.out.mono ?_
  rintro en wx ⟨rfl, rfl⟩
  go_wp2_with fail
  go_ret
  exact ⟨rfl, rfl⟩
end
/-- the head of a journal -/
def headB (C : List Nat) (ss : List (List UInt8)) : List UInt8 := markB ++ shaF C (recL ss 0 ss.length)
theorem headB_length (C : List Nat) (ss : List (List UInt8)) : (headB C ss).length = 39 := by rw [headB, List.length_append, shaF_length]; rfl
set_option maxHeartbeats 3200000 in
set_option maxRecDepth 100000 in
theorem format_ok {C : List Nat} {F : Nat → Prop} {w : World} {s : Nat} {ss : List (List UInt8)} {e : Nat → Option (List UInt8)} (h : Dsk F w s ss e (-1) false) (hK : Kon C w) (h8 : 8 ≤ ss.length) :
    Calls Tryd.prog 19 #[.pointer (some ⟨s, 0, none⟩)] w (WrPost F w s ((ss.set 0 (padS (headB C ss))).set 4 (padS [])) (fun _ => none) (-1) false 0) := by
  have h0 := hK.some_
  have hmo := h.most
  have HN := hide (dead_any h)
  have HS := hide (sectors_any h)
  have HD := hide h
  have HK := hide hK
  have HRL := hide (fun m hm => recL_length h.len64 (i := 0) m hm)
  have t1 : decide ((ss.length : Int) < 8) = false := decide_eq_false (by omega)
  have hcv := conv_mark
  clear h hK
  go_enter Tryd.func19, Tryd.ntmps19
  go_wp2_with fail
  refine HN.out.mono ?_
  rintro en wx ⟨rfl, rfl⟩
  go_wp2_with fail
  refine HS.out.mono ?_
  rintro en wx ⟨rfl, rfl⟩
  go_wp2_with fail
  refine HS.out.mono ?_
  rintro en wx ⟨rfl, rfl⟩
  go_wp2_with fail
  go_loopw [3, 19] (fun v i wr => ∃ m : Nat, m ≤ ss.length ∧ i = .int .i64 m ∧ ∃ A c, v = .slice A (64 * m) c ∧ Hid (OwnBy w.heap.size wr (.slice A (64 * m) c) (recL ss 0 m)) ∧ Hid (Below w.heap.size w wr)) (fun _ i _ => ss.length - (iOf i).toNat)
  case atStart => exact ⟨0, by omega, rfl, none, 0, rfl, OwnBy.nil _ _, Below.refl _ _⟩
  case round =>
    obtain ⟨m, hm, rfl, A, c, rfl, HO, HB⟩ := hrel
    have hsr := HB.out.size
    by_cases hlt : m < ss.length
    · have hrl := HRL.out m (by omega)
      have hrl2 := HRL.out (m + 1) (by omega)
      have hsl : (ss.getD (0 + m) []).length = 64 := by
        rw [recL, List.length_append, hrl] at hrl2
        omega
      have HRD := hide (read_ok (HD.out.kept HB.out) m (by omega))
      have HRE : Hid (recL ss 0 (m + 1) = recL ss 0 m ++ ss.getD m []) := by unfold Hid; rw [recL, Nat.zero_add]
      rw [Nat.zero_add] at hsl
      generalize ss.getD m [] = sec at *
      have HSL := hide hsl
      have HR1 := hide hrl
      have HR2 := hide hrl2
      clear hrl hrl2 hsl
      go_wp2_with fail
      refine HRD.out.mono ?_
      rintro en w3 ⟨g, c3, hg, rfl, hRow, hB3, hc3⟩
      have hs3 := hB3.size
      obtain ⟨A4, d4, w4, hr4, hO4, hB4⟩ := push_bytes (c := c3) (HO.out.kept hB3) (by omega) (by rw [HR1.out]; omega) hRow.bys (by rw [HSL.out]; omega) (by rw [HSL.out]; omega) 22
      rw [← HRE.out] at hr4 hO4
      rw [HR2.out] at hr4 hO4
      have HR4 := hide hr4
      have HO4 := hide hO4
      have HB4 := hide (HB.out.trans ((hB3.mono hsr).trans hB4))
      obtain ⟨n4, hn4⟩ : ∃ n4, n4 = 64 * (m + 1) := ⟨_, rfl⟩
      rw [← hn4] at HR4 HO4
      clear hr4 hO4 hB3 hB4 hRow hg hc3
      go_wp2_with ((with_reducible refine wpList_gives (o := ⟨some 30, _, _, _, _, _⟩) (v := .slice A4 n4 d4) (w' := w4) ?_ ?_ ?_); rfl; exact gives_append rfl rfl rfl HR4.out)
      subst hn4
      go_roundw
      case rel => exact ⟨m + 1, by omega, by go_num, A4, d4, rfl, HO4, HB4⟩
      case measure => simp [iOf]; omega
    · obtain rfl : m = ss.length := by omega
      have hrl := HRL.out ss.length (by omega)
      have HHB : Hid (headB C ss = markB ++ shaF C (recL ss 0 ss.length)) := rfl
      obtain ⟨R, hRR⟩ : ∃ R, R = recL ss 0 ss.length := ⟨_, rfl⟩
      rw [← hRR] at HO hrl HHB
      obtain ⟨b0, cap, hv, hb0, hRow, hcp⟩ := own_row (n := 64 * ss.length) (bs := R) (by have := HO.out; rw [OwnBy, hrl] at this; exact this) (by omega)
      injection hv with e1 e2 e3
      subst e1
      subst e3
      have hsum := sum_any (C := C) (b := b0) (off := 0) (c := c) (w := wr) (HK.out.kept HB.out) hRow.bys (by rw [hrl]; omega) (by rw [hrl]; omega)
      rw [hrl] at hsum
      have HSM := hide hsum
      obtain ⟨L, hL⟩ : ∃ L, L = 64 * ss.length := ⟨_, rfl⟩
      rw [← hL] at HSM ⊢
      clear e2 hRR hRow hsum hL HO
      go_wp2_with fail
      refine HSM.out.mono ?_
      rintro en w5 ⟨rfl, hB5⟩
      obtain ⟨d, hd⟩ : ∃ d, d = shaF C R := ⟨_, rfl⟩
      have hdl : d.length = 32 := by rw [hd]; exact shaF_length _ _
      rw [← hd] at HHB ⊢
      obtain ⟨w6, hw6⟩ : ∃ w6, w6 = w5.alloc (.cells (secA z32) 58) := ⟨_, rfl⟩
      have hb6 : Below w5.heap.size w5 w6 := by rw [hw6]; exact (Below.refl _ _).alloc (Nat.le_refl _) _
      have HA6 : Hid (∀ {o : Oper} {a : Act}, o.op = .alloc 58 → Gives o a w5 (.pointer (some ⟨w5.heap.size, 0, none⟩)) w6) := fun ho => by rw [hw6]; exact gives_alloc_dig ho
      have hD6 : Dig w6 w5.heap.size z32 := by unfold Dig; rw [hw6]; exact Box.new _ _ _
      obtain ⟨w7, hr7, hS7, hg7⟩ := hD6.store (d' := d) (List.length_replicate ..) hdl
      have hs6 : w6.heap.size = w5.heap.size + 1 := by rw [hw6]; simp
      have hb7 : Below w5.heap.size w5 w7 := hb6.grown hg7 (by omega) (fun k hk => by injection hk with hk; omega)
      have HB7 := hide (HB.out.trans ((hB5.mono hsr).trans (hb7.mono (by have := hB5.size; omega))))
      obtain ⟨sD, hsD⟩ : ∃ sD, sD = secA d := ⟨_, rfl⟩
      rw [← hsD] at hr7 ⊢
      have HR7 := hide hr7
      -- the mark and the digest
      obtain ⟨w8, hw8⟩ : ∃ w8, w8 = w7.alloc (.cells #[.int .u8 106, .int .u8 111, .int .u8 117, .int .u8 114, .int .u8 110, .int .u8 97, .int .u8 108] 5 (7, 8)) := ⟨_, rfl⟩
      have hB8 : Below w7.heap.size w7 w8 := by rw [hw8]; exact (Below.refl _ _).alloc (Nat.le_refl _) _
      have hM8 : Bys w8 (some ⟨w7.heap.size, 0, none⟩) markB := by rw [hw8]; exact bys_mark w7
      have hD8 : Bys w8 (some ⟨w5.heap.size, 0, none⟩) d := Dig.bys (Box.kept hS7 hB8)
      obtain ⟨i0, hi, hz0, hz1, hz2⟩ := info_parts u8info
      obtain ⟨v9, w9, hr9, ho9, hg9⟩ := run_append_arg_grows (P := Tryd.prog) w8 22 22 5 i0 (.int .u8 0) 1 1 Tryd.underlying22 hi hz0 hz1 hz2 rfl (by decide) ⟨w7.heap.size, 0, none⟩ 7 7 (markB.map u8v) rfl (news_of_bys hM8) ⟨w5.heap.size, 0, none⟩ 32 32 (d.map u8v) (by simp [hdl]) (news_of_bys hD8) (by omega) (by unfold maxLen; omega) (by omega)
      have ho9' : OwnBy w8.heap.size w9 v9 (headB C ss) := by
        unfold OwnBy
        rw [headB_length, HHB.out, List.map_append]
        exact ho9
      obtain ⟨g9, c9, hv9, hgl9, hRow9, hcp9⟩ := own_row (n := 39) (bs := headB C ss) (by have := ho9'; rw [OwnBy, headB_length] at this; exact this) (by omega)
      subst hv9
      have hB9 : Below w8.heap.size w8 w9 := ⟨hg9.os, hg9.tape, hg9.output, hg9.size, fun i hi => hg9.block i hi (by simp)⟩
      have hs8 := hB8.size
      have hs7 := HB7.out.size
      have HB9 := hide (HB7.out.trans ((hB8.mono hs7).trans (hB9.mono (by omega))))
      have hDk := HD.out.kept HB9.out
      have hW0 := write_bys hDk (by omega) (by omega) (by omega) 0 (by omega) g9 0 c9 (headB C ss) hRow9.bys (fun hF => by have := HD.out.lt g9 hF; omega) (by rw [headB_length]; omega) (by rw [headB_length]; omega)
      rw [headB_length] at hW0
      have HW0 := hide hW0
      rw [hw8] at hr9
      have HR9 := hide hr9
      obtain ⟨g5, hg5⟩ : ∃ g5, g5 = w5.heap.size := ⟨_, rfl⟩
      rw [← hg5] at HA6 HR7 HR9
      have HLF := hide HD.out.lt
      clear hw6 hb6 hD6 hr7 hS7 hg7 hs6 hb7 hsD hB5 hr9 ho9 ho9' hg9 hRow9 hB9 hM8 hD8 hB8 hW0 hw8 hd hg5 hDk hs8
      clear hs7
      go_wp2_with (first | ((with_reducible refine wpList_gives (o := ⟨some 7, _, _, _, _, _⟩) (v := .pointer (some ⟨g5, 0, none⟩)) (w' := w6) ?_ ?_ ?_); rfl; exact HA6.out rfl) | ((with_reducible refine wpList_does (o := ⟨none, .store 58 _ _, _, _, _, _⟩) (w' := w7) ?_ ?_ ?_); rfl; exact does_store rfl rfl rfl HR7.out) | ((with_reducible refine wpList_gives (o := ⟨some 38, _, _, _, _, _⟩) (v := .slice (some ⟨g9, 0, none⟩) 39 c9) (w' := w9) ?_ ?_ ?_); rfl; exact gives_append rfl rfl rfl HR9.out))
      refine HW0.out.mono ?_
      rintro en w10 ⟨rfl, hC10, hD10⟩
      have hb1 : burnF (-1) = -1 := rfl
      rw [hb1] at hD10
      have hC10' : Chg F w w10 := (Chg.of_below HB9.out F).trans hC10 (fun i _ hi => hi)
      have HC10 := hide hC10'
      have HW4 := hide (write_empty hD10 (by omega) (by omega) (by omega) 4 (by rw [List.length_set]; omega))
      rw [hb1] at HW4
      clear hC10 hD10 hC10'
      go_wp2_with fail
      refine HW4.out.mono ?_
      rintro en w11 ⟨rfl, hC11, hD11⟩
      have HC11 := hide (HC10.out.trans hC11 (fun i _ hi => hi))
      have HY := hide (sync_ok hD11 (by omega) (by omega) (by omega))
      rw [hb1] at HY
      clear hC11 hD11 hb1
      go_wp2_with fail
      refine HY.out.mono ?_
      rintro en w12 ⟨rfl, hC12, hD12⟩
      go_wp2_with fail
      go_ret
      exact ⟨rfl, HC11.out.trans hC12 (fun i _ hi => hi), hD12⟩
end Go.Proofs.YtlelkhonkhlflaaDoor
