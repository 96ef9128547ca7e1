/-
  electionlaw42.Make: some valid list of cells.
-/
import Derived.Test.YteeamiacplfcmaaMakeT
namespace Go.Proofs.Yteeamiacplfcmaa
open Go.RowKit
set_option linter.unusedVariables false
set_option linter.unusedSimpArgs false

set_option maxHeartbeats 8000000 in
set_option maxRecDepth 100000 in
theorem make_any {A : Option Addr} {c : Nat} {xs : List (List (List Int))} {n two : Int} {w : World} (h : Rows3 w A xs) (hl : xs.length ≤ 9223372036854775807) (hn : InI n) (ht : InI two) :
    Calls Try.prog 6 #[.int .i64 n, .slice A xs.length c, .int .i64 two] w fun e w' => ∃ (v : Value) (cs : List Cel), e = .returned v ∧ OwnC w.heap.size w' v cs ∧ validC cs = true ∧ Below w.heap.size w w' := by
  have H := hide h
  have HM1 := hide (mod_any n 4 (by omega) (by omega) hn w)
  have HM2 := hide (fun wq => mod_any two 4096 (by omega) (by omega) ht wq)
  clear h
  go_enter Try.func6, Try.ntmps6
  go_wp2_with fail
  refine HM1.out.mono ?_
  rintro e w1 ⟨nm, rfl, hnm, rfl⟩
  obtain ⟨hnm1, hnm2⟩ := hnm
  have hw1 : IntKind.i64.wrap (1 + nm) = 1 + nm := IntWalk.i64_in _ (by omega)
  go_wp2_with fail
  go_loopw [7, 8, 9, 10] (fun o q i _ wr => ∃ k p : Nat, k ≤ xs.length ∧ p ≤ 12 ∧ k ≤ p ∧ i = .int .i64 k ∧ q = .int .i64 p ∧ ∃ (v : Value) (cs : List Cel), o = v ∧ Hid (OwnC w1.heap.size wr v cs) ∧ Hid (MakeOk p cs) ∧ Hid (Below w1.heap.size w1 wr)) (fun _ q _ _ wr => 12 - (iOf q).toNat)
  case atStart => exact ⟨0, 0, Nat.zero_le _, by omega, by omega, rfl, rfl, _, [], rfl, OwnA.nil _ _ _ _, MakeOk.nil, Below.refl _ _⟩
  case round =>
    obtain ⟨k, p, hk, hp, hkp, rfl, rfl, v, cs, rfl, HO, HK, HB⟩ := hrel
    by_cases hlt : k < xs.length
    · by_cases hp12 : p < 12
      · obtain ⟨b, off, Ak, ck, rfl, hb, h0, hql, hR⟩ := H.out.at_ hlt
        have h0 := (HB.out.cell (p := ⟨b, off + k, none⟩) hb).trans h0
        have hsw := HB.out.size
        obtain ⟨w2, hw2⟩ : ∃ x, x = ((wr.alloc (.cells #[.int .i64 (p : Int)] 3)).alloc (.cells #[.slice (some ⟨wr.heap.size, 0, none⟩) 1 1, .slice none 0 0] 34)) := ⟨_, rfl⟩
        have hs2 : w2.heap.size = wr.heap.size + 1 + 1 := by rw [hw2]; simp
        have hb2 : Below wr.heap.size wr w2 := by rw [hw2]; exact ((Below.refl _ _).alloc (Nat.le_refl _) _).alloc (by simp) _
        have hX0 : Box w2 wr.heap.size 3 #[.int .i64 (p : Int)] := by rw [hw2]; exact (Box.new _ _ _).alloc _
        have hX1 : Box w2 (wr.heap.size + 1) 34 #[.slice (some ⟨wr.heap.size, 0, none⟩) 1 1, .slice none 0 0] := by
          have := Box.new (wr.alloc (.cells #[.int .i64 (p : Int)] 3)) 34 #[.slice (some ⟨wr.heap.size, 0, none⟩) 1 1, .slice none 0 0]
          rw [World.size_alloc] at this
          rw [hw2]; exact this
        have hOp : OwnI wr.heap.size w2 (.slice (some ⟨wr.heap.size, 0, none⟩) 1 1) [(p : Int)] := ⟨rfl, .inr ⟨wr.heap.size, 1, _, rfl, Nat.le_refl _, hX0, Nat.le_refl _, by unfold maxLen; omega, rfl, rfl⟩⟩
        have HW2 := hide hw2
        have HM3 := hide (HM2.out w2)
        have HB2 := hide (HB.out.trans (hb2.mono hsw))
        have HBr2 := hide hb2
        have HIp : Hid (1 ≤ 1 ∧ (∀ y ∈ [(p : Int)], InI y) ∧ IntsIn (fun b => wr.heap.size ≤ b ∧ b < w2.heap.size ∧ b ≠ wr.heap.size + 1) w2 (some ⟨wr.heap.size, 0, none⟩) [(p : Int)]) := ⟨Nat.le_refl _, fun y hy => by simp at hy; rw [hy]; unfold InI; omega, fun _ => ⟨wr.heap.size, 0, rfl, ⟨Nat.le_refl _, by omega, by omega⟩, fun j hj => by
          obtain rfl : j = 0 := by simpa using hj
          exact hX0.cell 0⟩⟩
        have HT2 := hide (make_two (q := (p : Int) + 1) hX1 hOp hb2 hs2)
        have HX1 := hide hX1
        have k0 := hX1.cell 0
        have k1 := hX1.cell 1
        have kf0 := hX1.frozen 0
        have kf1 := hX1.frozen 1
        have hlo : ∀ g, u7.ownBlock = some g → g < wr.heap.size := fun g e => by
          obtain ⟨_, _, _, _, hq, _⟩ := HO.out.shape goodC
          exact (hq g e).2.1
        simp at k0 k1
        clear hw2 hX0 hX1 hOp hb2
        generalize xs.getD k [] = q at *
        go_wp2_with fail
        rw [← HW2.out]
        refine HM3.out.mono ?_
        rintro e w3 ⟨r, rfl, ⟨hr1, hr2⟩, rfl⟩
        cases hqb : (Go.bits BinOp.and .i64 (r / 2 ^ k) 1 == (1 : Int)) with
        | false =>
          have HX5 := HX1
          have HB5 := HB2
          have HBr5 := HBr2
          have HI5 := HIp
          have hs5 := HB5.out.size
          have m0 := HX5.out.cell 0
          have m1 := HX5.out.cell 1
          simp at m0 m1
          have h0 := (HBr5.out.cell (p := ⟨b, off + k, none⟩) (show b < wr.heap.size by omega)).trans h0
          have HPl := hide (mpile_any (n := 1 + nm) (c := ck) (RowsIn.below hR HB5.out) hql (by omega) (by omega))
          have HTl := hide (fun (w6 : World) (vg : Value) (gs : List Grp) (hb6 : Below w3.heap.size w3 w6) (hOg : OwnF GrpE 52 w3.heap.size w6 vg gs) (hpg : pileOk 7 gs = true) => make_tail HO.out HB.out HBr5.out HX5.out (PL := [(p : Int)]) rfl HI5.out.1 (by omega) HI5.out.2.1 HI5.out.2.2 hb6 hOg hpg (by have := HK.out.2.2.2; omega))
          go_wp2_with fail
          refine HPl.out.mono ?_
          rintro e w6 ⟨vg, gs, rfl, hOg, hpg, hsg, hb6⟩
          obtain ⟨Ag, cg, w7, A8, d8, w8, rfl, ⟨n0, n1, nf1⟩, HW7, ⟨o0, o1⟩, HR8, HO8, HB8⟩ := HTl.out w6 vg gs hb6 hOg hpg
          have HK8 := hide (HK.out.one hpg hsg)
          clear hOg hpg hsg hb6
          go_upto_region 13 with (fail)
          rw [HW7.out]
          go_wp2_with ((with_reducible refine wpList_gives (o := ⟨some 58, _, _, _, _, _⟩) (v := Value.slice A8 (cs.length + 1) d8) (w' := w8) ?_ ?_ ?_); rfl; exact gives_append rfl rfl rfl HR8.out)
          go_roundw
          case rel => exact ⟨k + 1, p + 1, by omega, by omega, by omega, by go_num, by go_num, _, _, rfl, HO8.out, HK8.out, HB8.out⟩
          case measure => simp [iOf]; omega
        | true =>
          by_cases hp11 : p + 1 < 12
          · have h0a := h0
            obtain ⟨A2, c2, w4, w5, HR4, ⟨s0, sf0⟩, HW5, HX5, HBr5, hc2, HIn⟩ := HT2.out
            have HI5 : Hid (2 ≤ c2 ∧ (∀ y ∈ [(p : Int), (p : Int) + 1], InI y) ∧ IntsIn (fun b => wr.heap.size ≤ b ∧ b < w5.heap.size ∧ b ≠ wr.heap.size + 1) w5 A2 [(p : Int), (p : Int) + 1]) := ⟨hc2, fun y hy => by simp at hy; unfold InI; rcases hy with rfl | rfl <;> omega, HIn.out⟩
            have HB5 := hide (HB.out.trans (HBr5.out.mono hsw))
            have hs5 := HB5.out.size
            have m0 := HX5.out.cell 0
            have m1 := HX5.out.cell 1
            simp at m0 m1
            have h0 := (HBr5.out.cell (p := ⟨b, off + k, none⟩) (show b < wr.heap.size by omega)).trans h0a
            have HPl := hide (mpile_any (n := 1 + nm) (c := ck) (RowsIn.below hR HB5.out) hql (by omega) (by omega))
            have HTl := hide (fun (w6 : World) (vg : Value) (gs : List Grp) (hb6 : Below w5.heap.size w5 w6) (hOg : OwnF GrpE 52 w5.heap.size w6 vg gs) (hpg : pileOk 7 gs = true) => make_tail HO.out HB.out HBr5.out HX5.out (PL := [(p : Int), (p : Int) + 1]) rfl HI5.out.1 (by omega) HI5.out.2.1 HI5.out.2.2 hb6 hOg hpg (by have := HK.out.2.2.2; omega))
            go_upto_region 12 with ((with_reducible refine wpList_gives (o := ⟨some 44, _, _, _, _, _⟩) (v := Value.slice A2 2 c2) (w' := w4) ?_ ?_ ?_); rfl; exact gives_append rfl rfl rfl HR4.out)
            rw [HW5.out]
            go_wp2_with fail
            refine HPl.out.mono ?_
            rintro e w6 ⟨vg, gs, rfl, hOg, hpg, hsg, hb6⟩
            obtain ⟨Ag, cg, w7, A8, d8, w8, rfl, ⟨n0, n1, nf1⟩, HW7, ⟨o0, o1⟩, HR8, HO8, HB8⟩ := HTl.out w6 vg gs hb6 hOg hpg
            have hk8 := HK.out.two hpg hsg
            rw [show ((p + 1 : Nat) : Int) = (p : Int) + 1 from by omega] at hk8
            have HK8 := hide hk8
            clear hk8
            clear hOg hpg hsg hb6
            go_upto_region 13 with (fail)
            rw [HW7.out]
            go_wp2_with ((with_reducible refine wpList_gives (o := ⟨some 58, _, _, _, _, _⟩) (v := Value.slice A8 (cs.length + 1) d8) (w' := w8) ?_ ?_ ?_); rfl; exact gives_append rfl rfl rfl HR8.out)
            go_roundw
            case rel => exact ⟨k + 1, p + 2, by omega, by omega, by omega, by go_num, by go_num, _, _, rfl, HO8.out, HK8.out, HB8.out⟩
            case measure => simp [iOf]; omega
          · have HX5 := HX1
            have HB5 := HB2
            have HBr5 := HBr2
            have HI5 := HIp
            have hs5 := HB5.out.size
            have m0 := HX5.out.cell 0
            have m1 := HX5.out.cell 1
            simp at m0 m1
            have h0 := (HBr5.out.cell (p := ⟨b, off + k, none⟩) (show b < wr.heap.size by omega)).trans h0
            have HPl := hide (mpile_any (n := 1 + nm) (c := ck) (RowsIn.below hR HB5.out) hql (by omega) (by omega))
            have HTl := hide (fun (w6 : World) (vg : Value) (gs : List Grp) (hb6 : Below w3.heap.size w3 w6) (hOg : OwnF GrpE 52 w3.heap.size w6 vg gs) (hpg : pileOk 7 gs = true) => make_tail HO.out HB.out HBr5.out HX5.out (PL := [(p : Int)]) rfl HI5.out.1 (by omega) HI5.out.2.1 HI5.out.2.2 hb6 hOg hpg (by have := HK.out.2.2.2; omega))
            go_wp2_with fail
            refine HPl.out.mono ?_
            rintro e w6 ⟨vg, gs, rfl, hOg, hpg, hsg, hb6⟩
            obtain ⟨Ag, cg, w7, A8, d8, w8, rfl, ⟨n0, n1, nf1⟩, HW7, ⟨o0, o1⟩, HR8, HO8, HB8⟩ := HTl.out w6 vg gs hb6 hOg hpg
            have HK8 := hide (HK.out.one hpg hsg)
            clear hOg hpg hsg hb6
            go_upto_region 13 with (fail)
            rw [HW7.out]
            go_wp2_with ((with_reducible refine wpList_gives (o := ⟨some 58, _, _, _, _, _⟩) (v := Value.slice A8 (cs.length + 1) d8) (w' := w8) ?_ ?_ ?_); rfl; exact gives_append rfl rfl rfl HR8.out)
            go_roundw
            case rel => exact ⟨k + 1, p + 1, by omega, by omega, by omega, by go_num, by go_num, _, _, rfl, HO8.out, HK8.out, HB8.out⟩
            case measure => simp [iOf]; omega
      · have HV := hide (HK.out.valid (by omega))
        go_wp2_with fail
        go_ret
        first | exact ⟨_, cs, rfl, HO.out, HV.out, HB.out⟩ | exact ⟨_, rfl, cs, HO.out, HV.out, HB.out⟩
    · have HV := hide (HK.out.valid hp)
      go_wp2_with fail
      go_ret
      first | exact ⟨_, cs, rfl, HO.out, HV.out, HB.out⟩ | exact ⟨_, rfl, cs, HO.out, HV.out, HB.out⟩
end Go.Proofs.Yteeamiacplfcmaa
