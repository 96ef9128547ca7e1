/-
  electionref24.Make of ballots; electionmake.Pile.
-/
import Derived.Test.YteeamiacplfcmaaBallots
import Derived.Test.YteeamiacplfcmaaEqual
namespace Go.Proofs.Yteeamiacplfcmaa
open Go.RowKit
set_option linter.unusedVariables false
set_option linter.unusedSimpArgs false

theorem ballot_mono {n : Int} {l : List Int} (h : ballot n l = true) (hn : n ≤ 7) : ballot 7 l = true := by
  have h := of_decide_eq_true h
  refine decide_eq_true fun i hi => ?_
  have := h i hi
  exact ⟨this.1, by omega, this.2.2⟩
theorem pile_addG {gs : List Grp} {p : List Int} (h : pileOk 7 gs = true) (hp : ballot 7 p = true) (hs : sumN gs + 1 ≤ 100000) : pileOk 7 (addG p 1 gs) = true := by
  rw [pile_iff] at h ⊢
  exact ⟨h.1.addG, h.2.1.addG hp, h.2.2.1.addG (Int.le_refl 1), by rw [sumN_addG]; exact hs⟩
set_option maxHeartbeats 8000000 in
set_option maxRecDepth 100000 in
theorem rmake_any {A : Option Addr} {c : Nat} {ls : List (List Int)} {n : Int} {w : World} (h : RowsIn w A ls) (hl : ls.length ≤ 12) (hn : 1 ≤ n) (hn2 : n ≤ 7) (hA : AllB n ls) :
    Calls Try.prog 41 #[.int .i64 n, .slice A ls.length c] w fun e w' => ∃ (v : Value) (gs : List Grp), e = .returned (.tuple #[v, .int .i64 0]) ∧ OwnF GrpE 52 w.heap.size w' v gs ∧ pileOk 7 gs = true ∧ sumN gs ≤ 12 ∧ Below w.heap.size w w' := by
  have H := hide h
  have HA := hide hA
  clear h hA
  go_enter Try.func41, Try.ntmps41
  go_wp2_with fail
  go_loopw [6, 7] (fun o i wr => ∃ k : Nat, k ≤ ls.length ∧ i = .int .i64 k ∧ ∃ (v : Value) (gs : List Grp), o = v ∧ Hid (OwnD (fun i => w.heap.size ≤ i) w.heap.size wr v gs) ∧ Hid (pileOk 7 gs = true) ∧ Hid (sumN gs = k) ∧ Hid (Below w.heap.size w wr)) (fun _ i wr => ls.length - (iOf i).toNat)
  case atStart => exact ⟨0, Nat.zero_le _, rfl, _, [], rfl, OwnA.nil _ _ _ _, pile_nil, rfl, Below.refl _ _⟩
  case round =>
    obtain ⟨k, hk, rfl, v, gs, rfl, HO, HP, HS, HB⟩ := hrel
    obtain ⟨Ag, cg, rfl, hcg, hqg, hPg⟩ := HO.out.shape (goodD _)
    by_cases hlt : k < ls.length
    · obtain ⟨b, off, Ak, ck, rfl, hb, h0, hck, hql, hqi, hqA⟩ := H.out.at_ hlt
      have h0 := (HB.out.cell (p := ⟨b, off + k, none⟩) hb).trans h0
      have hsw := HB.out.size
      have hmem : ls.getD k [] ∈ ls := by
        rw [List.getD_eq_getElem?_getD, List.getElem?_eq_getElem hlt, Option.getD_some]
        exact List.getElem_mem _
      obtain ⟨hbal, hl12⟩ := HA.out _ hmem
      have hqr : Ints wr Ak (ls.getD k []) := hqA.below HB.out
      have HRB := hide (rballot_any (c := ck) (n := n) hqr (by omega) hck hqi (by unfold InI; omega))
      rw [hbal] at HRB
      have hpl := pile_len HP.out
      have hsk := HS.out
      have hpos := (pile_pos HP.out).sum
      have HP2 := hide (pile_addG HP.out (ballot_mono hbal hn2) (by omega))
      have HS2 : Hid (sumN (addG (ls.getD k []) 1 gs) = ((k + 1 : Nat) : Int)) := by rw [Hid, sumN_addG]; omega
      have HAd := hide (fun (w2 : World) (Ap : Option Addr) (cp : Nat) (hG : PairsIn (GrpD fun i => w.heap.size ≤ i) (All w2) w2 Ag gs) (hI : IntsIn (fun i => All w2 i ∧ w.heap.size ≤ i) w2 Ap (ls.getD k [])) (hc : (ls.getD k []).length ≤ cp) => addD_any (D := fun i => w.heap.size ≤ i) (c := cg) (d := cp) (n := 1) hG (by omega) hI (by omega) hc hqi (by unfold InI; omega) (fun j hj => by
        have h1 := hpos.2 _ (getD_memG hj)
        have h2 := pile_pos HP.out _ (getD_memG hj)
        unfold InI
        omega))
      have HPu := hide (fun (w2 : World) (hd : Drew wr w2) => push_ints (OwnI.nil wr.heap.size w2) hd.below.size (by rw [List.length_nil]; omega) (hqr.drew hd) 31 ck)
      have HG0 := hide hPg
      clear hPg hqA hqr hqi hmem hbal
      generalize ls.getD k [] = p at *
      go_wp2_with fail
      refine HRB.out.mono ?_
      rintro e w1 ⟨rfl, hd1⟩
      have h0 := (hd1.below.cell (p := ⟨b, off + k, none⟩) (show b < wr.heap.size by omega)).trans h0
      obtain ⟨A2, d2, w2, hr2, hO2, hg2⟩ := HPu.out w1 hd1
      rw [List.length_nil, Nat.zero_add] at hr2 hO2
      rw [List.nil_append] at hO2
      have hb2 : Below wr.heap.size wr w2 := hd1.below.trans (own_by hd1.below.size (fun g e => by cases e) hg2)
      obtain ⟨_, _, e2, hc2, hI2, _⟩ := hO2.form
      cases e2
      have HAd2 := hide (HAd.out w2 A2 d2 (below_all HG0.out (goodD _) hb2) (hI2.mono fun i hi => ⟨hi.1, Nat.le_trans hsw hi.2.1⟩) hc2)
      have HR2 := hide hr2
      have HB2 := hide (HB.out.trans (hb2.mono hsw))
      have hs2 := HB2.out.size
      clear hr2 hO2 hg2 hb2 hd1
      go_wp2_with ((with_reducible refine wpList_gives (o := ⟨some 35, _, _, _, _, _⟩) (v := Value.slice A2 p.length d2) (w' := w2) ?_ ?_ ?_); rfl; exact gives_append rfl rfl rfl HR2.out)
      refine HAd2.out.mono ?_
      rintro e w3 ⟨v3, rfl, hO3, hb3⟩
      have HO3 := hide (hO3.lower hs2)
      have HB3 := hide (HB2.out.trans (hb3.mono hs2))
      clear hO3 hb3
      go_wp2_with fail
      go_roundw
      case rel => exact ⟨k + 1, by omega, by go_num, _, _, rfl, HO3.out, HP2.out, HS2.out, HB3.out⟩
      case measure => simp [iOf]; omega
    · have hs12 : sumN gs ≤ 12 := by rw [HS.out]; omega
      go_wp2_with fail
      go_ret2
      first | exact ⟨_, gs, rfl, HO.out.toF (Nat.le_refl _), HP.out, hs12, HB.out⟩ | exact ⟨_, rfl, gs, HO.out.toF (Nat.le_refl _), HP.out, hs12, HB.out⟩
set_option maxHeartbeats 4000000 in
theorem mpile_any {A : Option Addr} {c : Nat} {ls : List (List Int)} {n : Int} {w : World} (h : RowsIn w A ls) (hl : ls.length ≤ 9223372036854775807) (hn : 1 ≤ n) (hn2 : n ≤ 7) :
    Calls Try.prog 22 #[.int .i64 n, .slice A ls.length c, .int .i64 12] w fun e w' => ∃ (v : Value) (gs : List Grp), e = .returned v ∧ OwnF GrpE 52 w.heap.size w' v gs ∧ pileOk 7 gs = true ∧ sumN gs ≤ 12 ∧ Below w.heap.size w w' := by
  have HB := hide (mballots_any (c := c) h hl hn hn2)
  clear h
  go_enter Try.func22, Try.ntmps22
  go_wp2_with fail
  refine HB.out.mono ?_
  rintro e w1 ⟨v1, ps, rfl, hO1, hA1, hl1, hb1⟩
  obtain ⟨A1, c1, rfl, hc1, _⟩ := hO1.shape
  have HM := hide (rmake_any (c := c1) (hO1.rows fun l hl => ⟨fun y hy => by
    have := ballot_in (hA1 l hl).1 y hy
    unfold InI
    omega, by have := (hA1 l hl).2; omega⟩) hl1 hn hn2 hA1)
  have HB1 := hide hb1
  clear hO1 hA1 hb1
  go_wp2_with fail
  refine HM.out.mono ?_
  rintro e w2 ⟨v2, gs, rfl, hO2, hp2, hs2, hb2⟩
  have hsz := HB1.out.size
  have HO2 := hide (hO2.mono goodG fun i hi => ⟨Nat.le_trans hsz hi.1, hi.2⟩ : OwnF GrpE 52 w.heap.size w2 v2 gs)
  have HB2 := hide (below_then HB1.out hb2)
  have HP2 := hide hp2
  clear hO2 hb2 hp2
  go_wp2_with fail
  go_ret
  first | exact ⟨_, gs, rfl, HO2.out, HP2.out, hs2, HB2.out⟩ | exact ⟨_, rfl, gs, HO2.out, HP2.out, hs2, HB2.out⟩
end Go.Proofs.Yteeamiacplfcmaa
