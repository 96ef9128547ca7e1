/-
  pile.Join of two piles in order.
-/
import Derived.Test.YteeamiacplfcmaaPMerge
namespace Go.Proofs.Yteeamiacplfcmaa
open Go.RowKit
set_option linter.unusedVariables false
set_option linter.unusedSimpArgs false

set_option maxHeartbeats 8000000 in
set_option maxRecDepth 100000 in
theorem pjoin_any {A B : Option Addr} {c d : Nat} {a b : List Grp} {w : World} (h : Grps w A a) (h' : Grps w B b) (hp : pileOk 7 a = true) (hp' : pileOk 7 b = true) (hs : sumN a + sumN b ≤ 100000) :
    Calls Try.prog 36 #[.slice A a.length c, .slice B b.length d] w fun e w' => ∃ v, e = .returned (.tuple #[v, .int .i64 0]) ∧ OwnF GrpE 52 w.heap.size w' v (joinG a b) ∧ Below w.heap.size w w' := by
  have ha := pile_len hp
  have hb := pile_len hp'
  have HJ := hide (fun (ys : List Grp) (h1 : ys.Perm (a ++ b)) h2 => coal_join hp hp' h1 h2)
  have HPo : Hid (Pos (a ++ b)) := fun g hg => by
    rw [List.mem_append] at hg
    rcases hg with h | h
    · exact pile_pos hp g h
    · exact pile_pos hp' g h
  have HP1 := hide (fun wq (hq : Below w.heap.size w wq) => isany_any (c := c) (w := wq) (h.below hq) (by omega))
  have HP2 := hide (fun wq (hq : Below w.heap.size w wq) => isany_any (c := d) (w := wq) (h'.below hq) (by omega))
  have HT1 := hide (fun wq (hq : Below w.heap.size w wq) => total_any (c := c) (w := wq) (h.below hq) hp)
  have HT2 := hide (fun wq (hq : Below w.heap.size w wq) => total_any (c := d) (w := wq) (h'.below hq) hp')
  have HC1 := hide (fun wq (hq : Below w.heap.size w wq) => clone_any (c := c) (w := wq) (h.below hq) (by omega))
  have HC2 := hide (fun wq (hq : Below w.heap.size w wq) => clone_any (c := d) (w := wq) (h'.below hq) (by omega))
  rw [hp] at HP1
  rw [hp'] at HP2
  have HS : Hid (sumN (a ++ b) ≤ 100000) := by rw [Hid, sumN_append]; exact hs
  clear h h' hp hp'
  generalize sumN a = x at *
  generalize sumN b = y at *
  go_enter Try.func36, Try.ntmps36
  go_wp2_with fail
  refine (HP1.out _ (Below.refl _ _)).mono ?_
  rintro e w1 ⟨rfl, h1⟩
  have h1 := hide h1
  go_wp2_with fail
  refine (HP2.out _ h1.out).mono ?_
  rintro e w2 ⟨rfl, h2⟩
  have h2 := hide (below_then h1.out h2)
  go_wp2_with fail
  refine (HT1.out _ h2.out).mono ?_
  rintro e w3 ⟨rfl, h3⟩
  have h3 := hide (below_then h2.out h3)
  go_wp2_with fail
  refine (HT2.out _ h3.out).mono ?_
  rintro e w4 ⟨rfl, h4⟩
  have h4 := hide (below_then h3.out h4)
  have hxy : ¬ 100000 < x + y := by omega
  go_wp2_with fail
  refine (HC1.out _ h4.out).mono ?_
  rintro e w5 ⟨va, rfl, hO5, h5⟩
  have h5' := hide (below_then h4.out h5)
  obtain ⟨Aa, ca, rfl, _, _, _⟩ := (hO5.own goodG).shape goodG
  have HO5 := hide hO5
  clear hO5 h5
  go_wp2_with fail
  refine (HC2.out _ h5'.out).mono ?_
  rintro e w6 ⟨vb, rfl, hO6, h6⟩
  have hs4 := h4.out.size
  have hs5 := h5'.out.size
  have hO5 := ((HO5.out.toD.weaken (D' := fun i => w.heap.size ≤ i) fun i hi => Nat.le_trans hs4 hi).kept (goodD _) h6).lower hs4
  have h6' := below_then h5'.out h6
  obtain ⟨Ab, cb, rfl, _, hqb, hPb⟩ := hO6.pairs goodG
  obtain ⟨_, _, ea, _, hqa, _⟩ := HO5.out.pairs goodG
  obtain ⟨A7, d7, w7, hr7, hO7, hg7⟩ := OwnD.pushL hO5 (by have := h6'.size; omega) (by omega) (G := fun i => w5.heap.size ≤ i ∧ i < w6.heap.size) (ys := b) (A0 := Ab) (pairsD hPb fun i hi => Nat.le_trans hs5 hi.1) (fun i hi => ⟨hi.2, fun e => by have := (hqa i e).2; omega⟩) 32 cb
  have HR7 := hide hr7
  have hb7 := h6'.trans (OwnA.below hO5 (by have := h6'.size; omega) hg7)
  have hs7 := hb7.size
  have HM := hide (pmerge_any hO7 hs7 HPo.out HS.out)
  have HB7 := hide hb7
  clear hr7 hO7 hg7 hb7 hqb hPb hO5 hO6 h6 h6' HO5
  go_wp2_with ((with_reducible refine wpList_gives (o := ⟨some 24, _, _, _, _, _⟩) (v := Value.slice A7 (a.length + b.length) d7) (w' := w7) ?_ ?_ ?_); rfl; exact gives_append rfl rfl rfl HR7.out)
  refine HM.out.mono ?_
  rintro e w8 ⟨ys, v8, hp8, hs8, rfl, hO8, hb8⟩
  have HJ8 := hide (HJ.out ys hp8 hs8)
  have HO8 := hide hO8
  have HB8 := hide (HB7.out.trans hb8)
  clear hO8 hb8 hp8 hs8
  go_wp2_with fail
  go_ret2
  exact ⟨_, rfl, by rw [← HJ8.out]; exact HO8.out.toF (Nat.le_refl _), HB8.out⟩
end Go.Proofs.Yteeamiacplfcmaa
