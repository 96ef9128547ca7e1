/-
  privacy.Merge.
-/
import Derived.Test.YteeamiacplfcmaaRMerge
import Derived.Test.YteeamiacplfcmaaIdx
namespace Go.Proofs.Yteeamiacplfcmaa
open Go.RowKit
set_option linter.unusedVariables false
set_option linter.unusedSimpArgs false

theorem valid_cell {cs : List Cel} (h : validC cs = true) {k : Nat} (hk : k < cs.length) : OneC (cs.getD k default) ∧ Few (cs.getD k default).1 := by
  rw [valid_iff] at h
  refine ⟨h.1 _ (getD_memC hk), ?_⟩
  have e : preC cs = preC (cs.take k) ++ ((cs.getD k default).1 ++ preC (cs.drop (k + 1))) := by
    rw [← preC_cons, ← drop_consC hk, ← preC_append, List.take_append_drop]
  rw [e] at h
  exact h.2.1.mid
theorem join_sl {v0 v1 u0 u1 : Value} {a b y : Cel} {w6 w : World} (hw : Below w6.heap.size w6 w) (h : Cell2 w6 v0 v1 a) (h' : Cell2 w6 u0 u1 b) (ha : 0 < a.1.length) (hf : Few (a.1 ++ b.1)) (hp : pileOk 7 a.2 = true) (hp' : pileOk 7 b.2 = true) (hs : sumN a.2 + sumN b.2 ≤ 100000) {n k : Nat} (hy : uniteC a b = y) (hn : y.1.length = n) (hk : y.2.length = k) :
    Calls Try.prog 26 #[.agg #[v0, v1], .agg #[u0, u1]] w fun e w' => ∃ Xp cp Xg cg, e = .returned (.agg #[.slice Xp n cp, .slice Xg k cg]) ∧ Hid (CelE (fun i => w6.heap.size ≤ i ∧ i < w'.heap.size) w' (.slice Xp n cp) (.slice Xg k cg) y) ∧ Below w6.heap.size w6 w' := by
  refine (join_any (h.below hw) (h'.below hw) ha hf hp hp' hs).mono ?_
  rintro e w' ⟨x0, x1, rfl, hX, hb⟩
  rw [hy] at hX
  obtain ⟨Xp, cp, Xg, cg, e0, _, _, _, _, e1, _⟩ := id hX
  rw [hn] at e0
  rw [hk] at e1
  subst e0 e1
  have := hw.size
  exact ⟨Xp, cp, Xg, cg, rfl, goodC.mono hX fun i hi => ⟨by omega, hi.2⟩, hw.trans (hb.mono hw.size)⟩
theorem set_del {l : List Cel} {m : Nat} {y : Cel} (hm : m + 1 < l.length) (hy : uniteC (l.getD m default) (l.getD (m + 1) default) = y) : (l.set m y).take (m + 1) ++ (l.set m y).drop (m + 1 + 1) = stepM m l := by
  unfold stepM
  rw [hy, List.drop_set_of_lt (by omega), List.take_succ_eq_append_getElem (by simp; omega), List.take_set_of_le (Nat.le_refl m)]
  simp
theorem set_two {w : World} {g k : Nat} {v0 v1 : Value} (cur : Array Value) (t : TypeId) (fr : Nat × Nat) (h : w.heap[g]? = some (.cells cur t fr)) : ((w.setCell ⟨g, k * 2, none⟩ v0).setCell ⟨g, k * 2 + 1, none⟩ v1).heap[g]? = some (.cells ((cur.setIfInBounds (k * 2) v0).setIfInBounds (k * 2 + 1) v1) t fr) := by
  simp [World.setCell, Array.getElem?_modify, h]
theorem set_cell {B b6 g n c m : Nat} {w7 : World} {l : List Cel} {x0 x1 : Value} {y : Cel} (hO : OwnC B w7 (.slice (some ⟨g, 0, none⟩) n c) l) (hk : m < l.length) (hg6 : g < b6) (hX : CelE (fun i => b6 ≤ i ∧ i < w7.heap.size) w7 x0 x1 y) : OwnC B ((w7.setCell ⟨g, m * 2, none⟩ x0).setCell ⟨g, m * 2 + 1, none⟩ x1) (.slice (some ⟨g, 0, none⟩) n c) (l.set m y) := by
  have hX2 : CelE (fun b => b < w7.heap.size ∧ (Value.slice (some ⟨g, 0, none⟩) n c).ownBlock ≠ some b) w7 x0 x1 y := goodC.mono hX fun i hi => ⟨hi.2, fun e => by
    have e' : g = i := Option.some.inj e
    have := hi.1
    omega⟩
  exact OwnA.setE hO goodC hk rfl hX2 (fun i hi => (Below.heap_setCell _ ⟨g, m * 2 + 1, none⟩ x1 i hi).trans (Below.heap_setCell w7 ⟨g, m * 2, none⟩ x0 i hi)) (by simp [World.setCell]) (fun cur t fr hc => set_two cur t fr hc)
theorem below_two {B g i j : Nat} {a b : World} {x y : Value} (h : Below B a b) (hg : B ≤ g) : Below B a ((b.setCell ⟨g, i, none⟩ x).setCell ⟨g, j, none⟩ y) := (h.setCell (by exact hg) _).setCell (by exact hg) _
theorem own_lo {B g n c : Nat} (hg : B ≤ g) : ∀ k, (Value.slice (some ⟨g, 0, none⟩) n c).ownBlock = some k → B ≤ k := fun k e => by
  have e' : g = k := Option.some.inj e
  omega
set_option maxHeartbeats 8000000 in
set_option maxRecDepth 100000 in
theorem pcmerge_any {A : Option Addr} {c : Nat} {cs : List Cel} {least : Int} {w : World} (h : Cels w A cs) (hm : cs.length ≤ 1000000) (hl : InI least) :
    Calls Try.prog 8 #[.slice A cs.length c, .int .i64 least] w fun e w' => ∃ v, e = .returned (.tuple #[v, .int .i64 (mergeV least cs).2]) ∧ OwnC w.heap.size w' v (mergeV least cs).1 ∧ Below w.heap.size w w' := by
  have H := hide h
  have hl' := hl
  unfold InI at hl
  have HL := hide hl'
  clear hl'
  have hb0 : Below w.heap.size w (w.alloc (.cells #[.int .i64 least] 3)) := (Below.refl _ _).alloc (Nat.le_refl _) _
  by_cases e1 : least < 1
  · have HM := hide (mergeV_range (cs := cs) (.inl e1))
    have HB0 := hide hb0
    clear hb0 h
    go_enter Try.func8, Try.ntmps8
    go_wp2_with fail
    go_ret2
    exact ⟨_, by rw [HM.out]; rfl, by rw [HM.out]; exact OwnA.nil _ _ _ _, HB0.out⟩
  by_cases e2 : 100000 < least
  · have HM := hide (mergeV_range (cs := cs) (.inr e2))
    have HB0 := hide hb0
    clear hb0 h
    go_enter Try.func8, Try.ntmps8
    go_wp2_with fail
    go_ret2
    exact ⟨_, by rw [HM.out]; rfl, by rw [HM.out]; exact OwnA.nil _ _ _ _, HB0.out⟩
  obtain ⟨w0, hw0⟩ : ∃ x, x = w.alloc (.cells #[.int .i64 least] 3) := ⟨_, rfl⟩
  have hl0 : w0.cell? ⟨w.heap.size, 0, none⟩ = some (.int .i64 least) := by rw [hw0]; exact (Box.new _ _ _).cell 0
  have hs0 : w0.heap.size = w.heap.size + 1 := by rw [hw0]; simp
  rw [← hw0] at hb0
  have HB0 := hide hb0
  have HW0 := hide hw0
  have HV := hide (pval_any (c := c) (h.below hb0) hm)
  clear hw0 hb0 h
  cases hv : validC cs with
  | false =>
    have HM := hide (mergeV_form (least := least) (by omega) hv)
    rw [hv] at HV
    clear hv
    go_enter Try.func8, Try.ntmps8
    go_wp2_with fail
    rw [← HW0.out]
    refine HV.out.mono ?_
    rintro e w1 ⟨rfl, hb1⟩
    have HB1 := hide (below_then HB0.out hb1)
    clear hb1
    go_wp2_with fail
    go_ret2
    exact ⟨_, by rw [HM.out]; rfl, by rw [HM.out]; exact OwnA.nil _ _ _ _, HB1.out⟩
  | true =>
    have HM := hide (mergeV_ok (least := least) (by omega) hv)
    have HVt := hide hv
    rw [hv] at HV
    have h12 := valid_len hv
    clear hv
    go_enter Try.func8, Try.ntmps8
    go_wp2_with fail
    rw [← HW0.out]
    refine HV.out.mono ?_
    rintro e w1 ⟨rfl, hb1⟩
    have HB1 := hide hb1
    clear hb1
    go_wp2_with fail
    go_loopw [6, 8, 21] (fun o _ i wr => ∃ k : Nat, k ≤ cs.length ∧ i = .int .i64 k ∧ ∃ v : Value, o = v ∧ Hid (OwnC w0.heap.size wr v (cs.take k)) ∧ Hid (Below w0.heap.size w0 wr)) (fun _ _ i wr => cs.length - (iOf i).toNat)
    case atStart => exact ⟨0, Nat.zero_le _, rfl, _, rfl, OwnA.nil _ _ _ _, HB1.out⟩
    case round =>
      obtain ⟨k, hk, rfl, v, rfl, HO, HB⟩ := hrel
      by_cases hlt : k < cs.length
      · have hBw := HB0.out.trans (HB.out.mono (by omega))
        obtain ⟨hone, hfew⟩ := valid_cell HVt.out hlt
        obtain ⟨b0, off, y0, y1, rfl, hb0, h0, h1, hcel⟩ := PairsIn.at_ H.out hlt
        have h0 := (hBw.cell (p := ⟨b0, off + k * 2, none⟩) hb0).trans h0
        have h1 := (hBw.cell (p := ⟨b0, off + k * 2 + 1, none⟩) hb0).trans h1
        have htk := hide (take_succC hlt)
        have hcel2 : Cell2 wr y0 y1 (cs.getD k default) := Cell2.below hcel hBw
        have hsw := HB.out.size
        have hbx : Below wr.heap.size wr (wr.alloc (.cells #[y0, y1] 34)) := (Below.refl _ _).alloc (Nat.le_refl _) _
        have HC := hide (pclone_any (hcel2.below hbx) hone hfew)
        have HO1 := hide (HO.out.kept goodC hbx)
        have HBx := hide (HB.out.trans (hbx.mono hsw))
        have hlen := List.length_take_le k cs
        obtain ⟨Ap, cp, Bg, cg, rfl, -, -, -, -, rfl, -⟩ := id hcel2
        clear hcel hcel2 hone hfew hBw hbx
        generalize cs.getD k default = cc at *
        obtain ⟨ps, gs⟩ := cc
        simp only [] at *
        go_wp2_with fail
        refine HC.out.mono ?_
        rintro e w2 ⟨x0, x1, rfl, hX, hb2⟩
        obtain ⟨Ax, cx, Bx, dx, rfl, -, -, -, -, rfl, -⟩ := id hX
        have hsx := HBx.out.size
        have hO2 := HO1.out.kept goodC hb2
        have hlo : ∀ g, u6.ownBlock = some g → g < wr.heap.size + 1 := fun g e => by
          obtain ⟨_, _, _, _, hq, _⟩ := HO.out.shape goodC
          have := (hq g e).2.1
          omega
        have hsz : (wr.alloc (.cells #[.slice Ap ps.length cp, .slice Bg gs.length cg] 34)).heap.size = wr.heap.size + 1 := by simp
        have hs2 := hb2.size
        obtain ⟨A4, d4, w4, hr4, hO4, hg4, _⟩ := OwnC.push1 hO2 (by omega) (by rw [List.length_take]; omega) hX (fun i hi => ⟨hi.2, fun e => by have := hlo i e; omega⟩) 23
        rw [← htk.out] at hO4
        rw [List.length_take, Nat.min_eq_left hk] at hr4 hO4
        have HR4 := hide hr4
        have HO4 := hide hO4
        have HB4 := hide ((HBx.out.trans (hb2.mono hsx)).trans (OwnA.below hO2 (by omega) hg4))
        clear hr4 hO4 hg4 hO2 hb2 hlo hX
        go_wp2_with ((with_reducible refine wpList_gives (o := ⟨some 29, _, _, _, _, _⟩) (v := Value.slice A4 (k + 1) d4) (w' := w4) ?_ ?_ ?_); rfl; exact gives_append rfl rfl rfl HR4.out)
        go_roundw
        case rel => exact ⟨k + 1, by omega, by go_num, _, rfl, HO4.out, HB4.out⟩
        case measure => simp [iOf]; omega
      · obtain rfl : k = cs.length := by omega
        have hO := HO.out
        rw [List.take_length] at hO
        have HO5 := hide hO
        have HB5 := hide HB.out
        clear hO
        go_wp2_with fail
        go_loopw [6, 9] (fun o _ wi => ∃ l : List Cel, ∃ v : Value, o = v ∧ Hid (OwnC w0.heap.size wi v l) ∧ Hid (validC l = true) ∧ Hid (mergeC least l = mergeC least cs) ∧ Hid (Below w0.heap.size w0 wi)) (fun o _ wi => lenV o)
        case atStart => exact ⟨cs, _, rfl, HO5.out, HVt.out, rfl, HB5.out⟩
        case round =>
          clear HO HB HO5 HB5 H HV
          obtain ⟨l, v, rfl, HO, HW, HE, HB⟩ := hrel
          obtain ⟨A3, c3, rfl, hc3, hq3, hP3⟩ := HO.out.shape goodC
          have hl12 := valid_len HW.out
          have hsw := HB.out.size
          by_cases hlt : 1 < l.length
          · have hdl : decide ((1 : Int) < (l.length : Int)) = true := decide_eq_true (by omega)
            obtain ⟨b0, off, y0, y1, rfl, hb0, -, -, -⟩ := PairsIn.at_ hP3 (k := 0) (by omega)
            obtain ⟨hq1, hq2, hq4⟩ := hq3 b0 rfl
            cases hq4
            have hlc := (HB.out.cell (p := ⟨w.heap.size, 0, none⟩) (by simp; omega)).trans hl0
            have HI := hide (index_any (cap := c3) hP3 rfl (by omega) hb0 hlc HL.out)
            have hc3' := hide hc3
            clear hP3
            by_cases hall : firstBad least l = l.length
            · have HG := hide (mergeC_safe hall)
              have hbad : badAt least l = -1 := by unfold badAt; rw [if_pos hall]
              rw [hbad] at HI
              clear hbad hall
              go_wp2_with fail
              refine HI.out.mono ?_
              rintro e w6 ⟨rfl, hb6⟩
              have HO6 := hide ((HO.out.kept goodC hb6).lower (C := w.heap.size) (by omega))
              have HB6 := hide (HB0.out.trans ((HB.out.trans (hb6.mono hsw)).mono (by omega)))
              clear hb6
              go_wp2_with fail
              go_ret2
              exact ⟨_, by rw [HM.out]; rfl, by rw [HM.out, ← HE.out, HG.out]; exact HO6.out, HB6.out⟩
            · have hfl : firstBad least l < l.length := Nat.lt_of_le_of_ne (firstBad_le _ _) hall
              have hbad : badAt least l = (firstBad least l : Nat) := by unfold badAt; rw [if_neg hall]
              rw [hbad] at HI
              have hst := mergeC_step (least := least) hlt hfl
              clear hbad hall
              generalize firstBad least l = k1 at *
              obtain ⟨m, hmk, hm1⟩ : ∃ m : Nat, m = min k1 (l.length - 2) ∧ m + 1 < l.length := ⟨_, rfl, by omega⟩
              rw [← hmk] at hst
              have HSt := hide hst
              have HWS := hide (valid_step (k := m) HW.out hm1)
              have hpo := pair_ok HW.out hm1
              have hsl := stepM_length (cs := l) hm1
              have HMK := hide hmk
              clear hst hmk
              go_wp2_with fail
              refine HI.out.mono ?_
              rintro e w6 ⟨rfl, hb6⟩
              have HO6 := hide (HO.out.kept goodC hb6)
              have HB6 := hide (HB.out.trans (hb6.mono hsw))
              have hs6 := hb6.size
              clear hb6
              obtain ⟨A4, c4, hv4, hcc, hq4, hP4⟩ := HO6.out.shape goodC
              cases hv4
              obtain ⟨b2, o2, z0, z1, e2, hb2, g0, g1, hcel⟩ := PairsIn.at_ hP4 (k := m) (by omega)
              cases e2
              obtain ⟨b3, o3, z2, z3, e3, hb3, g2, g3, hcel'⟩ := PairsIn.at_ hP4 (k := m + 1) (by omega)
              cases e3
              obtain ⟨y, hy⟩ : ∃ y, uniteC (l.getD m default) (l.getD (m + 1) default) = y := ⟨_, rfl⟩
              have HSD := hide (set_del hm1 hy)
              obtain ⟨yn, hyn⟩ : ∃ n, y.1.length = n := ⟨_, rfl⟩
              obtain ⟨yk, hyk⟩ : ∃ n, y.2.length = n := ⟨_, rfl⟩
              have HJn := hide (fun wq (hq : Below w6.heap.size w6 wq) => join_sl hq hcel hcel' (List.length_pos_iff.2 hpo.1.1) hpo.2.2.1 hpo.1.2.2 hpo.2.1.2.2 hpo.2.2.2 hy hyn hyk)
              rw [Nat.zero_add] at g0 g1 g2 g3
              have hb06 : b0 < w6.heap.size := by omega
              have i1 : (0 : Int) ≤ (m : Int) := by omega
              have i2 : (m : Int) < (l.length : Int) := by omega
              have i3 : m < l.length := by omega
              have i4 : IntKind.i64.wrap ((m : Int) + 1) = ((m + 1 : Nat) : Int) := (IntWalk.i64_in _ (by omega)).trans (by omega)
              have i5 : (0 : Int) ≤ ((m + 1 : Nat) : Int) := by omega
              have i6 : ((m + 1 : Nat) : Int) < (l.length : Int) := by omega
              have i5' : (0 : Int) ≤ (m : Int) + 1 := by omega
              have i6' : (m : Int) + 1 < (l.length : Int) := by omega
              clear hcel hcel' hP4 hpo hb2 hb3 hy hyn hyk hq4
              have hmn : min (k1 : Int) ((l.length : Int) - 2) = ((m : Nat) : Int) := by have := HMK.out; omega
              have hk0 : decide ((k1 : Int) < 0) = false := decide_eq_false (by omega)
              go_wp2_with fail
              go_region_with ((go_at_call 26; refine (HJn.out _ ?_).mono ?_; exact (Below.refl _ _).drew; rintro e w7 ⟨Xp, cp, Xg, cg, rfl, HX7, hb7⟩; have g0 := (hb7.cell (p := ⟨b0, m * 2, none⟩) hb06).trans g0; have g1 := (hb7.cell (p := ⟨b0, m * 2 + 1, none⟩) hb06).trans g1; have f0 := OwnA.frozen (HO6.out.kept goodC hb7) (g := b0) rfl (m * 2); have f1 := OwnA.frozen (HO6.out.kept goodC hb7) (g := b0) rfl (m * 2 + 1)))
              all_goals (
                have hO7 := HO6.out.kept goodC hb7
                have hs7 := hb7.size
                obtain ⟨w8, hw8⟩ : ∃ x, x = (w7.setCell ⟨b0, m * 2, none⟩ (.slice Xp yn cp)).setCell ⟨b0, m * 2 + 1, none⟩ (.slice Xg yk cg) := ⟨_, rfl⟩
                have hO8 : OwnC w0.heap.size w8 (.slice (some ⟨b0, 0, none⟩) l.length c3) (l.set m y) := by rw [hw8]; exact set_cell hO7 i3 hb06 HX7.out
                have hb8 : Below w0.heap.size w0 w8 := by rw [hw8]; exact below_two (HB6.out.trans (hb7.mono HB6.out.size)) hq1
                rw [← hw8]
                have hs8 := hb8.size
                have HD := hide (delete_any (i := m + 1) (a := (m : Int) + 1) (b := (m : Int) + 2) hO8 (by simp) (by omega) (by omega) (by omega) (by omega))
                rw [HSD.out] at HD
                have HB8 := hide hb8
                clear hw8 hO7 hO8 hb7 HX7 f0 f1 g0 g1 g2 g3 hb8
                go_wp2_with fail
                refine HD.out.mono ?_
                rintro e w9 ⟨rfl, hO9, hg9⟩
                have HO9 := hide hO9
                have HB9 := hide (HB8.out.trans (own_by hs8 (own_lo (n := l.length) (c := c3) hq1) hg9))
                clear hO9 hg9
                go_wp2_with fail
                go_roundw
                case rel => exact ⟨stepM m l, _, rfl, HO9.out, HWS.out, by rw [← HSt.out]; exact HE.out, HB9.out⟩
                case measure => simp [lenV]; omega)
          · have HG := hide (mergeC_few (least := least) (cs := l) (by omega))
            have HO6 := hide (HO.out.lower (C := w.heap.size) (by omega))
            have HB6 := hide (HB0.out.trans (HB.out.mono (by omega)))
            go_wp2_with fail
            go_ret2
            exact ⟨_, by rw [HM.out]; rfl, by rw [HM.out, ← HE.out, HG.out]; exact HO6.out, HB6.out⟩
end Go.Proofs.Yteeamiacplfcmaa
