/-
  electionref42.unite.
-/
import Derived.Test.YteeamiacplfcmaaRSum
namespace Go.Proofs.Yteeamiacplfcmaa
open Go.RowKit
set_option linter.unusedVariables false
set_option linter.unusedSimpArgs false

/-- the numbers below k that are in a or b -/
def uniP (a b : List Int) (k : Nat) : List Int := ((List.range k).map Int.ofNat).filter fun p => decide (p ∈ a) || decide (p ∈ b)
theorem uniP_succ (a b : List Int) (k : Nat) : uniP a b (k + 1) = uniP a b k ++ if (decide ((k : Int) ∈ a) || decide ((k : Int) ∈ b)) = true then [(k : Int)] else [] := by
  unfold uniP
  rw [List.range_succ, List.map_append, List.filter_append]
  congr 1
  simp only [List.map_cons, List.map_nil, List.filter_cons, List.filter_nil]
  rfl
theorem uniP_len (a b : List Int) (k : Nat) : (uniP a b k).length ≤ k := by
  unfold uniP
  have := List.length_filter_le (fun p => decide (p ∈ a) || decide (p ∈ b)) ((List.range k).map Int.ofNat)
  simpa using this
/-- two cells merged -/
def uniteC (a b : Cel) : Cel := (uniP a.1 b.1 12, joinG a.2 b.2)
theorem uniP_inI {a b : List Int} {k : Nat} (hk : k ≤ 12) : ∀ y ∈ uniP a b k, InI y := fun y hy => by
  unfold uniP at hy
  rw [List.mem_filter, List.mem_map] at hy
  obtain ⟨⟨n, hn, rfl⟩, _⟩ := hy
  rw [List.mem_range] at hn
  unfold InI
  show -9223372036854775808 ≤ (n : Int) ∧ (n : Int) ≤ 9223372036854775807
  omega
/-- the block holds a number -/
def HasI (w : World) (b : Nat) : Prop := b < w.heap.size ∧ ∃ off x, w.cell? ⟨b, off, none⟩ = some (.int .i64 x)
theorem ints_has {w : World} {A : Option Addr} {l : List Int} (h : Ints w A l) : IntsIn (HasI w) w A l := fun hp => by
  obtain ⟨b, off, e, hb, hc⟩ := h hp
  exact ⟨b, off, e, ⟨hb, off + 0, _, hc 0 hp⟩, hc⟩
theorem grps_has {w : World} {A : Option Addr} {gs : List Grp} (h : Grps w A gs) : PairsIn GrpE (HasI w) w A gs := fun hp => by
  obtain ⟨b, off, e, hb, hc⟩ := h hp
  refine ⟨b, off, e, ⟨hb, ?_⟩, fun k hk => ?_⟩
  · obtain ⟨v0, v1, h0, h1, A2, c2, _, _, _, _, _, _, rfl⟩ := hc 0 hp
    exact ⟨off + 0 * 2 + 1, _, h1⟩
  · obtain ⟨v0, v1, h0, h1, A2, c2, q0, q1, q2, q3, q4, q5, q6⟩ := hc k hk
    exact ⟨v0, v1, h0, h1, A2, c2, q0, q1, q2, q3, q4, ints_has q5, q6⟩
theorem cell2_has {w : World} {v0 v1 : Value} {c : Cel} (h : Cell2 w v0 v1 c) : CelE (HasI w) w v0 v1 c := by
  obtain ⟨A, ca, B, d, rfl, hca, hpm, hpi, hpA, rfl, hd, hgm, hgB⟩ := h
  exact ⟨A, ca, B, d, rfl, hca, hpm, hpi, ints_has hpA, rfl, hd, hgm, grps_has hgB⟩
/-- a block of slices holds no number -/
theorem Box.hasI {w : World} {g : Nat} {t : TypeId} {A B : Option Addr} {n m c d : Nat} (h : Box w g t #[.slice A n c, .slice B m d]) : ¬ HasI w g := by
  rintro ⟨_, off, x, e⟩
  rw [h.cell] at e
  rcases off with _ | _ | off
  · simp at e
  · simp at e
  · simp at e
theorem own_set {B : Nat} {w : World} {v x : Value} {l : List Int} {p : Addr} (h : OwnI B w v l) (hp : p.block < B) : OwnI B (w.setCell p x) v l :=
  ownsRow_of h fun g e _ => Below.heap_setCell w p x g (fun e2 => by have := h.lo g e; omega)
set_option maxHeartbeats 8000000 in
set_option maxRecDepth 100000 in
theorem unite_any {v0 v1 u0 u1 : Value} {a b : Cel} {w : World} (h : Cell2 w v0 v1 a) (h' : Cell2 w u0 u1 b) (hp : pileOk 7 a.2 = true) (hp' : pileOk 7 b.2 = true) (hs : sumN a.2 + sumN b.2 ≤ 100000) :
    Calls Try.prog 32 #[.agg #[v0, v1], .agg #[u0, u1]] w fun e w' => ∃ x0 x1, e = .returned (.agg #[x0, x1]) ∧ Cell2 w' x0 x1 (uniteC a b) ∧ Below w.heap.size w w' := by
  obtain ⟨A, ca, B, da, rfl, hca, hpm, hpi, hpA, rfl, hda, hgm, hgB⟩ := h
  obtain ⟨A', cb, B', db, rfl, hcb, hpm', hpi', hpA', rfl, hdb, hgm', hgB'⟩ := h'
  have HH1 := hide (fun wq (hq : Below w.heap.size w wq) x (hx : InI x) => has_any (c := ca) (w := wq) (Ints.below hpA hq) (by omega) hpi hx)
  have HH2 := hide (fun wq (hq : Below w.heap.size w wq) x (hx : InI x) => has_any (c := cb) (w := wq) (Ints.below hpA' hq) (by omega) hpi' hx)
  have HJ := hide (fun wq (hq : Below w.heap.size w wq) => rjoin_any (c := da) (d := db) (w := wq) (Grps.below hgB hq) (Grps.below hgB' hq) hp hp' hs)
  have hlen := pile_joinG hp hp' hs
  have hlen := pile_len hlen
  have HU : Hid (uniteC a b = (uniP a.1 b.1 12, joinG a.2 b.2)) := rfl
  obtain ⟨pa, ga⟩ := a
  obtain ⟨pb, gb⟩ := b
  simp only [] at *
  have HL := hide hlen
  clear hpA hgB hpA' hgB' hp hp' hs hpi hpi' hlen
  go_enter Try.func32, Try.ntmps32
  go_wp2_with fail
  have X0 := hide ((((Box.new w 34 #[.slice A pa.length ca, .slice B ga.length da]).alloc (.cells #[.slice A' pb.length cb, .slice B' gb.length db] 34)).alloc (.cells #[.slice none 0 0, .slice none 0 0] 34)).alloc (.cells #[.slice none 0 0, .slice none 0 0] 34))
  have X1 := hide (((Box.new (w.alloc (.cells #[.slice A pa.length ca, .slice B ga.length da] 34)) 34 #[.slice A' pb.length cb, .slice B' gb.length db]).alloc (.cells #[.slice none 0 0, .slice none 0 0] 34)).alloc (.cells #[.slice none 0 0, .slice none 0 0] 34))
  have X2 := hide ((Box.new ((w.alloc (.cells #[.slice A pa.length ca, .slice B ga.length da] 34)).alloc (.cells #[.slice A' pb.length cb, .slice B' gb.length db] 34)) 34 #[.slice none 0 0, .slice none 0 0]).alloc (.cells #[.slice none 0 0, .slice none 0 0] 34))
  have X3 := hide (Box.new (((w.alloc (.cells #[.slice A pa.length ca, .slice B ga.length da] 34)).alloc (.cells #[.slice A' pb.length cb, .slice B' gb.length db] 34)).alloc (.cells #[.slice none 0 0, .slice none 0 0] 34)) 34 #[.slice none 0 0, .slice none 0 0])
  have HB0 := hide (((((Below.refl w.heap.size w).alloc (Nat.le_refl _) (.cells #[.slice A pa.length ca, .slice B ga.length da] 34)).alloc (by simp) (.cells #[.slice A' pb.length cb, .slice B' gb.length db] 34)).alloc (by simp; omega) (.cells #[.slice none 0 0, .slice none 0 0] 34)).alloc (by simp; omega) (.cells #[.slice none 0 0, .slice none 0 0] 34))
  simp only [World.size_alloc] at X0 X1 X2 X3
  go_loopw [6] (fun i wr => ∃ k : Nat, k ≤ 12 ∧ i = .int .i64 k ∧ ∃ v : Value, Hid (Box wr w.heap.size 34 #[.slice A pa.length ca, .slice B ga.length da]) ∧ Hid (Box wr (w.heap.size + 1) 34 #[.slice A' pb.length cb, .slice B' gb.length db]) ∧ Hid (Box wr (w.heap.size + 1 + 1) 34 #[.slice none 0 0, .slice none 0 0]) ∧ Hid (Box wr (w.heap.size + 1 + 1 + 1) 34 #[v, .slice none 0 0]) ∧ Hid (OwnI (w.heap.size + 1 + 1 + 1 + 1) wr v (uniP pa pb k)) ∧ Hid (Below w.heap.size w wr)) (fun i wr => 12 - (iOf i).toNat)
  case atStart => exact ⟨0, by omega, rfl, _, X0.out, X1.out, X2.out, X3.out, OwnI.nil _ _, HB0.out⟩
  case round =>
    obtain ⟨k, hk, rfl, v, X0, X1, X2, X3, HO, HB⟩ := hrel
    have hlt3 := X3.out.lt
    have a0 := X0.out.cell 0
    have a1 := X0.out.cell 1
    have b0 := X1.out.cell 0
    have b1 := X1.out.cell 1
    have o0 := X3.out.cell 0
    have o1 := X3.out.cell 1
    have of0 := X3.out.frozen 0
    have of1 := X3.out.frozen 1
    have hs1 := HB.out.size
    simp at a0 a1 b0 b1 o0 o1
    by_cases hlt : k < 12
    · have hkI : InI (k : Int) := by unfold InI; omega
      have HX1 := hide (HH1.out wr HB.out k hkI)
      have HX2 := hide (HH2.out wr HB.out k hkI)
      have HUs := hide (uniP_succ pa pb k)
      have hul := uniP_len pa pb k
      have HP := hide (push_int HO.out (by omega) (by omega) 31 (k : Int))
      have HEnd : Hid (∀ w5, Box w5 w.heap.size 34 #[.slice A pa.length ca, .slice B ga.length da] → True) := fun _ _ => trivial
      have hadd : (decide ((k : Int) ∈ pa) || decide ((k : Int) ∈ pb)) = true → ∃ A4 c4 w4, (Builtin.append_ #[31, 31] 31 #[v, .slice (some ⟨wr.heap.size, 0, none⟩) 1 1]).run Try.prog (wr.alloc (.cells #[.int .i64 k] 3)) = .ok (.slice A4 ((uniP pa pb k).length + 1) c4) w4 ∧
          Box w4 w.heap.size 34 #[.slice A pa.length ca, .slice B ga.length da] ∧ Box w4 (w.heap.size + 1) 34 #[.slice A' pb.length cb, .slice B' gb.length db] ∧ Box w4 (w.heap.size + 1 + 1) 34 #[.slice none 0 0, .slice none 0 0] ∧ Box w4 (w.heap.size + 1 + 1 + 1) 34 #[v, .slice none 0 0] ∧ OwnI (w.heap.size + 1 + 1 + 1 + 1) w4 (.slice A4 ((uniP pa pb k).length + 1) c4) (uniP pa pb (k + 1)) ∧ Below w.heap.size w w4 := by
        intro hq
        obtain ⟨A4, c4, w4, hr4, hO4, hg4, hor4⟩ := HP.out
        have hne : ∀ g, g < w.heap.size + 1 + 1 + 1 + 1 → some g ≠ v.ownBlock := fun g hg e => by
          have := HO.out.lo g e.symm
          omega
        refine ⟨A4, c4, w4, hr4, X0.out.grown hg4 (hne _ (by omega)), X1.out.grown hg4 (hne _ (by omega)), X2.out.grown hg4 (hne _ (by omega)), X3.out.grown hg4 (hne _ (by omega)), ?_, ?_⟩
        · rw [HUs.out, if_pos hq]; exact hO4
        · exact HB.out.trans (own_by hs1 (fun g e => by have := HO.out.lo g e; omega) hg4)
      have HAdd := hide hadd
      clear hadd HP
      have hno : (decide ((k : Int) ∈ pa) || decide ((k : Int) ∈ pb)) = false → uniP pa pb (k + 1) = uniP pa pb k := fun hq => by
        rw [HUs.out, if_neg (by rw [hq]; simp), List.append_nil]
      have HNo := hide hno
      clear hno
      generalize decide ((k : Int) ∈ pa) = q1 at *
      generalize decide ((k : Int) ∈ pb) = q2 at *
      cases q1 with
      | true =>
        obtain ⟨A4, c4, w4, hr4, Y0, Y1, Y2, Y3, hO4, hb4⟩ := HAdd.out rfl
        have HR4 := hide hr4
        have p0 := Y3.cell 0
        have p1 := Y3.cell 1
        have pf0 := Y3.frozen 0
        simp at p0 p1
        have HE : Hid (Box (w4.setCell ⟨w.heap.size + 1 + 1 + 1, 0, none⟩ (.slice A4 ((uniP pa pb k).length + 1) c4)) w.heap.size 34 #[.slice A pa.length ca, .slice B ga.length da] ∧ Box (w4.setCell ⟨w.heap.size + 1 + 1 + 1, 0, none⟩ (.slice A4 ((uniP pa pb k).length + 1) c4)) (w.heap.size + 1) 34 #[.slice A' pb.length cb, .slice B' gb.length db] ∧ Box (w4.setCell ⟨w.heap.size + 1 + 1 + 1, 0, none⟩ (.slice A4 ((uniP pa pb k).length + 1) c4)) (w.heap.size + 1 + 1) 34 #[.slice none 0 0, .slice none 0 0] ∧ Box (w4.setCell ⟨w.heap.size + 1 + 1 + 1, 0, none⟩ (.slice A4 ((uniP pa pb k).length + 1) c4)) (w.heap.size + 1 + 1 + 1) 34 #[.slice A4 ((uniP pa pb k).length + 1) c4, .slice none 0 0] ∧ OwnI (w.heap.size + 1 + 1 + 1 + 1) (w4.setCell ⟨w.heap.size + 1 + 1 + 1, 0, none⟩ (.slice A4 ((uniP pa pb k).length + 1) c4)) (.slice A4 ((uniP pa pb k).length + 1) c4) (uniP pa pb (k + 1)) ∧ Below w.heap.size w (w4.setCell ⟨w.heap.size + 1 + 1 + 1, 0, none⟩ (.slice A4 ((uniP pa pb k).length + 1) c4))) :=
          ⟨Y0.far (by simp <;> omega) _, Y1.far (by simp <;> omega) _, Y2.far (by simp <;> omega) _, Y3.set 0 _, own_set hO4 (by simp), hb4.setCell (by simp <;> omega) _⟩
        clear hr4 hO4 hb4 Y0 Y1 Y2 Y3 HAdd
        go_wp2_with fail
        refine HX1.out.mono ?_
        rintro e w1 ⟨rfl, rfl⟩
        go_wp2_with ((with_reducible refine wpList_gives (o := ⟨some 25, _, _, _, _, _⟩) (v := Value.slice A4 ((uniP pa pb k).length + 1) c4) (w' := w4) ?_ ?_ ?_); rfl; exact gives_append rfl rfl rfl HR4.out)
        go_roundw
        case rel => exact ⟨k + 1, by omega, by go_num, _, HE.out.1, HE.out.2.1, HE.out.2.2.1, HE.out.2.2.2.1, HE.out.2.2.2.2.1, HE.out.2.2.2.2.2⟩
        case measure => simp [iOf]; omega
      | false =>
        cases q2 with
        | true =>
          obtain ⟨A4, c4, w4, hr4, Y0, Y1, Y2, Y3, hO4, hb4⟩ := HAdd.out rfl
          have HR4 := hide hr4
          have p0 := Y3.cell 0
          have p1 := Y3.cell 1
          have pf0 := Y3.frozen 0
          simp at p0 p1
          have HE : Hid (Box (w4.setCell ⟨w.heap.size + 1 + 1 + 1, 0, none⟩ (.slice A4 ((uniP pa pb k).length + 1) c4)) w.heap.size 34 #[.slice A pa.length ca, .slice B ga.length da] ∧ Box (w4.setCell ⟨w.heap.size + 1 + 1 + 1, 0, none⟩ (.slice A4 ((uniP pa pb k).length + 1) c4)) (w.heap.size + 1) 34 #[.slice A' pb.length cb, .slice B' gb.length db] ∧ Box (w4.setCell ⟨w.heap.size + 1 + 1 + 1, 0, none⟩ (.slice A4 ((uniP pa pb k).length + 1) c4)) (w.heap.size + 1 + 1) 34 #[.slice none 0 0, .slice none 0 0] ∧ Box (w4.setCell ⟨w.heap.size + 1 + 1 + 1, 0, none⟩ (.slice A4 ((uniP pa pb k).length + 1) c4)) (w.heap.size + 1 + 1 + 1) 34 #[.slice A4 ((uniP pa pb k).length + 1) c4, .slice none 0 0] ∧ OwnI (w.heap.size + 1 + 1 + 1 + 1) (w4.setCell ⟨w.heap.size + 1 + 1 + 1, 0, none⟩ (.slice A4 ((uniP pa pb k).length + 1) c4)) (.slice A4 ((uniP pa pb k).length + 1) c4) (uniP pa pb (k + 1)) ∧ Below w.heap.size w (w4.setCell ⟨w.heap.size + 1 + 1 + 1, 0, none⟩ (.slice A4 ((uniP pa pb k).length + 1) c4))) :=
            ⟨Y0.far (by simp <;> omega) _, Y1.far (by simp <;> omega) _, Y2.far (by simp <;> omega) _, Y3.set 0 _, own_set hO4 (by simp), hb4.setCell (by simp <;> omega) _⟩
          clear hr4 hO4 hb4 Y0 Y1 Y2 Y3 HAdd
          go_wp2_with fail
          refine HX1.out.mono ?_
          rintro e w1 ⟨rfl, rfl⟩
          go_wp2_with fail
          refine HX2.out.mono ?_
          rintro e w2 ⟨rfl, rfl⟩
          go_wp2_with ((with_reducible refine wpList_gives (o := ⟨some 25, _, _, _, _, _⟩) (v := Value.slice A4 ((uniP pa pb k).length + 1) c4) (w' := w4) ?_ ?_ ?_); rfl; exact gives_append rfl rfl rfl HR4.out)
          go_roundw
          case rel => exact ⟨k + 1, by omega, by go_num, _, HE.out.1, HE.out.2.1, HE.out.2.2.1, HE.out.2.2.2.1, HE.out.2.2.2.2.1, HE.out.2.2.2.2.2⟩
          case measure => simp [iOf]; omega
        | false =>
          have HN := hide (HNo.out rfl)
          go_wp2_with fail
          refine HX1.out.mono ?_
          rintro e w1 ⟨rfl, rfl⟩
          go_wp2_with fail
          refine HX2.out.mono ?_
          rintro e w2 ⟨rfl, rfl⟩
          go_wp2_with fail
          go_roundw
          case rel => exact ⟨k + 1, by omega, by go_num, _, X0.out, X1.out, X2.out, X3.out, by rw [HN.out]; exact HO.out, HB.out⟩
          case measure => simp [iOf]; omega
    · obtain rfl : k = 12 := by omega
      have HJ1 := hide (HJ.out wr HB.out)
      obtain ⟨Ap, cp, rfl, hcp, _, hop⟩ := HO.out.form
      have hul := uniP_len pa pb 12
      clear hop
      go_wp2_with fail
      refine HJ1.out.mono ?_
      rintro e w1 ⟨vg, rfl, hOg, hb1⟩
      have Y2 := X2.out.kept hb1
      have Y3 := X3.out.kept hb1
      have hOp := HO.out.kept hb1
      have HB1 := hide (HB.out.trans (hb1.mono hs1))
      have t0 := Y2.cell 0
      have t1 := Y2.cell 1
      have tf0 := Y2.frozen 0
      have tf1 := Y2.frozen 1
      have p0 := Y3.cell 0
      have p1 := Y3.cell 1
      have pf0 := Y3.frozen 0
      have pf1 := Y3.frozen 1
      simp at p0 p1 t0 t1
      obtain ⟨Ag, cg, rfl, hcg, _, hgP⟩ := hOg.shape goodG
      have HCE : Hid (Cell2 w1 (.slice Ap (uniP pa pb 12).length cp) (.slice Ag (joinG ga gb).length cg) (uniteC (pa, ga) (pb, gb))) := by
        rw [Hid, HU.out]
        exact ⟨Ap, cp, Ag, cg, rfl, hcp, by simp only []; omega, uniP_inI (by omega), hOp.ints, rfl, hcg, by have := HL.out; simp only []; omega, hgP⟩
      have HN2 := hide Y2.hasI
      have HY2 := hide Y2
      have HN3 := hide Y3.hasI
      clear hb1 hOp hOg hgP Y2 Y3 a0 a1 b0 b1 o0 o1
      go_wp2_with fail
      have W2 := hide ((((HY2.out.far (p := ⟨w.heap.size + 1 + 1 + 1, 1, none⟩) (by simp) (.slice Ag (joinG ga gb).length cg)).set 0 (.slice Ap (uniP pa pb 12).length cp)).set 1 (.slice Ag (joinG ga gb).length cg)))
      have s0 := W2.out.cell 0
      have s1 := W2.out.cell 1
      simp at s0 s1
      refine bodyPost_ret (v := .agg #[.slice Ap (uniP pa pb 12).length cp, .slice Ag (joinG ga gb).length cg]) (by simp [results, Try.results32, go_sem, s0, s1]) rfl ?_
      refine ⟨_, _, rfl, ?_, ((HB1.out.setCell (by simp <;> omega) _).setCell (by simp <;> omega) _).setCell (by simp <;> omega) _⟩
      refine goodC.mono (goodC.agree (cell2_has HCE.out) fun i hi => ?_) fun i hi => by simpa [All] using hi.1
      have n2 : i ≠ w.heap.size + 1 + 1 := fun e => HN2.out (e ▸ hi)
      have n3 : i ≠ w.heap.size + 1 + 1 + 1 := fun e => HN3.out (e ▸ hi)
      exact (Below.heap_setCell _ _ _ i n2).trans ((Below.heap_setCell _ _ _ i n2).trans (Below.heap_setCell _ _ _ i n3))
end Go.Proofs.Yteeamiacplfcmaa
