/-
  pile.merge.
-/
import Derived.Test.YteeamiacplfcmaaPlainQ
import Derived.Test.YteeamiacplfcmaaSort
namespace Go.Proofs.Yteeamiacplfcmaa
open Go.RowKit
set_option linter.unusedVariables false
set_option linter.unusedSimpArgs false

theorem sumN_perm {a b : List Grp} (h : a.Perm b) : sumN a = sumN b := by
  induction h with
  | nil => rfl
  | cons x _ ih => rw [sumN_cons, sumN_cons, ih]
  | swap x y l => simp only [sumN_cons]; omega
  | trans _ _ h1 h2 => exact h1.trans h2
set_option maxHeartbeats 8000000 in
set_option maxRecDepth 100000 in
theorem pmerge_any {D : Nat → Prop} {B : Nat} {w : World} {v : Value} {xs : List Grp} (h : OwnD D B w v xs) (hB : B ≤ w.heap.size) (hp : Pos xs) (hs : sumN xs ≤ 100000) :
    Calls Try.prog 47 #[v] w fun e w' => ∃ (ys : List Grp) (v' : Value), ys.Perm xs ∧ (ys.Pairwise fun a b => lexLt b.1 a.1 = false) ∧ e = .returned v' ∧ OwnD D B w' v' (coal ys) ∧ Below B w w' := by
  have hps := hp.sum
  have HSF := hide (sortfunc_any h (by omega))
  have HOw := hide (fun w' (hg : w.grownBy w' v.ownBlock) => OwnA.below h hB hg)
  have HPx := hide hp
  have HSx := hide hs
  obtain ⟨A0, c0, hv0, _, _, _⟩ := h.shape (goodD D)
  clear h hp
  subst hv0
  go_enter Try.func47, Try.ntmps47
  go_wp2_with fail
  refine HSF.out.mono ?_
  rintro e w1 ⟨rfl, ys, hperm, hsort, hO1, hg1⟩
  have hb1 := hide (HOw.out _ hg1)
  have hs1 := hg1.size
  have hyl := hperm.length_eq
  have HPy : Hid (Pos ys) := fun g hg => HPx.out g (hperm.mem_iff.1 hg)
  have hsy : sumN ys ≤ 100000 := by
    have e1 : sumN ys = sumN xs := sumN_perm hperm
    omega
  have HFa := hide (coal_facts ys HPy.out)
  have HSy := hide hsy
  obtain ⟨A1, c1, hv1, hc1, _, hP1⟩ := hO1.shape (goodD D)
  rw [← hyl] at hv1 ⊢
  rw [← hyl] at HOw HSF hps
  injection hv1 with e1 e2 e3
  subst e1 e3
  have HP := hide hP1
  have HPerm := hide hperm
  have HSort := hide hsort
  clear hP1 hg1 hO1 HSF HOw hperm hsort hyl
  go_wp2_with fail
  go_loopw [3, 5, 6, 11] (fun a _ _ i wr => ∃ k : Nat, k ≤ ys.length ∧ i = .int .i64 k ∧ ∃ vo : Value, a = vo ∧ Hid (OwnD D w1.heap.size wr vo (coal (ys.take k))) ∧ Hid (Below w1.heap.size w1 wr)) (fun _ _ _ i wr => ys.length - (iOf i).toNat)
  case atStart => exact ⟨0, Nat.zero_le _, rfl, _, rfl, OwnA.nil _ _ _ _, Below.refl _ _⟩
  case round =>
    obtain ⟨k, hk, rfl, vo, rfl, HO, HB⟩ := hrel
    by_cases hlt : k < ys.length
    · have hAt := PairsIn.at_ HP.out hlt
      obtain ⟨b, off, y0, y1, rfl, hb, h0, h1, Ak, ck, rfl, hck, hgm, hgi, hni, hgA, rfl⟩ := hAt
      have h0 := (HB.out.cell (p := ⟨b, off + k * 2, none⟩) hb).trans h0
      have h1 := (HB.out.cell (p := ⟨b, off + k * 2 + 1, none⟩) hb).trans h1
      have hsw := HB.out.size
      have hct := hide (coal_take hlt)
      obtain ⟨f1, f2, _⟩ := HFa.out k (by omega)
      obtain ⟨f3, f4, _⟩ := HFa.out (k + 1) (by omega)
      have f5 := sumN_take_le HPy.out (k + 1)
      have f6 := f2.sum
      have f7 := f4.sum
      have f8 := sumN_take_le HPy.out k
      have hIy := hide (fun wq (hq : Below w1.heap.size w1 wq) => Ints.below (hgA.mono fun i hi => hi.1) hq)
      have HI := hide hgi
      have hpy := HPy.out _ (getD_memG hlt)
      have HO1 := hide HO.out
      obtain ⟨Ao, co, rfl, hco, hqo, hPo⟩ := HO.out.shape (goodD D)
      have hFR := hide (fun g (hg : (Value.slice Ao (coal (ys.take k)).length co).ownBlock = some g) off => OwnA.frozen HO.out hg off)
      have hSt : Hid (coal (ys.take (k + 1)) = coalStep (coal (ys.take k)) (ys.getD k default)) := hct.out
      generalize coal (ys.take k) = out at *
      obtain ⟨out', hcc'⟩ : ∃ o, coal (ys.take (k + 1)) = o := ⟨_, rfl⟩
      rw [hcc'] at f3 f4 f7 hSt
      have hcc' := hide hcc'
      generalize ys.getD k default = g at *
      obtain ⟨q, m⟩ := g
      simp only [] at *
      clear hgi
      have HGE : Hid (∀ wq, Below w1.heap.size w1 wq → GrpD D (fun i => i < w1.heap.size) wq (.slice Ak q.length ck) (.int .i64 m) (q, m)) := fun wq hq => ⟨Ak, ck, rfl, hck, hgm, HI.out, hni, IntsIn.agree hgA ((Agree.all hq).mono fun i hi => hi.1), rfl⟩
      clear hgA
      have hbx : Below wr.heap.size wr (wr.alloc (.cells #[.slice Ak q.length ck, .int .i64 m] 52)) := (Below.refl _ _).alloc (Nat.le_refl _) _
      have hX : Box (wr.alloc (.cells #[.slice Ak q.length ck, .int .i64 m] 52)) wr.heap.size 52 #[.slice Ak q.length ck, .int .i64 m] := Box.new _ _ _
      obtain ⟨w2, hw2⟩ : ∃ x, x = wr.alloc (.cells #[.slice Ak q.length ck, .int .i64 m] 52) := ⟨_, rfl⟩
      rw [← hw2] at hbx hX
      have HW2 := hide hw2
      clear hw2
      have HB2 := hide (HB.out.trans (hbx.mono hsw))
      have HO2 := hide (HO.out.kept (goodD D) hbx)
      have c0' := hX.cell 0
      have c1' := hX.cell 1
      have hlt2 := hX.lt
      simp at c0' c1'
      rcases Nat.eq_zero_or_pos out.length with hz | hz
      · obtain rfl := List.length_eq_zero_iff.1 hz
        have hSt2 : Hid (out' = [] ++ [(q, m)]) := by rw [Hid, hSt.out, coalStep_nil]; rfl
        go_wp2_with fail
        rw [← HW2.out]
        go_quiet (fail)
        obtain ⟨w3, hw3⟩ : ∃ x, x = w2.drewN nq := ⟨_, rfl⟩
        have hd3 : Below w2.heap.size w2 w3 := Drew.below ⟨nq, hw3⟩
        rw [← hw3]
        clear hw3
        have hs2 := HB2.out.size
        have HB3 := hide (HB2.out.trans (hd3.mono hs2))
        have hO3 := HO2.out.kept (goodD D) hd3
        have d0 := (hd3.cell (p := ⟨wr.heap.size, 0, none⟩) hlt2).trans c0'
        have d1 := (hd3.cell (p := ⟨wr.heap.size, 1, none⟩) hlt2).trans c1'
        have hs3 := HB3.out.size
        obtain ⟨A4, d4, w4, hr4, hO4, hg4, _⟩ := OwnD.push1 hO3 hs3 (by simp) (G := fun i => i < w1.heap.size) (HGE.out _ HB3.out) (fun i hi => ⟨by omega, fun e => by have := hO3.2 _ e; omega⟩) 32
        rw [← hSt2.out] at hO4
        rw [List.length_nil, Nat.zero_add] at hr4 hO4
        have HR4 := hide hr4
        have HO4 := hide hO4
        have HB4 := hide (HB3.out.trans (OwnA.below hO3 hs3 hg4))
        clear hr4 hO4 hg4 hO3 hd3
        go_wp2_with ((with_reducible refine wpList_gives (o := ⟨some 43, _, _, _, _, _⟩) (v := Value.slice A4 1 d4) (w' := w4) ?_ ?_ ?_); rfl; exact gives_append rfl rfl rfl HR4.out)
        go_roundw
        case rel => exact ⟨k + 1, by omega, by go_num, _, rfl, by rw [hcc'.out]; exact HO4.out, HB4.out⟩
        case measure => simp [iOf]; omega
      · obtain ⟨n1, hn1⟩ : ∃ n1, out.length = n1 + 1 := ⟨out.length - 1, by omega⟩
        obtain ⟨b4, o4, z0, z1, rfl, hb4, g0, g1, Al, cl, rfl, hcl, hlm, hli, hlni, hlA, rfl⟩ := PairsIn.at_ hPo (k := n1) (by omega)
        have hLast := hide (rfl : out.getD n1 default = out.getD n1 default)
        have hq4 := hqo b4 rfl
        obtain ⟨hq1, hq2, hq3⟩ := hq4
        cases hq3
        have g0' := (hbx.cell (p := ⟨b4, 0 + n1 * 2, none⟩) hb4).trans g0
        have g1' := (hbx.cell (p := ⟨b4, 0 + n1 * 2 + 1, none⟩) hb4).trans g1
        have hfr := hide (fun off => OwnA.frozen (HO2.out) (g := b4) rfl off)
        have hE := hide (fun wq (hq : Drew w2 wq) => equal_any (c := cl) (d := ck) (w := wq) (Ints.below (Ints.below (hlA.mono fun i hi => hi.1) hbx) hq.below) (hIy.out _ (HB2.out.trans (hq.below.mono HB2.out.size))) (by omega) (by omega) hli HI.out)
        have hx1 : out.getD (out.length - 1) default = out.getD n1 default := by rw [hn1]; rfl
        have hStE : Hid ((out.getD n1 default).1 = q → out' = out.set n1 ((out.getD n1 default).1, (out.getD n1 default).2 + m)) := fun e => by
          rw [hSt.out]
          unfold coalStep
          rw [if_pos ⟨hz, by rw [hx1]; exact e⟩, hx1, hn1]
          rfl
        have hStN : Hid ((out.getD n1 default).1 ≠ q → out' = out ++ [(q, m)]) := fun e => by
          rw [hSt.out]
          unfold coalStep
          rw [if_neg (fun h => e (by rw [← hx1]; exact h.2))]
        have hpl := f2 _ (getD_memG (show n1 < out.length by omega))
        have hpl2 := f6.2 _ (getD_memG (show n1 < out.length by omega))
        have hwr : IntKind.i64.wrap (((n1 + 1 : Nat) : Int) - 1) = (n1 : Int) := (IntWalk.i64_in _ (by omega)).trans (by omega)
        have HSet := hide (fun w9 (hO : OwnD D w1.heap.size w9 (.slice (some ⟨b4, 0, none⟩) out.length co) out) n (hn : InI n) => OwnD.setN hO (k := n1) (g := b4) (by omega) rfl hn)
        have fsum : sumN out' = sumN out + m := by rw [hSt.out, sumN_coalStep]
        generalize out.getD n1 default = lst at *
        obtain ⟨lq, lm⟩ := lst
        simp only [] at *
        clear hlA hli hPo hx1 hqo
        have hI2 : InI (lm + m) := by unfold InI; omega
        have p1 : (n1 : Int) < (n1 : Int) + 1 := by omega
        have p2 : (0 : Int) ≤ (n1 : Int) := by omega
        have p3 : (n1 : Int) < (out.length : Int) := by omega
        have p4 : n1 < out.length := by omega
        have p5 : IntKind.i64.wrap ((out.length : Int) - 1) = (n1 : Int) := (IntWalk.i64_in _ (by omega)).trans (by omega)
        clear hn1
        have hs2 := HB2.out.size
        rw [Nat.zero_add] at g0' g1'
        by_cases e1 : lq = q
        · have t1 : decide (lq = q) = true := decide_eq_true e1
          rw [t1] at hE
          have hSt2 := hide (hStE.out e1)
          clear hStE hStN e1 t1
          go_wp2_with fail
          rw [← HW2.out]
          go_quiet ((go_at_call 59; exact quiet hE.out))
          obtain ⟨w3, hw3⟩ : ∃ x, x = w2.drewN nq := ⟨_, rfl⟩
          have hd3 : Below w2.heap.size w2 w3 := Drew.below ⟨nq, hw3⟩
          rw [← hw3]
          clear hw3
          have HB3 := hide (HB2.out.trans (hd3.mono hs2))
          have hO3 := HO2.out.kept (goodD D) hd3
          have d0 := (hd3.cell (p := ⟨wr.heap.size, 0, none⟩) hlt2).trans c0'
          have d1 := (hd3.cell (p := ⟨wr.heap.size, 1, none⟩) hlt2).trans c1'
          have hs3 := HB3.out.size
          have d2 := (hd3.cell (p := ⟨b4, n1 * 2 + 1, none⟩) (by exact Nat.lt_of_lt_of_le hq2 hbx.size)).trans g1'
          have d3 := OwnA.frozen hO3 (g := b4) rfl (n1 * 2 + 1)
          have hne : ¬ b4 = wr.heap.size := by omega
          have hne2 : ¬ wr.heap.size = b4 := by omega
          have HO4 := hide (HSet.out w3 hO3 (lm + m) hI2)
          rw [← hSt2.out] at HO4
          have HB4 := hide (HB3.out.setCell (p := ⟨b4, n1 * 2 + 1, none⟩) (by exact hq1) (.int .i64 (lm + m)))
          clear hd3 hO3
          unfold InI at hI2
          go_wp2_with fail
          go_region
          all_goals (
            go_wp2_with fail
            go_roundw
            case rel => exact ⟨k + 1, by omega, by go_num, _, rfl, by rw [hcc'.out]; exact OwnA.kept HO4.out (goodD D) (below_drew (Below.refl _ _) 1), below_drew HB4.out 1⟩
            case measure => simp [iOf]; omega)
        · have t1 : decide (lq = q) = false := decide_eq_false e1
          rw [t1] at hE
          have hSt2 := hide (hStN.out e1)
          clear hStE hStN e1 t1
          go_wp2_with fail
          rw [← HW2.out]
          go_quiet ((go_at_call 59; exact quiet hE.out))
          obtain ⟨w3, hw3⟩ : ∃ x, x = w2.drewN nq := ⟨_, rfl⟩
          have hd3 : Below w2.heap.size w2 w3 := Drew.below ⟨nq, hw3⟩
          rw [← hw3]
          clear hw3
          have HB3 := hide (HB2.out.trans (hd3.mono hs2))
          have hO3 := HO2.out.kept (goodD D) hd3
          have d0 := (hd3.cell (p := ⟨wr.heap.size, 0, none⟩) hlt2).trans c0'
          have d1 := (hd3.cell (p := ⟨wr.heap.size, 1, none⟩) hlt2).trans c1'
          have hs3 := HB3.out.size
          obtain ⟨A4, d4, w4, hr4, hO4, hg4, _⟩ := OwnD.push1 hO3 hs3 (by omega) (G := fun i => i < w1.heap.size) (HGE.out _ HB3.out) (fun i hi => ⟨by omega, fun e => by have := hO3.2 _ e; omega⟩) 32
          rw [← hSt2.out] at hO4
          have HR4 := hide hr4
          have HO4 := hide hO4
          have HB4 := hide (HB3.out.trans (OwnA.below hO3 hs3 hg4))
          clear hr4 hO4 hg4 hd3
          go_wp2_with ((with_reducible refine wpList_gives (o := ⟨some 43, _, _, _, _, _⟩) (v := Value.slice A4 (out.length + 1) d4) (w' := w4) ?_ ?_ ?_); rfl; exact gives_append rfl rfl rfl HR4.out)
          go_roundw
          case rel => exact ⟨k + 1, by omega, by go_num, _, rfl, by rw [hcc'.out]; exact HO4.out, HB4.out⟩
          case measure => simp [iOf]; omega
    · obtain rfl : k = ys.length := by omega
      have hO := HO.out
      rw [List.take_length] at hO
      go_wp2_with fail
      go_ret
      exact ⟨ys, _, HPerm.out, HSort.out, rfl, hO.lower (by omega), hb1.out.trans (HB.out.mono (by omega))⟩
end Go.Proofs.Yteeamiacplfcmaa
