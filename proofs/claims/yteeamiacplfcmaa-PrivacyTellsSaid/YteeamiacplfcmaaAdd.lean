/-
  electionref24.Add.
-/
import Derived.Test.YteeamiacplfcmaaOwn
namespace Go.Proofs.Yteeamiacplfcmaa
open Go.RowKit
set_option linter.unusedVariables false
set_option linter.unusedSimpArgs false

/-- n ballots p are added to the groups -/
def addG (p : List Int) (n : Int) : List Grp → List Grp
  | [] => [(p, n)]
  | g :: r => if lexLt g.1 p = true then g :: addG p n r else if g.1 = p then (g.1, g.2 + n) :: r else (p, n) :: g :: r
theorem addG_length (p : List Int) (n : Int) : ∀ gs, (addG p n gs).length ≤ gs.length + 1
  | [] => by simp [addG]
  | g :: r => by
    rw [addG]
    split
    · simp; exact addG_length p n r
    · split <;> simp
theorem drop_cons {gs : List Grp} {k : Nat} (hk : k < gs.length) : gs.drop k = gs.getD k default :: gs.drop (k + 1) := by
  rw [List.drop_eq_getElem_cons hk, List.getD_eq_getElem?_getD, List.getElem?_eq_getElem hk, Option.getD_some]
set_option maxHeartbeats 8000000 in
set_option maxRecDepth 100000 in
theorem addD_any {D : Nat → Prop} {A P : Option Addr} {c d : Nat} {gs : List Grp} {p : List Int} {n : Int} {w : World} (h : PairsIn (GrpD D) (All w) w A gs) (hm : gs.length ≤ 100000) (hp : IntsIn (fun i => All w i ∧ D i) w P p) (hpm : p.length ≤ 1000000) (hpd : p.length ≤ d) (hpi : ∀ y ∈ p, InI y) (hn : InI n) (hs : ∀ k, k < gs.length → InI ((gs.getD k default).2 + n)) :
    Calls Try.prog 49 #[.slice A gs.length c, .slice P p.length d, .int .i64 n] w fun e w' => ∃ v, e = .returned v ∧ OwnD D w.heap.size w' v (addG p n gs) ∧ Below w.heap.size w w' := by
  have H := hide h
  have HP := hide hp
  have HPi : Hid (Ints w P p) := hp.mono fun i hi => hi.1
  have HI := hide hpi
  have HS := hide hs
  clear h hp hpi hs
  go_enter Try.func49, Try.ntmps49
  go_wp2_with fail
  go_loopw [7, 8, 9, 10] (fun a dn i _ wr => ∃ k : Nat, k ≤ gs.length ∧ i = .int .i64 k ∧ ∃ (b : Bool) (v : Value) (out : List Grp), dn = .bool b ∧ a = v ∧ Hid (OwnD D w.heap.size wr v out) ∧ Hid (out.length ≤ k + b.toNat) ∧ Hid (addG p n gs = out ++ if b = true then gs.drop k else addG p n (gs.drop k)) ∧ Hid (Below w.heap.size w wr)) (fun _ _ i _ wr => gs.length - (iOf i).toNat)
  case atStart => exact ⟨0, Nat.zero_le _, rfl, false, _, [], rfl, rfl, OwnA.nil _ _ _ _, by simp [Hid], by simp [Hid], Below.refl _ _⟩
  case round =>
    obtain ⟨k, hk, rfl, bb, v, out, rfl, rfl, HO, HL, HE, HB⟩ := hrel
    by_cases hlt : k < gs.length
    · obtain ⟨b, off, _, _, rfl, hb, h0, h1, Ak, ck, rfl, hck, hgm, hgi, hni, hgD, rfl⟩ := PairsIn.at_ H.out hlt
      have hgA : Ints w Ak (gs.getD k default).1 := hgD.mono fun i hi => hi.1
      have h0 := (HB.out.cell (p := ⟨b, off + k * 2, none⟩) hb).trans h0
      have h1 := (HB.out.cell (p := ⟨b, off + k * 2 + 1, none⟩) hb).trans h1
      have HD := hide (drop_cons hlt)
      have HSk := HS.out k hlt
      have hsw := HB.out.size
      have HLs := hide (fun wq (hq : Below w.heap.size w wq) => less_any (c := ck) (d := d) (w := wq) (hgA.below hq) (HPi.out.below hq) (by omega) (by omega) hgi HI.out)
      have HEq := hide (fun wq (hq : Below w.heap.size w wq) => eq_any (c := ck) (d := d) (w := wq) (hgA.below hq) (HPi.out.below hq) (by omega) (by omega) hgi HI.out)
      have HGE : Hid (∀ wq, Below w.heap.size w wq → ∀ m, InI m → GrpD D (fun i => i < w.heap.size) wq (.slice Ak (gs.getD k default).1.length ck) (.int .i64 m) ((gs.getD k default).1, m)) := fun wq hq m hm => ⟨Ak, ck, rfl, hck, hgm, hgi, hm, IntsIn.agree hgD ((Agree.all hq).mono fun i hi => hi.1), rfl⟩
      have HPE : Hid (∀ wq, Below w.heap.size w wq → GrpD D (fun i => i < w.heap.size) wq (.slice P p.length d) (.int .i64 n) (p, n)) := fun wq hq => ⟨P, d, rfl, hpd, hpm, HI.out, hn, IntsIn.agree HP.out ((Agree.all hq).mono fun i hi => hi.1), rfl⟩
      have hLo := HL.out
      have hbt : bb.toNat ≤ 1 := by cases bb <;> decide
      generalize gs.getD k default = g at *
      obtain ⟨q, m⟩ := g
      simp only [] at *
      have hBx : Below wr.heap.size wr (wr.alloc (.cells #[.slice Ak q.length ck, .int .i64 m] 52)) := (Below.refl _ _).alloc (Nat.le_refl _) _
      have hsx : (wr.alloc (.cells #[.slice Ak q.length ck, .int .i64 m] 52)).heap.size = wr.heap.size + 1 := by simp
      have HBx := hide (HB.out.trans (hBx.mono HB.out.size))
      cases bb with
      | true =>
        have hO1 := HO.out.kept (goodD D) hBx
        obtain ⟨A4, d4, w4, hr4, hO4, hg4, _⟩ := OwnD.push1 hO1 (by omega) (by omega) (HGE.out _ HBx.out m hni) (fun i hi => ⟨by omega, fun e => by have := HO.out.2 _ e; omega⟩) 32
        rw [hsx] at hr4
        have HR4 := hide hr4
        have HO4 := hide hO4
        have HB4 := hide (HBx.out.trans (OwnA.below hO1 (by omega) hg4))
        have HE4 : Hid (addG p n gs = (out ++ [(q, m)]) ++ gs.drop (k + 1)) := by
          have := HE.out
          rw [if_pos rfl, HD.out] at this
          rw [Hid, this, List.append_assoc]; rfl
        clear hr4 hO4 hg4 hO1 hBx
        obtain ⟨A3, c3, hv3, _⟩ := HO.out.shape (goodD D)
        go_wp2_with ((with_reducible refine wpList_gives (o := ⟨some 53, _, _, _, _, _⟩) (v := Value.slice A4 (out.length + 1) d4) (w' := w4) ?_ ?_ ?_); rfl; exact gives_append rfl rfl rfl HR4.out)
        go_roundw
        case rel => exact ⟨k + 1, by omega, by go_num, true, _, _, rfl, rfl, HO4.out, by simp [Hid] at hLo ⊢; omega, HE4.out, HB4.out⟩
        case measure => simp [iOf]; omega
      | false =>
        have hvb : ∀ g, u7.ownBlock = some g → w.heap.size ≤ g ∧ g < wr.heap.size := fun g e => by
          obtain ⟨_, _, _, _, hq, _⟩ := HO.out.shape (goodD D)
          exact ⟨(hq g e).1, (hq g e).2.1⟩
        have HE0 : Hid (addG p n gs = out ++ addG p n ((q, m) :: gs.drop (k + 1))) := by
          have := HE.out
          rw [if_neg (by simp), HD.out] at this
          exact this
        have HLs1 := hide (HLs.out _ HBx.out)
        go_wp2_with fail
        refine HLs1.out.mono ?_
        rintro e w1 ⟨rfl, hd1⟩
        obtain ⟨hc0, hc1, hf0, hf1, hsz⟩ := box2 hd1.below
        have hBx1 := below_then hBx hd1.below
        have HB1 := hide (HB.out.trans (hBx1.mono HB.out.size))
        have hO1 := HO.out.kept (goodD D) hBx1
        have hs1 := hBx1.size
        clear hd1 hBx
        cases hq : lexLt q p with
        | true =>
          obtain ⟨A4, d4, w4, hr4, hO4, hg4, _⟩ := OwnD.push1 hO1 (by omega) (by omega) (HGE.out _ HB1.out m hni) (fun i hi => ⟨by omega, fun e => by have := (hvb _ e).1; omega⟩) 32
          have HR4 := hide hr4
          have HO4 := hide hO4
          have HB4 := hide (HB1.out.trans (OwnA.below hO1 (by omega) hg4))
          have HE4 : Hid (addG p n gs = (out ++ [(q, m)]) ++ addG p n (gs.drop (k + 1))) := by
            have := HE0.out
            rw [addG, if_pos hq] at this
            rw [Hid, this, List.append_assoc]; rfl
          clear hr4 hO4 hg4 hO1 hBx1 hq
          go_wp2_with ((with_reducible refine wpList_gives (o := ⟨some 53, _, _, _, _, _⟩) (v := Value.slice A4 (out.length + 1) d4) (w' := w4) ?_ ?_ ?_); rfl; exact gives_append rfl rfl rfl HR4.out)
          go_roundw
          case rel => exact ⟨k + 1, by omega, by go_num, false, _, _, rfl, rfl, HO4.out, by simp [Hid] at hLo ⊢; omega, HE4.out, HB4.out⟩
          case measure => simp [iOf]; omega
        | false =>
          have HQ := hide hq
          have HEq1 := hide (HEq.out _ HB1.out)
          clear hq
          go_wp2_with fail
          refine HEq1.out.mono ?_
          rintro e w2 ⟨rfl, hd2⟩
          have hc0 := (hd2.below.cell (p := ⟨wr.heap.size, 0, none⟩) hsz).trans hc0
          have hc1 := (hd2.below.cell (p := ⟨wr.heap.size, 1, none⟩) hsz).trans hc1
          have HB2 := hide (HB1.out.trans (hd2.below.mono (by omega)))
          have hO2 := hO1.kept (goodD D) hd2.below
          have hs2 := hd2.below.size
          clear hd2
          by_cases e1 : q = p
          · subst e1
            skip
            obtain ⟨A4, d4, w4, hr4, hO4, hg4, _⟩ := OwnD.push1 hO2 (by omega) (by omega) (HGE.out _ HB2.out (m + n) HSk) (fun i hi => ⟨by omega, fun e => by have := (hvb _ e).1; omega⟩) 32
            have HR4 := hide hr4
            have HO4 := hide hO4
            have HB4 := hide (HB2.out.trans (OwnA.below hO2 (by omega) hg4))
            have HE4 : Hid (addG q n gs = (out ++ [(q, m + n)]) ++ gs.drop (k + 1)) := by
              have := HE0.out
              rw [addG, if_neg (by rw [HQ.out]; simp), if_pos rfl] at this
              rw [Hid, this, List.append_assoc]; rfl
            clear hr4 hO4 hg4 hO1 hO2 hBx1
            have hsk := HSk
            unfold InI at hsk
            have tq : decide (q = q) = true := decide_eq_true rfl
            go_wp2_with ((with_reducible refine wpList_gives (o := ⟨some 43, _, _, _, _, _⟩) (v := Value.slice A4 (out.length + 1) d4) (w' := w4) ?_ ?_ ?_); rfl; exact gives_append rfl rfl rfl HR4.out)
            go_roundw
            case rel => exact ⟨k + 1, by omega, by go_num, true, _, _, rfl, rfl, HO4.out, by simp [Hid] at hLo ⊢; omega, HE4.out, HB4.out⟩
            case measure => simp [iOf]; omega
          · obtain ⟨A3, d3, w3, hr3, hO3, hg3, _⟩ := OwnD.push1 hO2 (by omega) (by omega) (HPE.out _ HB2.out) (fun i hi => ⟨by omega, fun e => by have := (hvb _ e).1; omega⟩) 32
            have hc0 := hg3.cell hc0 (fun e => Nat.lt_irrefl _ (hvb wr.heap.size e.symm).2)
            have hc1 := hg3.cell hc1 (fun e => Nat.lt_irrefl _ (hvb wr.heap.size e.symm).2)
            have hs3 := hg3.size
            have HB3 := hide (HB2.out.trans (OwnA.below hO2 (by omega) hg3))
            obtain ⟨A4, d4, w4, hr4, hO4, hg4, _⟩ := OwnD.push1 hO3 (by omega) (by simp; omega) (HGE.out _ HB3.out m hni) (fun i hi => ⟨by omega, fun e => by have := hO3.2 _ e; omega⟩) 32
            have HR3 := hide hr3
            rw [List.length_append, List.length_singleton] at hr4 hO4
            have HR4 := hide hr4
            have HO4 := hide hO4
            have HB4 := hide (HB3.out.trans (OwnA.below hO3 (by omega) hg4))
            have HE4 : Hid (addG p n gs = ((out ++ [(p, n)]) ++ [(q, m)]) ++ gs.drop (k + 1)) := by
              have := HE0.out
              rw [addG, if_neg (by rw [HQ.out]; simp), if_neg e1] at this
              rw [Hid, this, List.append_assoc, List.append_assoc]; rfl
            have tq : decide (q = p) = false := decide_eq_false e1
            clear hr3 hr4 hO3 hO4 hg3 hg4 hO1 hO2 hBx1
            go_wp2_with (first | ((with_reducible refine wpList_gives (o := ⟨some 49, _, _, _, _, _⟩) (v := Value.slice A3 (out.length + 1) d3) (w' := w3) ?_ ?_ ?_); rfl; exact gives_append rfl rfl rfl HR3.out) | ((with_reducible refine wpList_gives (o := ⟨some 53, _, _, _, _, _⟩) (v := Value.slice A4 (out.length + 1 + 1) d4) (w' := w4) ?_ ?_ ?_); rfl; exact gives_append rfl rfl rfl HR4.out))
            go_roundw
            case rel => exact ⟨k + 1, by omega, by go_num, true, _, _, rfl, rfl, HO4.out, by simp [Hid] at hLo ⊢; omega, HE4.out, HB4.out⟩
            case measure => simp [iOf]; omega
    · obtain rfl : k = gs.length := by omega
      have hLo := HL.out
      have hbt : bb.toNat ≤ 1 := by cases bb <;> decide
      have hsw := HB.out.size
      have hO1 := HO.out
      have he := HE.out
      rw [List.drop_length] at he
      cases bb with
      | true =>
        rw [if_pos rfl, List.append_nil] at he
        have HE4 := hide he
        clear he hO1
        go_wp2_with fail
        go_ret
        exact ⟨_, rfl, by rw [HE4.out]; exact HO.out, HB.out⟩
      | false =>
        rw [if_neg (by simp), addG] at he
        obtain ⟨A4, d4, w4, hr4, hO4, hg4, _⟩ := OwnD.push1 hO1 (by omega) (by omega) (y := (p, n)) (G := fun i => i < w.heap.size) ⟨P, d, rfl, hpd, hpm, HI.out, hn, IntsIn.agree HP.out ((Agree.all HB.out).mono fun i hi => hi.1), rfl⟩ (fun i hi => ⟨by omega, fun e => by have := HO.out.2 _ e; omega⟩) 32
        have HR4 := hide hr4
        rw [← he] at hO4
        have HO4 := hide hO4
        have HB4 := hide (HB.out.trans (OwnA.below hO1 (by omega) hg4))
        clear he hr4 hO4 hg4 hO1
        go_wp2_with ((with_reducible refine wpList_gives (o := ⟨some 61, _, _, _, _, _⟩) (v := Value.slice A4 (out.length + 1) d4) (w' := w4) ?_ ?_ ?_); rfl; exact gives_append rfl rfl rfl HR4.out)
        go_ret
        exact ⟨_, rfl, HO4.out, HB4.out⟩
theorem add_any {A P : Option Addr} {c d : Nat} {gs : List Grp} {p : List Int} {n : Int} {w : World} (h : Grps w A gs) (hm : gs.length ≤ 100000) (hp : Ints w P p) (hpm : p.length ≤ 1000000) (hpd : p.length ≤ d) (hpi : ∀ y ∈ p, InI y) (hn : InI n) (hs : ∀ k, k < gs.length → InI ((gs.getD k default).2 + n)) :
    Calls Try.prog 49 #[.slice A gs.length c, .slice P p.length d, .int .i64 n] w fun e w' => ∃ v, e = .returned v ∧ OwnG w.heap.size w' v (addG p n gs) ∧ Below w.heap.size w w' := by
  refine (addD_any (D := fun _ => True) (pairsD h fun _ _ => trivial) hm (IntsIn.mono hp fun i hi => ⟨hi, trivial⟩) hpm hpd hpi hn hs).mono ?_
  rintro e w' ⟨v, rfl, hO, hb⟩
  exact ⟨v, rfl, OwnD.own hO, hb⟩
end Go.Proofs.Yteeamiacplfcmaa
