/-
  All; lists.
-/
import Derived.Test.YtlelkhonkhlflaaDoorJrn
namespace Go.Proofs.YtlelkhonkhlflaaDoor
open Go.RowKit
set_option linter.unusedVariables false
set_option linter.unusedSimpArgs false

theorem Own.old {w : World} {B : Nat} {v : Value} {r c : Nat → Nat} {fs : List (List UInt8)} (h : Own w B v r c fs) : (∀ g, v.ownBlock = some g → g < w.heap.size ∧ B ≤ g) ∧ ∀ k, k < fs.length → r k < w.heap.size := by
  refine ⟨fun g e => ?_, fun k hk => (h.2.1 k hk).1.lt⟩
  rcases h.1.2 with ⟨h1, _⟩ | ⟨g', cap, cur, h1, hb, hg, _⟩
  · rw [h1] at e; cases e
  · rw [h1] at e
    have e' : g' = g := by injection e
    subst e'
    refine ⟨?_, hb⟩
    rcases Nat.lt_or_ge g' w.heap.size with hlt | hge
    · exact hlt
    · rw [Array.getElem?_eq_none hge] at hg; cases hg
theorem push_row {w : World} {B : Nat} {v : Value} {r c : Nat → Nat} {fs : List (List UInt8)} {f : List UInt8} {b d : Nat} (h : Own w B v r c fs) (hB : B ≤ w.heap.size) (hl : fs.length ≤ 1000000) (hb : Row w b f) (hBb : B ≤ b) (hv : v.ownBlock ≠ some b) (hr : ∀ k, k < fs.length → r k ≠ b) (hd : f.length ≤ d) (ty : TypeId) :
    ∃ v' r' c' w', (Builtin.append_ #[29, 29] ty #[v, .slice (some ⟨w.heap.size, 0, none⟩) 1 1]).run Tryd.prog (w.alloc (.cells #[.slice (some ⟨b, 0, none⟩) f.length d] 22)) = .ok v' w' ∧ Own w' B v' r' c' (fs ++ [f]) ∧ Below B w w' := by
  obtain ⟨i0, hi, hz0, hz1, hz2⟩ := info_parts sliceinfo
  have hB1 : Below w.heap.size w (w.alloc (.cells #[.slice (some ⟨b, 0, none⟩) f.length d] 22)) := (Below.refl _ _).alloc (Nat.le_refl _) _
  have h1 := h.kept hB1
  have hs1 : (w.alloc (.cells #[.slice (some ⟨b, 0, none⟩) f.length d] 22)).heap.size = w.heap.size + 1 := by simp
  have hnews : ∀ j u, ([.slice (some ⟨b, 0, none⟩) f.length d] : List Value)[j]? = some u → (w.alloc (.cells #[.slice (some ⟨b, 0, none⟩) f.length d] 22)).cell? ((⟨w.heap.size, 0, none⟩ : Addr).add j) = some u := World.news_of_block (heap_alloc_new _ _)
  obtain ⟨v', w', hr', ho, hg, _, hor⟩ := run_append_own_at (P := Tryd.prog) (w.alloc (.cells #[.slice (some ⟨b, 0, none⟩) f.length d] 22)) B 29 ty 22 i0 (.slice none 0 0) 1 24 Tryd.underlying29 hi hz0 hz1 hz2 rfl (by decide) v fs.length (rowVs r c fs) h1.1 ⟨w.heap.size, 0, none⟩ 1 1 [.slice (some ⟨b, 0, none⟩) f.length d] (by rfl) hnews (by intro u hu; simp at hu; subst hu; rfl) (by unfold maxLen; omega) (by omega) (by omega)
  have hO := h1.push (hb.alloc _) hBb hv hr hd ho hg hor
  refine ⟨v', _, _, w', hr', hO, (hB1.mono hB).trans ⟨hg.os, hg.tape, hg.output, hg.size, fun i hi => hg.block i (by omega) (fun e => ?_)⟩⟩
  have := (h.old.1 i e.symm).2
  omega
def AllPost (w : World) (es : List (List UInt8)) (en : Ending) (w' : World) : Prop := ∃ v r c, en = .returned v ∧ Own w' w.heap.size v r c es ∧ Below w.heap.size w w'
set_option maxHeartbeats 1600000 in
set_option maxRecDepth 100000 in
theorem all_any {F G : Nat → Prop} {w : World} {j s : Nat} {ss : List (List UInt8)} {e : Nat → Option (List UInt8)} {fuse : Int} {dead : Bool} {last : List UInt8} {es : List (List UInt8)} (h : Jrn F G w j s ss e fuse dead last es) (hn : es.length ≤ 100000) (hp : ∀ k, k < es.length → 0 < (es.getD k []).length) (hm : ∀ k, (es.getD k []).length ≤ 1000) :
    Calls Tryd.prog 11 #[.pointer (some ⟨j, 0, none⟩)] w (AllPost w es) := by
  obtain ⟨A, c, c0, c33, hc, hf⟩ := h.cells
  have HF := hide (hf.fr h.lt)
  have HP := hide hp
  have HM := hide hm
  clear h hf hp hm
  go_enter Tryd.func11, Tryd.ntmps11
  go_wp2_with fail
  go_loopw [3, 13] (fun v i wr => ∃ k : Nat, k ≤ es.length ∧ i = .int .i64 k ∧ ∃ u3 r c, v = u3 ∧ Hid (Own wr w.heap.size u3 r c (es.take k)) ∧ Hid (Below w.heap.size w wr)) (fun _ i _ => es.length - (iOf i).toNat)
  case atStart => exact ⟨0, by omega, rfl, _, fun _ => 0, fun _ => 0, rfl, Own.nil _ _ _ _, Below.refl _ _⟩
  case round =>
    obtain ⟨k, hk, rfl, u3, r, cc, rfl, hO, hW⟩ := hrel
    by_cases hlt : k < es.length
    · obtain ⟨b1, o1, Ak, ck, hA, hb1, hc1, hby1, hk1⟩ := HF.out.at_ hlt
      subst hA
      have hsr := hW.out.size
      have hb1r : b1 < wr.heap.size := by omega
      replace hc1 := (hW.out.cell (p := ⟨b1, o1 + k, none⟩) hb1).trans hc1
      have hpk := HP.out k hlt
      have hmk := HM.out k
      have HT : Hid (es.take k ++ [es.getD k []] = es.take (k + 1)) := by
        unfold Hid
        rw [List.take_add_one]
        simp [List.getD_eq_getElem?_getD, hlt]
      have htl : (es.take k).length = k := by rw [List.length_take]; omega
      generalize es.getD k [] = f at *
      obtain ⟨b2, o2, hA2, hb2, hc2⟩ := hby1 hpk
      subst hA2
      have HC := hide (bclone_any b2 o2 ck f wr (hby1.below hW.out) hpk (by omega))
      clear hby1 hc2
      go_wp2_with fail
      refine HC.out.mono ?_
      rintro en w2 ⟨A2, c2, rfl, hO2, hB2⟩
      obtain ⟨g, cap, hv2, hg2, hR2, hcap2⟩ := own_row hO2 hpk
      injection hv2 with e1 e2 e3
      subst e1
      subst e3
      clear e2
      have hold := hO.out.old
      obtain ⟨v3, r3, c3, w3, hr3, hO3, hB3⟩ := push_row (f := f) (b := g) (d := c2) (hO.out.kept hB2) (by have := hB2.size; omega) (by rw [htl]; omega) hR2 (by omega) (fun e => by have := (hold.1 g e).1; omega) (fun i hi e => by have := hold.2 i hi; omega) (by omega) 29
      rw [HT.out] at hO3
      have HR3 := hide hr3
      have HO3 := hide hO3
      have HB3 := hide (hW.out.trans ((hB2.mono hsr).trans hB3))
      clear hr3 hO3 hB3 hB2 hR2 hO2 hold htl hc1 hO
      go_wp2_with ((with_reducible refine wpList_gives (o := ⟨some 21, _, _, _, _, _⟩) (v := v3) (w' := w3) ?_ ?_ ?_); rfl; exact gives_append rfl rfl rfl HR3.out)
      go_roundw
      case rel => exact ⟨k + 1, by omega, by go_num, _, _, _, rfl, HO3, HB3⟩
      case measure => simp [iOf]; omega
    · obtain rfl : es.length = k := by omega
      go_wp2_with fail
      go_ret
      have h := hO.out
      rw [List.take_length] at h
      exact ⟨_, r, cc, rfl, h, hW.out⟩
set_option maxHeartbeats 1600000 in
/-- two lists of entries are compared -/
theorem lists_any (A B : Option Addr) (c d : Nat) (fs gs : List (List UInt8)) (w : World) (hx : Fr w A fs) (hy : Fr w B gs) (hl : fs.length = gs.length) (hm : fs.length ≤ 1000000) (hfm : ∀ k, (fs.getD k []).length ≤ maxLen) (hgm : ∀ k, (gs.getD k []).length ≤ maxLen) (he : fs = gs) :
    Calls Tryd.prog 12 #[.slice A fs.length c, .slice B gs.length d] w fun en w' => en = .returned (.bool true) ∧ Below w.heap.size w w' := by
  have t : ((fs.length : Int) != (gs.length : Int)) = false := by rw [bne_eq_false_iff_eq]; omega
  have HFM := hide hfm
  have HGM := hide hgm
  have HXF := hide hx
  have HYF := hide hy
  have HE := hide he
  have HLL := hide hl
  clear hfm hgm hx hy he hl
  go_enter Tryd.func12, Tryd.ntmps12
  go_wp2_with fail
  go_loopw [5, 13] (fun _ i wr => ∃ k : Nat, k ≤ fs.length ∧ i = .int .i64 k ∧ Hid (Below w.heap.size w wr)) (fun _ i wr => fs.length - (iOf i).toNat)
  case atStart => exact ⟨0, Nat.zero_le _, rfl, Below.refl _ _⟩
  case round =>
    obtain ⟨k, hk, rfl, HB⟩ := hrel
    by_cases hlt : k < fs.length
    · have hsr := HB.out.size
      obtain ⟨b1, o1, Ak, ck, hA, hb1, hc1, hby1, hk1⟩ := (HXF.out.below HB.out).at_ hlt
      subst hA
      obtain ⟨b2, o2, Bk, dk, hA2, hb2, hc2, hby2, hk2⟩ := (HYF.out.below HB.out).at_ (k := k) (by rw [← HLL.out]; exact hlt)
      subst hA2
      have HBX := hide hby1
      have HBY := hide hby2
      have hxm := HFM.out k
      have hym := HGM.out k
      have heq : fs.getD k [] = gs.getD k [] := by rw [HE.out]
      have hlg : k < gs.length := by rw [← HLL.out]; exact hlt
      generalize fs.getD k [] = xs at *
      generalize gs.getD k [] = ys at *
      have HEQ : Hid ((xs == ys) = true) := by rw [Hid, heq, beq_self_eq_true]
      have hwk : IntKind.i64.wrap (k : Int) = (k : Int) := IntWalk.i64_in _ (by omega)
      clear hby1 hby2 heq
      go_upto_region 6 with fail
      refine wp_region_held_drew (S := fun v => Below wr.heap.size wr v) (by kernel_rfl) (below_drew (Below.refl _ _) 1) (fun hH => ?_)
      refine wpAnyH_take (i := 0) (v := ?xv0) (by simp only [List.getElem?_toArray, List.getElem?_cons_succ, List.getElem?_cons_zero]; exact rfl) (by kernel_rfl) (by kernel_rfl) (by kernel_rfl) ?xq0 ?xy0 hH ?xr0
      case xq0 => exact fun _ _ _ h => h
      case xy0 =>
        refine Or.inl ⟨by rfl, fun v hv => ?_⟩
        go_simp
        rfl
      try simp only [Act.put, List.setIfInBounds_toArray, List.set_cons_zero, List.set_cons_succ]
      refine wpAnyH_take (i := 1) (v := ?xv1) (by simp only [List.getElem?_toArray, List.getElem?_cons_succ, List.getElem?_cons_zero]; exact rfl) (by kernel_rfl) (by kernel_rfl) (by kernel_rfl) ?xq1 ?xy1 hH ?xr1
      case xq1 => exact fun _ _ _ h => h
      case xy1 =>
        refine Or.inl ⟨by rfl, fun v hv => ?_⟩
        go_simp
        rfl
      try simp only [Act.put, List.setIfInBounds_toArray, List.set_cons_zero, List.set_cons_succ]
      refine wpAnyH_take (i := 2) (v := ?xv2) (by simp only [List.getElem?_toArray, List.getElem?_cons_succ, List.getElem?_cons_zero]; exact rfl) (by kernel_rfl) (by kernel_rfl) (by kernel_rfl) ?xq2 ?xy2 hH ?xr2
      case xq2 => exact fun _ _ _ h => h
      case xy2 =>
        refine Or.inl ⟨by rfl, fun v hv => ?_⟩
        go_simp
        rfl
      try simp only [Act.put, List.setIfInBounds_toArray, List.set_cons_zero, List.set_cons_succ]
      refine wpAnyH_take (i := 3) (v := ?xv3) (by simp only [List.getElem?_toArray, List.getElem?_cons_succ, List.getElem?_cons_zero]; exact rfl) (by kernel_rfl) (by kernel_rfl) (by kernel_rfl) ?xq3 ?xy3 hH ?xr3
      case xq3 => exact fun _ _ _ h => h
      case xy3 =>
        refine Or.inl ⟨by rfl, fun v hv => ?_⟩
        have y1 := (hv.cell (p := ⟨b1, o1 + k, none⟩) hb1).trans hc1; have y2 := (hv.cell (p := ⟨b2, o2 + k, none⟩) hb2).trans hc2
        go_simp
        rfl
      try simp only [Act.put, List.setIfInBounds_toArray, List.set_cons_zero, List.set_cons_succ]
      refine wpAnyH_take (i := 4) (v := ?xv4) (by simp only [List.getElem?_toArray, List.getElem?_cons_succ, List.getElem?_cons_zero]; exact rfl) (by kernel_rfl) (by kernel_rfl) (by kernel_rfl) ?xq4 ?xy4 hH ?xr4
      case xq4 => exact fun _ _ _ h => h
      case xy4 =>
        refine Or.inl ⟨by rfl, fun v hv => ?_⟩
        go_simp
        rfl
      try simp only [Act.put, List.setIfInBounds_toArray, List.set_cons_zero, List.set_cons_succ]
      refine wpAnyH_take (i := 5) (v := ?xv5) (by simp only [List.getElem?_toArray, List.getElem?_cons_succ, List.getElem?_cons_zero]; exact rfl) (by kernel_rfl) (by kernel_rfl) (by kernel_rfl) ?xq5 ?xy5 hH ?xr5
      case xq5 => exact fun _ _ _ h => h
      case xy5 =>
        refine Or.inl ⟨by rfl, fun v hv => ?_⟩
        go_simp
        rfl
      try simp only [Act.put, List.setIfInBounds_toArray, List.set_cons_zero, List.set_cons_succ]
      refine wpAnyH_take (i := 6) (v := ?xv6) (by simp only [List.getElem?_toArray, List.getElem?_cons_succ, List.getElem?_cons_zero]; exact rfl) (by kernel_rfl) (by kernel_rfl) (by kernel_rfl) ?xq6 ?xy6 hH ?xr6
      case xq6 => exact fun _ _ _ h => h
      case xy6 =>
        refine Or.inl ⟨by rfl, fun v hv => ?_⟩
        go_simp
        rfl
      try simp only [Act.put, List.setIfInBounds_toArray, List.set_cons_zero, List.set_cons_succ]
      refine wpAnyH_take (i := 7) (v := ?xv7) (by simp only [List.getElem?_toArray, List.getElem?_cons_succ, List.getElem?_cons_zero]; exact rfl) (by kernel_rfl) (by kernel_rfl) (by kernel_rfl) ?xq7 ?xy7 hH ?xr7
      case xq7 => exact fun _ _ _ h => h
      case xy7 =>
        refine Or.inl ⟨by rfl, fun v hv => ?_⟩
        have y1 := (hv.cell (p := ⟨b1, o1 + k, none⟩) hb1).trans hc1; have y2 := (hv.cell (p := ⟨b2, o2 + k, none⟩) hb2).trans hc2
        go_simp
        rfl
      try simp only [Act.put, List.setIfInBounds_toArray, List.set_cons_zero, List.set_cons_succ]
      refine wpAnyH_ready (rs := [8]) (by kernel_rfl) (by simp) ?_
      refine AllReadyH.cons (by simp only [List.getElem?_toArray, List.getElem?_cons_succ, List.getElem?_cons_zero]; exact rfl) (fun K hK => ?_) AllReadyH.nil
      go_simp
      refine (eq04_any Ak Bk ck dk xs ys _ (HBX.out.below hH) (HBY.out.below hH) hxm hym).mono ?_
      rintro en v1 ⟨rfl, hb1⟩
      rw [HEQ.out]
      have hN := below_then hH hb1
      clear hb1
      refine hK.out _ _ hN (fun hH' => ?_)
      clear hK hH hN K
      have hH := hH'
      clear hH'
      try simp only [Act.put, List.setIfInBounds_toArray, List.set_cons_zero, List.set_cons_succ]
      refine wpAnyH_take (i := 9) (v := ?xv9) (by simp only [List.getElem?_toArray, List.getElem?_cons_succ, List.getElem?_cons_zero]; exact rfl) (by kernel_rfl) (by kernel_rfl) (by kernel_rfl) ?xq9 ?xy9 hH ?xr9
      case xq9 => exact fun _ _ _ h => h
      case xy9 =>
        refine Or.inl ⟨by rfl, fun v hv => ?_⟩
        go_simp
        rfl
      try simp only [Act.put, List.setIfInBounds_toArray, List.set_cons_zero, List.set_cons_succ]
      refine wpAnyH_done (by kernel_rfl) ?_ _
      have HL1 := hide (HB.out.trans (hH.mono hsr))
      clear hH
      go_wp2_with fail
      go_roundw
      case rel => exact ⟨k + 1, by omega, by go_num, HL1⟩
      case measure => simp [iOf]; omega
    · obtain rfl : fs.length = k := by omega
      go_wp2_with fail
      go_ret
      exact ⟨rfl, HB.out⟩
end Go.Proofs.YtlelkhonkhlflaaDoor
