/-
  electionref24.Join, of two piles in order.
-/
import Derived.Test.YteeamiacplfcmaaOwnL
namespace Go.Proofs.Yteeamiacplfcmaa
open Go.RowKit
set_option linter.unusedVariables false
set_option linter.unusedSimpArgs false

theorem OwnG.pushL {B : Nat} {w : World} {v : Value} {xs ys : List Grp} (h : OwnG B w v xs) (hB : B ≤ w.heap.size) (hl : xs.length + ys.length ≤ 2000000) {G : Nat → Prop} {A0 : Option Addr} (hy : PairsIn GrpE G w A0 ys) (hG : ∀ i, G i → i < w.heap.size ∧ v.ownBlock ≠ some i) (ot : TypeId) (c : Nat) :
    ∃ A d w', (Builtin.append_ #[32, 32] ot #[v, .slice A0 ys.length c]).run Try.prog w = .ok (.slice A (xs.length + ys.length) d) w' ∧ OwnG B w' (.slice A (xs.length + ys.length) d) (xs ++ ys) ∧ w.grownBy w' v.ownBlock := by
  obtain ⟨i0, hi, hz0, hz1, hz2⟩ := info_parts groupinfo
  exact OwnA.pushL Try.underlying32 hi hz0 hz1 hz2 rfl (by decide) h goodG hB hl hy hG ot c
theorem OwnC.pushL {B : Nat} {w : World} {v : Value} {xs ys : List Cel} (h : OwnC B w v xs) (hB : B ≤ w.heap.size) (hl : xs.length + ys.length ≤ 2000000) {G : Nat → Prop} {A0 : Option Addr} (hy : PairsIn CelE G w A0 ys) (hG : ∀ i, G i → i < w.heap.size ∧ v.ownBlock ≠ some i) (ot : TypeId) (c : Nat) :
    ∃ A d w', (Builtin.append_ #[23, 23] ot #[v, .slice A0 ys.length c]).run Try.prog w = .ok (.slice A (xs.length + ys.length) d) w' ∧ OwnC B w' (.slice A (xs.length + ys.length) d) (xs ++ ys) ∧ w.grownBy w' v.ownBlock := by
  obtain ⟨i0, hi, hz0, hz1, hz2⟩ := info_parts cellinfo
  exact OwnA.pushL Try.underlying23 hi hz0 hz1 hz2 rfl (by decide) h goodC hB hl hy hG ot c
theorem OwnA.lower {α : Type} [Inhabited α] {E : Rel α} {B C : Nat} {w : World} {v : Value} {xs : List α} {ty : TypeId} (h : OwnA E ty B w v xs) (hc : C ≤ B) : OwnA E ty C w v xs := ⟨h.1, fun g e => Nat.le_trans hc (h.2 g e)⟩
theorem pile_pos {n : Int} {gs : List Grp} (h : pileOk n gs = true) : Pos gs := fun g hg => by
  obtain ⟨k, hk, rfl⟩ := List.getElem_of_mem hg
  have := (pileOk_iff.1 h k hk).2.1
  rwa [List.getD_eq_getElem?_getD, List.getElem?_eq_getElem hk, Option.getD_some] at this
theorem Pos.joinG {a b : List Grp} (ha : Pos a) (hb : Pos b) : Pos (joinG a b) := by
  induction b generalizing a with
  | nil => exact ha
  | cons g r ih => exact ih (ha.addG (hb g (by simp))) fun x hx => hb x (by simp [hx])
theorem Pos.take {a : List Grp} (h : Pos a) (k : Nat) : Pos (a.take k) := fun g hg => h g (List.mem_of_mem_take hg)
theorem getD_memG {gs : List Grp} {k : Nat} (hk : k < gs.length) : gs.getD k default ∈ gs := by
  rw [List.getD_eq_getElem?_getD, List.getElem?_eq_getElem hk, Option.getD_some]
  exact List.getElem_mem _
theorem sumN_take_le {b : List Grp} (h : Pos b) (k : Nat) : sumN (b.take k) ≤ sumN b := by
  have h1 : sumN b = sumN (b.take k) + sumN (b.drop k) := by rw [← sumN_append, List.take_append_drop]
  have h2 := (Pos.sum (gs := b.drop k) fun x hx => h x (List.mem_of_mem_drop hx)).1
  omega
theorem take_succG {b : List Grp} {k : Nat} (hk : k < b.length) : b.take (k + 1) = b.take k ++ [b.getD k default] := by
  rw [List.take_add_one, List.getD_eq_getElem?_getD, List.getElem?_eq_getElem hk, Option.getD_some, Option.toList_some]
theorem joinG_bounds {a b : List Grp} (ha : Pos a) (hb : Pos b) (k : Nat) (hs : sumN a + sumN b ≤ 100000) : (joinG a (b.take k)).length ≤ 100000 ∧ (k < b.length → ∀ j, j < (joinG a (b.take k)).length → InI (((joinG a (b.take k)).getD j default).2 + (b.getD k default).2)) := by
  have hp := (ha.joinG (hb.take k)).sum
  have hj := ha.joinG (hb.take k)
  have h1 := sumN_take_le hb k
  rw [sumN_joinG] at hp
  refine ⟨by omega, fun hk j hjl => ?_⟩
  have h2 := sumN_take_le hb (k + 1)
  rw [take_succG hk, sumN_append] at h2
  have h3 : sumN [b.getD k default] = (b.getD k default).2 := by rw [sumN_cons]; simp [sumN]
  have h4 := hp.2 _ (getD_memG hjl)
  have h5 := hj _ (getD_memG hjl)
  have h6 := hb _ (getD_memG hk)
  unfold InI
  omega
set_option maxHeartbeats 8000000 in
set_option maxRecDepth 100000 in
theorem rjoin_any {A B : Option Addr} {c d : Nat} {a b : List Grp} {w : World} (h : Grps w A a) (h' : Grps w B b) (hp : pileOk 7 a = true) (hp' : pileOk 7 b = true) (hs : sumN a + sumN b ≤ 100000) :
    Calls Try.prog 37 #[.slice A a.length c, .slice B b.length d] w fun e w' => ∃ v, e = .returned (.tuple #[v, .int .i64 0]) ∧ OwnG w.heap.size w' v (joinG a b) ∧ Below w.heap.size w w' := by
  have ha := pile_len hp
  have hb := pile_len hp'
  have HA := hide (pile_pos hp)
  have HBp := hide (pile_pos hp')
  have HP1 := hide (fun wq (hq : Drew w wq) => rpile_any (c := c) (w := wq) (h.drew hq) (by omega))
  have HP2 := hide (fun wq (hq : Drew w wq) => rpile_any (c := d) (w := wq) (h'.drew hq) (by omega))
  have HT1 := hide (fun wq (hq : Drew w wq) => rtotal_any (c := c) (w := wq) (h.drew hq) hp)
  have HT2 := hide (fun wq (hq : Drew w wq) => rtotal_any (c := d) (w := wq) (h'.drew hq) hp')
  rw [hp] at HP1
  rw [hp'] at HP2
  have H := hide h
  have H' := hide h'
  have HPo := hide hp'
  clear h h' hp hp'
  have hsa : sumN a ≤ 100000 := ha.2.2.2
  generalize hx : sumN a = x at *
  generalize hy : sumN b = y at *
  have HX := hide hx
  have HY := hide hy
  clear hx hy
  go_enter Try.func37, Try.ntmps37
  go_wp2_with fail
  refine (HP1.out _ (Drew.refl _)).mono ?_
  rintro e w1 ⟨rfl, h1⟩
  go_wp2_with fail
  refine (HP2.out _ h1).mono ?_
  rintro e w2 ⟨rfl, h2⟩
  have h2 := h1.trans h2
  go_wp2_with fail
  refine (HT1.out _ h2).mono ?_
  rintro e w3 ⟨rfl, h3⟩
  have h3 := h2.trans h3
  go_wp2_with fail
  refine (HT2.out _ h3).mono ?_
  rintro e w4 ⟨rfl, h4⟩
  have h4 := h3.trans h4
  have hsw := h4.below.size
  obtain ⟨A5, d5, w5, hr5, hO5, hg5⟩ := OwnG.pushL (OwnA.nil GrpE 52 w.heap.size w4) hsw (by simp; omega) (G := fun i => i < w4.heap.size) (H.out.drew h4) (fun i hi => ⟨hi, fun e => by cases e⟩) 32 c
  rw [List.length_nil, Nat.zero_add] at hr5 hO5
  rw [List.nil_append] at hO5
  have HR5 := hide hr5
  have HO5 := hide hO5
  have HB5 := hide (h4.below.trans (own_by hsw (fun g e => by cases e) hg5))
  clear hr5 hO5 hg5 h1 h2 h3 h4 hsw
  have hxy : x ≤ 100000 - y := by omega
  go_wp2_with ((with_reducible refine wpList_gives (o := ⟨some 23, _, _, _, _, _⟩) (v := Value.slice A5 a.length d5) (w' := w5) ?_ ?_ ?_); rfl; exact gives_append rfl rfl rfl HR5.out)
  have hpb := HPo.out
  have hpa := HA.out
  have HTK := hide (fun k (hk : k < b.length) => take_succG hk)
  have HBd := hide (fun k => joinG_bounds HA.out HBp.out k (by rw [HX.out, HY.out]; exact hs))
  go_loopw [6, 7] (fun o i wr => ∃ k : Nat, k ≤ b.length ∧ i = .int .i64 k ∧ ∃ v : Value, o = v ∧ Hid (OwnG w.heap.size wr v (joinG a (b.take k))) ∧ Hid (Below w.heap.size w wr)) (fun _ i wr => b.length - (iOf i).toNat)
  case atStart => exact ⟨0, Nat.zero_le _, rfl, _, rfl, HO5.out, HB5.out⟩
  case round =>
    obtain ⟨k, hk, rfl, v, rfl, HO, HB⟩ := hrel
    by_cases hlt : k < b.length
    · obtain ⟨b0, off, Ak, ck, rfl, hb0, h0, h1, hck, hgm, hgi, hni, hgA⟩ := H'.out.at_ hlt
      have h0 := (HB.out.cell (p := ⟨b0, off + k * 2, none⟩) hb0).trans h0
      have h1 := (HB.out.cell (p := ⟨b0, off + k * 2 + 1, none⟩) hb0).trans h1
      have hsw := HB.out.size
      obtain ⟨hb1, hb2⟩ := HBd.out k
      have hb4 := hb2 hlt
      have htk := HTK.out k hlt
      have htk := hide htk
      obtain ⟨A3, c3, rfl, _, hq, hP⟩ := HO.out.shape goodG
      have HAd := hide (fun wq (hq : Drew wr wq) => add_any (c := c3) (d := ck) (w := wq) (Grps.drew hP hq) hb1 ((hgA.below HB.out).drew hq) hgm hck hgi hni hb4)
      clear hP
      generalize b.getD k default = g at *
      obtain ⟨q, m⟩ := g
      simp only [] at *
      go_wp2_with fail
      go_upto_region 9 with fail
      go_region_held3 (fun v => v.cell? ⟨b0, off + k * 2, none⟩ = some (.slice Ak q.length ck) ∧ v.cell? ⟨b0, off + k * 2 + 1, none⟩ = some (.int .i64 m))
        (go_keep)
        ((go_at_call 49; refine (HAd.out _ ((Drew.refl _).drew 1)).mono ?_; rintro e w6 ⟨v6, rfl, hO6, hb6⟩; have h0 := (hb6.cell (p := ⟨b0, off + k * 2, none⟩) (Nat.lt_of_lt_of_le hb0 hsw)).trans h0; have h1 := (hb6.cell (p := ⟨b0, off + k * 2 + 1, none⟩) (Nat.lt_of_lt_of_le hb0 hsw)).trans h1))
      go_wp2_with fail
      go_roundw
      case rel => exact ⟨k + 1, by omega, by go_num, _, rfl, by rw [htk.out, joinG_snoc]; exact hO6.lower (by exact hsw), (below_drew HB.out 1).trans (hb6.mono (by exact hsw))⟩
      case measure => simp [iOf]; omega
    · obtain rfl : k = b.length := by omega
      have hO := HO.out
      rw [List.take_length] at hO
      go_wp2_with fail
      go_ret2
      exact ⟨_, rfl, hO, HB.out⟩
end Go.Proofs.Yteeamiacplfcmaa
