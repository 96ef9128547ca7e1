/-
  slices.Clone of numbers; pile.clone.
-/
import Derived.Test.YteeamiacplfcmaaRMerge
import Derived.Deep.RegionHeldLaw
namespace Go.Proofs.Yteeamiacplfcmaa
open Go.RowKit
set_option linter.unusedVariables false
set_option linter.unusedSimpArgs false

/-- numbers that came in are appended to an own list -/
theorem push_ints {B : Nat} {w : World} {v : Value} {l ys : List Int} (h : OwnI B w v l) (hB : B ≤ w.heap.size) (hl : l.length + ys.length ≤ 2000000) {A0 : Option Addr} (hy : Ints w A0 ys) (ty : TypeId) (c : Nat) :
    ∃ A d w', (Builtin.append_ #[31, 31] ty #[v, .slice A0 ys.length c]).run Try.prog w = .ok (.slice A (l.length + ys.length) d) w' ∧ OwnI B w' (.slice A (l.length + ys.length) d) (l ++ ys) ∧ w.grownBy w' v.ownBlock := by
  obtain ⟨i0, hi, hz0, hz1, hz2⟩ := info_parts intinfo
  cases A0 with
  | none =>
    have h0 : ys = [] := by
      cases ys with
      | nil => rfl
      | cons a r => obtain ⟨_, _, e, _⟩ := hy (by simp); cases e
    subst h0
    obtain ⟨A, d, hv', _, _⟩ := h.form
    have hr := run_append_none2 B 31 ty 3 i0 1 Try.underlying31 hi v l.length (l.map iv) h c
    rw [hv'] at hr
    refine ⟨A, d, w, ?_, ?_, grown_refl _ _⟩
    · rw [hv']; exact hr
    · rw [List.append_nil]; rw [hv'] at h; exact h
  | some ad =>
    have hnews : ∀ j u, (ys.map iv)[j]? = some u → w.cell? (ad.add j) = some u := fun j u hu => by
      have hj : j < ys.length := by
        rcases Nat.lt_or_ge j ys.length with h | h
        · exact h
        · rw [List.getElem?_eq_none (by simpa using h)] at hu; cases hu
      obtain ⟨b, off, e, _, hc⟩ := hy.at_ hj
      cases e
      rw [add_off, hc]
      rw [List.getElem?_map, List.getElem?_eq_getElem hj] at hu
      rw [← hu, List.getD_eq_getElem?_getD, List.getElem?_eq_getElem hj]
      rfl
    obtain ⟨v', w', hr, ho, hg, _, hor⟩ := run_append_own_at (P := Try.prog) w B 31 ty 3 i0 (.int .i64 0) 1 8 Try.underlying31 hi hz0 hz1 hz2 rfl (by decide) v l.length (l.map iv) h ad ys.length c (ys.map iv) (by simp) hnews (by intro u hu; rw [List.mem_map] at hu; obtain ⟨x, _, rfl⟩ := hu; rfl) (by unfold maxLen; omega) (by omega) (by omega)
    have ho' : OwnI B w' v' (l ++ ys) := by
      unfold OwnI
      rw [List.length_append, List.map_append]
      exact ho
    obtain ⟨A, d, rfl, _⟩ := ho'.form
    rw [List.length_append] at hr ho'
    exact ⟨A, d, w', hr, ho', hg⟩
set_option maxHeartbeats 2000000 in
theorem intclone_any {A : Option Addr} {c : Nat} {l : List Int} {w : World} (h : Ints w A l) (hm : l.length ≤ 1000000) :
    Calls Try.prog 60 #[.slice A l.length c] w fun e w' => ∃ A' c', e = .returned (.slice A' l.length c') ∧ OwnI w.heap.size w' (.slice A' l.length c') l ∧ Below w.heap.size w w' := by
  have qT : ∀ (w : World) (a : Option Addr) (n c n' c' : Nat), (binOp .eql 31 (.slice a n c) (.slice none n' c')).run Try.prog w = .ok (.bool a.isNone) w := fun w a n c n' c' => Lib.run_eql_slice_nil w _ _ a n c n' c' Try.underlying31
  cases A with
  | none =>
    have h0 : l = [] := by
      cases l with
      | nil => rfl
      | cons a r => obtain ⟨_, _, e, _⟩ := h (by simp); cases e
    subst h0
    clear h
    go_enter Try.func60, Try.ntmps60
    go_wp2_with fail
    go_ret
    exact ⟨_, _, rfl, OwnI.nil _ _, Below.refl _ _⟩
  | some ad =>
    have hB : Below w.heap.size w (w.alloc (.cells #[] 3)) := (Below.refl _ _).alloc (Nat.le_refl _) _
    have hown : OwnI w.heap.size (w.alloc (.cells #[] 3)) (.slice (some ⟨w.heap.size, 0, none⟩) 0 0) [] :=
      ⟨rfl, .inr ⟨w.heap.size, 0, #[], rfl, Nat.le_refl _, heap_alloc_new w _, Nat.le_refl _, Nat.zero_le _, rfl, rfl⟩⟩
    obtain ⟨A', d, w', hr, hO, hg⟩ := push_ints hown hB.size (by simp; omega) (h.below hB) 31 c
    rw [List.length_nil, Nat.zero_add] at hr hO
    rw [List.nil_append] at hO
    have HR := hide hr
    have HO := hide hO
    have HB := hide (hB.trans (own_by hB.size hown.lo hg))
    clear hr hO hg hown hB h
    go_enter Try.func60, Try.ntmps60
    go_wp2_with ((with_reducible refine wpList_gives (o := ⟨some 7, _, _, _, _, _⟩) (v := Value.slice A' l.length d) (w' := w') ?_ ?_ ?_); rfl; exact gives_append rfl rfl rfl HR.out)
    go_ret
    exact ⟨_, _, rfl, HO.out, HB.out⟩
/-- an own list of which all lies in blocks not below B -/
def OwnF {α : Type} [Inhabited α] (E : Rel α) (ty : TypeId) (B : Nat) (w : World) (v : Value) (xs : List α) : Prop := OwnP E ty (fun i => B ≤ i ∧ i < w.heap.size) w v xs
section
variable {α : Type} [Inhabited α] {E : Rel α} {B : Nat} {w w' : World} {v : Value} {xs ys : List α} {ty : TypeId}
theorem OwnF.nil (E : Rel α) (ty : TypeId) (B : Nat) (w : World) : OwnF E ty B w (.slice none 0 0) [] := OwnP.nil _ _ _ _
theorem OwnF.own (h : OwnF E ty B w v xs) (hE : Good E) : OwnA E ty B w v xs := by
  obtain ⟨vals, h1, h2, h3⟩ := id h
  exact ⟨OwnP.mono h hE fun i hi => hi.2, fun g e => (h2 g e).1⟩
theorem OwnF.kept (h : OwnF E ty B w v xs) (hE : Good E) (hb : Below w.heap.size w w') : OwnF E ty B w' v xs :=
  OwnP.mono (OwnP.agree h hE (Agree.of_below hb fun i hi => hi.2)) hE fun _ hi => ⟨hi.1, Nat.lt_of_lt_of_le hi.2 hb.size⟩
theorem OwnF.pairs (h : OwnF E ty B w v xs) (hE : Good E) : ∃ A c, v = .slice A xs.length c ∧ xs.length ≤ c ∧ (∀ g, v.ownBlock = some g → B ≤ g ∧ g < w.heap.size) ∧ PairsIn E (fun i => B ≤ i ∧ i < w.heap.size) w A xs := by
  obtain ⟨A, c, e, hc, hg, hp⟩ := OwnP.shape h hE
  exact ⟨A, c, e, hc, fun g e => (hg g e).1, hp⟩
theorem OwnF.push1 {t : TypeId} {i : TypeInfo} {z : Value} {bytes : Nat} (ht : Try.prog.underlying t = some (.slice ty)) (hi : Try.prog.info? ty = some i) (hz : i.zero = some z) (hs : i.size = 2) (hby : i.bytes = bytes) (hzs : z.cells.size = 2) (hb48 : bytes ≤ 48)
    (h : OwnF E ty B w v xs) (hE : Good E) (hB : B ≤ w.heap.size) (hl : xs.length ≤ 1000000) {G : Nat → Prop} {v0 v1 : Value} {y : α} (hy : E G w v0 v1 y) (hG : ∀ i, G i → B ≤ i ∧ i < w.heap.size ∧ v.ownBlock ≠ some i) (ot : TypeId) :
    ∃ A d w', (Builtin.append_ #[t, t] ot #[v, .slice (some ⟨w.heap.size, 0, none⟩) 1 1]).run Try.prog (w.alloc (.cells #[v0, v1] ty)) = .ok (.slice A (xs.length + 1) d) w' ∧ OwnF E ty B w' (.slice A (xs.length + 1) d) (xs ++ [y]) ∧ w.grownBy w' v.ownBlock := by
  have hB1 : Below w.heap.size w (w.alloc (.cells #[v0, v1] ty)) := (Below.refl _ _).alloc (Nat.le_refl _) _
  have hs1 : (w.alloc (.cells #[v0, v1] ty)).heap.size = w.heap.size + 1 := by simp
  have hk := h.kept hE hB1
  have hrow : RowAt E G (w.alloc (.cells #[v0, v1] ty)) ⟨w.heap.size, 0, none⟩ [y] := fun k hk => by
    obtain rfl : k = 0 := by simpa using hk
    refine ⟨v0, v1, ?_, ?_, hE.agree hy fun i hi => hB1.block i (hG i hi).2.1⟩
    · rw [add_off]; exact (cell_of_row _ w.heap.size _ _ ty (0, 0) (heap_alloc_new w _)).trans rfl
    · rw [add_off]; exact (cell_of_row _ w.heap.size _ _ ty (0, 0) (heap_alloc_new w _)).trans rfl
  obtain ⟨news, h1, h2, h3, h4⟩ := RowAt.vals hE hrow
  obtain ⟨vals, hv, hF, hel⟩ := id hk
  obtain ⟨v', w', hr, ho, hg, _, hor⟩ := run_append_own_at (P := Try.prog) (w.alloc (.cells #[v0, v1] ty)) 0 t ot ty i z 2 bytes ht hi hz hs hby hzs (by decide) v xs.length vals hv ⟨w.heap.size, 0, none⟩ 1 1 news h1 h2 h3 (by unfold maxLen; omega) (Nat.le_trans (Nat.mul_le_mul (show xs.length + 1 ≤ 1000001 by omega) hb48) (by decide)) (Nat.zero_le _)
  have hown : ∀ g, v'.ownBlock = some g → B ≤ g ∧ g < w'.heap.size := fun g e => by
    rcases ho.2 with ⟨rfl, _⟩ | ⟨g', cap, cur, rfl, _, hg', _⟩
    · cases e
    · have e' : g' = g := by injection e
      subst e'
      refine ⟨?_, (Array.getElem?_eq_some_iff.1 hg').1⟩
      rcases hor with q | q
      · exact (hF g' (q.symm.trans e)).1
      · have := q.symm.trans e
        injection this with this
        omega
  have hP : OwnF E ty B w' v' (xs ++ [y]) := by
    refine OwnP.mono (OwnP.push (F := fun i => B ≤ i ∧ i < (w.alloc (.cells #[v0, v1] ty)).heap.size) (G := G) hv hel hE (fun i hi => hi.2) h1 (fun k hk => ?_) (fun i hi => by have := (hG i hi).2.1; omega) ho hg hor) hE ?_
    · obtain ⟨a0, a1, q0, q1, q2⟩ := h4 k hk
      exact ⟨a0, a1, q0, q1, hE.mono q2 fun i hi => ⟨hi, (hG i hi).2.2⟩⟩
    · rintro i (hi | hi | hi)
      · exact ⟨hi.1, Nat.lt_of_lt_of_le hi.2 hg.size⟩
      · have h1 := hG i hi
        have h2 := hg.size
        exact ⟨h1.1, by omega⟩
      · exact hown i hi
  obtain ⟨A, d, hv', _, _⟩ := OwnP.shape hP hE
  rw [List.length_append] at hv'
  subst hv'
  exact ⟨A, d, w', hr, hP, grown_trans (grown_of_below hB1 _) hg⟩
end
theorem OwnFG.push1 {B : Nat} {w : World} {v : Value} {xs : List Grp} (h : OwnF GrpE 52 B w v xs) (hB : B ≤ w.heap.size) (hl : xs.length ≤ 1000000) {G : Nat → Prop} {v0 v1 : Value} {y : Grp} (hy : GrpE G w v0 v1 y) (hG : ∀ i, G i → B ≤ i ∧ i < w.heap.size ∧ v.ownBlock ≠ some i) (ot : TypeId) :
    ∃ A d w', (Builtin.append_ #[32, 32] ot #[v, .slice (some ⟨w.heap.size, 0, none⟩) 1 1]).run Try.prog (w.alloc (.cells #[v0, v1] 52)) = .ok (.slice A (xs.length + 1) d) w' ∧ OwnF GrpE 52 B w' (.slice A (xs.length + 1) d) (xs ++ [y]) ∧ w.grownBy w' v.ownBlock := by
  obtain ⟨i0, hi, hz0, hz1, hz2⟩ := info_parts groupinfo
  exact OwnF.push1 Try.underlying32 hi hz0 hz1 hz2 rfl (by decide) h goodG hB hl hy hG ot
theorem clone_step {B g0 : Nat} {w w1 wq : World} {v : Value} {xs : List Grp} {Ak : Option Addr} {ck : Nat} {q : List Int} {m : Int} (hB : B ≤ w1.heap.size) (hO : OwnF GrpE 52 B w1 v xs) (hb : Below B w w1) (hx : xs.length ≤ 1000000) (hq : Ints w1 Ak q) (hqm : q.length ≤ 1000000) (hqi : ∀ y ∈ q, InI y) (hm : InI m)
    (h0 : w1.cell? ⟨g0, 0, none⟩ = some (.slice Ak q.length ck)) (h1 : w1.cell? ⟨g0, 1, none⟩ = some (.int .i64 m)) (hg : g0 < w1.heap.size) (hne : v.ownBlock ≠ some g0) (hd : Drew w1 wq) :
    Calls Try.prog 60 #[.slice Ak q.length ck] wq fun e w2 => ∃ A' c' A4 d4 w4, e = .returned (.slice A' q.length c') ∧ (w2.cell? ⟨g0, 0, none⟩ = some (.slice Ak q.length ck) ∧ w2.cell? ⟨g0, 1, none⟩ = some (.int .i64 m)) ∧
      (Builtin.append_ #[32, 32] 32 #[v, .slice (some ⟨w2.heap.size, 0, none⟩) 1 1]).run Try.prog (w2.alloc (.cells #[.slice A' q.length c', .int .i64 m] 52)) = .ok (.slice A4 (xs.length + 1) d4) w4 ∧ OwnF GrpE 52 B w4 (.slice A4 (xs.length + 1) d4) (xs ++ [(q, m)]) ∧ Below B w w4 ∧
      (w4.cell? ⟨g0, 0, none⟩ = some (.slice Ak q.length ck) ∧ w4.cell? ⟨g0, 1, none⟩ = some (.int .i64 m)) := by
  refine (intclone_any (c := ck) (hq.drew hd) hqm).mono ?_
  rintro e w2 ⟨A', c', rfl, hI, hb2⟩
  have hsq : w1.heap.size ≤ wq.heap.size := hd.below.size
  have hB2 : Below w1.heap.size w1 w2 := hd.below.trans (hb2.mono hsq)
  have c0 := (hB2.cell (p := ⟨g0, 0, none⟩) hg).trans h0
  have c1 := (hB2.cell (p := ⟨g0, 1, none⟩) hg).trans h1
  obtain ⟨_, _, e1, hc', hIn, _⟩ := hI.form
  cases e1
  have hO2 := hO.kept goodG hB2
  have hlo : ∀ g, v.ownBlock = some g → g < w1.heap.size := fun g e => by
    obtain ⟨_, _, _, _, hq, _⟩ := hO.pairs goodG
    exact (hq g e).2
  obtain ⟨A4, d4, w4, hr4, hO4, hg4⟩ := OwnFG.push1 hO2 (Nat.le_trans hB hB2.size) hx (G := fun i => wq.heap.size ≤ i ∧ i < w2.heap.size) (y := (q, m)) ⟨A', c', rfl, hc', hqm, hqi, hm, hIn.mono fun i hi => ⟨hi.2.1, hi.1⟩, rfl⟩ (fun i hi => ⟨by omega, hi.2, fun e => by have := hlo i e; omega⟩) 32
  refine ⟨A', c', A4, d4, w4, rfl, ⟨c0, c1⟩, hr4, hO4, (hb.trans (hB2.mono hB)).trans (OwnA.below (hO2.own goodG) (Nat.le_trans hB hB2.size) hg4), hg4.cell c0 (fun e => hne e.symm), hg4.cell c1 (fun e => hne e.symm)⟩
set_option maxHeartbeats 8000000 in
set_option maxRecDepth 100000 in
theorem clone_any {A : Option Addr} {c : Nat} {gs : List Grp} {w : World} (h : Grps w A gs) (hm : gs.length ≤ 100000) :
    Calls Try.prog 48 #[.slice A gs.length c] w fun e w' => ∃ v, e = .returned v ∧ OwnF GrpE 52 w.heap.size w' v gs ∧ Below w.heap.size w w' := by
  have H := hide h
  clear h
  go_enter Try.func48, Try.ntmps48
  go_wp2_with fail
  go_loopw [3, 5, 8] (fun a _ i wr => ∃ k : Nat, k ≤ gs.length ∧ i = .int .i64 k ∧ ∃ v : Value, a = v ∧ Hid (OwnF GrpE 52 w.heap.size wr v (gs.take k)) ∧ Hid (Below w.heap.size w wr)) (fun _ _ i wr => gs.length - (iOf i).toNat)
  case atStart => exact ⟨0, Nat.zero_le _, rfl, _, rfl, OwnF.nil _ _ _ _, Below.refl _ _⟩
  case round =>
    obtain ⟨k, hk, rfl, v, rfl, HO, HB⟩ := hrel
    by_cases hlt : k < gs.length
    · obtain ⟨b, off, Ak, ck, rfl, hb, h0, h1, hck, hgm, hgi, hni, hgA⟩ := H.out.at_ hlt
      have h0 := (HB.out.cell (p := ⟨b, off + k * 2, none⟩) hb).trans h0
      have h1 := (HB.out.cell (p := ⟨b, off + k * 2 + 1, none⟩) hb).trans h1
      have hsw := HB.out.size
      have htk := hide (take_succG hlt)
      have HI := hide hgi
      have hgA0 := hide (fun wq (hq : Below w.heap.size w wq) => hgA.below hq)
      clear hgi hgA
      generalize gs.getD k default = g at *
      obtain ⟨q, m⟩ := g
      simp only [] at *
      go_wp2_with fail
      obtain ⟨w1, hw1⟩ : ∃ x, x = wr.alloc (.cells #[.slice Ak q.length ck, .int .i64 m] 52) := ⟨_, rfl⟩
      have hb1 : Below wr.heap.size wr w1 := by rw [hw1]; exact (Below.refl _ _).alloc (Nat.le_refl _) _
      have hX : Box w1 wr.heap.size 52 #[.slice Ak q.length ck, .int .i64 m] := by rw [hw1]; exact Box.new _ _ _
      rw [← hw1]
      clear hw1
      have hc0 : w1.cell? ⟨wr.heap.size, 0, none⟩ = some (.slice Ak q.length ck) := hX.cell 0
      have hc1 : w1.cell? ⟨wr.heap.size, 1, none⟩ = some (.int .i64 m) := hX.cell 1
      have hlo : u3.ownBlock ≠ some wr.heap.size := fun e => by
        obtain ⟨_, _, _, _, hq, _⟩ := HO.out.pairs goodG
        have := (hq _ e).2
        omega
      have hs1 := hb1.size
      have HC := hide (fun wq (hd : Drew w1 wq) => clone_step (ck := ck) (m := m) (by omega) (HO.out.kept goodG hb1) (HB.out.trans (hb1.mono hsw)) (by simp; omega) (hgA0.out _ (HB.out.trans (hb1.mono hsw))) hgm HI.out hni hc0 hc1 hX.lt hlo hd)
      have hS0 : w1.drew.cell? ⟨wr.heap.size, 0, none⟩ = some (.slice Ak q.length ck) ∧ w1.drew.cell? ⟨wr.heap.size, 1, none⟩ = some (.int .i64 m) := ⟨hc0, hc1⟩
      clear hX hb1
      rw [List.length_take, Nat.min_eq_left hk, ← htk.out] at HC
      go_region_held_law (fun w' => w'.cell? ⟨wr.heap.size, 0, none⟩ = some (.slice Ak q.length ck) ∧ w'.cell? ⟨wr.heap.size, 1, none⟩ = some (.int .i64 m))
        (first | assumption | go_keep)
        (first | (go_at_call 60; refine (HC.out _ ((Drew.refl _).drew 1)).mono ?_; rintro e w2 ⟨A', c', A4, d4, w4, rfl, hS2, hr4, hO4, hb4, hS4⟩; have hr4 := hide hr4; have hO4 := hide hO4) | (refine step_gives rfl (gives_append rfl rfl rfl hr4.out) ?_))
      go_wp2_with fail
      go_roundw
      case rel => exact ⟨k + 1, by omega, by go_num, _, rfl, hO4.out, hb4⟩
      case measure => simp [iOf]; omega
    · obtain rfl : k = gs.length := by omega
      have hO := HO.out
      rw [List.take_length] at hO
      go_wp2_with fail
      go_ret
      exact ⟨_, rfl, hO, HB.out⟩
end Go.Proofs.Yteeamiacplfcmaa
