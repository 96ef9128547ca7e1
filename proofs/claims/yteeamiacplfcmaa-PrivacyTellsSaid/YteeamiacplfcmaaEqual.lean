/-
  slices.Equal of numbers; one element of an own list is changed.
-/
import Derived.Test.YteeamiacplfcmaaClone
namespace Go.Proofs.Yteeamiacplfcmaa
open Go.RowKit
set_option linter.unusedVariables false
set_option linter.unusedSimpArgs false

theorem eq_of_getD {l m : List Int} (h : l.length = m.length) (hs : ∀ k, k < l.length → l.getD k 0 = m.getD k 0) : l = m := by
  apply List.ext_getElem h
  intro i h1 h2
  have := hs i h1
  rwa [List.getD_eq_getElem?_getD, List.getD_eq_getElem?_getD, List.getElem?_eq_getElem h1, List.getElem?_eq_getElem h2, Option.getD_some, Option.getD_some] at this
set_option maxHeartbeats 1000000 in
theorem equal_any {A B : Option Addr} {c d : Nat} {l m : List Int} {w : World} (h : Ints w A l) (h' : Ints w B m) (hm : l.length ≤ 10000000) (hm' : m.length ≤ 10000000) (hi : ∀ y ∈ l, InI y) (hi' : ∀ y ∈ m, InI y) :
    Calls Try.prog 59 #[.slice A l.length c, .slice B m.length d] w fun e w' => e = .returned (.bool (decide (l = m))) ∧ Drew w w' := by
  have H := hide h
  have H' := hide h'
  have HI := hide hi
  have HI' := hide hi'
  clear h hi h' hi'
  by_cases e1 : l.length = m.length
  · have HD := hide (fun g => decide_eq_true (eq_of_getD e1 g))
    have HN : Hid (∀ k, l.getD k 0 ≠ m.getD k 0 → decide (l = m) = false) := fun k hk => decide_eq_false fun e => hk (by rw [e])
    have q0 : (((l.length : Int)) != ((m.length : Int))) = false := by rw [e1]; simp
    go_enter Try.func59, Try.ntmps59
    go_wp2_with fail
    go_loopw [5, 13] (fun _ i wr => ∃ k : Nat, k ≤ l.length ∧ i = .int .i64 k ∧ Hid (∀ j, j < k → l.getD j 0 = m.getD j 0) ∧ Hid (Drew w wr)) (fun _ i wr => l.length - (iOf i).toNat)
    case atStart => exact ⟨0, Nat.zero_le _, rfl, by intro j hj; omega, Drew.refl _⟩
    case round =>
      obtain ⟨k, hk, rfl, HS, HB⟩ := hrel
      by_cases hlt : k < l.length
      · obtain ⟨b, o, rfl, hb, hp⟩ := Ints.at_ H.out hlt
        obtain ⟨b', o', rfl, hb', hp'⟩ := Ints.at_ H'.out (show k < m.length by omega)
        have hp := (HB.out.below.cell (p := ⟨b, o + k, none⟩) hb).trans hp
        have hp' := (HB.out.below.cell (p := ⟨b', o' + k, none⟩) hb').trans hp'
        have i1 := HI.out _ (getD_memI hlt)
        have i2 := HI'.out _ (getD_memI (show k < m.length by omega))
        have HN1 := hide (HN.out k)
        have HS1 : Hid (l.getD k 0 = m.getD k 0 → ∀ j, j < k + 1 → l.getD j 0 = m.getD j 0) := fun e j hj => by
          by_cases e1 : j = k
          · rw [e1]; exact e
          · exact HS.out j (by omega)
        generalize l.getD k 0 = x at *
        generalize m.getD k 0 = y at *
        unfold InI at i1 i2
        have z1 : k < m.length := by omega
        have z2 : (k : Int) < (m.length : Int) := by omega
        by_cases e2 : x = y
        · subst e2
          have HS1 := hide (HS1.out rfl)
          go_upto_region 6 with fail
          go_quiet (fail)
          go_wp2_with fail
          go_roundw
          case rel => exact ⟨k + 1, by omega, by go_num, HS1.out, HB.out.drew _⟩
          case measure => simp [iOf]; omega
        · have HN2 := hide (HN1.out e2)
          have e3 : (x != y) = true := by simp [e2]
          go_upto_region 6 with fail
          go_quiet (fail)
          go_wp2_with fail
          go_ret
          exact ⟨by rw [HN2.out]; rfl, HB.out.drew _⟩
      · have HD1 := hide (HD.out fun j hj => HS.out j (by omega))
        go_wp2_with fail
        go_ret
        exact ⟨by rw [HD1.out]; rfl, HB.out⟩
  · have HD : Hid (decide (l = m) = false) := decide_eq_false fun e => e1 (by rw [e])
    have q0 : (((l.length : Int)) != ((m.length : Int))) = true := by simp; omega
    go_enter Try.func59, Try.ntmps59
    go_wp2_with fail
    go_ret
    exact ⟨by rw [HD.out]; rfl, Drew.refl _⟩
section
variable {α : Type} [Inhabited α] {E : Rel α} {B : Nat} {w w' : World} {v : Value} {xs : List α} {ty : TypeId}
theorem OwnA.frozen (h : OwnA E ty B w v xs) {g : Nat} (hg : v.ownBlock = some g) (off : Nat) : w.frozen? ⟨g, off, none⟩ = false := by
  obtain ⟨⟨vals, ⟨_, hr⟩, _, _⟩, _⟩ := h
  rcases hr with ⟨rfl, _⟩ | ⟨g', cap, cur, rfl, hb, hh, _⟩
  · cases hg
  · obtain rfl : g' = g := Option.some.inj hg
    simp [World.frozen?, hh]
/-- the two cells of element k are changed -/
theorem OwnA.setE (h : OwnA E ty B w v xs) (hE : Good E) {k g : Nat} (hk : k < xs.length) (hg : v.ownBlock = some g) {v0 v1 : Value} {y : α} (hy : E (fun b => b < w.heap.size ∧ v.ownBlock ≠ some b) w v0 v1 y)
    (hw : ∀ i, i ≠ g → w'.heap[i]? = w.heap[i]?) (hs : w'.heap.size = w.heap.size) (hc : ∀ cur t fr, w.heap[g]? = some (.cells cur t fr) → w'.heap[g]? = some (.cells ((cur.setIfInBounds (k * 2) v0).setIfInBounds (k * 2 + 1) v1) t fr)) : OwnA E ty B w' v (xs.set k y) := by
  obtain ⟨⟨vals, ⟨hvl, hr⟩, hF, hel⟩, hB⟩ := h
  rcases hr with ⟨rfl, _⟩ | ⟨g', cap, cur, rfl, hb, hh, hnc, hm, hz, ht⟩
  · cases hg
  · obtain rfl : g' = g := Option.some.inj hg
    have hag : Agree (fun b => All w b ∧ (Value.slice (some ⟨g', 0, none⟩) xs.length cap).ownBlock ≠ some b) w w' := fun i hi => hw i fun e => hi.2 (by rw [e]; rfl)
    have hall : ∀ i, (All w i ∧ (Value.slice (some ⟨g', 0, none⟩) xs.length cap).ownBlock ≠ some i) → (All w' i ∧ (Value.slice (some ⟨g', 0, none⟩) xs.length cap).ownBlock ≠ some i) := fun i hi => ⟨by unfold All; rw [hs]; exact hi.1, hi.2⟩
    refine ⟨⟨(vals.set (k * 2) v0).set (k * 2 + 1) v1, ⟨by simp [hvl], ?_⟩, fun i e => by unfold All; rw [hs]; exact hF i e, fun j hj => ?_⟩, hB⟩
    · refine .inr ⟨g', cap, _, by simp, Nat.zero_le _, hc _ _ _ hh, by simpa using hnc, hm, by simpa using hz, ?_⟩
      rw [List.length_set, ← ht]
      simp [List.take_set]
    · rw [List.length_set] at hj
      by_cases e : j = k
      · subst e
        refine ⟨v0, v1, ?_, ?_, ?_⟩
        · rw [List.getElem?_set_ne (by omega), List.getElem?_set_self (by omega)]
        · rw [List.getElem?_set_self (by simp; omega)]
        · have e2 : (xs.set j y).getD j default = y := by simp [List.getD_eq_getElem?_getD, hk]
          rw [e2]
          exact hE.mono (hE.agree hy hag) hall
      · obtain ⟨u0, u1, h0, h1, h2⟩ := hel j hj
        refine ⟨u0, u1, ?_, ?_, ?_⟩
        · rw [List.getElem?_set_ne (by omega), List.getElem?_set_ne (by omega)]; exact h0
        · rw [List.getElem?_set_ne (by omega), List.getElem?_set_ne (by omega)]; exact h1
        · have e2 : (xs.set k y).getD j default = xs.getD j default := by simp [List.getD_eq_getElem?_getD, List.getElem?_set_ne (fun h => e h.symm)]
          rw [e2]
          exact hE.mono (hE.agree h2 hag) hall
end
theorem OwnD.pushL {D : Nat → Prop} {B : Nat} {w : World} {v : Value} {xs ys : List Grp} (h : OwnD D B w v xs) (hB : B ≤ w.heap.size) (hl : xs.length + ys.length ≤ 2000000) {G : Nat → Prop} {A0 : Option Addr} (hy : PairsIn (GrpD D) G w A0 ys) (hG : ∀ i, G i → i < w.heap.size ∧ v.ownBlock ≠ some i) (ot : TypeId) (c : Nat) :
    ∃ A d w', (Builtin.append_ #[32, 32] ot #[v, .slice A0 ys.length c]).run Try.prog w = .ok (.slice A (xs.length + ys.length) d) w' ∧ OwnD D B w' (.slice A (xs.length + ys.length) d) (xs ++ ys) ∧ w.grownBy w' v.ownBlock := by
  obtain ⟨i0, hi, hz0, hz1, hz2⟩ := info_parts groupinfo
  exact OwnA.pushL Try.underlying32 hi hz0 hz1 hz2 rfl (by decide) h (goodD D) hB hl hy hG ot c
/-- what lies in blocks not below B -/
theorem OwnF.toD {B : Nat} {w : World} {v : Value} {xs : List Grp} (h : OwnF GrpE 52 B w v xs) : OwnD (fun i => B ≤ i) B w v xs := by
  obtain ⟨vals, h1, h2, h3⟩ := h
  refine ⟨⟨vals, h1, fun g e => (h2 g e).2, fun k hk => ?_⟩, fun g e => (h2 g e).1⟩
  obtain ⟨v0, v1, g0, g1, g2⟩ := h3 k hk
  exact ⟨v0, v1, g0, g1, goodG.mono g2 fun i hi => ⟨⟨hi.1.2, hi.2⟩, hi.1.1⟩⟩
theorem OwnD.toF {B C : Nat} {w : World} {v : Value} {xs : List Grp} (h : OwnD (fun i => B ≤ i) C w v xs) (hC : B ≤ C) : OwnF GrpE 52 B w v xs := by
  obtain ⟨⟨vals, h1, h2, h3⟩, h4⟩ := h
  refine ⟨vals, h1, fun g e => ⟨Nat.le_trans hC (h4 g e), h2 g e⟩, fun k hk => ?_⟩
  obtain ⟨v0, v1, g0, g1, g2⟩ := h3 k hk
  exact ⟨v0, v1, g0, g1, goodG.mono g2 fun i hi => ⟨⟨hi.2, hi.1.1⟩, hi.1.2⟩⟩
theorem OwnD.weaken {D D' : Nat → Prop} {B : Nat} {w : World} {v : Value} {xs : List Grp} (h : OwnD D B w v xs) (hd : ∀ i, D i → D' i) : OwnD D' B w v xs := by
  obtain ⟨⟨vals, h1, h2, h3⟩, h4⟩ := h
  refine ⟨⟨vals, h1, h2, fun k hk => ?_⟩, h4⟩
  obtain ⟨v0, v1, g0, g1, g2⟩ := h3 k hk
  exact ⟨v0, v1, g0, g1, goodG.mono g2 fun i hi => ⟨hi.1, hd i hi.2⟩⟩
/-- the number of group k is changed -/
theorem OwnD.setN {D : Nat → Prop} {B : Nat} {w : World} {v : Value} {xs : List Grp} (h : OwnD D B w v xs) {k g : Nat} (hk : k < xs.length) (hg : v.ownBlock = some g) {n : Int} (hn : InI n) : OwnD D B (w.setCell ⟨g, k * 2 + 1, none⟩ (.int .i64 n)) v (xs.set k ((xs.getD k default).1, n)) := by
  obtain ⟨⟨vals, ⟨hvl, hr⟩, hF, hel⟩, hB⟩ := id h
  rcases hr with ⟨rfl, _⟩ | ⟨g', cap, cur, rfl, hb, hh, hnc, hm, hz, ht⟩
  · cases hg
  · obtain rfl : g' = g := Option.some.inj hg
    obtain ⟨u0, u1, h0, h1, A2, c2, e0, q1, q2, q3, q4, q5, e1⟩ := hel k hk
    refine OwnA.setE h (goodD D) hk hg (v0 := u0) (v1 := .int .i64 n) (y := ((xs.getD k default).1, n)) ⟨A2, c2, e0, q1, q2, q3, hn, q5, rfl⟩ (fun i hi => Below.heap_setCell _ _ _ i hi) (by simp [World.setCell]) fun cur' t fr hcur => ?_
    rw [hh] at hcur
    injection hcur with hcur
    injection hcur with a1 a2 a3
    subst a1 a2 a3
    have e2 : cur.setIfInBounds (k * 2) u0 = cur := by
      have h3 : cur[k * 2]? = some u0 := by
        rw [← Array.getElem?_toList, ← List.getElem?_take_of_lt (show k * 2 < xs.length * 2 by omega), ht]; exact h0
      apply Array.ext_getElem?
      intro j
      rw [Array.getElem?_setIfInBounds]
      by_cases e : k * 2 = j
      · subst e
        rw [if_pos rfl, h3]
        rw [if_pos (Array.getElem?_eq_some_iff.1 h3).1]
      · rw [if_neg e]
    rw [e2]
    simp [World.setCell, Array.getElem?_modify, hh]
end Go.Proofs.Yteeamiacplfcmaa
