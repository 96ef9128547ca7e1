/-
  The disk and the reference, side by side.
-/
import Derived.Test.YtcmchnddnglnfaaSame
namespace Go.Proofs.Ytcmchnddnglnfaa
open Go.RowKit
set_option linter.unusedVariables false
set_option linter.unusedSimpArgs false

structure Tie (k : Nat) (ss : List (List UInt8)) (e : Nat → Option (List UInt8)) (fuse : Int) (safe : List (List UInt8)) (dirt : List Bool) (has : Bool) (left : Int) : Prop where
  lens : safe.length = ss.length
  lend : dirt.length = ss.length
  di : ∀ i, i < ss.length → dirt.getD i false = (e i).isSome
  sf : ∀ i, i < ss.length → safe.getD i [] = (e i).getD (ss.getD i [])
  fz : (has = true ∧ fuse = left ∧ 0 ≤ left) ∨ (has = false ∧ fuse = -1 ∧ left ≤ 0)
  lo : -(k : Int) ≤ left
  hi : left ≤ 9223372036854775807
section
variable {k : Nat} {ss : List (List UInt8)} {e : Nat → Option (List UInt8)} {fuse : Int} {dead : Bool} {safe : List (List UInt8)} {dirt : List Bool} {has : Bool} {left : Int}
theorem Tie.next (T : Tie k ss e fuse safe dirt has left) : Tie (k + 1) ss e fuse safe dirt has left := ⟨T.lens, T.lend, T.di, T.sf, T.fz, by have := T.lo; omega, T.hi⟩
theorem dirty_succ (m : Nat) (e : Nat → Option (List UInt8)) : dirtyL (m + 1) e = dirtyL m e ++ (if (e m).isSome = true then [m] else []) := by
  unfold dirtyL
  rw [List.range_succ, List.filter_append]
  congr 1
  by_cases h : (e m).isSome = true
  · simp [h]
  · simp [h]
theorem true_dirty (T : Tie k ss e fuse safe dirt has left) : ∀ m, m ≤ ss.length → trueN (dirt.take m) = (dirtyL m e).length
  | 0, _ => rfl
  | m + 1, h => by
    rw [trueN_take dirt (by rw [T.lend]; omega), true_dirty T m (by omega), dirty_succ, List.length_append, T.di m (by omega)]
    cases (e m).isSome <;> rfl
theorem tie_dirty (T : Tie k ss e fuse safe dirt has left) : (dirtyL ss.length e).length = trueN dirt := by
  rw [← true_dirty T ss.length (Nat.le_refl _), ← T.lend, List.take_length]
theorem Tie.fuse_lo (T : Tie k ss e fuse safe dirt has left) : -1 ≤ fuse ∧ fuse ≤ 9223372036854775807 := by
  have := T.hi
  rcases T.fz with ⟨_, h1, h2⟩ | ⟨_, h1, h2⟩ <;> omega
theorem Tie.burnt (T : Tie k ss e fuse safe dirt has left) : fuse = 0 ↔ (has = true ∧ left = 0) := by
  rcases T.fz with ⟨h0, h1, h2⟩ | ⟨h0, h1, h2⟩
  · rw [h1]; exact ⟨fun h => ⟨h0, h⟩, fun h => h.2⟩
  · rw [h1, h0]; exact ⟨fun h => by omega, fun h => by cases h.1⟩
theorem Tie.burn (T : Tie k ss e fuse safe dirt has left) (h0 : fuse ≠ 0) : ((has = true ∧ burnF fuse = left - 1 ∧ 0 ≤ left - 1) ∨ (has = false ∧ burnF fuse = -1 ∧ left - 1 ≤ 0)) ∧ -((k + 1 : Nat) : Int) ≤ left - 1 ∧ left - 1 ≤ 9223372036854775807 := by
  have h1 := T.lo
  have h2 := T.hi
  unfold burnF
  rcases T.fz with ⟨h3, h4, h5⟩ | ⟨h3, h4, h5⟩
  · rw [if_pos (by omega)]
    exact ⟨.inl ⟨h3, by omega, by omega⟩, by omega, by omega⟩
  · rw [if_neg (by omega)]
    exact ⟨.inr ⟨h3, by omega, by omega⟩, by omega, by omega⟩
theorem set_ne {α : Type} (l : List α) (j i : Nat) (x d : α) (h : i ≠ j) : (l.set j x).getD i d = l.getD i d := by
  rw [List.getD_eq_getElem?_getD, List.getElem?_set_ne (fun e => h e.symm), ← List.getD_eq_getElem?_getD]
theorem set_eq {α : Type} (l : List α) (j : Nat) (x d : α) (h : j < l.length) : (l.set j x).getD j d = x := by
  rw [List.getD_eq_getElem?_getD, List.getElem?_set_self h]; rfl
theorem Tie.write (T : Tie k ss e fuse safe dirt has left) (h0 : fuse ≠ 0) {j : Nat} (hj : j < ss.length) (x : List UInt8) : Tie (k + 1) (ss.set j x) (markE e ss j) (burnF fuse) safe (dirt.set j true) has (left - 1) := by
  obtain ⟨h1, h2, h3⟩ := T.burn h0
  refine ⟨by rw [List.length_set]; exact T.lens, by rw [List.length_set, List.length_set]; exact T.lend, fun i hi => ?_, fun i hi => ?_, h1, h2, h3⟩
  · rw [List.length_set] at hi
    unfold markE
    by_cases e1 : i = j
    · subst e1
      rw [if_pos rfl, set_eq _ _ _ _ (by rw [T.lend]; exact hi)]
      cases e i <;> rfl
    · rw [if_neg e1, set_ne _ _ _ _ _ e1]
      exact T.di i hi
  · rw [List.length_set] at hi
    have h4 := T.sf i hi
    unfold markE
    by_cases e1 : i = j
    · subst e1
      rw [if_pos rfl, h4]
      cases e i <;> rfl
    · rw [if_neg e1, set_ne _ _ _ _ _ e1]
      exact h4
theorem Tie.sync (T : Tie k ss e fuse safe dirt has left) (h0 : fuse ≠ 0) : Tie (k + 1) ss (fun _ => none) (burnF fuse) ss (List.replicate ss.length false) has (left - 1) := by
  obtain ⟨h1, h2, h3⟩ := T.burn h0
  refine ⟨rfl, List.length_replicate .., fun i hi => ?_, fun i hi => rfl, h1, h2, h3⟩
  rw [List.getD_eq_getElem?_getD, List.getElem?_replicate, if_pos hi]
  rfl
theorem Tie.setFuse (T : Tie k ss e fuse safe dirt has left) (z : Int) (hz : z ≤ 9223372036854775807) : Tie (k + 1) ss e (max z (-1)) safe dirt (decide (0 ≤ z)) (max z 0) := by
  refine ⟨T.lens, T.lend, T.di, T.sf, ?_, by omega, by omega⟩
  by_cases h : 0 ≤ z
  · exact .inl ⟨decide_eq_true h, by omega, by omega⟩
  · exact .inr ⟨decide_eq_false h, by omega, by omega⟩
theorem Tie.fresh (ss : List (List UInt8)) (k : Nat) : Tie k ss (fun _ => none) (-1) ss (List.replicate ss.length false) false 0 :=
  ⟨rfl, List.length_replicate .., fun i hi => by rw [List.getD_eq_getElem?_getD, List.getElem?_replicate, if_pos hi]; rfl, fun i hi => rfl, .inr ⟨rfl, rfl, by omega⟩, by omega, by omega⟩
theorem dirty_at (n m : Nat) (e : Nat → Option (List UInt8)) (hm : m < n) (h : (e m).isSome = true) : (dirtyL n e).getD (dirtyL m e).length 0 = m := by
  have e1 : dirtyL n e = dirtyL m e ++ (m :: (((List.range (n - (m + 1))).map (m + 1 + ·)).filter fun i => (e i).isSome)) := by
    have h1 : List.range n = List.range (m + 1) ++ (List.range (n - (m + 1))).map (m + 1 + ·) := by
      rw [← List.range_add, show m + 1 + (n - (m + 1)) = n by omega]
    have h2 : dirtyL n e = dirtyL (m + 1) e ++ (((List.range (n - (m + 1))).map (m + 1 + ·)).filter fun i => (e i).isSome) := by
      unfold dirtyL
      rw [h1, List.filter_append]
    rw [h2, dirty_succ, if_pos h, List.append_assoc]
    rfl
  rw [e1, List.getD_eq_getElem?_getD, List.getElem?_append_right (Nat.le_refl _), Nat.sub_self]
  rfl
theorem crash_pre (T : Tie k ss e fuse safe dirt has left) (keep : List Bool) : ∀ m, m ≤ ss.length → ∀ i, i < ss.length → (crashS ss e keep (dirtyL ss.length e) (dirtyL m e).length).getD i [] = if i < m then rcr safe ss dirt keep i else ss.getD i []
  | 0, _, i, hi => by rw [if_neg (by omega)]; rfl
  | m + 1, h, i, hi => by
    have ih := crash_pre T keep m (by omega)
    have hd := T.di m (by omega)
    have hs := T.sf m (by omega)
    have ht := true_dirty T m (by omega)
    have hat := dirty_at ss.length m e (by omega)
    rw [dirty_succ, List.length_append]
    have hrm : rcr safe ss dirt keep m = if dirt.getD m false = true ∧ keep.getD (trueN (dirt.take m)) false = true then ss.getD m [] else safe.getD m [] := rfl
    cases he : e m with
    | none =>
      rw [he] at hd hs
      simp only [Option.isSome_none, Bool.false_eq_true, if_false, List.length_nil, Nat.add_zero]
      rw [ih i hi]
      by_cases h1 : i < m
      · rw [if_pos h1, if_pos (by omega)]
      · rw [if_neg h1]
        by_cases h2 : i = m
        · subst h2
          rw [if_pos (by omega), hrm, hd, if_neg (by simp), hs]
          rfl
        · rw [if_neg (by omega)]
    | some x =>
      rw [he] at hd hs
      have hat' := hat (by rw [he]; rfl)
      simp only [Option.isSome_some, if_true, List.length_singleton]
      rw [crashS, hat', he]
      rw [hd, ht] at hrm
      simp only [Option.isSome_some, true_and] at hrm
      by_cases hk : keep.getD (dirtyL m e).length false = true
      · rw [if_pos hk, ih i hi]
        rw [if_pos hk] at hrm
        by_cases h1 : i < m
        · rw [if_pos h1, if_pos (by omega)]
        · rw [if_neg h1]
          by_cases h2 : i = m
          · subst h2
            rw [if_pos (by omega), hrm]
          · rw [if_neg (by omega)]
      · rw [if_neg hk]
        rw [if_neg hk] at hrm
        by_cases h2 : i = m
        · subst h2
          rw [set_at _ _ _ (by rw [crashS_length]; exact hi), if_pos (by omega), hrm, hs]
          rfl
        · rw [set_ne _ _ _ _ _ h2, ih i hi]
          by_cases h1 : i < m
          · rw [if_pos h1, if_pos (by omega)]
          · rw [if_neg h1, if_neg (by omega)]
theorem crash_eq (T : Tie k ss e fuse safe dirt has left) (keep : List Bool) (bs : List (List UInt8)) (hl : bs.length = ss.length) (hb : ∀ i, i < ss.length → bs.getD i [] = rcr safe ss dirt keep i) : crashS ss e keep (dirtyL ss.length e) (dirtyL ss.length e).length = bs := by
  refine List.ext_getElem (by rw [crashS_length, hl]) fun i h1 h2 => ?_
  have h3 := crash_pre T keep ss.length (Nat.le_refl _) i (by omega)
  rw [if_pos (by omega), ← hb i (by omega), List.getD_eq_getElem?_getD, List.getD_eq_getElem?_getD, List.getElem?_eq_getElem h1, List.getElem?_eq_getElem h2] at h3
  exact h3
end
/-- what Write leaves on both sides -/
def DPost (F : Nat → Prop) (w : World) (s : Nat) (ss : List (List UInt8)) (e : Nat → Option (List UInt8)) (fuse : Int) (dead : Bool) (k : Int) (en : Ending) (w' : World) : Prop := en = .returned (.int .i64 k) ∧ Chg F w w' ∧ Dsk F w' s ss e fuse dead
section
variable {Fd Fr G : Nat → Prop} {w : World} {s m k : Nat} {ss : List (List UInt8)} {e : Nat → Option (List UInt8)} {fuse : Int} {dead : Bool} {safe : List (List UInt8)} {dirt : List Bool} {has : Bool} {left : Int}
theorem both_write (T : Tie k ss e fuse safe dirt has left) (hk : k ≤ 30) (hd : Dsk Fd w s ss e fuse dead) (hr : RDsk Fr w m safe ss dirt has left dead) (i : Int) (A : Option Addr) (c : Nat) (bs : List UInt8) (hb : BysIn G w A bs) (hG : Lt G w) (hGd : ∀ j, G j → ¬ Fd j) (hGr : ∀ j, G j → ¬ Fr j) :
    ∃ code ss' e' fuse' dead' safe' dirt' left', Tie (k + 1) ss' e' fuse' safe' dirt' has left' ∧ Calls Try.prog 9 #[.pointer (some ⟨s, 0, none⟩), .int .i64 i, .slice A bs.length c] w (DPost Fd w s ss' e' fuse' dead' code) ∧
      ∀ w1, RDsk Fr w1 m safe ss dirt has left dead → BysIn G w1 A bs → Lt G w1 → Calls Try.prog 19 #[.pointer (some ⟨m, 0, none⟩), .int .i64 i, .slice A bs.length c] w1 (RWrPost Fr w1 m safe' ss' dirt' has left' dead' code) := by
  have hlo := T.lo
  have hhi := T.hi
  by_cases hc : chkE dead ss.length i = 0
  · have hdf : dead = false := by
      cases dead
      · rfl
      · unfold chkE at hc; rw [if_pos rfl] at hc; omega
    subst hdf
    have hin : 0 ≤ i ∧ i < ss.length := by
      unfold chkE at hc
      rw [if_neg (by simp)] at hc
      by_cases h1 : i < 0
      · rw [if_pos h1] at hc; omega
      · rw [if_neg h1] at hc
        by_cases h2 : (ss.length : Int) ≤ i
        · rw [if_pos h2] at hc; omega
        · omega
    obtain ⟨j, rfl⟩ : ∃ j : Nat, i = (j : Int) := ⟨i.toNat, by omega⟩
    have hj : j < ss.length := by omega
    by_cases hl : 64 < bs.length
    · refine ⟨7, ss, e, fuse, false, safe, dirt, left, T.next, (write_long hd j hj A bs.length c hl).mono ?_, fun w1 h1 _ _ => ?_⟩
      · rintro en w' ⟨rfl, rfl⟩; exact ⟨rfl, Chg.refl _ _, hd⟩
      · obtain ⟨gs, gl, gd, cS, cL, cD, h1'⟩ := h1
        refine (rwrite_long h1' j hj A bs.length c hl).mono ?_
        rintro en w' ⟨rfl, rfl⟩; exact ⟨rfl, Chg.refl _ _, Fr, h1'.rdsk, fun i hi => .inl hi⟩
    · by_cases hf : fuse = 0
      · obtain ⟨rfl, rfl⟩ := T.burnt.1 hf
        subst hf
        refine ⟨12, ss, e, 0, true, safe, dirt, 0, T.next, write_burnt hd j hj A bs.length c (by omega), fun w1 h1 _ _ => ?_⟩
        obtain ⟨gs, gl, gd, cS, cL, cD, h1'⟩ := h1
        exact rwrite_burnt h1' j hj A bs.length c (by omega)
      · have hno : ¬ (has = true ∧ left = 0) := fun h => hf (T.burnt.2 h)
        obtain ⟨f1, f2⟩ := T.fuse_lo
        refine ⟨0, _, _, _, false, _, _, _, T.write hf hj (padS bs), write_ok hd f1 f2 hf j hj A c bs hb hG hGd (by omega), fun w1 h1 h2 h3 => ?_⟩
        obtain ⟨gs, gl, gd, cS, cL, cD, h1'⟩ := h1
        exact rwrite_ok h1' (by omega) hhi hno j hj A c bs h2 h3 hGr (by omega)
  · refine ⟨chkE dead ss.length i, ss, e, fuse, dead, safe, dirt, left, T.next, (write_err hd i _ rfl hc A bs.length c).mono ?_, fun w1 h1 _ _ => ?_⟩
    · rintro en w' ⟨rfl, rfl⟩; exact ⟨rfl, Chg.refl _ _, hd⟩
    · obtain ⟨gs, gl, gd, cS, cL, cD, h1'⟩ := h1
      refine (rwrite_err h1' i _ rfl hc A bs.length c).mono ?_
      rintro en w' ⟨rfl, rfl⟩; exact ⟨rfl, Chg.refl _ _, Fr, h1'.rdsk, fun i hi => .inl hi⟩
theorem both_sync (T : Tie k ss e fuse safe dirt has left) (hk : k ≤ 30) (hd : Dsk Fd w s ss e fuse dead) :
    ∃ code ss' e' fuse' dead' safe' dirt' left', Tie (k + 1) ss' e' fuse' safe' dirt' has left' ∧ Calls Try.prog 14 #[.pointer (some ⟨s, 0, none⟩)] w (DPost Fd w s ss' e' fuse' dead' code) ∧
      ∀ w1, RDsk Fr w1 m safe ss dirt has left dead → Calls Try.prog 21 #[.pointer (some ⟨m, 0, none⟩)] w1 (RWrPost Fr w1 m safe' ss' dirt' has left' dead' code) := by
  have hlo := T.lo
  have hhi := T.hi
  cases dead with
  | true =>
    refine ⟨12, ss, e, fuse, true, safe, dirt, left, T.next, (sync_dead hd).mono ?_, fun w1 h1 => ?_⟩
    · rintro en w' ⟨rfl, rfl⟩; exact ⟨rfl, Chg.refl _ _, hd⟩
    · obtain ⟨gs, gl, gd, cS, cL, cD, h1'⟩ := h1
      refine (rsync_dead h1').mono ?_
      rintro en w' ⟨rfl, rfl⟩; exact ⟨rfl, Chg.refl _ _, Fr, h1'.rdsk, fun i hi => .inl hi⟩
  | false =>
    by_cases hf : fuse = 0
    · obtain ⟨rfl, rfl⟩ := T.burnt.1 hf
      subst hf
      refine ⟨12, ss, e, 0, true, safe, dirt, 0, T.next, sync_burnt hd, fun w1 h1 => ?_⟩
      obtain ⟨gs, gl, gd, cS, cL, cD, h1'⟩ := h1
      exact rsync_burnt h1'
    · have hno : ¬ (has = true ∧ left = 0) := fun h => hf (T.burnt.2 h)
      obtain ⟨f1, f2⟩ := T.fuse_lo
      refine ⟨0, _, _, _, false, _, _, _, T.sync hf, sync_ok hd f1 f2 hf, fun w1 h1 => ?_⟩
      obtain ⟨gs, gl, gd, cS, cL, cD, h1'⟩ := h1
      exact rsync_ok h1' (by omega) hhi hno
end
end Go.Proofs.Ytcmchnddnglnfaa
