/-
  The reference: burn, Fuse, Dirty, Read.
-/
import Derived.Test.YtcmchnddnglnfaaRDef
namespace Go.Proofs.Ytcmchnddnglnfaa
open Go.RowKit
set_option linter.unusedVariables false
set_option linter.unusedSimpArgs false

section
variable {F G M : Nat → Prop} {w w' : World} {m gs gl gd cS cL cD : Nat} {safe last : List (List UInt8)} {dirt : List Bool} {has : Bool} {left : Int} {gone : Bool}
/-- the reference's burn: does the disk live on, what is left -/
def RBurnPost (F : Nat → Prop) (w : World) (m gs gl gd cS cL cD : Nat) (safe last : List (List UInt8)) (dirt : List Bool) (has : Bool) (left : Int) (en : Ending) (w' : World) : Prop :=
  Chg (fun i => i = m) w w' ∧ ((has = true ∧ left = 0 ∧ en = .returned (.bool false) ∧ RDat F w' m gs gl gd cS cL cD safe last dirt has left true) ∨ (¬ (has = true ∧ left = 0) ∧ en = .returned (.bool true) ∧ RDat F w' m gs gl gd cS cL cD safe last dirt has (left - 1) false))
theorem rburn_any (h : RDat F w m gs gl gd cS cL cD safe last dirt has left false) (h1 : -1000 ≤ left) (h2 : left ≤ 9223372036854775807) : Calls Try.prog 31 #[.pointer (some ⟨m, 0, none⟩)] w (RBurnPost F w m gs gl gd cS cL cD safe last dirt has left) := by
  obtain ⟨c0, c1, c2, c3, c4, c5⟩ := h.cells
  have hfz4 := h.box.frozen 4
  have hfz5 := h.box.frozen 5
  have HG := hide (h.setGone true)
  have HL := hide (h.setLeft (left - 1))
  have HC4 : Hid (Chg (fun i => i = m) w (w.setCell ⟨m, 4, none⟩ (.int .i64 (left - 1)))) := Chg.set1 w m 4 _
  have HC5 : Hid (Chg (fun i => i = m) w (w.setCell ⟨m, 5, none⟩ (.bool true))) := Chg.set1 w m 5 _
  clear h c0 c1 c2
  cases has with
  | false =>
    go_enter Try.func31, Try.ntmps31
    go_wp2_with fail
    go_ret
    exact ⟨HC4.out, .inr ⟨fun h => (by cases h.1), rfl, HL.out⟩⟩
  | true =>
    by_cases h0 : left = 0
    · subst h0
      go_enter Try.func31, Try.ntmps31
      go_wp2_with fail
      go_ret
      exact ⟨HC5.out, .inl ⟨rfl, rfl, rfl, HG.out⟩⟩
    · have t1 : (left == 0) = false := beq_eq_false_iff_ne.2 h0
      go_enter Try.func31, Try.ntmps31
      go_wp2_with fail
      go_ret
      exact ⟨HC4.out, .inr ⟨fun h => h0 h.2, rfl, HL.out⟩⟩
theorem rfuse_any (h : RDat F w m gs gl gd cS cL cD safe last dirt has left gone) (k : Int) : Calls Try.prog 23 #[.pointer (some ⟨m, 0, none⟩), .int .i64 k] w fun en w' => en = .returned (.tuple #[]) ∧ Chg (fun i => i = m) w w' ∧ RDat F w' m gs gl gd cS cL cD safe last dirt (decide (0 ≤ k)) (max k 0) gone := by
  have hfz3 := h.box.frozen 3
  have HA := hide ((h.setHas (decide (0 ≤ k))).setLeft (max k 0))
  have HC : Hid (Chg (fun i => i = m) w ((w.setCell ⟨m, 3, none⟩ (.bool (decide (0 ≤ k)))).setCell ⟨m, 4, none⟩ (.int .i64 (max k 0)))) := (Chg.set1 w m 3 _).setCell (fun _ => rfl) 4 _
  have hfz4 := h.box.frozen 4
  obtain ⟨c0, c1, c2, c3, c4, c5⟩ := h.cells
  have hfz4' := (h.setHas (decide (0 ≤ k))).box.frozen 4
  have c4' := (h.setHas (decide (0 ≤ k))).cells.2.2.2.2.1
  clear h c0 c1 c2
  by_cases hk : 0 ≤ k
  · have e1 : max k 0 = k := by omega
    have e2 : decide (0 ≤ k) = true := decide_eq_true hk
    rw [e2] at HA HC
    rw [e2] at c4' hfz4'
    rw [e2]
    go_enter Try.func23, Try.ntmps23
    go_wp2_with fail
    go_end0
    have e1 : max k 0 = k := by omega
    rw [e1] at HC HA
    rw [e1]
    exact ⟨rfl, HC.out, HA.out⟩
  · have e1 : max k 0 = 0 := by omega
    have e2 : decide (0 ≤ k) = false := decide_eq_false hk
    have hk' : k < 0 := by omega
    rw [e2] at HA HC
    rw [e2] at c4' hfz4'
    rw [e2]
    go_enter Try.func23, Try.ntmps23
    go_wp2_with fail
    go_end0
    have e1 : max k 0 = 0 := by omega
    rw [e1] at HC HA
    try rw [e1]
    exact ⟨rfl, HC.out, HA.out⟩
/-- the number of dirty sectors -/
def trueN (ds : List Bool) : Nat := (ds.filter id).length
theorem trueN_take (ds : List Bool) {k : Nat} (hk : k < ds.length) : trueN (ds.take (k + 1)) = trueN (ds.take k) + (if ds.getD k false then 1 else 0) := by
  unfold trueN
  rw [List.take_add_one, List.filter_append, List.length_append, List.getElem?_eq_getElem hk, List.getD_eq_getElem?_getD, List.getElem?_eq_getElem hk]
  cases ds[k] <;> rfl
set_option maxHeartbeats 1600000 in
theorem rdirty_any (h : RDat F w m gs gl gd cS cL cD safe last dirt has left gone) : Calls Try.prog 32 #[.pointer (some ⟨m, 0, none⟩)] w fun en w' => en = .returned (.int .i64 (trueN dirt : Nat)) ∧ w = w' := by
  obtain ⟨c0, c1, c2, c3, c4, c5⟩ := h.cells
  have hmo := h.most
  have HD := hide h.bools
  have hld := h.lend
  have HTT : Hid (∀ k, k < dirt.length → trueN (dirt.take (k + 1)) = trueN (dirt.take k) + (if dirt.getD k false then 1 else 0)) := fun k hk => trueN_take dirt hk
  clear h c0 c1 c3 c4 c5
  rw [← hld] at c2 hmo
  clear hld
  go_enter Try.func32, Try.ntmps32
  go_wp2_with fail
  go_loopw [3, 11] (fun v i wr => ∃ k : Nat, k ≤ dirt.length ∧ i = .int .i64 k ∧ ∃ t : Nat, t ≤ k ∧ v = .int .i64 t ∧ Hid (t = trueN (dirt.take k)) ∧ wr = w) (fun _ i _ => dirt.length - (iOf i).toNat)
  case atStart => exact ⟨0, by omega, rfl, 0, by omega, rfl, rfl, rfl⟩
  case round =>
    obtain ⟨k, hk, rfl, t, ht, rfl, HT, rfl⟩ := hrel
    by_cases hlt : k < dirt.length
    · have q := HD.out.cell hlt
      have HTk := hide (HTT.out k hlt)
      cases hb : dirt.getD k false with
      | true =>
        have HT' : Hid (t + 1 = trueN (dirt.take (k + 1))) := by have h1 := HTk.out; rw [hb] at h1; have h2 := HT.out; rw [Hid, h1, h2]; rfl
        rw [hb] at q
        clear hb
        go_wp2_with fail
        go_roundw
        case rel => exact ⟨k + 1, by omega, by go_num, t + 1, by omega, by go_num, HT', by first | rfl | trivial⟩
        case measure => simp [iOf]; omega
      | false =>
        have HT' : Hid (t = trueN (dirt.take (k + 1))) := by have h1 := HTk.out; rw [hb] at h1; have h2 := HT.out; rw [Hid, h1, h2]; rfl
        rw [hb] at q
        clear hb
        go_wp2_with fail
        go_roundw
        case rel => exact ⟨k + 1, by omega, by go_num, t, by omega, by go_num, HT', by first | rfl | trivial⟩
        case measure => simp [iOf]; omega
    · obtain rfl : k = dirt.length := by omega
      go_wp2_with fail
      go_ret
      exact ⟨by rw [show trueN dirt = t by have h := HT.out; rw [List.take_length] at h; exact h.symm]; rfl, rfl⟩
theorem rread_ok (h : RDat F w m gs gl gd cS cL cD safe last dirt has left false) (i : Nat) (hi : i < last.length) : Calls Try.prog 20 #[.pointer (some ⟨m, 0, none⟩), .int .i64 (i : Int)] w fun en w' => w = w' ∧ ∃ A c, en = .returned (.tuple #[.slice A 64 c, .int .i64 0]) ∧ (last.getD i []).length = 64 ∧ BysIn F w A (last.getD i []) := by
  obtain ⟨c0, c1, c2, c3, c4, c5⟩ := h.cells
  obtain ⟨hl, A, c, q, hc, hb⟩ := h.rowsL.at_ hi
  have HB := hide hb
  have hmo := h.most
  clear h hb c0 c2 c3 c4
  go_enter Try.func20, Try.ntmps20
  go_wp2_with fail
  go_ret2
  exact ⟨rfl, A, c, rfl, hl, HB.out.mono fun i hi => hi.1⟩
theorem rread_err (h : RDat F w m gs gl gd cS cL cD safe last dirt has left gone) (i : Int) (k : Int) (hk : chkE gone last.length i = k) (hk0 : k ≠ 0) : Calls Try.prog 20 #[.pointer (some ⟨m, 0, none⟩), .int .i64 i] w fun en w' => en = .returned (.tuple #[.slice none 0 0, .int .i64 k]) ∧ w = w' := by
  obtain ⟨c0, c1, c2, c3, c4, c5⟩ := h.cells
  have hmo := h.most
  clear h c0 c2 c3 c4
  unfold chkE at hk
  cases gone with
  | true =>
    rw [if_pos rfl] at hk
    subst hk
    go_enter Try.func20, Try.ntmps20
    go_wp2_with fail
    go_ret2
    exact ⟨rfl, rfl⟩
  | false =>
    rw [if_neg (by simp)] at hk
    by_cases h1 : i < 0
    · rw [if_pos h1] at hk
      subst hk
      have t1 : decide (i < 0) = true := decide_eq_true h1
      go_enter Try.func20, Try.ntmps20
      go_wp2_with fail
      go_ret2
      exact ⟨rfl, rfl⟩
    · rw [if_neg h1] at hk
      have t1 : decide (i < 0) = false := decide_eq_false h1
      have q1 : 0 ≤ i := by omega
      by_cases h2 : (last.length : Int) ≤ i
      · rw [if_pos h2] at hk
        subst hk
        have t2 : decide ((last.length : Int) ≤ i) = true := decide_eq_true h2
        go_enter Try.func20, Try.ntmps20
        go_wp2_with fail
        go_ret2
        exact ⟨rfl, rfl⟩
      · rw [if_neg h2] at hk
        exact absurd hk.symm hk0
end
end Go.Proofs.Ytcmchnddnglnfaa
