/-
  The disk in memory; New and the small functions.
-/
import Derived.Test.YtlelkhonkhlflaaDoorOps
import Derived.BigRegion
import Derived.Deep.DrawnRows
namespace Go.Proofs.YtlelkhonkhlflaaDoor
open Go.RowKit
set_option linter.unusedVariables false
set_option linter.unusedSimpArgs false

/-- block s is a disk: its sectors, the safe contents of the dirty ones, the fuse -/
structure Dsk (F : Nat → Prop) (w : World) (s : Nat) (ss : List (List UInt8)) (e : Nat → Option (List UInt8)) (fuse : Int) (dead : Bool) : Prop where
  box : ∃ g mb, Box w s 68 #[.slice (some ⟨g, 0, none⟩) ss.length ss.length, .map (some mb), .int .i64 fuse, .bool dead] ∧ Secs w g ss ∧ SafeM w mb ss.length e ∧ F g ∧ F mb ∧ s ≠ g ∧ s ≠ mb ∧ g ≠ mb
  mem : F s
  lt : Lt F w
  some_ : 1 ≤ ss.length
  most : ss.length ≤ 4096
section
variable {F G M : Nat → Prop} {w w' : World} {s : Nat} {ss : List (List UInt8)} {e : Nat → Option (List UInt8)} {fuse : Int} {dead : Bool}
theorem Dsk.agree (h : Dsk F w s ss e fuse dead) (ha : Agree F w w') (hl : w.heap.size ≤ w'.heap.size) : Dsk F w' s ss e fuse dead := by
  obtain ⟨g, mb, h1, h2, h3, h4, h5, h6⟩ := h.box
  exact ⟨⟨g, mb, h1.agree ha h.mem, h2.of_eq (ha g h4), h3.of_eq (ha mb h5), h4, h5, h6⟩, h.mem, h.lt.size hl, h.some_, h.most⟩
theorem Dsk.chg (h : Dsk F w s ss e fuse dead) (hc : Chg M w w') (hs : ∀ i, F i → ¬ M i) : Dsk F w' s ss e fuse dead := h.agree (Agree.of_chg hc h.lt hs) hc.size
theorem Dsk.kept (h : Dsk F w s ss e fuse dead) (hb : Below w.heap.size w w') : Dsk F w' s ss e fuse dead := h.agree (Agree.of_below hb h.lt) hb.size
theorem Dsk.mono (h : Dsk F w s ss e fuse dead) (hs : ∀ i, F i → G i) (hl : Lt G w) : Dsk G w s ss e fuse dead := by
  obtain ⟨g, mb, h1, h2, h3, h4, h5, h6⟩ := h.box
  exact ⟨⟨g, mb, h1, h2, h3, hs g h4, hs mb h5, h6⟩, hs s h.mem, hl, h.some_, h.most⟩
theorem Dsk.here (h : Dsk F w s ss e fuse dead) : s < w.heap.size := h.lt s h.mem
/-- what the walks read -/
theorem Dsk.cells (h : Dsk F w s ss e fuse dead) : ∃ g mb, w.cell? ⟨s, 0, none⟩ = some (.slice (some ⟨g, 0, none⟩) ss.length ss.length) ∧ w.cell? ⟨s, 1, none⟩ = some (.map (some mb)) ∧ w.cell? ⟨s, 2, none⟩ = some (.int .i64 fuse) ∧ w.cell? ⟨s, 3, none⟩ = some (.bool dead) ∧
    (∀ i, w.frozen? ⟨s, i, none⟩ = false) ∧ Secs w g ss ∧ SafeM w mb ss.length e ∧ F g ∧ F mb ∧ s ≠ g ∧ s ≠ mb ∧ g ≠ mb := by
  obtain ⟨g, mb, h1, h2, h3, h4⟩ := h.box
  exact ⟨g, mb, h1.cell 0, h1.cell 1, h1.cell 2, h1.cell 3, fun i => h1.frozen i, h2, h3, h4⟩
/-- the fuse is set -/
theorem Dsk.setFuse (h : Dsk F w s ss e fuse dead) (f : Int) : Dsk F (w.setCell ⟨s, 2, none⟩ (.int .i64 f)) s ss e f dead := by
  obtain ⟨g, mb, h1, h2, h3, h4, h5, h6, h7, h8⟩ := h.box
  refine ⟨⟨g, mb, ?_, h2.of_eq (Below.heap_setCell _ _ _ _ (Ne.symm h6)), h3.of_eq (Below.heap_setCell _ _ _ _ (Ne.symm h7)), h4, h5, h6, h7, h8⟩, h.mem, fun i hi => by simpa [World.setCell] using h.lt i hi, h.some_, h.most⟩
  exact (h1.set 2 _)
theorem Dsk.setDead (h : Dsk F w s ss e fuse dead) (d : Bool) : Dsk F (w.setCell ⟨s, 3, none⟩ (.bool d)) s ss e fuse d := by
  obtain ⟨g, mb, h1, h2, h3, h4, h5, h6, h7, h8⟩ := h.box
  refine ⟨⟨g, mb, ?_, h2.of_eq (Below.heap_setCell _ _ _ _ (Ne.symm h6)), h3.of_eq (Below.heap_setCell _ _ _ _ (Ne.symm h7)), h4, h5, h6, h7, h8⟩, h.mem, fun i hi => by simpa [World.setCell] using h.lt i hi, h.some_, h.most⟩
  exact (h1.set 3 _)
end

/-- a new disk -/
def NewDsk (w : World) (ss : List (List UInt8)) (e : Ending) (w' : World) : Prop :=
  ∃ s, e = .returned (.pointer (some ⟨s, 0, none⟩)) ∧ Below w.heap.size w w' ∧ Dsk (fun i => w.heap.size ≤ i ∧ i < w'.heap.size) w' s ss (fun _ => none) (-1) false
theorem new_dsk (w : World) (n : Nat) (h1 : 1 ≤ n) (h2 : n ≤ 4096) : NewDsk w (List.replicate n zeroS) (.returned (.pointer (some ⟨w.heap.size + 1 + 1, 0, none⟩)))
    (((w.alloc (.cells (secA (List.replicate n zeroS).flatten) 75)).alloc (.map #[] 0)).alloc (.cells #[.slice (some ⟨w.heap.size, 0, none⟩) n n, .map (some (w.heap.size + 1)), .int .i64 (-1), .bool false] 68)) := by
  obtain ⟨w1, hw1⟩ : ∃ w1, w1 = w.alloc (.cells (secA (List.replicate n zeroS).flatten) 75) := ⟨_, rfl⟩
  have hs1 : w1.heap.size = w.heap.size + 1 := by rw [hw1]; simp
  have hS := Secs.new w n
  rw [← hw1] at hS ⊢
  have hS2 := hS.kept ((Below.refl _ _).alloc (Nat.le_refl _) (.map #[] 0))
  have hM := SafeM.new w1 n
  obtain ⟨w2, hw2⟩ : ∃ w2, w2 = w1.alloc (.map #[] 0) := ⟨_, rfl⟩
  have hs2 : w2.heap.size = w.heap.size + 1 + 1 := by rw [hw2]; simp [hs1]
  rw [← hw2] at hM hS2 ⊢
  rw [hs1] at hM
  have hb : Below w2.heap.size w2 (w2.alloc (.cells #[.slice (some ⟨w.heap.size, 0, none⟩) n n, .map (some (w.heap.size + 1)), .int .i64 (-1), .bool false] 68)) := (Below.refl _ _).alloc (Nat.le_refl _) _
  have hB2 : Below w.heap.size w w2 := by rw [hw2, hw1]; exact ((Below.refl _ _).alloc (Nat.le_refl _) _).alloc (by simp) _
  have hlen : (List.replicate n zeroS).length = n := List.length_replicate ..
  refine ⟨w.heap.size + 1 + 1, rfl, hB2.alloc (by omega) _, ⟨⟨w.heap.size, w.heap.size + 1, ?_, hS2.kept hb, ?_, ⟨Nat.le_refl _, by simp; omega⟩, ⟨by omega, by simp; omega⟩, by omega, by omega, by omega⟩, ⟨by omega, by simp; omega⟩, fun i hi => hi.2, by rw [hlen]; exact h1, by rw [hlen]; exact h2⟩⟩
  · rw [hlen, ← hs2]
    exact Box.new _ _ _
  · rw [hlen]
    exact hM.of_eq (hb.block _ hM.lt)
set_option maxHeartbeats 1600000 in
set_option maxRecDepth 100000 in
theorem new_ok (n : Nat) (w : World) (h1 : 1 ≤ n) (h2 : n ≤ 4096) : Calls Tryd.prog 23 #[.int .i64 (n : Int)] w (NewDsk w (List.replicate n zeroS)) := by
  have hmm := @run_makeMap Tryd.prog
  have HND := hide (new_dsk w n h1 h2)
  have HRM := hide (run_makeSecs w n h2)
  have t1 : decide ((n : Int) < 1) = false := decide_eq_false (by omega)
  have t2 : decide ((4096 : Int) < (n : Int)) = false := decide_eq_false (by omega)
  obtain ⟨SA, hSA⟩ : ∃ SA, SA = secA (List.replicate n zeroS).flatten := ⟨_, rfl⟩
  rw [← hSA] at HND HRM
  generalize List.replicate n zeroS = ss at HND hSA ⊢
  clear hSA
  go_enter Tryd.func23, Tryd.ntmps23
  go_wp2_with (refine wpList_gives (o := ⟨some 10, _, _, _, _, _⟩) rfl (gives_make rfl rfl rfl HRM.out) ?_)
  go_ret
  exact HND.out
theorem new_no (n : Int) (w : World) (h : ¬ (1 ≤ n ∧ n ≤ 4096)) : Calls Tryd.prog 23 #[.int .i64 n] w fun e w' => e = .returned (.pointer none) ∧ Below w.heap.size w w' := by
  by_cases h1 : n < 1
  · have t1 : decide (n < 1) = true := decide_eq_true h1
    go_enter Tryd.func23, Tryd.ntmps23
    go_wp2_with fail
    go_ret
    exact ⟨rfl, Below.refl _ _⟩
  · have t1 : decide (n < 1) = false := decide_eq_false h1
    have t2 : decide ((4096 : Int) < n) = true := decide_eq_true (by omega)
    go_enter Tryd.func23, Tryd.ntmps23
    go_wp2_with fail
    go_ret
    exact ⟨rfl, Below.refl _ _⟩
section
variable {F : Nat → Prop} {w : World} {s : Nat} {ss : List (List UInt8)} {e : Nat → Option (List UInt8)} {fuse : Int} {dead : Bool}
theorem sectors_any (h : Dsk F w s ss e fuse dead) : Calls Tryd.prog 37 #[.pointer (some ⟨s, 0, none⟩)] w fun e w' => e = .returned (.int .i64 (ss.length : Nat)) ∧ w = w' := by
  obtain ⟨g, mb, c0, _⟩ := h.cells
  go_enter Tryd.func37, Tryd.ntmps37
  go_wp2_with fail
  go_ret
  exact ⟨rfl, rfl⟩
theorem sectors_nil (w : World) : Calls Tryd.prog 37 #[.pointer none] w fun e w' => e = .returned (.int .i64 0) ∧ w = w' := by
  go_enter Tryd.func37, Tryd.ntmps37
  go_wp2_with fail
  go_ret
  exact ⟨rfl, rfl⟩
theorem dead_any (h : Dsk F w s ss e fuse dead) : Calls Tryd.prog 15 #[.pointer (some ⟨s, 0, none⟩)] w fun e w' => e = .returned (.bool dead) ∧ w = w' := by
  obtain ⟨g, mb, c0, c1, c2, c3, _⟩ := h.cells
  go_enter Tryd.func15, Tryd.ntmps15
  go_wp2_with fail
  go_ret
  exact ⟨rfl, rfl⟩
theorem dead_nil (w : World) : Calls Tryd.prog 15 #[.pointer none] w fun e w' => e = .returned (.bool true) ∧ w = w' := by
  go_enter Tryd.func15, Tryd.ntmps15
  go_wp2_with fail
  go_ret
  exact ⟨rfl, rfl⟩
theorem check_nil (i : Int) (w : World) : Calls Tryd.prog 40 #[.pointer none, .int .i64 i] w fun e w' => e = .returned (.int .i64 12) ∧ w = w' := by
  go_enter Tryd.func40, Tryd.ntmps40
  go_wp2_with fail
  go_ret
  exact ⟨rfl, rfl⟩
/-- the error of reading or writing a sector -/
def chkE (dead : Bool) (n : Nat) (i : Int) : Int := if dead then 12 else if i < 0 then 4 else if (n : Int) ≤ i then 4 else 0
theorem check_any (h : Dsk F w s ss e fuse dead) (i : Int) : Calls Tryd.prog 40 #[.pointer (some ⟨s, 0, none⟩), .int .i64 i] w fun en w' => en = .returned (.int .i64 (chkE dead ss.length i)) ∧ w = w' := by
  obtain ⟨g, mb, c0, c1, c2, c3, _⟩ := h.cells
  have hmo := h.most
  unfold chkE
  cases dead with
  | true =>
    go_enter Tryd.func40, Tryd.ntmps40
    go_wp2_with fail
    go_ret
    exact ⟨rfl, rfl⟩
  | false =>
    by_cases h1 : i < 0
    · rw [if_neg (by simp), if_pos h1]
      have t1 : decide (i < 0) = true := decide_eq_true h1
      go_enter Tryd.func40, Tryd.ntmps40
      go_wp2_with fail
      go_ret
      exact ⟨rfl, rfl⟩
    · have t1 : decide (i < 0) = false := decide_eq_false h1
      have q1 : 0 ≤ i := by omega
      rw [if_neg (by simp), if_neg h1]
      by_cases h2 : (ss.length : Int) ≤ i
      · have t2 : decide ((ss.length : Int) ≤ i) = true := decide_eq_true h2
        rw [if_pos h2]
        go_enter Tryd.func40, Tryd.ntmps40
        go_wp2_with fail
        go_ret
        exact ⟨rfl, rfl⟩
      · have t2 : decide ((ss.length : Int) ≤ i) = false := decide_eq_false h2
        rw [if_neg h2]
        go_enter Tryd.func40, Tryd.ntmps40
        go_wp2_with fail
        go_ret
        exact ⟨rfl, rfl⟩
/-- the fuse is shortened -/
def burnF (fuse : Int) : Int := if 0 < fuse then fuse - 1 else fuse
def BurnPost (F : Nat → Prop) (w : World) (s : Nat) (ss : List (List UInt8)) (e : Nat → Option (List UInt8)) (fuse : Int) (en : Ending) (w' : World) : Prop :=
  en = .returned (.bool (decide (fuse = 0))) ∧ Chg (fun i => i = s) w w' ∧ Dsk F w' s ss e (burnF fuse) (decide (fuse = 0))
theorem burn_any (h : Dsk F w s ss e fuse false) (h1 : -1 ≤ fuse) (h2 : fuse ≤ 9223372036854775807) : Calls Tryd.prog 38 #[.pointer (some ⟨s, 0, none⟩)] w (BurnPost F w s ss e fuse) := by
  obtain ⟨g, mb, c0, c1, c2, c3, hf, _⟩ := h.cells
  have hfz := hf 2
  have hfz3 := hf 3
  have hlt := h.here
  have H := hide h
  clear h hf c0 c1
  rcases (show fuse = 0 ∨ 0 < fuse ∨ fuse < 0 by omega) with h0 | h0 | h0
  · have hd := H.out.setDead true
    have HC : Hid (Chg (fun i => i = s) w (w.setCell ⟨s, 3, none⟩ (.bool true))) := Chg.set1 w s 3 _
    have hc2 : (w.setCell ⟨s, 3, none⟩ (.bool true)).cell? ⟨s, 2, none⟩ = some (.int .i64 fuse) := by rw [World.cell?_setCell_other _ _ _ _ (by simp)]; exact c2
    subst h0
    have HD := hide hd
    clear hd
    go_enter Tryd.func38, Tryd.ntmps38
    go_wp2_with fail
    go_ret
    exact ⟨rfl, HC.out, HD.out⟩
  · have HD := hide (H.out.setFuse (fuse - 1))
    have HC : Hid (Chg (fun i => i = s) w (w.setCell ⟨s, 2, none⟩ (.int .i64 (fuse - 1)))) := Chg.set1 w s 2 _
    have t1 : (fuse == 0) = false := beq_eq_false_iff_ne.2 (by omega)
    have t2 : decide (0 < fuse) = true := decide_eq_true h0
    have q : (0 : Int) ≤ fuse - 1 := by omega
    have e1 : Hid (burnF fuse = fuse - 1) := by unfold burnF; rw [Hid, if_pos h0]
    have e2 : Hid (decide (fuse = 0) = false) := decide_eq_false (by omega)
    go_enter Tryd.func38, Tryd.ntmps38
    go_wp2_with fail
    go_ret
    unfold BurnPost
    rw [e1.out, e2.out]
    exact ⟨rfl, HC.out, HD.out⟩
  · have t1 : (fuse == 0) = false := beq_eq_false_iff_ne.2 (by omega)
    have t2 : decide (0 < fuse) = false := decide_eq_false (by omega)
    have e1 : Hid (burnF fuse = fuse) := by unfold burnF; rw [Hid, if_neg (by omega)]
    have e2 : Hid (decide (fuse = 0) = false) := decide_eq_false (by omega)
    go_enter Tryd.func38, Tryd.ntmps38
    go_wp2_with fail
    go_ret
    unfold BurnPost
    rw [e1.out, e2.out]
    exact ⟨rfl, Chg.refl _ _, H.out⟩
theorem fuse_any (h : Dsk F w s ss e fuse dead) (k : Int) : Calls Tryd.prog 14 #[.pointer (some ⟨s, 0, none⟩), .int .i64 k] w fun en w' => en = .returned (.tuple #[]) ∧ Chg (fun i => i = s) w w' ∧ Dsk F w' s ss e (max k (-1)) dead := by
  obtain ⟨g, mb, c0, c1, c2, c3, hf, _⟩ := h.cells
  have hfz := hf 2
  by_cases hk : k < -1
  · have e1 : max k (-1) = -1 := by omega
    rw [e1]
    have HD := hide (h.setFuse (-1))
    have HC : Hid (Chg (fun i => i = s) w (w.setCell ⟨s, 2, none⟩ (.int .i64 (-1)))) := Chg.set1 w s 2 _
    clear h hf c0 c1 c3 e1
    go_enter Tryd.func14, Tryd.ntmps14
    go_wp2_with fail
    go_end0
    exact ⟨rfl, HC.out, HD.out⟩
  · have e1 : max k (-1) = k := by omega
    rw [e1]
    have HD := hide (h.setFuse k)
    have HC : Hid (Chg (fun i => i = s) w (w.setCell ⟨s, 2, none⟩ (.int .i64 k))) := Chg.set1 w s 2 _
    clear h hf c0 c1 c3 e1
    go_enter Tryd.func14, Tryd.ntmps14
    go_wp2_with fail
    go_end0
    exact ⟨rfl, HC.out, HD.out⟩
end
end Go.Proofs.YtlelkhonkhlflaaDoor
