/-
  Fresh; a journal in order, and what Append and Open make of it.
-/
import Derived.Test.YtlelkhonkhlflaaDoorJplain
namespace Go.Proofs.YtlelkhonkhlflaaDoor
open Go.RowKit
set_option linter.unusedVariables false
set_option linter.unusedSimpArgs false

/-- a journal over its disk, all of it synchronized -/
structure JOk (C : List Nat) (F G : Nat → Prop) (w : World) (j s : Nat) (ss es : List (List UInt8)) : Prop where
  jrn : Jrn F G w j s ss (fun _ => none) (-1) false (lastAt C (shaF C (ss.getD 0 [])) es es.length) es
  disk : OnDisk C ss es
section
variable {C : List Nat} {F G : Nat → Prop} {w w' : World} {j s : Nat} {ss es : List (List UInt8)}
theorem JOk.kept (h : JOk C F G w j s ss es) (hb : Below w.heap.size w w') : JOk C F G w' j s ss es := ⟨h.jrn.kept hb, h.disk⟩
theorem JOk.four (h : JOk C F G w j s ss es) : 4 ≤ ss.length := by have := h.disk.least; omega
def FreshPost (C : List Nat) (w : World) (n : Nat) (en : Ending) (w' : World) : Prop :=
  ∃ s j ss F G, en = .returned (.tuple #[.pointer (some ⟨s, 0, none⟩), .pointer (some ⟨j, 0, none⟩), .bool true]) ∧ JOk C F G w' j s ss [] ∧ ss.length = n ∧ Below w.heap.size w w' ∧ (∀ i, F i → w.heap.size ≤ i) ∧ (∀ i, G i → w.heap.size ≤ i)
set_option maxHeartbeats 1600000 in
set_option maxRecDepth 100000 in
theorem fresh_any {n : Nat} (hK : Kon C w) (h8 : 8 ≤ n) (hn : n ≤ 4096) : Calls Tryd.prog 9 #[.int .i64 (n : Int)] w (FreshPost C w n) := by
  have h0 := hK.some_
  have HN := hide (new_ok n w (by omega) hn)
  have HK := hide hK
  clear hK
  go_enter Tryd.func9, Tryd.ntmps9
  go_wp2_with fail
  refine HN.out.mono ?_
  rintro en w1 ⟨s, rfl, hB1, hD1⟩
  have hs1 := hB1.size
  have hln : (List.replicate n zeroS).length = n := List.length_replicate ..
  have HFM := hide (format_ok hD1 (HK.out.below hB1 h0) (by rw [hln]; exact h8))
  have HB1 := hide hB1
  have HOD := hide (OnDisk.fresh (C := C) h8)
  obtain ⟨ss, hss⟩ : ∃ ss, ss = ((List.replicate n zeroS).set 0 (padS (headB C (List.replicate n zeroS)))).set 4 (padS []) := ⟨_, rfl⟩
  have hsl : ss.length = n := by rw [hss, List.length_set, List.length_set, hln]
  rw [← hss] at HFM HOD
  have HSL := hide hsl
  clear hB1 hD1 hss hsl hln
  go_wp2_with fail
  refine HFM.out.mono ?_
  rintro en w2 ⟨rfl, hC2, hD2⟩
  have hB2 : Below w.heap.size w w2 := HB1.out.trans (hC2.below (fun i hi hF => by omega) hs1)
  have HB2 := hide hB2
  have HOP := hide (open_ok hD2 (HK.out.below hB2 h0) HOD.out)
  clear hC2 hB2 hD2
  go_wp2_with fail
  refine HOP.out.mono ?_
  rintro en w3 ⟨j, G, rfl, hJ3, hB3, hG3⟩
  have hs2 := HB2.out.size
  have HPO : Hid (FreshPost C w n (.returned (.tuple #[.pointer (some ⟨s, 0, none⟩), .pointer (some ⟨j, 0, none⟩), .bool true])) w3) :=
    ⟨s, j, ss, _, G, rfl, ⟨hJ3, HOD.out⟩, HSL.out, HB2.out.trans (hB3.mono hs2), fun i hi => hi.1, fun i hi => by have := hG3 i hi; omega⟩
  clear hJ3 hB3 hG3
  go_wp2_with fail
  go_ret3
  exact HPO.out
theorem append_jok {b off c : Nat} {bs : List UInt8} (h : JOk C F G w j s ss es) (hK : Kon C w) (hk : es.length < capJ ss.length) (hb : Bys w (some ⟨b, off, none⟩) bs) (hbF : ¬ F b) (hbG : ¬ G b) (h1 : 1 ≤ bs.length) (h2 : bs.length ≤ 200) (hc : bs.length ≤ c) :
    Calls Tryd.prog 10 #[.pointer (some ⟨j, 0, none⟩), .slice (some ⟨b, off, none⟩) bs.length c] w fun en w' => en = .returned (.int .i64 0) ∧ ∃ G' ss', JOk C F G' w' j s ss' (es ++ [bs]) ∧ ss'.length = ss.length ∧ Chg (fun i => F i ∨ G i) w w' ∧ ∀ i, G' i → G i ∨ w.heap.size ≤ i := by
  refine (append_ok h.jrn hK h.disk.least hk hb hbF hbG h1 h2 hc).mono ?_
  rintro en w' ⟨rfl, G', M, hM, hM4, hJ, hC, hG⟩
  have hcap : 4 + 4 * es.length + 4 ≤ ss.length := by unfold capJ at hk; omega
  have h0 : (putS ss (4 + 4 * es.length) (recB C (lastAt C (shaF C (ss.getD 0 [])) es es.length) bs) M).getD 0 [] = ss.getD 0 [] := putS_far M (.inl (by omega))
  refine ⟨rfl, G', _, ⟨?_, h.disk.push hk h1 h2 hM hM4⟩, putS_length M, hC, hG⟩
  rw [h0, lastAt_push]
  exact hJ
theorem dirty_none (n : Nat) : dirtyL n (fun _ => none) = [] := by
  unfold dirtyL
  rw [List.filter_eq_nil_iff]
  intro i _
  simp
theorem crash_jok (h : JOk C F G w j s ss es) : Calls Tryd.prog 16 #[.pointer (some ⟨s, 0, none⟩), .slice none 0 0] w (NewDsk w ss) := by
  have h1 := crash_any (Gk := fun _ => False) keys_ok h.jrn.dsk none 0 [] (fun hp => absurd hp (by simp)) (fun i hi => hi.elim) (by simp)
  rw [dirty_none] at h1
  exact h1
def aB : List UInt8 := [97]
theorem conv_a (w : World) : (convert 22 22 (.slice (some ⟨w.heap.size, 0, none⟩) 1 1)).run Tryd.prog (w.alloc (.cells #[.int .u8 97] 5)) = .ok (.slice (some ⟨w.heap.size, 0, none⟩) 1 1) (w.alloc (.cells #[.int .u8 97] 5 (1, 2))) :=
  Lib.run_convert_bytes_const w 22 5 #[.int .u8 97] 1 1 Tryd.underlying22 Tryd.underlying5
theorem bys_a (w : World) : Bys (w.alloc (.cells #[.int .u8 97] 5 (1, 2))) (some ⟨w.heap.size, 0, none⟩) aB := fun _ => ⟨w.heap.size, 0, rfl, by simp, fun k hk => by
  obtain rfl : k = 0 := by have : k < 1 := hk; omega
  exact World.cell?_alloc_mark w _ 5 (1, 2) 0⟩
set_option maxHeartbeats 3200000 in
set_option maxRecDepth 100000 in
theorem awake_any (hK : Kon C w) : Calls Tryd.prog 13 #[] w fun en w' => en = .returned (.bool true) ∧ Below w.heap.size w w' := by
  have h0 := hK.some_
  have HK := hide hK
  have HF := hide (fresh_any (n := 12) hK (by omega) (by omega))
  have hca := conv_a
  clear hK
  go_enter Tryd.func13, Tryd.ntmps13
  go_wp2_with fail
  refine HF.out.mono ?_
  rintro en w1 ⟨s, j, ss, F, G, rfl, hJ1, hsl, hB1, hF1, hG1⟩
  have hs1 := hB1.size
  have hB2 : Below w1.heap.size w1 (w1.alloc (.cells #[.int .u8 97] 5 (1, 2))) := (Below.refl _ _).alloc (Nat.le_refl _) _
  have hcap : capJ ss.length = 2 := by rw [hsl]; rfl
  have HA := hide (append_jok (b := w1.heap.size) (off := 0) (c := 1) (bs := aB) (hJ1.kept hB2) (HK.out.below (hB1.trans (hB2.mono hs1)) h0) (by rw [hcap]; decide) (bys_a w1) (fun hi => by have := hJ1.jrn.dsk.lt _ hi; omega) (fun hi => by have := hJ1.jrn.lt _ hi; omega) (by decide) (by decide) (by decide))
  have HB2 := hide (hB1.trans (hB2.mono hs1))
  have HF1 := hide hF1
  have HG1 := hide hG1
  clear hJ1 hB1 hB2 hF1 hG1
  go_wp2_with fail
  refine HA.out.mono ?_
  rintro en w3 ⟨rfl, G3, ss3, hJ3, hsl3, hC3, hG3⟩
  have hB3 : Below w.heap.size w w3 := HB2.out.trans (hC3.below (fun i hi h1 => h1.elim (fun h2 => by have := HF1.out i h2; omega) (fun h2 => by have := HG1.out i h2; omega)) HB2.out.size)
  have HCR := hide (crash_jok hJ3)
  have HOD := hide hJ3.disk
  have HB3 := hide hB3
  have HS3 := hide (hsl3.trans hsl)
  clear hJ3 hC3 hG3 hB3 hsl3 hsl hcap
  go_wp2_with fail
  refine HCR.out.mono ?_
  rintro en w4 ⟨s2, rfl, hB4, hD4⟩
  have hB4' := HB3.out.trans (hB4.mono HB3.out.size)
  have HOP := hide (open_ok hD4 (HK.out.below hB4' h0) HOD.out)
  have HB4 := hide hB4'
  clear hB4 hD4 hB4'
  go_wp2_with fail
  refine HOP.out.mono ?_
  rintro en w5 ⟨k, G5, rfl, hJ5, hB5, hG5⟩
  have HB5 := hide (HB4.out.trans (hB5.mono HB4.out.size))
  have hee : ∀ i, (([] : List (List UInt8)) ++ [aB]).getD i [] = [] ∨ (([] : List (List UInt8)) ++ [aB]).getD i [] = aB := fun i => by
    rcases i with _ | i
    · exact .inr rfl
    · exact .inl rfl
  have HAL := hide (all_any hJ5 (by decide) (fun i hi => by obtain rfl : i = 0 := by have : i < 1 := hi; omega
                                                            decide) (fun i => by rcases hee i with h1 | h1 <;> rw [h1] <;> decide))
  have HJ5 := hide hJ5
  clear hJ5 hB5 hG5
  go_wp2_with fail
  refine HAL.out.mono ?_
  rintro en w6 ⟨v, r, c, rfl, hO6, hB6⟩
  obtain ⟨A6, c6, rfl, hc6, hF6⟩ := hO6.frIn
  have hfr6 : Fr w6 A6 ([] ++ [aB]) := hF6.fr (fun i hi => hi.2)
  obtain ⟨w7, hw7⟩ : ∃ w7, w7 = w6.alloc (.cells #[.int .u8 97] 5 (1, 2)) := ⟨_, rfl⟩
  have hB7 : Below w6.heap.size w6 w7 := by rw [hw7]; exact (Below.refl _ _).alloc (Nat.le_refl _) _
  have hs7 : w7.heap.size = w6.heap.size + 1 := by rw [hw7]; simp
  obtain ⟨w8, hw8⟩ : ∃ w8, w8 = w7.alloc (.cells #[.slice (some ⟨w6.heap.size, 0, none⟩) 1 1] 22) := ⟨_, rfl⟩
  have hB8 : Below w7.heap.size w7 w8 := by rw [hw8]; exact (Below.refl _ _).alloc (Nat.le_refl _) _
  have hX8 : Box w8 w7.heap.size 22 #[.slice (some ⟨w6.heap.size, 0, none⟩) 1 1] := by rw [hw8]; exact Box.new _ _ _
  have hfr8 : Fr w8 (some ⟨w7.heap.size, 0, none⟩) [aB] := fun _ => ⟨w7.heap.size, 0, rfl, hX8.lt, fun k hk => by
    obtain rfl : k = 0 := by have : k < 1 := hk; omega
    exact ⟨some ⟨w6.heap.size, 0, none⟩, 1, hX8.cell 0, ((show Bys w7 (some ⟨w6.heap.size, 0, none⟩) aB by rw [hw7]; exact bys_a w6).below hB8), by decide⟩⟩
  have hB68 : Below w6.heap.size w6 w8 := hB7.trans (hB8.mono (by omega))
  have hl1 : ∀ i, (([aB] : List (List UInt8)).getD i []).length ≤ maxLen := fun i => by
    rcases hee i with h1 | h1
    · have h2 : ([aB] : List (List UInt8)).getD i [] = [] := h1
      rw [h2]; decide
    · have h2 : ([aB] : List (List UInt8)).getD i [] = aB := h1
      rw [h2]; decide
  have hli := lists_any A6 (some ⟨w7.heap.size, 0, none⟩) c6 1 [aB] [aB] w8 (hfr6.below hB68) hfr8 rfl (by decide) hl1 hl1 rfl
  rw [hs7] at hli
  have HLI := hide hli
  have HB8 := hide (HB5.out.trans ((hB6.trans (hB68.mono hB6.size)).mono HB5.out.size))
  have HJ8 := hide (HJ5.out.kept (hB6.trans (hB68.mono hB6.size)))
  have HW8 : Hid (w8 = (w6.alloc (.cells #[.int .u8 97] 5 (1, 2))).alloc (.cells #[.slice (some ⟨w6.heap.size, 0, none⟩) 1 1] 22)) := by unfold Hid; rw [hw8, hw7]
  rw [show ([] ++ [aB] : List (List UInt8)).length = 1 from rfl]
  clear hw7 hB7 hs7 hw8 hB8 hX8 hfr8 hB68 hl1 hli hfr6 hF6 hO6 hB6 hee
  go_wp2_with fail
  rw [← HW8.out]
  refine HLI.out.mono ?_
  rintro en w9 ⟨rfl, hB9⟩
  have hrm := room_any (HJ8.out.kept hB9) (by rw [HS3.out]; omega)
  rw [HS3.out, show ((capJ 12 : Nat) - (([] ++ [aB] : List (List UInt8)).length : Nat) : Int) = 1 by decide] at hrm
  have HRM := hide hrm
  have HB9 := hide (HB8.out.trans (hB9.mono HB8.out.size))
  clear hrm hB9
  go_wp2_with fail
  refine HRM.out.mono ?_
  rintro en w10 ⟨rfl, hB10⟩
  go_wp2_with fail
  go_ret
  exact ⟨rfl, HB9.out.trans (hB10.mono HB9.out.size)⟩
end
end Go.Proofs.YtlelkhonkhlflaaDoor
