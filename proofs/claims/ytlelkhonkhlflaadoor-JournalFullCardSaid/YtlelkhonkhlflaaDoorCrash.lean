/-
  Crash.
-/
import Derived.Test.YtlelkhonkhlflaaDoorRead
namespace Go.Proofs.YtlelkhonkhlflaaDoor
open Go.RowKit
set_option linter.unusedVariables false
set_option linter.unusedSimpArgs false

def iOf : Value → Int | .int _ q => q | _ => 0
/-- the sectors of the copy, behind k dirty sectors -/
def crashS (ss : List (List UInt8)) (e : Nat → Option (List UInt8)) (keep : List Bool) (L : List Nat) : Nat → List (List UInt8)
  | 0 => ss
  | k + 1 => if keep.getD k false then crashS ss e keep L k else (crashS ss e keep L k).set (L.getD k 0) ((e (L.getD k 0)).getD [])
theorem crashS_length (ss : List (List UInt8)) (e : Nat → Option (List UInt8)) (keep : List Bool) (L : List Nat) : ∀ k, (crashS ss e keep L k).length = ss.length
  | 0 => rfl
  | k + 1 => by
    unfold crashS
    split
    · exact crashS_length ss e keep L k
    · rw [List.length_set]; exact crashS_length ss e keep L k
theorem crash_nil (w : World) (A : Option Addr) (n c : Nat) : Calls Tryd.prog 16 #[.pointer none, .slice A n c] w fun en w' => en = .returned (.pointer none) ∧ w = w' := by
  go_enter Tryd.func16, Tryd.ntmps16
  go_wp2_with fail
  go_ret
  exact ⟨rfl, rfl⟩
/-- the slice at A reads as these Bools, in blocks of F -/
def BoolsIn (F : Nat → Prop) (w : World) (A : Option Addr) (bs : List Bool) : Prop :=
  0 < bs.length → ∃ b off, A = some ⟨b, off, none⟩ ∧ F b ∧ ∀ k, k < bs.length → w.cell? ⟨b, off + k, none⟩ = some (.bool (bs.getD k false))
theorem BoolsIn.agree {F : Nat → Prop} {a b : World} {A : Option Addr} {bs : List Bool} (h : BoolsIn F a A bs) (hg : Agree F a b) : BoolsIn F b A bs := fun hp => by
  obtain ⟨g, off, e, hF, hc⟩ := h hp
  exact ⟨g, off, e, hF, fun k hk => (World.cell?_of_block (hg g hF)).trans (hc k hk)⟩
/-- the numbers of the dirty sectors as a slice of ints in new memory -/
def Sorted (w : World) (L : List Nat) (en : Ending) (w' : World) : Prop :=
  ∃ A c, en = .returned (.slice A L.length c) ∧ Below w.heap.size w w' ∧ (∀ k, k < L.length → ∃ b off, A = some ⟨b, off, none⟩ ∧ w.heap.size ≤ b ∧ b < w'.heap.size ∧ w'.cell? ⟨b, off + k, none⟩ = some (.int .i64 (L.getD k 0 : Nat)))
/-- the copy behind a crash: a new disk -/
def CrashPost (w : World) (ss : List (List UInt8)) (en : Ending) (w' : World) : Prop := NewDsk w ss en w'
def KeysOk : Prop := ∀ (w : World) (mb n : Nat) (e : Nat → Option (List UInt8)), n ≤ 4096 → SafeM w mb n e →
  Calls Tryd.prog 30 #[.map (some mb)] w (fun en w' => en = .returned (.func (.func 43) #[] #[.pointer (some ⟨w.heap.size, 0, none⟩)]) ∧ w' = w.alloc (.cells #[.map (some mb)] 66)) ∧
  Calls Tryd.prog 29 #[.func (.func 43) #[] #[.pointer (some ⟨w.heap.size, 0, none⟩)]] (w.alloc (.cells #[.map (some mb)] 66)) (Sorted (w.alloc (.cells #[.map (some mb)] 66)) (dirtyL n e))

set_option maxHeartbeats 3200000 in
set_option maxRecDepth 100000 in
theorem crash_any (KO : Hid KeysOk) {F Gk : Nat → Prop} {w : World} {s : Nat} {ss : List (List UInt8)} {e : Nat → Option (List UInt8)} {fuse : Int} {dead : Bool} (h : Dsk F w s ss e fuse dead) (A : Option Addr) (c : Nat) (keep : List Bool) (hk : BoolsIn Gk w A keep) (hG : Lt Gk w) (hkl : keep.length ≤ 1000000) :
    Calls Tryd.prog 16 #[.pointer (some ⟨s, 0, none⟩), .slice A keep.length c] w (NewDsk w (crashS ss e keep (dirtyL ss.length e) (dirtyL ss.length e).length)) := by
  obtain ⟨g, mb, hD⟩ := h.at_
  have hmo := hD.most
  have HN := hide (new_ok ss.length w hD.some_ hD.most)
  obtain ⟨c0, c1, _, _⟩ := hD.cells
  have HD := hide hD
  have HKP := hide hk
  have HG := hide hG
  clear h hD hk hG
  go_enter Tryd.func16, Tryd.ntmps16
  go_wp2_with fail
  refine HN.out.mono ?_
  rintro en w1 ⟨o, rfl, hB1, hO1⟩
  clear HN c0 c1
  obtain ⟨og, omb, hO1⟩ := hO1.at_
  have HD1 := hide (HD.out.kept hB1)
  obtain ⟨c0, c1, _, _⟩ := HD1.out.cells
  obtain ⟨x0, x1, _, _⟩ := hO1.cells
  rw [List.length_replicate] at x0
  have HO1 := hide hO1
  have HKP1 := hide (HKP.out.agree (Agree.of_below hB1 HG.out))
  have HB1 := hide hB1
  clear hO1 hB1
  obtain ⟨w9, hw9⟩ : ∃ w9, w9 = w1.drew := ⟨_, rfl⟩
  have HD9 : Hid (DskAt F w9 s g mb ss e fuse dead) := by rw [hw9]; exact HD1.out.agree (fun _ _ => rfl) (Nat.le_refl _)
  have HO9 : Hid (DskAt (fun i => w.heap.size ≤ i ∧ i < w1.heap.size) w9 o og omb (List.replicate ss.length zeroS) (fun _ => none) (-1) false) := by rw [hw9]; exact HO1.out.agree (fun _ _ => rfl) (Nat.le_refl _)
  have HB9 : Hid (Below w.heap.size w w9) := by rw [hw9]; exact below_drew HB1.out 1
  have HKP9 : Hid (BoolsIn Gk w9 A keep) := by rw [hw9]; exact HKP1.out
  have HW9 := hide hw9
  clear hw9
  obtain ⟨w2, hr2, hS2, hg2⟩ := HO9.out.secs.copyAll HD9.out.secs (List.length_replicate ..) 3
  have HR2 := hide hr2
  have HO2 := hide (HO9.out.newSecs hS2 (List.length_replicate ..).symm hg2)
  have HFO : Hid (∀ i, F i → i ≠ og) := fun i hi e => by
    have h1 := HD.out.lt i hi
    have h2 := HO9.out.mg.1
    omega
  have HD2 := hide (HD9.out.agree (Agree.of_chg (Chg.of_grown hg2) HD9.out.lt fun i hi e => HFO.out i hi (by injection e with e; exact e.symm)) hg2.size)
  have HB2 : Hid (Below w.heap.size w w2) := HB9.out.trans (below_of_grown hg2 HO9.out.mg.1 HB9.out.size)
  have HGO : Hid (∀ i, Gk i → i ≠ og) := fun i hi e => by
    have h1 := HG.out i hi
    have h2 := HO9.out.mg.1
    omega
  have HKP2 := hide (HKP9.out.agree (Agree.of_chg (Chg.of_grown hg2) (fun i hi => Nat.lt_of_lt_of_le (HG.out i hi) HB9.out.size) fun i hi e => HGO.out i hi (by injection e with e; exact e.symm)))
  obtain ⟨d0, d1, _, _⟩ := HD2.out.cells
  clear hr2 hS2 hg2
  have HK1 := hide (KO.out w2 mb ss.length e hmo HD2.out.safe)
  go_upto_region 4 with fail
  refine wp_region_still_tail 8 (by kernel_rfl) (by kernel_rfl) ?_
  simp only [List.take_succ_cons, List.take_zero, List.drop_succ_cons, List.drop_zero]
  iterate 8 still_step
  refine wpStill_nil ?_
  change wpList _ _ _ _ _ w1.drew
  rw [← HW9.out]
  go_wp2_with ((with_reducible refine wpList_gives (o := ⟨some 24, _, _, _, _, _⟩) (v := goInt ss.length) (w' := w2) ?_ ?_ ?_); rfl; exact gives_copy rfl rfl rfl HR2.out)
  refine HK1.out.1.mono ?_
  rintro en w3 ⟨rfl, rfl⟩
  go_wp2_with fail
  have HB3 : Hid (Below w2.heap.size w2 (w2.alloc (.cells #[.map (some mb)] 66))) := (Below.refl _ _).alloc (Nat.le_refl _) _
  refine HK1.out.2.mono ?_
  rintro en w4 ⟨B, cb, rfl, hB4, hL⟩
  have HB4 := hide (HB3.out.trans (hB4.mono HB3.out.size))
  obtain ⟨L, hLd⟩ : ∃ L, L = dirtyL ss.length e := ⟨_, rfl⟩
  rw [← hLd] at hL ⊢
  have HLd := hide hLd
  have hLm : ∀ k, k < L.length → L.getD k 0 < ss.length ∧ ∃ x, e (L.getD k 0) = some x := fun k hk => by
    have h1 : L.getD k 0 ∈ L := by rw [List.getD_eq_getElem?_getD, List.getElem?_eq_getElem hk]; exact List.getElem_mem hk
    rw [hLd] at h1
    obtain ⟨h2, h3⟩ := dirtyL_mem.1 h1
    exact ⟨by rw [hLd]; exact h2, Option.isSome_iff_exists.1 (by rw [hLd]; exact h3)⟩
  have hLl : L.length ≤ ss.length := by rw [hLd]; exact dirtyL_le _ _
  have HL := hide hL
  have HLM := hide hLm
  clear hLd hL hLm hB4 d0 d1 c0 c1 x0 x1 HK1
  have HD4 := hide (HD2.out.kept HB4.out)
  have HO4 := hide (HO2.out.agree (Agree.of_below HB4.out (fun i hi => by have := HB2.out.size; have := HO2.out.lt i hi; omega)) HB4.out.size)
  have HKP4 := hide (HKP2.out.agree (Agree.of_below HB4.out (fun i hi => Nat.lt_of_lt_of_le (HG.out i hi) HB2.out.size)))
  have hsz4 := HB4.out.size
  go_wp2_with fail
  go_loopw [32] (fun i wr => ∃ k : Nat, k ≤ L.length ∧ i = .int .i64 k ∧ Hid (DskAt (fun i => w.heap.size ≤ i ∧ i < w1.heap.size) wr o og omb (crashS ss e keep L k) (fun _ => none) (-1) false) ∧ Hid (Chg (fun i => i = og) w4 wr)) (fun i _ => L.length - (iOf i).toNat)
  case atStart => exact ⟨0, by omega, rfl, HO4, Chg.refl _ _⟩
  case round =>
    obtain ⟨k, hk, rfl, HOr, HCr⟩ := hrel
    by_cases hlt : k < L.length
    · obtain ⟨hi, x, hx⟩ := HLM.out k hlt
      obtain ⟨b, off, rfl, hb1, hb2, q⟩ := HL.out k hlt
      have q' : wr.cell? ⟨b, off + k, none⟩ = some (.int .i64 (L.getD k 0 : Nat)) := by
        have hne : b ≠ og := fun e => by
          have h1 := HO2.out.lt og HO2.out.mg
          have h2 : (w2.alloc (.cells #[.map (some mb)] 66)).heap.size = w2.heap.size + 1 := by simp
          have h3 := HO2.out.secs.lt
          omega
        rw [World.cell?_of_block (HCr.out.block b hb2 hne)]
        exact q
      have HDr := hide (HD4.out.agree (Agree.of_chg HCr.out HD4.out.lt fun i hi e => HFO.out i hi e) HCr.out.size)
      have HKr := hide (HKP4.out.agree (Agree.of_chg HCr.out (fun i hi => by have := HG.out i hi; have := HB2.out.size; omega) fun i hi e => HGO.out i hi e))
      obtain ⟨y0, y1, _, _⟩ := HDr.out.cells
      obtain ⟨x0, x1, _, _⟩ := HOr.out.cells
      rw [crashS_length] at x0
      have HX := hide hx
      have HLG := hide hlt
      have hstep : crashS ss e keep L (k + 1) = if keep.getD k false then crashS ss e keep L k else (crashS ss e keep L k).set (L.getD k 0) x := by
        rw [crashS, hx]; rfl
      have HST := hide hstep
      clear q hx hstep
      generalize hi0 : L.getD k 0 = i0 at *
      have HI0 := hide hi0
      clear hi0
      have hsb : i0 ≤ 4095 := by omega
      by_cases hkp : k < keep.length ∧ keep.getD k false = true
      · obtain ⟨hk1, hk2⟩ := hkp
        obtain ⟨kb, ko, rfl, _, hkc⟩ := HKr.out (by omega)
        have q2 := hkc k hk1
        rw [hk2] at q2
        have t1 : decide ((keep.length : Int) ≤ (k : Int)) = false := decide_eq_false (by omega)
        have HO' : Hid (DskAt (fun i => w.heap.size ≤ i ∧ i < w1.heap.size) wr o og omb (crashS ss e keep L (k + 1)) (fun _ => none) (-1) false) := by rw [HST.out, hk2]; exact HOr.out
        clear hkc
        go_wp2_with fail
        go_roundw
        case rel => exact ⟨k + 1, by omega, by go_num, HO', HCr⟩
        case measure => simp [iOf]; omega
      · have hk2 : keep.getD k false = false := by
          by_cases h1 : k < keep.length
          · cases h2 : keep.getD k false with
            | false => rfl
            | true => exact absurd ⟨h1, h2⟩ hkp
          · rw [List.getD_eq_getElem?_getD, List.getElem?_eq_none (by omega)]; rfl
        have hc3 : (keep.length ≤ k ∧ decide (keep.length ≤ k) = true) ∨ (decide ((keep.length : Int) ≤ (k : Int)) = false ∧ k < keep.length ∧ ∃ kb ko, A = some ⟨kb, ko, none⟩ ∧ wr.cell? ⟨kb, ko + k, none⟩ = some (.bool false)) := by
          by_cases h1 : k < keep.length
          · obtain ⟨kb, ko, e1, _, hkc⟩ := HKr.out (by omega)
            have q2 := hkc k h1
            rw [hk2] at q2
            exact .inr ⟨decide_eq_false (by omega), h1, kb, ko, e1, q2⟩
          · exact .inl ⟨by omega, decide_eq_true (by omega)⟩
        obtain ⟨w9, hw9⟩ : ∃ w9, w9 = wr.drew := ⟨_, rfl⟩
        have HOr9 : Hid (DskAt (fun i => w.heap.size ≤ i ∧ i < w1.heap.size) w9 o og omb (crashS ss e keep L k) (fun _ => none) (-1) false) := by rw [hw9]; exact HOr.out.agree (fun _ _ => rfl) (Nat.le_refl _)
        have HDr9 : Hid (DskAt F w9 s g mb ss e fuse dead) := by rw [hw9]; exact HDr.out.agree (fun _ _ => rfl) (Nat.le_refl _)
        have HCr9 : Hid (Chg (fun i => i = og) w4 w9) := by rw [hw9]; exact HCr.out.drew
        have HLK := hide (HDr9.out.safe.look hmo hi HX.out)
        obtain ⟨w10, hr10, hS10, hg10⟩ := HOr9.out.secs.store (i := i0) (by rw [crashS_length]; exact hi) (HDr9.out.safe.len64 hi HX.out)
        have HR10 := hide hr10
        have HO' : Hid (DskAt (fun i => w.heap.size ≤ i ∧ i < w1.heap.size) w10 o og omb (crashS ss e keep L (k + 1)) (fun _ => none) (-1) false) := by rw [HST.out, hk2]; exact HOr9.out.newSecs hS10 (List.length_set ..) hg10
        have HC' : Hid (Chg (fun i => i = og) w4 w10) := HCr9.out.trans (Chg.of_grown hg10) fun j _ e => by injection e with e; exact e.symm
        have HW9 := hide hw9
        clear hw9 hr10 hS10 hg10 hkp
        rcases hc3 with ⟨n1, t1⟩ | ⟨t1, hk1, kb, ko, rfl, q2⟩
        all_goals
          go_upto_region 9 with fail
          refine wp_region_still_tail 12 (by kernel_rfl) (by kernel_rfl) ?_
          simp only [List.take_succ_cons, List.take_zero, List.drop_succ_cons, List.drop_zero]
          iterate 10 still_step
          refine wpStill_gives (o := ⟨some 58, _, _, _, _, _⟩) (v := Value.agg (secA x)) rfl (gives_lookup rfl rfl rfl (by have h := HLK.out; rw [HW9.out] at h; exact h)) ?_
          still_step
          refine wpStill_nil ?_
          change wpList _ _ _ _ _ wr.drew
          rw [← HW9.out]
          go_wp2_with ((with_reducible refine wpList_does (o := ⟨none, .store 75 _ _, _, _, _, _⟩) (w' := w10) ?_ ?_ ?_); rfl; exact does_store rfl rfl rfl HR10.out)
          go_roundw
          case rel => exact ⟨k + 1, by omega, by go_num, HO', HC'⟩
          case measure => simp [iOf]; omega
    · obtain rfl : L.length = k := by omega
      have HBf : Hid (Below w.heap.size w wr) := (HB2.out.trans (HB4.out.mono HB2.out.size)).trans (HCr.out.below (fun i hi e => by have := HO2.out.mg.1; omega) (by have := HB2.out.size; omega))
      go_wp2_with fail
      go_ret
      unfold NewDsk
      rw [← HLd.out]
      refine ⟨o, rfl, HBf.out, HOr.out.dsk.mono (G := fun i => w.heap.size ≤ i ∧ i < wr.heap.size) ?_ ?_⟩
      · exact fun i hi => ⟨hi.1, HOr.out.lt i hi⟩
      · exact fun i hi => hi.2
end Go.Proofs.YtlelkhonkhlflaaDoor
