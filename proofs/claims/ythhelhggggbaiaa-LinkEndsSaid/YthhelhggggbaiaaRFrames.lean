/-
  The reference's receiver: Frames and Complete.
-/
import Derived.Test.YthhelhggggbaiaaHas
namespace Go.Proofs.Ythhelhggggbaiaa
open Go.RowKit
set_option linter.unusedVariables false
set_option linter.unusedSimpArgs false

/-- what was accepted, by its number -/
def HL (L : List Msg) : Nat → Option (List UInt8) := fun n => (hasL L (n : Int)).map Msg.data
def FramesPost (w : World) (fs : List (List UInt8)) (e : Ending) (w' : World) : Prop := ∃ A c, e = .returned (.slice A fs.length c) ∧ FrIn (fun i => i < w'.heap.size) w' A fs ∧ Below w.heap.size w w'

set_option maxHeartbeats 3200000 in
theorem refframes_any {F : Nat → Prop} {w : World} {t W : Nat} {L : List Msg} (h : RefR F w t W L) (hL : L.length ≤ 100000) (g : Nat) (hg : g ≤ 100000) (h1 : ∀ k : Nat, k < g → (hasL L (k : Int)).isSome = true) (h2 : hasL L (g : Int) = none) :
    Calls Try.prog 25 #[.pointer (some ⟨t, 0, none⟩)] w (FramesPost w (gots (HL L) g)) := by
  obtain ⟨i0, hi, hz0, hz1, hz2⟩ := info_parts sliceinfo
  have HR := hide h
  have H1 := hide h1
  have H2 := hide h2
  clear h h1 h2
  go_enter Try.func25, Try.ntmps25
  go_wp2_with fail
  go_loopw [3, 4] (fun v i wr => ∃ k : Nat, k ≤ g ∧ i = .int .i64 k ∧ Hid (Gots (fun i => i < wr.heap.size) wr v (gots (HL L) k)) ∧ Hid (∀ g, v.ownBlock = some g → w.heap.size ≤ g) ∧ Hid (Below w.heap.size w wr)) (fun _ i wr => g - (intOf i).toNat)
  case atStart => exact ⟨0, Nat.zero_le _, rfl, Gots.nil _ _, fun g e => (by cases e), Below.refl _ _⟩
  case round =>
    obtain ⟨k, hk, rfl, HGo, HVB, HBL⟩ := hrel
    obtain ⟨A', c', rfl, hc', _, hfr'⟩ := HGo.out.shape
    have HKL : Hid ((gots (HL L) k).length = k) := gots_length _ _
    rw [HKL.out] at hc' HGo HVB ⊢
    have HFR := hide hfr'
    have HRr := hide (HR.out.agree (Agree.of_below HBL.out (fun i hi => HR.out.lt i hi)) HBL.out.size)
    have HGC := hide (got_any HRr.out hL g hg H1.out H2.out)
    clear hfr'
    go_wp2_with fail
    refine HGC.out.mono ?_
    rintro e w1 ⟨rfl, hB1⟩
    have HB1 := hide (HBL.out.trans (hB1.mono HBL.out.size))
    have HBr1 := hide hB1
    clear hB1
    by_cases hlt : k < g
    · have hsm := Option.isSome_iff_exists.1 (H1.out k hlt)
      obtain ⟨m, hm⟩ := hsm
      have HR1 := hide (HRr.out.kept HBr1.out)
      have HHC := hide (has_any HR1.out hL (k : Int))
      have HM := hide hm
      clear hm
      go_wp2_with fail
      refine HHC.out.mono ?_
      rintro e w2 (⟨hnone, rfl, hB2⟩ | ⟨m', Am, cm, hsome, rfl, hby, hcm, hB2⟩)
      · rw [HM.out] at hnone; cases hnone
      · obtain rfl : m = m' := by rw [HM.out] at hsome; injection hsome
        obtain ⟨v2, hv2⟩ : ∃ v2, v2 = w2.alloc (.cells #[.bool m.ack, .int .i64 m.num, .bool m.last, .slice Am m.data.length cm] 34) := ⟨_, rfl⟩
        have hq2 : Below w2.heap.size w2 v2 := by rw [hv2]; exact (Below.refl _ _).alloc (Nat.le_refl _) _
        have HX2 : Hid (Box v2 w2.heap.size 34 #[.bool m.ack, .int .i64 m.num, .bool m.last, .slice Am m.data.length cm]) := by rw [hv2]; exact Box.new _ _ _
        have x3 : v2.cell? ⟨w2.heap.size, 3, none⟩ = some (.slice Am m.data.length cm) := HX2.out.cell 3
        have HBv2 := hide (below_then (below_then HBr1.out hB2) hq2)
        have HBw2 := HB1.out.trans (hB2.mono HB1.out.size)
        have HBY : Hid (BysIn (fun i => i < w.heap.size) wr Am m.data) := (hby.mono (fun i hi => HR.out.lt i hi)).agree fun i hi => (HBL.out.block i hi).trans (HBw2.block i hi).symm
        have HGS : Hid (gots (HL L) (k + 1) = gots (HL L) k ++ [m.data]) := gots_succ _ _ (by unfold HL; rw [HM.out]; rfl)
        obtain ⟨vals, hG⟩ := HGo.out
        have HG := hide hG
        have HV2 := hide hv2
        clear hq2 hB2 hby HBw2 hG hv2
        obtain ⟨v3, hv3⟩ : ∃ v3, v3 = v2.alloc (.cells #[.slice Am m.data.length cm] 32) := ⟨_, rfl⟩
        have hq3 : Below v2.heap.size v2 v3 := by rw [hv3]; exact (Below.refl _ _).alloc (Nat.le_refl _) _
        have HBv3 := hide (below_then HBv2.out hq3)
        have HO : Hid (v3.ownsRow 0 32 1 (.slice A' k c') k vals) := by
          have h := ownsRow_heap (w' := v3) HG.out.1 (fun g e => HBv3.out.block g (HG.out.2.2.1 g e))
          rw [HKL.out] at h
          exact h
        have HN3 : Hid (∀ j u, [Value.slice Am m.data.length cm][j]? = some u → v3.cell? ((⟨v2.heap.size, 0, none⟩ : Addr).add j) = some u) := by rw [hv3]; exact cell_one_new _ _ _
        rw [hv3] at HO HN3
        have hm7 : k + 1 ≤ maxLen := by unfold maxLen; omega
        have HV3 := hide hv3
        clear hq3 hv3
        go_upto_region 6 with fail
        rw [← HV2.out]
        go_wp2_with (at_builtin; refine wpList_append_lies _ rfl _ _ 22 rfl 0 32 i0 (.slice none 0 0) 1 24 Try.underlying22 hi hz0 hz1 hz2 rfl (by decide) (.slice A' k c') k vals rfl HO.out ⟨v2.heap.size, 0, none⟩ 1 1 [.slice Am m.data.length cm] rfl rfl HN3.out (by intro u hu; simp at hu; subst hu; rfl) (by decide) hm7 (by omega) (Nat.zero_le _) _ rfl ?_; intro g7 cap7 w7 hown hgrow hat hlt7; rw [← HV3.out] at hgrow hat; have HST := hide (cut_step (v' := .slice (some ⟨g7, 0, none⟩) (k + 1) cap7) HG.out HKL.out HBv3.out HBY.out hcm HVB.out hown hgrow (hat.imp (fun e => e.symm) (fun e => by rw [e]; rfl)) HBL.out); clear hown hgrow hat hlt7)
        go_roundw
        case rel => exact ⟨k + 1, by omega, by go_num, by rw [HGS.out]; exact HST.out.1, HST.out.2.1, HST.out.2.2⟩
        case measure => simp [intOf]; omega
    · obtain rfl : k = g := by omega
      go_wp2_with fail
      go_ret
      exact ⟨A', c', by rw [HKL.out]; rfl, (HFR.out.agree (Agree.of_below HBr1.out (fun i hi => hi))).mono (fun i (hi : i < wr.heap.size) => by have := HBr1.out.size; omega), HB1.out⟩

/-- the last frame is there, and all that lie ahead of it -/
def compB (L : List Msg) (g : Nat) : Bool := match L.find? (fun m => m.last) with
  | some m => decide ((g : Int) = m.num + 1)
  | none => false
theorem findLast_none {L : List Msg} (h : ∀ j, j < L.length → (L.getD j zeroM).last = false) : L.find? (fun m => m.last) = none := by
  rw [List.find?_eq_none]
  intro m hm
  obtain ⟨j, hj, rfl⟩ := List.mem_iff_getElem.1 hm
  have := h j hj
  rw [List.getD_eq_getElem?_getD, List.getElem?_eq_getElem hj] at this
  simpa using this
theorem findLast_some {L : List Msg} {k : Nat} (hk : k < L.length) (he : (L.getD k zeroM).last = true) (h : ∀ j, j < k → (L.getD j zeroM).last = false) : L.find? (fun m => m.last) = some (L.getD k zeroM) := by
  have e : L = L.take k ++ L.getD k zeroM :: L.drop (k + 1) := by
    rw [List.getD_eq_getElem?_getD, List.getElem?_eq_getElem hk, Option.getD_some]
    rw [List.getElem_cons_drop, List.take_append_drop]
  have hn : (L.take k).find? (fun m => m.last) = none := by
    rw [List.find?_eq_none]
    intro m hm
    obtain ⟨j, hj, rfl⟩ := List.mem_iff_getElem.1 hm
    rw [List.length_take] at hj
    have := h j (by omega)
    rw [List.getD_eq_getElem?_getD, List.getElem?_eq_getElem (by omega)] at this
    simpa using this
  conv => lhs; rw [e]
  rw [List.find?_append, hn, Option.none_or, List.find?_cons_of_pos (by simpa using he)]
def CompPost (w : World) (b : Bool) (e : Ending) (w' : World) : Prop := e = .returned (.bool b) ∧ Below w.heap.size w w'
end Go.Proofs.Ythhelhggggbaiaa
