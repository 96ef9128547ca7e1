/-
  The reference: New.
-/
import Derived.Test.YtcmchnddnglnfaaRNewDef
import Derived.Deep.RegionLaw
import Derived.BigRegion
import Derived.Deep.DeepCutAuto
namespace Go.Proofs.Ytcmchnddnglnfaa
open Go.RowKit
set_option linter.unusedVariables false
set_option linter.unusedSimpArgs false

theorem NewSt.same {B : Nat} {w w' : World} {m : Nat} {vS vL vD : Value} {FS FL FD : Nat → Prop} {fS fL : List (List UInt8)} {fD : List Bool} (h : NewSt B w m vS vL vD FS FL FD fS fL fD) (e : w'.heap = w.heap) : NewSt B w' m vS vL vD FS FL FD fS fL fD := by
  have ha : ∀ G : Nat → Prop, Agree G w w' := fun G i _ => by rw [e]
  have hl : w.heap.size ≤ w'.heap.size := by rw [e]; exact Nat.le_refl _
  exact ⟨h.box.agree (F := fun _ => True) (ha _) trivial, h.s.agree (ha _), h.l.agree (ha _), h.d.agree (ha _), h.sl, h.sd, h.ld, h.ms, h.ml, h.md, h.ls.size hl, h.ll.size hl, h.lD.size hl, h.bs, h.bl, h.bd, h.bm⟩
theorem rep_push (k : Nat) : List.replicate k zeroS ++ [zeroS] = List.replicate (k + 1) zeroS := (List.replicate_succ' ..).symm
theorem rep_pushB (k : Nat) : List.replicate k false ++ [false] = List.replicate (k + 1) false := (List.replicate_succ' ..).symm
def NewR (w : World) (n : Nat) (en : Ending) (w' : World) : Prop := ∃ m, en = .returned (.pointer (some ⟨m, 0, none⟩)) ∧ Below w.heap.size w w' ∧ RDsk (fun i => w.heap.size ≤ i ∧ i < w'.heap.size) w' m (List.replicate n zeroS) (List.replicate n zeroS) (List.replicate n false) false 0 false

set_option maxHeartbeats 6400000 in
theorem rnew_ok (n : Nat) (w : World) (h1 : 1 ≤ n) (h8 : n ≤ 8) : Calls Try.prog 18 #[.int .i64 (n : Int)] w (NewR w n) := by
  have hmk : ∀ (w : World), (Instr.makeSlice 22 (.int .i64 64) (.int .i64 64)).run Try.prog w = .ok (.slice (some ⟨w.heap.size, 0, none⟩) 64 64) (w.alloc (.cells (madeCells #[.int .u8 0] 64) 5)) := fun w =>
    run_make_row' 22 5 (.int .u8 0) 1 Try.underlying22 u8info rfl .i64 .i64 64 (by omega) (by omega) w
  go_enter Try.func18, Try.ntmps18
  go_wp2_with fail
  have hst0 : Hid (NewSt w.heap.size (w.alloc (.cells #[.slice none 0 0, .slice none 0 0, .slice none 0 0, .bool false, .int .i64 0, .bool false] 66)) w.heap.size (.slice none 0 0) (.slice none 0 0) (.slice none 0 0) (fun _ => False) (fun _ => False) (fun _ => False) (List.replicate 0 zeroS) (List.replicate 0 zeroS) (List.replicate 0 false)) :=
    ⟨Box.new _ _ _, Gots.nil _ _, Gots.nil _ _, ⟨⟨rfl, .inl ⟨rfl, rfl⟩⟩, fun g e => by cases e⟩, fun _ h => h.elim, fun _ h => h.elim, fun _ h => h.elim, fun h => h, fun h => h, fun h => h, fun _ h => h.elim, fun _ h => h.elim, fun _ h => h.elim, fun _ h => h.elim, fun _ h => h.elim, fun _ h => h.elim, Nat.le_refl _⟩
  have HB0 : Hid (Below w.heap.size w (w.alloc (.cells #[.slice none 0 0, .slice none 0 0, .slice none 0 0, .bool false, .int .i64 0, .bool false] 66))) := (Below.refl _ _).alloc (Nat.le_refl _) _
  go_loopw [4] (fun i wr => ∃ k : Nat, k ≤ n ∧ i = .int .i64 k ∧ Hid (Below w.heap.size w wr) ∧ ∃ vS vL vD FS FL FD, Hid (NewSt w.heap.size wr w.heap.size vS vL vD FS FL FD (List.replicate k zeroS) (List.replicate k zeroS) (List.replicate k false))) (fun i _ => n - (iOf i).toNat)
  case atStart => exact ⟨0, by omega, rfl, HB0, _, _, _, _, _, _, hst0⟩
  case round =>
    obtain ⟨k, hk, rfl, HBwr, vS, vL, vD, FS, FL, FD, HN⟩ := hrel
    by_cases hlt : k < n
    · have hNd := HN.out.same (w' := wr.drew) rfl
      obtain ⟨v1, hv1⟩ : ∃ v1, v1 = wr.drew.alloc (.cells (madeCells #[.int .u8 0] 64) 5) := ⟨_, rfl⟩
      obtain ⟨v2, hv2⟩ : ∃ v2, v2 = v1.alloc (.cells #[.slice (some ⟨wr.drew.heap.size, 0, none⟩) 64 64] 22) := ⟨_, rfl⟩
      obtain ⟨vS2, w3, FS2, hr, hG, hC, hi1, hi2, hl3⟩ := push_row hNd.s hNd.ls (by rw [List.length_replicate]; omega) 64 v1 v2 hv1 hv2
      rw [rep_push] at hG
      obtain ⟨AS, cS, hvX, _⟩ := hG.shape
      rw [List.length_replicate] at hvX
      subst hvX
      have hqb := hNd.box.agree (F := fun i => i = w.heap.size) (Agree.of_chg hC (fun i hi => by subst hi; exact hNd.box.lt) (fun i hi e => by subst hi; exact hNd.ms e)) rfl
      have c0 : wr.cell? ⟨w.heap.size, 0, none⟩ = some vS := HN.out.box.cell 0
      have q0 : w3.cell? ⟨w.heap.size, 0, none⟩ = some vS := hqb.cell 0
      have f0 : w3.frozen? ⟨w.heap.size, 0, none⟩ = false := hqb.frozen 0
      have cA : (wr.alloc (.cells (madeCells #[.int .u8 0] 64) 5)).cell? ⟨w.heap.size, 0, none⟩ = some vS := (HN.out.box.alloc _).cell 0
      have cB : ((wr.alloc (.cells (madeCells #[.int .u8 0] 64) 5)).alloc (.cells #[.slice (some ⟨wr.heap.size, 0, none⟩) 64 64] 22)).cell? ⟨w.heap.size, 0, none⟩ = some vS := ((HN.out.box.alloc _).alloc _).cell 0
      have HN4 := hide (hNd.pushS hG hC hi1 hi2 hl3)
      have ea : v1.heap.size = wr.heap.size + 1 := by rw [hv1]; exact World.size_alloc wr.drew _
      rw [ea, hv2, hv1] at hr
      have HRr := hide hr
      obtain ⟨w4, hW4⟩ : ∃ w4, w4 = w3.setCell ⟨w.heap.size, 0, none⟩ (.slice AS (k + 1) cS) := ⟨_, rfl⟩
      rw [← hW4] at HN4
      have HBw4 : Hid (Below w.heap.size w w4) := by
        rw [hW4]
        exact ((below_drew HBwr.out 1).trans (hC.below (fun i hi hF => by have := HN.out.bs i hF; omega) HBwr.out.size)).setCell (Nat.le_refl _) _
      have HWS := hide hW4
      clear hr hNd hG hC hi1 hi2 hl3 hv1 hv2 ea hqb hW4
      go_upto_region 5 with fail
      go_cut [] (fun wx => Hid (wx = w4))
      case first =>
        go_region_law (refine step_gives (v := .slice AS (k + 1) cS) (w' := w3) (by rfl) (gives_append (by rfl) (by rfl) (by rfl) HRr.out) ?_)
        all_goals
          go_wp2_with fail
          go_meet
          exact HWS.out.symm
      case rest =>
      rw [hcut.out]
      clear c0 q0 f0 cA cB HRr
      have hNd := HN4.out.same (w' := w4.drew) rfl
      obtain ⟨v1, hv1⟩ : ∃ v1, v1 = w4.drew.alloc (.cells (madeCells #[.int .u8 0] 64) 5) := ⟨_, rfl⟩
      obtain ⟨v2, hv2⟩ : ∃ v2, v2 = v1.alloc (.cells #[.slice (some ⟨w4.drew.heap.size, 0, none⟩) 64 64] 22) := ⟨_, rfl⟩
      obtain ⟨vL2, w5, FL2, hr, hG, hC, hi1, hi2, hl3⟩ := push_row hNd.l hNd.ll (by rw [List.length_replicate]; omega) 64 v1 v2 hv1 hv2
      rw [rep_push] at hG
      obtain ⟨AL, cL, hvX, _⟩ := hG.shape
      rw [List.length_replicate] at hvX
      subst hvX
      have hqb := hNd.box.agree (F := fun i => i = w.heap.size) (Agree.of_chg hC (fun i hi => by subst hi; exact hNd.box.lt) (fun i hi e => by subst hi; exact hNd.ml e)) rfl
      have c0 : w4.cell? ⟨w.heap.size, 1, none⟩ = some vL := HN4.out.box.cell 1
      have q0 : w5.cell? ⟨w.heap.size, 1, none⟩ = some vL := hqb.cell 1
      have f0 : w5.frozen? ⟨w.heap.size, 1, none⟩ = false := hqb.frozen 1
      have cA : (w4.alloc (.cells (madeCells #[.int .u8 0] 64) 5)).cell? ⟨w.heap.size, 1, none⟩ = some vL := (HN4.out.box.alloc _).cell 1
      have cB : ((w4.alloc (.cells (madeCells #[.int .u8 0] 64) 5)).alloc (.cells #[.slice (some ⟨w4.heap.size, 0, none⟩) 64 64] 22)).cell? ⟨w.heap.size, 1, none⟩ = some vL := ((HN4.out.box.alloc _).alloc _).cell 1
      have HN6 := hide (hNd.pushL hG hC hi1 hi2 hl3)
      have ea : v1.heap.size = w4.heap.size + 1 := by rw [hv1]; exact World.size_alloc w4.drew _
      rw [ea, hv2, hv1] at hr
      have HRr := hide hr
      obtain ⟨w6, hW4⟩ : ∃ w6, w6 = w5.setCell ⟨w.heap.size, 1, none⟩ (.slice AL (k + 1) cL) := ⟨_, rfl⟩
      rw [← hW4] at HN6
      have HBw6 : Hid (Below w.heap.size w w6) := by
        rw [hW4]
        exact ((below_drew HBw4.out 1).trans (hC.below (fun i hi hF => by have := HN4.out.bl i hF; omega) HBw4.out.size)).setCell (Nat.le_refl _) _
      have HWL := hide hW4
      clear hr hNd hG hC hi1 hi2 hl3 hv1 hv2 ea hqb hW4
      go_upto_region 6 with fail
      go_cut [] (fun wx => Hid (wx = w6))
      case first =>
        go_region_law (refine step_gives (v := .slice AL (k + 1) cL) (w' := w5) (by rfl) (gives_append (by rfl) (by rfl) (by rfl) HRr.out) ?_)
        all_goals
          go_wp2_with fail
          go_meet
          exact HWL.out.symm
      case rest =>
      rw [hcut.out]
      clear c0 q0 f0 cA cB HRr
      obtain ⟨vD2, w7, FD2, hr, hG, hC, hi1, hi2, hl3⟩ := push_bool HN6.out.d HN6.out.lD (by rw [List.length_replicate]; omega) 30
      rw [rep_pushB] at hG
      obtain ⟨gD, cD, hvD, _, _⟩ := hG.at_ (by rw [List.length_replicate]; omega)
      rw [List.length_replicate] at hvD
      subst hvD
      have hqb := HN6.out.box.agree (F := fun i => i = w.heap.size) (Agree.of_chg hC (fun i hi => by subst hi; exact HN6.out.box.lt) (fun i hi e => by subst hi; exact HN6.out.md e)) rfl
      have c0 : w6.cell? ⟨w.heap.size, 2, none⟩ = some vD := HN6.out.box.cell 2
      have cA : (w6.alloc (.cells #[.bool false] 4)).cell? ⟨w.heap.size, 2, none⟩ = some vD := (HN6.out.box.alloc _).cell 2
      have q0 : w7.cell? ⟨w.heap.size, 2, none⟩ = some vD := hqb.cell 2
      have f0 : w7.frozen? ⟨w.heap.size, 2, none⟩ = false := hqb.frozen 2
      have HN8 := hide (HN6.out.pushD hG hC hi1 hi2 hl3)
      have HB8 : Hid (Below w.heap.size w (w7.setCell ⟨w.heap.size, 2, none⟩ (.slice (some ⟨gD, 0, none⟩) (k + 1) cD))) := (HBw6.out.trans (hC.below (fun i hi hF => by have := HN6.out.bd i hF; omega) HBw6.out.size)).setCell (Nat.le_refl _) _
      have HRr := hide hr
      clear hr hG hC hi1 hi2 hl3 hqb
      go_wp2_with ((with_reducible refine wpList_gives (o := ⟨some 38, _, _, _, _, _⟩) (v := .slice (some ⟨gD, 0, none⟩) (k + 1) cD) (w' := w7) ?_ ?_ ?_); rfl; exact gives_append rfl rfl rfl HRr.out)
      go_roundw
      case rel => exact ⟨k + 1, by omega, by go_num, HB8, _, _, _, _, _, _, HN8⟩
      case measure => simp [iOf]; omega
    · obtain rfl : k = n := by omega
      have HD := hide (HN.out.rdat h1 h8)
      go_wp2_with fail
      go_ret
      exact ⟨_, rfl, HBwr.out, HD.out⟩
end Go.Proofs.Ytcmchnddnglnfaa
