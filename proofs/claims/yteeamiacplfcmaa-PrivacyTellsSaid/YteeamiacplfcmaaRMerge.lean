/-
  electionref42.Merge.
-/
import Derived.Test.YteeamiacplfcmaaTail
namespace Go.Proofs.Yteeamiacplfcmaa
open Go.RowKit
set_option linter.unusedVariables false
set_option linter.unusedSimpArgs false

/-- Merge -/
def mergeV (least : Int) (cs : List Cel) : List Cel × Int := if least < 1 ∨ 100000 < least then ([], 4) else if validC cs = true then (mergeC least cs, 0) else ([], 8)
theorem mergeV_range {least : Int} {cs : List Cel} (h : least < 1 ∨ 100000 < least) : mergeV least cs = ([], 4) := by unfold mergeV; rw [if_pos h]
theorem mergeV_form {least : Int} {cs : List Cel} (h : ¬ (least < 1 ∨ 100000 < least)) (hv : validC cs = false) : mergeV least cs = ([], 8) := by unfold mergeV; rw [if_neg h, if_neg (by rw [hv]; simp)]
theorem mergeV_ok {least : Int} {cs : List Cel} (h : ¬ (least < 1 ∨ 100000 < least)) (hv : validC cs = true) : mergeV least cs = (mergeC least cs, 0) := by unfold mergeV; rw [if_neg h, if_pos hv]
def lenV : Value → Nat
  | .slice _ n _ => n
  | _ => 0
set_option maxHeartbeats 8000000 in
set_option maxRecDepth 100000 in
theorem rmerge_any {A : Option Addr} {c : Nat} {cs : List Cel} {least : Int} {w : World} (h : Cels w A cs) (hm : cs.length ≤ 1000000) (hl : InI least) :
    Calls Try.prog 16 #[.slice A cs.length c, .int .i64 least] w fun e w' => ∃ v, e = .returned (.tuple #[v, .int .i64 (mergeV least cs).2]) ∧ OwnC w.heap.size w' v (mergeV least cs).1 ∧ Below w.heap.size w w' := by
  have H := hide h
  have HV := hide (rval_any (c := c) h hm)
  have hl' := hl
  unfold InI at hl
  have HL := hide hl'
  clear hl'
  clear h
  by_cases e1 : least < 1
  · have HM := hide (mergeV_range (cs := cs) (.inl e1))
    go_enter Try.func16, Try.ntmps16
    go_wp2_with fail
    go_ret2
    exact ⟨_, by rw [HM.out]; rfl, by rw [HM.out]; exact OwnA.nil _ _ _ _, Below.refl _ _⟩
  by_cases e2 : 100000 < least
  · have HM := hide (mergeV_range (cs := cs) (.inr e2))
    go_enter Try.func16, Try.ntmps16
    go_wp2_with fail
    go_ret2
    exact ⟨_, by rw [HM.out]; rfl, by rw [HM.out]; exact OwnA.nil _ _ _ _, Below.refl _ _⟩
  cases hv : validC cs with
  | false =>
    have HM := hide (mergeV_form (least := least) (by omega) hv)
    rw [hv] at HV
    clear hv
    go_enter Try.func16, Try.ntmps16
    go_wp2_with fail
    refine HV.out.mono ?_
    rintro e w1 ⟨rfl, hb1⟩
    go_wp2_with fail
    go_ret2
    exact ⟨_, by rw [HM.out]; rfl, by rw [HM.out]; exact OwnA.nil _ _ _ _, hb1⟩
  | true =>
    have HM := hide (mergeV_ok (least := least) (by omega) hv)
    have HVt := hide hv
    rw [hv] at HV
    clear hv
    go_enter Try.func16, Try.ntmps16
    go_wp2_with fail
    refine HV.out.mono ?_
    rintro e w1 ⟨rfl, hb1⟩
    have hsw := hb1.size
    obtain ⟨A5, d5, w5, hr5, hO5, hg5⟩ := OwnC.pushL (OwnA.nil CelE 34 w.heap.size w1) hsw (by simp; omega) (G := fun i => i < w1.heap.size) (H.out.below hb1) (fun i hi => ⟨hi, fun e => by cases e⟩) 23 c
    rw [List.length_nil, Nat.zero_add] at hr5 hO5
    rw [List.nil_append] at hO5
    have HR5 := hide hr5
    have HO5 := hide hO5
    have HB5 := hide (hb1.trans (own_by hsw (fun g e => by cases e) hg5))
    clear hr5 hO5 hg5 hb1 hsw
    go_wp2_with ((with_reducible refine wpList_gives (o := ⟨some 19, _, _, _, _, _⟩) (v := Value.slice A5 cs.length d5) (w' := w5) ?_ ?_ ?_); rfl; exact gives_append rfl rfl rfl HR5.out)
    go_loopw [6, 7, 8] (fun o _ _ wr => ∃ l : List Cel, ∃ v : Value, o = v ∧ Hid (OwnC w.heap.size wr v l) ∧ Hid (validC l = true) ∧ Hid (mergeC least l = mergeC least cs) ∧ Hid (Below w.heap.size w wr)) (fun o _ _ wr => lenV o)
    case atStart => exact ⟨cs, _, rfl, HO5.out, HVt.out, rfl, HB5.out⟩
    case round =>
      obtain ⟨l, v, rfl, HO, HW, HE, HB⟩ := hrel
      obtain ⟨A3, c3, rfl, hc3, hq3, hP3⟩ := HO.out.shape goodC
      have hl12 := valid_len HW.out
      have hP3 := hide hP3
      by_cases hlt : 1 < l.length
      · have hdl : decide ((1 : Int) < (l.length : Int)) = true := decide_eq_true (by omega)
        go_wp2_with fail
        go_loopw [7] (fun i wi => ∃ k : Nat, k ≤ l.length ∧ i = .int .i64 k ∧ Hid (OwnC w.heap.size wi (.slice A3 l.length c3) l) ∧ Hid (Below w.heap.size w wi) ∧ Hid (∀ j, j < k → safeC least (l.getD j default) = true)) (fun i wi => l.length - (iOf i).toNat)
        case atStart => exact ⟨0, Nat.zero_le _, rfl, HO.out, HB.out, by intro j hj; omega⟩
        case round =>
          obtain ⟨k, hk, rfl, HOi, HBi, HS⟩ := hrel
          by_cases hkl : k < l.length
          · have hPi := (HOi.out.shape goodC)
            obtain ⟨A4, c4, hv4, _, _, hP4⟩ := hPi
            cases hv4
            obtain ⟨b0, off, y0, y1, rfl, hb0, h0, h1, hcel⟩ := PairsIn.at_ hP4 hkl
            have HSf := hide (rsafe_any (least := least) hcel HL.out)
            have HAt := hide (fun (hb : safeC least (l.getD k default) = false) => firstBad_at hkl HS.out hb)
            have HSn : Hid (safeC least (l.getD k default) = true → ∀ j, j < k + 1 → safeC least (l.getD j default) = true) := fun e j hj => by
              by_cases e1 : j = k
              · rw [e1]; exact e
              · exact HS.out j (by omega)
            have HOk := hide (fun wq (hq : Below _ _ wq) => HOi.out.kept goodC hq)
            have hsi := HBi.out.size
            clear hcel hP4
            cases hq : safeC least (l.getD k default) with
            | true =>
              rw [hq] at HSf
              have HSn := hide (HSn.out hq)
              clear hq HAt
              go_wp2_with fail
              refine HSf.out.mono ?_
              rintro e w6 ⟨rfl, hb6⟩
              have HO6 := hide (HOk.out _ hb6)
              have HB6 := hide (HBi.out.trans (hb6.mono hsi))
              clear hb6
              go_wp2_with fail
              go_roundw
              case rel => exact ⟨k + 1, by omega, by go_num, HO6.out, HB6.out, HSn.out⟩
              case measure => simp [iOf]; omega
            | false =>
              rw [hq] at HSf
              have HAt := hide (HAt.out hq)
              clear hq HSn
              go_wp2_with fail
              refine HSf.out.mono ?_
              rintro e w6 ⟨rfl, hb6⟩
              have HO6 := hide (HOk.out _ hb6)
              have HB6 := hide (HBi.out.trans (hb6.mono hsi))
              clear hb6
              obtain ⟨m, hm, hm1⟩ : ∃ m : Nat, m = min k (l.length - 2) ∧ m + 1 < l.length := ⟨_, rfl, by omega⟩
              have hst := mergeC_step (least := least) hlt (by rw [HAt.out]; exact hkl)
              rw [HAt.out, ← hm] at hst
              have HSt := hide hst
              have HWS := hide (valid_step (k := m) HW.out hm1)
              have hpo := pair_ok HW.out hm1
              have hsl := stepM_length (cs := l) hm1
              obtain ⟨A4, c4, hv4, hcc, hq4, hP4⟩ := HO6.out.shape goodC
              cases hv4
              obtain ⟨b2, o2, z0, z1, e2, hb2, g0, g1, hcel⟩ := PairsIn.at_ hP4 (k := m) (by omega)
              cases e2
              obtain ⟨b3, o3, z2, z3, e3, hb3, g2, g3, hcel'⟩ := PairsIn.at_ hP4 (k := m + 1) (by omega)
              cases e3
              obtain ⟨y, hy⟩ : ∃ y, uniteC (l.getD m default) (l.getD (m + 1) default) = y := ⟨_, rfl⟩
              have HY : Hid (stepM m l = l.take m ++ y :: l.drop (m + 2)) := by rw [← hy]; rfl
              obtain ⟨yn, hyn⟩ : ∃ n, y.1.length = n := ⟨_, rfl⟩
              obtain ⟨yk, hyk⟩ : ∃ n, y.2.length = n := ⟨_, rfl⟩
              have HUn := hide (fun wq (hq : Below w6.heap.size w6 wq) => unite_sl hq hcel hcel' hpo.1.2.2 hpo.2.1.2.2 hpo.2.2.2 hy hyn hyk)
              clear hy hyn hyk
              have HP6 := hide hP4
              have hs6 := HB6.out.size
              have hb0 : b0 < w6.heap.size := hb2
              have HMK := hide hm
              clear hcel hcel' hP4 hpo hst hb2 hb3 hm
              have n1 : ¬ w6.heap.size = b0 := by omega
              have i1 : (0 : Int) ≤ (m : Int) := by omega
              have i2 : (m : Int) < (l.length : Int) := by omega
              have i3 : m < l.length := by omega
              have i4 : IntKind.i64.wrap ((m : Int) + 1) = ((m + 1 : Nat) : Int) := (IntWalk.i64_in _ (by omega)).trans (by omega)
              have i5 : (0 : Int) ≤ ((m + 1 : Nat) : Int) := by omega
              have i6 : ((m + 1 : Nat) : Int) < (l.length : Int) := by omega
              have i5' : (0 : Int) ≤ (m : Int) + 1 := by omega
              have i6' : (m : Int) + 1 < (l.length : Int) := by omega
              have i7 : IntKind.i64.wrap ((m : Int) + 2) = ((m + 2 : Nat) : Int) := (IntWalk.i64_in _ (by omega)).trans (by omega)
              rcases Nat.lt_or_ge (l.length - 2) k with hk2 | hk2
              case' inl =>
                have hmin : ((l.length : Int) - 2) = ((m : Nat) : Int) := by have := HMK.out; omega
                go_wp2_with fail
              case' inr =>
                obtain rfl : m = k := by have := HMK.out; omega
                go_wp2_with fail
              all_goals go_region_held3 (fun v => v.cell? ⟨b0, off + m * 2, none⟩ = some z0 ∧ v.cell? ⟨b0, off + m * 2 + 1, none⟩ = some z1 ∧ v.cell? ⟨b0, off + (m + 1) * 2, none⟩ = some z2 ∧ v.cell? ⟨b0, off + (m + 1) * 2 + 1, none⟩ = some z3)
                (go_keep)
                ((go_at_call 32; refine (HUn.out _ ?_).mono ?_; (first | exact (Below.refl _ _).drew | exact (Below.refl _ _).drew.alloc (Nat.le_refl _) _); rintro e w7 ⟨Xp, cp, Xg, cg, rfl, HX7, hb7, hbox⟩; have g0 := (hb7.cell (p := ⟨b0, off + m * 2, none⟩) hb0).trans g0; have g1 := (hb7.cell (p := ⟨b0, off + m * 2 + 1, none⟩) hb0).trans g1; have g2 := (hb7.cell (p := ⟨b0, off + (m + 1) * 2, none⟩) hb0).trans g2; have g3 := (hb7.cell (p := ⟨b0, off + (m + 1) * 2 + 1, none⟩) hb0).trans g3; have n2 : ¬ w7.heap.size = b0 := (by have := hb7.size; omega); try (have hz := hbox w6.heap.size none 0 0 none 0 0 (by exact Box.new w6.drew _ _); obtain ⟨HZ, zc0, zc1, zf0, zf1, zl⟩ := hz); clear hbox))
              all_goals first
                | (obtain ⟨w8, hw8⟩ : ∃ x, x = (w7.setCell ⟨w6.heap.size, 0, none⟩ (.slice Xp yn cp)).setCell ⟨w6.heap.size, 1, none⟩ (.slice Xg yk cg) := ⟨_, rfl⟩
                   obtain ⟨g8, hg8⟩ : ∃ x, x = w6.heap.size := ⟨_, rfl⟩
                   have HPK : Hid (PK w6 w8 g8 (.slice Xp yn cp) (.slice Xg yk cg) y) := by rw [hw8, hg8]; exact pk_set hb7 HX7 HZ (Nat.le_refl _)
                   rw [← hw8, ← hg8]
                   clear hw8 hg8 HX7 HZ hb7 zc0 zc1 zf0 zf1 zl)
                | (obtain ⟨w8, hw8⟩ : ∃ x, x = w7.alloc (.cells #[.slice Xp yn cp, .slice Xg yk cg] 34) := ⟨_, rfl⟩
                   obtain ⟨g8, hg8⟩ : ∃ x, x = w7.heap.size := ⟨_, rfl⟩
                   have HPK : Hid (PK w6 w8 g8 (.slice Xp yn cp) (.slice Xg yk cg) y) := by rw [hw8, hg8]; exact pk_alloc hb7 HX7
                   rw [← hw8, ← hg8]
                   clear hw8 hg8 HX7 hb7)
              · have j1 : (m : Int) ≤ (c3 : Int) := by omega
                have j2 : m ≤ c3 := by omega
                have j3 : (m : Int) + 2 ≤ (l.length : Int) := by omega
                have j4 : ((m + 2 : Nat) : Int) ≤ (l.length : Int) := by omega
                have j5 : m + 2 ≤ l.length := by omega
                have j6 : m + 2 ≤ c3 := by omega
                have j7 : (0 : Int) ≤ (m : Int) + 2 := by omega
                have j8 : (0 : Int) ≤ ((m + 2 : Nat) : Int) := by omega
                have j9 : (l.length : Int) ≤ (c3 : Int) := by omega
                have j10 : ((m : Int) + 2).toNat = m + 2 := by omega
                obtain ⟨hb8, hx8, hX8⟩ := HPK.out
                have HP8 := hide (PairsIn.mono (PairsIn.agree HP6.out goodC (Agree.all hb8)) goodC fun i hi => Nat.lt_of_lt_of_le hi hb8.size)
                have HW8 := hide (HB6.out.trans (hb8.mono hs6))
                have hlt8 := hX8.lt
                have hs8 := HW8.out.size
                have hk0 : w8.cell? ⟨g8, 0, none⟩ = some (.slice Xp yn cp) := hX8.cell 0
                have hk1 : w8.cell? ⟨g8, 1, none⟩ = some (.slice Xg yk cg) := hX8.cell 1
                obtain ⟨P6, d6, w9, P7, d7, w10, P8, d8, w11, ra1, ra2, ra3, hO, p9, p9', p10, p11⟩ := tail_a (c := c3) (d := c3 - (m + 2)) HP8.out (drop_at HP8.out hc3 j5) hm1 hl12 hx8
                obtain ⟨Q6, e6, v9, Q7, e7, v10, Q8, e8, v11, rb1, rb2, rb3, hO', q9', q9, q10, q11⟩ := tail_b (c := c3) (d := c3 - (m + 2)) HP8.out (drop_at HP8.out hc3 j5) hm1 hl12 hx8
                rw [← HY.out] at hO hO'
                have HRA1 := hide ra1
                have HRA2 := hide ra2
                have HRA3 := hide ra3
                have HRB1 := hide rb1
                have HRB2 := hide rb2
                have HRB3 := hide rb3
                have hcell : ∀ v, Below w8.heap.size w8 v → v.cell? ⟨g8, 0, none⟩ = some (.slice Xp yn cp) ∧ v.cell? ⟨g8, 1, none⟩ = some (.slice Xg yk cg) := fun v hv => ⟨(hv.cell (p := ⟨g8, 0, none⟩) hlt8).trans hk0, (hv.cell (p := ⟨g8, 1, none⟩) hlt8).trans hk1⟩
                have HS0 := hide (hcell _ (below_drew (Below.refl w8.heap.size w8) 1))
                have HSA9 := hide (hcell _ p9)
                have HSAx := hide (hcell _ p9')
                have HSA10 := hide (hcell _ p10)
                have HSA11 := hide (hcell _ p11)
                have HSBx := hide (hcell _ q9')
                have HSB9 := hide (hcell _ q9)
                have HSB10 := hide (hcell _ q10)
                have HSB11 := hide (hcell _ q11)
                have HOA := hide (hO.lower hs8)
                have HOB := hide (hO'.lower hs8)
                have HBA := hide (HW8.out.trans (p11.mono hs8))
                have HBB := hide (HW8.out.trans (q11.mono hs8))
                clear ra1 ra2 ra3 rb1 rb2 rb3 hO hO' p9 p9' p10 p11 q9' q9 q10 q11 hcell hb8 hx8 hX8 hk0 hk1
                go_wp2_with fail
                refine wp_region_held_drew (S := fun v => v.cell? ⟨g8, 0, none⟩ = some (.slice Xp yn cp) ∧ v.cell? ⟨g8, 1, none⟩ = some (.slice Xg yk cg)) (by kernel_rfl) (HS0.out) (fun hH => ?_)
                refine wpAnyH_take (i := 0) (v := ?av0) (by simp only [List.getElem?_toArray, List.getElem?_cons_succ, List.getElem?_cons_zero]; exact rfl) (by kernel_rfl) (by kernel_rfl) (by kernel_rfl) ?aq0 ?ay0 hH ?ar0
                case aq0 => exact fun _ _ _ h => h
                case ay0 =>
                  refine Or.inl ⟨by rfl, fun v hv => ?_⟩
                  go_simp
                  rfl
                try simp only [Act.put, List.setIfInBounds_toArray, List.set_cons_zero, List.set_cons_succ]
                refine wpAnyH_take (i := 1) (v := ?av1) (by simp only [List.getElem?_toArray, List.getElem?_cons_succ, List.getElem?_cons_zero]; exact rfl) (by kernel_rfl) (by kernel_rfl) (by kernel_rfl) ?aq1 ?ay1 hH ?ar1
                case aq1 => exact fun _ _ _ h => h
                case ay1 =>
                  refine Or.inl ⟨by rfl, fun v hv => ?_⟩
                  go_simp
                  rfl
                try simp only [Act.put, List.setIfInBounds_toArray, List.set_cons_zero, List.set_cons_succ]
                refine wpAnyH_take (i := 2) (v := ?av2) (by simp only [List.getElem?_toArray, List.getElem?_cons_succ, List.getElem?_cons_zero]; exact rfl) (by kernel_rfl) (by kernel_rfl) (by kernel_rfl) ?aq2 ?ay2 hH ?ar2
                case aq2 => exact fun _ _ _ h => h
                case ay2 =>
                  refine Or.inl ⟨by rfl, fun v hv => ?_⟩
                  go_simp
                  rfl
                try simp only [Act.put, List.setIfInBounds_toArray, List.set_cons_zero, List.set_cons_succ]
                refine wpAnyH_take (i := 4) (v := ?av4) (by simp only [List.getElem?_toArray, List.getElem?_cons_succ, List.getElem?_cons_zero]; exact rfl) (by kernel_rfl) (by kernel_rfl) (by kernel_rfl) ?aq4 ?ay4 hH ?ar4
                case aq4 => exact fun _ _ _ h => h
                case ay4 =>
                  refine Or.inl ⟨by rfl, fun v hv => ?_⟩
                  obtain ⟨q0, q1⟩ := hv
                  go_simp
                  rfl
                try simp only [Act.put, List.setIfInBounds_toArray, List.set_cons_zero, List.set_cons_succ]
                refine wpAnyH_take (i := 7) (v := ?av7) (by simp only [List.getElem?_toArray, List.getElem?_cons_succ, List.getElem?_cons_zero]; exact rfl) (by kernel_rfl) (by kernel_rfl) (by kernel_rfl) ?aq7 ?ay7 hH ?ar7
                case aq7 => exact fun _ _ _ h => h
                case ay7 =>
                  refine Or.inl ⟨by rfl, fun v hv => ?_⟩
                  go_simp
                  rfl
                try simp only [Act.put, List.setIfInBounds_toArray, List.set_cons_zero, List.set_cons_succ]
                refine wpAnyH_take (i := 8) (v := ?av8) (by simp only [List.getElem?_toArray, List.getElem?_cons_succ, List.getElem?_cons_zero]; exact rfl) (by kernel_rfl) (by kernel_rfl) (by kernel_rfl) ?aq8 ?ay8 hH ?ar8
                case aq8 => exact fun _ _ _ h => h
                case ay8 =>
                  refine Or.inl ⟨by rfl, fun v hv => ?_⟩
                  go_simp
                  rfl
                try simp only [Act.put, List.setIfInBounds_toArray, List.set_cons_zero, List.set_cons_succ]
                refine wpAnyH_take (i := 9) (v := ?av9) (by simp only [List.getElem?_toArray, List.getElem?_cons_succ, List.getElem?_cons_zero]; exact rfl) (by kernel_rfl) (by kernel_rfl) (by kernel_rfl) ?aq9 ?ay9 hH ?ar9
                case aq9 => exact fun _ _ _ h => h
                case ay9 =>
                  refine Or.inl ⟨by rfl, fun v hv => ?_⟩
                  go_simp
                  rfl
                try simp only [Act.put, List.setIfInBounds_toArray, List.set_cons_zero, List.set_cons_succ]
                refine wpAnyH_take (i := 10) (v := ?av10) (by simp only [List.getElem?_toArray, List.getElem?_cons_succ, List.getElem?_cons_zero]; exact rfl) (by kernel_rfl) (by kernel_rfl) (by kernel_rfl) ?aq10 ?ay10 hH ?ar10
                case aq10 => exact fun _ _ _ h => h
                case ay10 =>
                  refine Or.inl ⟨by rfl, fun v hv => ?_⟩
                  go_simp
                  rfl
                try simp only [Act.put, List.setIfInBounds_toArray, List.set_cons_zero, List.set_cons_succ]
                refine wpAnyH_ready (rs := [3, 5]) (by kernel_rfl) (by simp) ?_
                refine AllReadyH.cons (by simp only [List.getElem?_toArray, List.getElem?_cons_succ, List.getElem?_cons_zero]; exact rfl) (fun K hK => ?ab3) (AllReadyH.cons (by simp only [List.getElem?_toArray, List.getElem?_cons_succ, List.getElem?_cons_zero]; exact rfl) (fun K hK => ?ab5) (AllReadyH.nil))
                case ab3 =>
                  refine step_gives rfl (gives_append rfl rfl rfl HRA1.out) ?_
                  have hN := HSA9.out
                  refine hK.out _ _ hN (fun hH' => ?_)
                  clear hK hH hN K
                  have hH := hH'
                  clear hH'
                  try simp only [Act.put, List.setIfInBounds_toArray, List.set_cons_zero, List.set_cons_succ]
                  refine wpAnyH_ready (rs := [5]) (by kernel_rfl) (by simp) ?_
                  refine AllReadyH.cons (by simp only [List.getElem?_toArray, List.getElem?_cons_succ, List.getElem?_cons_zero]; exact rfl) (fun K hK => ?_) AllReadyH.nil
                  go_simp
                  have hN := HSAx.out
                  refine hK.out _ _ hN (fun hH' => ?_)
                  clear hK hH hN K
                  have hH := hH'
                  clear hH'
                  try simp only [Act.put, List.setIfInBounds_toArray, List.set_cons_zero, List.set_cons_succ]
                  refine wpAnyH_ready (rs := [6]) (by kernel_rfl) (by simp) ?_
                  refine AllReadyH.cons (by simp only [List.getElem?_toArray, List.getElem?_cons_succ, List.getElem?_cons_zero]; exact rfl) (fun K hK => ?_) AllReadyH.nil
                  refine step_gives rfl (gives_append rfl rfl rfl HRA2.out) ?_
                  have hN := HSA10.out
                  refine hK.out _ _ hN (fun hH' => ?_)
                  clear hK hH hN K
                  have hH := hH'
                  clear hH'
                  try simp only [Act.put, List.setIfInBounds_toArray, List.set_cons_zero, List.set_cons_succ]
                  refine wpAnyH_ready (rs := [11]) (by kernel_rfl) (by simp) ?_
                  refine AllReadyH.cons (by simp only [List.getElem?_toArray, List.getElem?_cons_succ, List.getElem?_cons_zero]; exact rfl) (fun K hK => ?_) AllReadyH.nil
                  refine step_gives rfl (gives_append rfl rfl rfl HRA3.out) ?_
                  have hN := HSA11.out
                  refine hK.out _ _ hN (fun hH' => ?_)
                  clear hK hH hN K
                  have hH := hH'
                  clear hH'
                  try simp only [Act.put, List.setIfInBounds_toArray, List.set_cons_zero, List.set_cons_succ]
                  refine wpAnyH_take (i := 12) (v := ?ac3v12) (by simp only [List.getElem?_toArray, List.getElem?_cons_succ, List.getElem?_cons_zero]; exact rfl) (by kernel_rfl) (by kernel_rfl) (by kernel_rfl) ?ac3q12 ?ac3y12 hH ?ac3r12
                  case ac3q12 => exact fun _ _ _ h => h
                  case ac3y12 =>
                    refine Or.inl ⟨by rfl, fun v hv => ?_⟩
                    go_simp
                    rfl
                  try simp only [Act.put, List.setIfInBounds_toArray, List.set_cons_zero, List.set_cons_succ]
                  refine wpAnyH_done (by kernel_rfl) ?_ _
                  go_wp2_with fail
                  go_roundw
                  case rel => exact ⟨stepM m l, _, rfl, HOA.out, HWS.out, by rw [← HSt.out]; exact HE.out, HBA.out⟩
                  case measure => simp [lenV]; omega
                case ab5 =>
                  go_simp
                  have hN := HSBx.out
                  refine hK.out _ _ hN (fun hH' => ?_)
                  clear hK hH hN K
                  have hH := hH'
                  clear hH'
                  try simp only [Act.put, List.setIfInBounds_toArray, List.set_cons_zero, List.set_cons_succ]
                  refine wpAnyH_ready (rs := [3]) (by kernel_rfl) (by simp) ?_
                  refine AllReadyH.cons (by simp only [List.getElem?_toArray, List.getElem?_cons_succ, List.getElem?_cons_zero]; exact rfl) (fun K hK => ?_) AllReadyH.nil
                  refine step_gives rfl (gives_append rfl rfl rfl HRB1.out) ?_
                  have hN := HSB9.out
                  refine hK.out _ _ hN (fun hH' => ?_)
                  clear hK hH hN K
                  have hH := hH'
                  clear hH'
                  try simp only [Act.put, List.setIfInBounds_toArray, List.set_cons_zero, List.set_cons_succ]
                  refine wpAnyH_ready (rs := [6]) (by kernel_rfl) (by simp) ?_
                  refine AllReadyH.cons (by simp only [List.getElem?_toArray, List.getElem?_cons_succ, List.getElem?_cons_zero]; exact rfl) (fun K hK => ?_) AllReadyH.nil
                  refine step_gives rfl (gives_append rfl rfl rfl HRB2.out) ?_
                  have hN := HSB10.out
                  refine hK.out _ _ hN (fun hH' => ?_)
                  clear hK hH hN K
                  have hH := hH'
                  clear hH'
                  try simp only [Act.put, List.setIfInBounds_toArray, List.set_cons_zero, List.set_cons_succ]
                  refine wpAnyH_ready (rs := [11]) (by kernel_rfl) (by simp) ?_
                  refine AllReadyH.cons (by simp only [List.getElem?_toArray, List.getElem?_cons_succ, List.getElem?_cons_zero]; exact rfl) (fun K hK => ?_) AllReadyH.nil
                  refine step_gives rfl (gives_append rfl rfl rfl HRB3.out) ?_
                  have hN := HSB11.out
                  refine hK.out _ _ hN (fun hH' => ?_)
                  clear hK hH hN K
                  have hH := hH'
                  clear hH'
                  try simp only [Act.put, List.setIfInBounds_toArray, List.set_cons_zero, List.set_cons_succ]
                  refine wpAnyH_take (i := 12) (v := ?ac5v12) (by simp only [List.getElem?_toArray, List.getElem?_cons_succ, List.getElem?_cons_zero]; exact rfl) (by kernel_rfl) (by kernel_rfl) (by kernel_rfl) ?ac5q12 ?ac5y12 hH ?ac5r12
                  case ac5q12 => exact fun _ _ _ h => h
                  case ac5y12 =>
                    refine Or.inl ⟨by rfl, fun v hv => ?_⟩
                    go_simp
                    rfl
                  try simp only [Act.put, List.setIfInBounds_toArray, List.set_cons_zero, List.set_cons_succ]
                  refine wpAnyH_done (by kernel_rfl) ?_ _
                  go_wp2_with fail
                  go_roundw
                  case rel => exact ⟨stepM m l, _, rfl, HOB.out, HWS.out, by rw [← HSt.out]; exact HE.out, HBB.out⟩
                  case measure => simp [lenV]; omega
              · have j1 : (m : Int) ≤ (c3 : Int) := by omega
                have j2 : m ≤ c3 := by omega
                have j3 : (m : Int) + 2 ≤ (l.length : Int) := by omega
                have j4 : ((m + 2 : Nat) : Int) ≤ (l.length : Int) := by omega
                have j5 : m + 2 ≤ l.length := by omega
                have j6 : m + 2 ≤ c3 := by omega
                have j7 : (0 : Int) ≤ (m : Int) + 2 := by omega
                have j8 : (0 : Int) ≤ ((m + 2 : Nat) : Int) := by omega
                have j9 : (l.length : Int) ≤ (c3 : Int) := by omega
                have j10 : ((m : Int) + 2).toNat = m + 2 := by omega
                obtain ⟨hb8, hx8, hX8⟩ := HPK.out
                have HP8 := hide (PairsIn.mono (PairsIn.agree HP6.out goodC (Agree.all hb8)) goodC fun i hi => Nat.lt_of_lt_of_le hi hb8.size)
                have HW8 := hide (HB6.out.trans (hb8.mono hs6))
                have hlt8 := hX8.lt
                have hs8 := HW8.out.size
                have hk0 : w8.cell? ⟨g8, 0, none⟩ = some (.slice Xp yn cp) := hX8.cell 0
                have hk1 : w8.cell? ⟨g8, 1, none⟩ = some (.slice Xg yk cg) := hX8.cell 1
                obtain ⟨P6, d6, w9, P7, d7, w10, P8, d8, w11, ra1, ra2, ra3, hO, p9, p9', p10, p11⟩ := tail_a (c := c3) (d := c3 - (m + 2)) HP8.out (drop_at HP8.out hc3 j5) hm1 hl12 hx8
                obtain ⟨Q6, e6, v9, Q7, e7, v10, Q8, e8, v11, rb1, rb2, rb3, hO', q9', q9, q10, q11⟩ := tail_b (c := c3) (d := c3 - (m + 2)) HP8.out (drop_at HP8.out hc3 j5) hm1 hl12 hx8
                rw [← HY.out] at hO hO'
                have HRA1 := hide ra1
                have HRA2 := hide ra2
                have HRA3 := hide ra3
                have HRB1 := hide rb1
                have HRB2 := hide rb2
                have HRB3 := hide rb3
                have hcell : ∀ v, Below w8.heap.size w8 v → v.cell? ⟨g8, 0, none⟩ = some (.slice Xp yn cp) ∧ v.cell? ⟨g8, 1, none⟩ = some (.slice Xg yk cg) := fun v hv => ⟨(hv.cell (p := ⟨g8, 0, none⟩) hlt8).trans hk0, (hv.cell (p := ⟨g8, 1, none⟩) hlt8).trans hk1⟩
                have HS0 := hide (hcell _ (below_drew (Below.refl w8.heap.size w8) 1))
                have HSA9 := hide (hcell _ p9)
                have HSAx := hide (hcell _ p9')
                have HSA10 := hide (hcell _ p10)
                have HSA11 := hide (hcell _ p11)
                have HSBx := hide (hcell _ q9')
                have HSB9 := hide (hcell _ q9)
                have HSB10 := hide (hcell _ q10)
                have HSB11 := hide (hcell _ q11)
                have HOA := hide (hO.lower hs8)
                have HOB := hide (hO'.lower hs8)
                have HBA := hide (HW8.out.trans (p11.mono hs8))
                have HBB := hide (HW8.out.trans (q11.mono hs8))
                clear ra1 ra2 ra3 rb1 rb2 rb3 hO hO' p9 p9' p10 p11 q9' q9 q10 q11 hcell hb8 hx8 hX8 hk0 hk1
                go_wp2_with fail
                refine wp_region_held_drew (S := fun v => v.cell? ⟨g8, 0, none⟩ = some (.slice Xp yn cp) ∧ v.cell? ⟨g8, 1, none⟩ = some (.slice Xg yk cg)) (by kernel_rfl) (HS0.out) (fun hH => ?_)
                refine wpAnyH_take (i := 0) (v := ?bv0) (by simp only [List.getElem?_toArray, List.getElem?_cons_succ, List.getElem?_cons_zero]; exact rfl) (by kernel_rfl) (by kernel_rfl) (by kernel_rfl) ?bq0 ?by0 hH ?br0
                case bq0 => exact fun _ _ _ h => h
                case by0 =>
                  refine Or.inl ⟨by rfl, fun v hv => ?_⟩
                  go_simp
                  rfl
                try simp only [Act.put, List.setIfInBounds_toArray, List.set_cons_zero, List.set_cons_succ]
                refine wpAnyH_take (i := 1) (v := ?bv1) (by simp only [List.getElem?_toArray, List.getElem?_cons_succ, List.getElem?_cons_zero]; exact rfl) (by kernel_rfl) (by kernel_rfl) (by kernel_rfl) ?bq1 ?by1 hH ?br1
                case bq1 => exact fun _ _ _ h => h
                case by1 =>
                  refine Or.inl ⟨by rfl, fun v hv => ?_⟩
                  go_simp
                  rfl
                try simp only [Act.put, List.setIfInBounds_toArray, List.set_cons_zero, List.set_cons_succ]
                refine wpAnyH_take (i := 2) (v := ?bv2) (by simp only [List.getElem?_toArray, List.getElem?_cons_succ, List.getElem?_cons_zero]; exact rfl) (by kernel_rfl) (by kernel_rfl) (by kernel_rfl) ?bq2 ?by2 hH ?br2
                case bq2 => exact fun _ _ _ h => h
                case by2 =>
                  refine Or.inl ⟨by rfl, fun v hv => ?_⟩
                  go_simp
                  rfl
                try simp only [Act.put, List.setIfInBounds_toArray, List.set_cons_zero, List.set_cons_succ]
                refine wpAnyH_take (i := 4) (v := ?bv4) (by simp only [List.getElem?_toArray, List.getElem?_cons_succ, List.getElem?_cons_zero]; exact rfl) (by kernel_rfl) (by kernel_rfl) (by kernel_rfl) ?bq4 ?by4 hH ?br4
                case bq4 => exact fun _ _ _ h => h
                case by4 =>
                  refine Or.inl ⟨by rfl, fun v hv => ?_⟩
                  obtain ⟨q0, q1⟩ := hv
                  go_simp
                  rfl
                try simp only [Act.put, List.setIfInBounds_toArray, List.set_cons_zero, List.set_cons_succ]
                refine wpAnyH_take (i := 7) (v := ?bv7) (by simp only [List.getElem?_toArray, List.getElem?_cons_succ, List.getElem?_cons_zero]; exact rfl) (by kernel_rfl) (by kernel_rfl) (by kernel_rfl) ?bq7 ?by7 hH ?br7
                case bq7 => exact fun _ _ _ h => h
                case by7 =>
                  refine Or.inl ⟨by rfl, fun v hv => ?_⟩
                  go_simp
                  rfl
                try simp only [Act.put, List.setIfInBounds_toArray, List.set_cons_zero, List.set_cons_succ]
                refine wpAnyH_take (i := 8) (v := ?bv8) (by simp only [List.getElem?_toArray, List.getElem?_cons_succ, List.getElem?_cons_zero]; exact rfl) (by kernel_rfl) (by kernel_rfl) (by kernel_rfl) ?bq8 ?by8 hH ?br8
                case bq8 => exact fun _ _ _ h => h
                case by8 =>
                  refine Or.inl ⟨by rfl, fun v hv => ?_⟩
                  go_simp
                  rfl
                try simp only [Act.put, List.setIfInBounds_toArray, List.set_cons_zero, List.set_cons_succ]
                refine wpAnyH_take (i := 9) (v := ?bv9) (by simp only [List.getElem?_toArray, List.getElem?_cons_succ, List.getElem?_cons_zero]; exact rfl) (by kernel_rfl) (by kernel_rfl) (by kernel_rfl) ?bq9 ?by9 hH ?br9
                case bq9 => exact fun _ _ _ h => h
                case by9 =>
                  refine Or.inl ⟨by rfl, fun v hv => ?_⟩
                  go_simp
                  rfl
                try simp only [Act.put, List.setIfInBounds_toArray, List.set_cons_zero, List.set_cons_succ]
                refine wpAnyH_take (i := 10) (v := ?bv10) (by simp only [List.getElem?_toArray, List.getElem?_cons_succ, List.getElem?_cons_zero]; exact rfl) (by kernel_rfl) (by kernel_rfl) (by kernel_rfl) ?bq10 ?by10 hH ?br10
                case bq10 => exact fun _ _ _ h => h
                case by10 =>
                  refine Or.inl ⟨by rfl, fun v hv => ?_⟩
                  go_simp
                  rfl
                try simp only [Act.put, List.setIfInBounds_toArray, List.set_cons_zero, List.set_cons_succ]
                refine wpAnyH_ready (rs := [3, 5]) (by kernel_rfl) (by simp) ?_
                refine AllReadyH.cons (by simp only [List.getElem?_toArray, List.getElem?_cons_succ, List.getElem?_cons_zero]; exact rfl) (fun K hK => ?bb3) (AllReadyH.cons (by simp only [List.getElem?_toArray, List.getElem?_cons_succ, List.getElem?_cons_zero]; exact rfl) (fun K hK => ?bb5) (AllReadyH.nil))
                case bb3 =>
                  refine step_gives rfl (gives_append rfl rfl rfl HRA1.out) ?_
                  have hN := HSA9.out
                  refine hK.out _ _ hN (fun hH' => ?_)
                  clear hK hH hN K
                  have hH := hH'
                  clear hH'
                  try simp only [Act.put, List.setIfInBounds_toArray, List.set_cons_zero, List.set_cons_succ]
                  refine wpAnyH_ready (rs := [5]) (by kernel_rfl) (by simp) ?_
                  refine AllReadyH.cons (by simp only [List.getElem?_toArray, List.getElem?_cons_succ, List.getElem?_cons_zero]; exact rfl) (fun K hK => ?_) AllReadyH.nil
                  go_simp
                  have hN := HSAx.out
                  refine hK.out _ _ hN (fun hH' => ?_)
                  clear hK hH hN K
                  have hH := hH'
                  clear hH'
                  try simp only [Act.put, List.setIfInBounds_toArray, List.set_cons_zero, List.set_cons_succ]
                  refine wpAnyH_ready (rs := [6]) (by kernel_rfl) (by simp) ?_
                  refine AllReadyH.cons (by simp only [List.getElem?_toArray, List.getElem?_cons_succ, List.getElem?_cons_zero]; exact rfl) (fun K hK => ?_) AllReadyH.nil
                  refine step_gives rfl (gives_append rfl rfl rfl HRA2.out) ?_
                  have hN := HSA10.out
                  refine hK.out _ _ hN (fun hH' => ?_)
                  clear hK hH hN K
                  have hH := hH'
                  clear hH'
                  try simp only [Act.put, List.setIfInBounds_toArray, List.set_cons_zero, List.set_cons_succ]
                  refine wpAnyH_ready (rs := [11]) (by kernel_rfl) (by simp) ?_
                  refine AllReadyH.cons (by simp only [List.getElem?_toArray, List.getElem?_cons_succ, List.getElem?_cons_zero]; exact rfl) (fun K hK => ?_) AllReadyH.nil
                  refine step_gives rfl (gives_append rfl rfl rfl HRA3.out) ?_
                  have hN := HSA11.out
                  refine hK.out _ _ hN (fun hH' => ?_)
                  clear hK hH hN K
                  have hH := hH'
                  clear hH'
                  try simp only [Act.put, List.setIfInBounds_toArray, List.set_cons_zero, List.set_cons_succ]
                  refine wpAnyH_take (i := 12) (v := ?bc3v12) (by simp only [List.getElem?_toArray, List.getElem?_cons_succ, List.getElem?_cons_zero]; exact rfl) (by kernel_rfl) (by kernel_rfl) (by kernel_rfl) ?bc3q12 ?bc3y12 hH ?bc3r12
                  case bc3q12 => exact fun _ _ _ h => h
                  case bc3y12 =>
                    refine Or.inl ⟨by rfl, fun v hv => ?_⟩
                    go_simp
                    rfl
                  try simp only [Act.put, List.setIfInBounds_toArray, List.set_cons_zero, List.set_cons_succ]
                  refine wpAnyH_done (by kernel_rfl) ?_ _
                  go_wp2_with fail
                  go_roundw
                  case rel => exact ⟨stepM m l, _, rfl, HOA.out, HWS.out, by rw [← HSt.out]; exact HE.out, HBA.out⟩
                  case measure => simp [lenV]; omega
                case bb5 =>
                  go_simp
                  have hN := HSBx.out
                  refine hK.out _ _ hN (fun hH' => ?_)
                  clear hK hH hN K
                  have hH := hH'
                  clear hH'
                  try simp only [Act.put, List.setIfInBounds_toArray, List.set_cons_zero, List.set_cons_succ]
                  refine wpAnyH_ready (rs := [3]) (by kernel_rfl) (by simp) ?_
                  refine AllReadyH.cons (by simp only [List.getElem?_toArray, List.getElem?_cons_succ, List.getElem?_cons_zero]; exact rfl) (fun K hK => ?_) AllReadyH.nil
                  refine step_gives rfl (gives_append rfl rfl rfl HRB1.out) ?_
                  have hN := HSB9.out
                  refine hK.out _ _ hN (fun hH' => ?_)
                  clear hK hH hN K
                  have hH := hH'
                  clear hH'
                  try simp only [Act.put, List.setIfInBounds_toArray, List.set_cons_zero, List.set_cons_succ]
                  refine wpAnyH_ready (rs := [6]) (by kernel_rfl) (by simp) ?_
                  refine AllReadyH.cons (by simp only [List.getElem?_toArray, List.getElem?_cons_succ, List.getElem?_cons_zero]; exact rfl) (fun K hK => ?_) AllReadyH.nil
                  refine step_gives rfl (gives_append rfl rfl rfl HRB2.out) ?_
                  have hN := HSB10.out
                  refine hK.out _ _ hN (fun hH' => ?_)
                  clear hK hH hN K
                  have hH := hH'
                  clear hH'
                  try simp only [Act.put, List.setIfInBounds_toArray, List.set_cons_zero, List.set_cons_succ]
                  refine wpAnyH_ready (rs := [11]) (by kernel_rfl) (by simp) ?_
                  refine AllReadyH.cons (by simp only [List.getElem?_toArray, List.getElem?_cons_succ, List.getElem?_cons_zero]; exact rfl) (fun K hK => ?_) AllReadyH.nil
                  refine step_gives rfl (gives_append rfl rfl rfl HRB3.out) ?_
                  have hN := HSB11.out
                  refine hK.out _ _ hN (fun hH' => ?_)
                  clear hK hH hN K
                  have hH := hH'
                  clear hH'
                  try simp only [Act.put, List.setIfInBounds_toArray, List.set_cons_zero, List.set_cons_succ]
                  refine wpAnyH_take (i := 12) (v := ?bc5v12) (by simp only [List.getElem?_toArray, List.getElem?_cons_succ, List.getElem?_cons_zero]; exact rfl) (by kernel_rfl) (by kernel_rfl) (by kernel_rfl) ?bc5q12 ?bc5y12 hH ?bc5r12
                  case bc5q12 => exact fun _ _ _ h => h
                  case bc5y12 =>
                    refine Or.inl ⟨by rfl, fun v hv => ?_⟩
                    go_simp
                    rfl
                  try simp only [Act.put, List.setIfInBounds_toArray, List.set_cons_zero, List.set_cons_succ]
                  refine wpAnyH_done (by kernel_rfl) ?_ _
                  go_wp2_with fail
                  go_roundw
                  case rel => exact ⟨stepM m l, _, rfl, HOB.out, HWS.out, by rw [← HSt.out]; exact HE.out, HBB.out⟩
                  case measure => simp [lenV]; omega
              · have j1 : (m : Int) ≤ (c3 : Int) := by omega
                have j2 : m ≤ c3 := by omega
                have j3 : (m : Int) + 2 ≤ (l.length : Int) := by omega
                have j4 : ((m + 2 : Nat) : Int) ≤ (l.length : Int) := by omega
                have j5 : m + 2 ≤ l.length := by omega
                have j6 : m + 2 ≤ c3 := by omega
                have j7 : (0 : Int) ≤ (m : Int) + 2 := by omega
                have j8 : (0 : Int) ≤ ((m + 2 : Nat) : Int) := by omega
                have j9 : (l.length : Int) ≤ (c3 : Int) := by omega
                have j10 : ((m : Int) + 2).toNat = m + 2 := by omega
                obtain ⟨hb8, hx8, hX8⟩ := HPK.out
                have HP8 := hide (PairsIn.mono (PairsIn.agree HP6.out goodC (Agree.all hb8)) goodC fun i hi => Nat.lt_of_lt_of_le hi hb8.size)
                have HW8 := hide (HB6.out.trans (hb8.mono hs6))
                have hlt8 := hX8.lt
                have hs8 := HW8.out.size
                have hk0 : w8.cell? ⟨g8, 0, none⟩ = some (.slice Xp yn cp) := hX8.cell 0
                have hk1 : w8.cell? ⟨g8, 1, none⟩ = some (.slice Xg yk cg) := hX8.cell 1
                obtain ⟨P6, d6, w9, P7, d7, w10, P8, d8, w11, ra1, ra2, ra3, hO, p9, p9', p10, p11⟩ := tail_a (c := c3) (d := c3 - (m + 2)) HP8.out (drop_at HP8.out hc3 j5) hm1 hl12 hx8
                obtain ⟨Q6, e6, v9, Q7, e7, v10, Q8, e8, v11, rb1, rb2, rb3, hO', q9', q9, q10, q11⟩ := tail_b (c := c3) (d := c3 - (m + 2)) HP8.out (drop_at HP8.out hc3 j5) hm1 hl12 hx8
                rw [← HY.out] at hO hO'
                have HRA1 := hide ra1
                have HRA2 := hide ra2
                have HRA3 := hide ra3
                have HRB1 := hide rb1
                have HRB2 := hide rb2
                have HRB3 := hide rb3
                have hcell : ∀ v, Below w8.heap.size w8 v → v.cell? ⟨g8, 0, none⟩ = some (.slice Xp yn cp) ∧ v.cell? ⟨g8, 1, none⟩ = some (.slice Xg yk cg) := fun v hv => ⟨(hv.cell (p := ⟨g8, 0, none⟩) hlt8).trans hk0, (hv.cell (p := ⟨g8, 1, none⟩) hlt8).trans hk1⟩
                have HS0 := hide (hcell _ (below_drew (Below.refl w8.heap.size w8) 1))
                have HSA9 := hide (hcell _ p9)
                have HSAx := hide (hcell _ p9')
                have HSA10 := hide (hcell _ p10)
                have HSA11 := hide (hcell _ p11)
                have HSBx := hide (hcell _ q9')
                have HSB9 := hide (hcell _ q9)
                have HSB10 := hide (hcell _ q10)
                have HSB11 := hide (hcell _ q11)
                have HOA := hide (hO.lower hs8)
                have HOB := hide (hO'.lower hs8)
                have HBA := hide (HW8.out.trans (p11.mono hs8))
                have HBB := hide (HW8.out.trans (q11.mono hs8))
                clear ra1 ra2 ra3 rb1 rb2 rb3 hO hO' p9 p9' p10 p11 q9' q9 q10 q11 hcell hb8 hx8 hX8 hk0 hk1
                go_wp2_with fail
                refine wp_region_held_drew (S := fun v => v.cell? ⟨g8, 0, none⟩ = some (.slice Xp yn cp) ∧ v.cell? ⟨g8, 1, none⟩ = some (.slice Xg yk cg)) (by kernel_rfl) (HS0.out) (fun hH => ?_)
                refine wpAnyH_take (i := 0) (v := ?cv0) (by simp only [List.getElem?_toArray, List.getElem?_cons_succ, List.getElem?_cons_zero]; exact rfl) (by kernel_rfl) (by kernel_rfl) (by kernel_rfl) ?cq0 ?cy0 hH ?cr0
                case cq0 => exact fun _ _ _ h => h
                case cy0 =>
                  refine Or.inl ⟨by rfl, fun v hv => ?_⟩
                  go_simp
                  rfl
                try simp only [Act.put, List.setIfInBounds_toArray, List.set_cons_zero, List.set_cons_succ]
                refine wpAnyH_take (i := 1) (v := ?cv1) (by simp only [List.getElem?_toArray, List.getElem?_cons_succ, List.getElem?_cons_zero]; exact rfl) (by kernel_rfl) (by kernel_rfl) (by kernel_rfl) ?cq1 ?cy1 hH ?cr1
                case cq1 => exact fun _ _ _ h => h
                case cy1 =>
                  refine Or.inl ⟨by rfl, fun v hv => ?_⟩
                  go_simp
                  rfl
                try simp only [Act.put, List.setIfInBounds_toArray, List.set_cons_zero, List.set_cons_succ]
                refine wpAnyH_take (i := 2) (v := ?cv2) (by simp only [List.getElem?_toArray, List.getElem?_cons_succ, List.getElem?_cons_zero]; exact rfl) (by kernel_rfl) (by kernel_rfl) (by kernel_rfl) ?cq2 ?cy2 hH ?cr2
                case cq2 => exact fun _ _ _ h => h
                case cy2 =>
                  refine Or.inl ⟨by rfl, fun v hv => ?_⟩
                  go_simp
                  rfl
                try simp only [Act.put, List.setIfInBounds_toArray, List.set_cons_zero, List.set_cons_succ]
                refine wpAnyH_take (i := 4) (v := ?cv4) (by simp only [List.getElem?_toArray, List.getElem?_cons_succ, List.getElem?_cons_zero]; exact rfl) (by kernel_rfl) (by kernel_rfl) (by kernel_rfl) ?cq4 ?cy4 hH ?cr4
                case cq4 => exact fun _ _ _ h => h
                case cy4 =>
                  refine Or.inl ⟨by rfl, fun v hv => ?_⟩
                  obtain ⟨q0, q1⟩ := hv
                  go_simp
                  rfl
                try simp only [Act.put, List.setIfInBounds_toArray, List.set_cons_zero, List.set_cons_succ]
                refine wpAnyH_take (i := 7) (v := ?cv7) (by simp only [List.getElem?_toArray, List.getElem?_cons_succ, List.getElem?_cons_zero]; exact rfl) (by kernel_rfl) (by kernel_rfl) (by kernel_rfl) ?cq7 ?cy7 hH ?cr7
                case cq7 => exact fun _ _ _ h => h
                case cy7 =>
                  refine Or.inl ⟨by rfl, fun v hv => ?_⟩
                  go_simp
                  rfl
                try simp only [Act.put, List.setIfInBounds_toArray, List.set_cons_zero, List.set_cons_succ]
                refine wpAnyH_take (i := 8) (v := ?cv8) (by simp only [List.getElem?_toArray, List.getElem?_cons_succ, List.getElem?_cons_zero]; exact rfl) (by kernel_rfl) (by kernel_rfl) (by kernel_rfl) ?cq8 ?cy8 hH ?cr8
                case cq8 => exact fun _ _ _ h => h
                case cy8 =>
                  refine Or.inl ⟨by rfl, fun v hv => ?_⟩
                  go_simp
                  rfl
                try simp only [Act.put, List.setIfInBounds_toArray, List.set_cons_zero, List.set_cons_succ]
                refine wpAnyH_take (i := 9) (v := ?cv9) (by simp only [List.getElem?_toArray, List.getElem?_cons_succ, List.getElem?_cons_zero]; exact rfl) (by kernel_rfl) (by kernel_rfl) (by kernel_rfl) ?cq9 ?cy9 hH ?cr9
                case cq9 => exact fun _ _ _ h => h
                case cy9 =>
                  refine Or.inl ⟨by rfl, fun v hv => ?_⟩
                  go_simp
                  rfl
                try simp only [Act.put, List.setIfInBounds_toArray, List.set_cons_zero, List.set_cons_succ]
                refine wpAnyH_take (i := 10) (v := ?cv10) (by simp only [List.getElem?_toArray, List.getElem?_cons_succ, List.getElem?_cons_zero]; exact rfl) (by kernel_rfl) (by kernel_rfl) (by kernel_rfl) ?cq10 ?cy10 hH ?cr10
                case cq10 => exact fun _ _ _ h => h
                case cy10 =>
                  refine Or.inl ⟨by rfl, fun v hv => ?_⟩
                  go_simp
                  rfl
                try simp only [Act.put, List.setIfInBounds_toArray, List.set_cons_zero, List.set_cons_succ]
                refine wpAnyH_ready (rs := [3, 5]) (by kernel_rfl) (by simp) ?_
                refine AllReadyH.cons (by simp only [List.getElem?_toArray, List.getElem?_cons_succ, List.getElem?_cons_zero]; exact rfl) (fun K hK => ?cb3) (AllReadyH.cons (by simp only [List.getElem?_toArray, List.getElem?_cons_succ, List.getElem?_cons_zero]; exact rfl) (fun K hK => ?cb5) (AllReadyH.nil))
                case cb3 =>
                  refine step_gives rfl (gives_append rfl rfl rfl HRA1.out) ?_
                  have hN := HSA9.out
                  refine hK.out _ _ hN (fun hH' => ?_)
                  clear hK hH hN K
                  have hH := hH'
                  clear hH'
                  try simp only [Act.put, List.setIfInBounds_toArray, List.set_cons_zero, List.set_cons_succ]
                  refine wpAnyH_ready (rs := [5]) (by kernel_rfl) (by simp) ?_
                  refine AllReadyH.cons (by simp only [List.getElem?_toArray, List.getElem?_cons_succ, List.getElem?_cons_zero]; exact rfl) (fun K hK => ?_) AllReadyH.nil
                  go_simp
                  have hN := HSAx.out
                  refine hK.out _ _ hN (fun hH' => ?_)
                  clear hK hH hN K
                  have hH := hH'
                  clear hH'
                  try simp only [Act.put, List.setIfInBounds_toArray, List.set_cons_zero, List.set_cons_succ]
                  refine wpAnyH_ready (rs := [6]) (by kernel_rfl) (by simp) ?_
                  refine AllReadyH.cons (by simp only [List.getElem?_toArray, List.getElem?_cons_succ, List.getElem?_cons_zero]; exact rfl) (fun K hK => ?_) AllReadyH.nil
                  refine step_gives rfl (gives_append rfl rfl rfl HRA2.out) ?_
                  have hN := HSA10.out
                  refine hK.out _ _ hN (fun hH' => ?_)
                  clear hK hH hN K
                  have hH := hH'
                  clear hH'
                  try simp only [Act.put, List.setIfInBounds_toArray, List.set_cons_zero, List.set_cons_succ]
                  refine wpAnyH_ready (rs := [11]) (by kernel_rfl) (by simp) ?_
                  refine AllReadyH.cons (by simp only [List.getElem?_toArray, List.getElem?_cons_succ, List.getElem?_cons_zero]; exact rfl) (fun K hK => ?_) AllReadyH.nil
                  refine step_gives rfl (gives_append rfl rfl rfl HRA3.out) ?_
                  have hN := HSA11.out
                  refine hK.out _ _ hN (fun hH' => ?_)
                  clear hK hH hN K
                  have hH := hH'
                  clear hH'
                  try simp only [Act.put, List.setIfInBounds_toArray, List.set_cons_zero, List.set_cons_succ]
                  refine wpAnyH_take (i := 12) (v := ?cc3v12) (by simp only [List.getElem?_toArray, List.getElem?_cons_succ, List.getElem?_cons_zero]; exact rfl) (by kernel_rfl) (by kernel_rfl) (by kernel_rfl) ?cc3q12 ?cc3y12 hH ?cc3r12
                  case cc3q12 => exact fun _ _ _ h => h
                  case cc3y12 =>
                    refine Or.inl ⟨by rfl, fun v hv => ?_⟩
                    go_simp
                    rfl
                  try simp only [Act.put, List.setIfInBounds_toArray, List.set_cons_zero, List.set_cons_succ]
                  refine wpAnyH_done (by kernel_rfl) ?_ _
                  go_wp2_with fail
                  go_roundw
                  case rel => exact ⟨stepM m l, _, rfl, HOA.out, HWS.out, by rw [← HSt.out]; exact HE.out, HBA.out⟩
                  case measure => simp [lenV]; omega
                case cb5 =>
                  go_simp
                  have hN := HSBx.out
                  refine hK.out _ _ hN (fun hH' => ?_)
                  clear hK hH hN K
                  have hH := hH'
                  clear hH'
                  try simp only [Act.put, List.setIfInBounds_toArray, List.set_cons_zero, List.set_cons_succ]
                  refine wpAnyH_ready (rs := [3]) (by kernel_rfl) (by simp) ?_
                  refine AllReadyH.cons (by simp only [List.getElem?_toArray, List.getElem?_cons_succ, List.getElem?_cons_zero]; exact rfl) (fun K hK => ?_) AllReadyH.nil
                  refine step_gives rfl (gives_append rfl rfl rfl HRB1.out) ?_
                  have hN := HSB9.out
                  refine hK.out _ _ hN (fun hH' => ?_)
                  clear hK hH hN K
                  have hH := hH'
                  clear hH'
                  try simp only [Act.put, List.setIfInBounds_toArray, List.set_cons_zero, List.set_cons_succ]
                  refine wpAnyH_ready (rs := [6]) (by kernel_rfl) (by simp) ?_
                  refine AllReadyH.cons (by simp only [List.getElem?_toArray, List.getElem?_cons_succ, List.getElem?_cons_zero]; exact rfl) (fun K hK => ?_) AllReadyH.nil
                  refine step_gives rfl (gives_append rfl rfl rfl HRB2.out) ?_
                  have hN := HSB10.out
                  refine hK.out _ _ hN (fun hH' => ?_)
                  clear hK hH hN K
                  have hH := hH'
                  clear hH'
                  try simp only [Act.put, List.setIfInBounds_toArray, List.set_cons_zero, List.set_cons_succ]
                  refine wpAnyH_ready (rs := [11]) (by kernel_rfl) (by simp) ?_
                  refine AllReadyH.cons (by simp only [List.getElem?_toArray, List.getElem?_cons_succ, List.getElem?_cons_zero]; exact rfl) (fun K hK => ?_) AllReadyH.nil
                  refine step_gives rfl (gives_append rfl rfl rfl HRB3.out) ?_
                  have hN := HSB11.out
                  refine hK.out _ _ hN (fun hH' => ?_)
                  clear hK hH hN K
                  have hH := hH'
                  clear hH'
                  try simp only [Act.put, List.setIfInBounds_toArray, List.set_cons_zero, List.set_cons_succ]
                  refine wpAnyH_take (i := 12) (v := ?cc5v12) (by simp only [List.getElem?_toArray, List.getElem?_cons_succ, List.getElem?_cons_zero]; exact rfl) (by kernel_rfl) (by kernel_rfl) (by kernel_rfl) ?cc5q12 ?cc5y12 hH ?cc5r12
                  case cc5q12 => exact fun _ _ _ h => h
                  case cc5y12 =>
                    refine Or.inl ⟨by rfl, fun v hv => ?_⟩
                    go_simp
                    rfl
                  try simp only [Act.put, List.setIfInBounds_toArray, List.set_cons_zero, List.set_cons_succ]
                  refine wpAnyH_done (by kernel_rfl) ?_ _
                  go_wp2_with fail
                  go_roundw
                  case rel => exact ⟨stepM m l, _, rfl, HOB.out, HWS.out, by rw [← HSt.out]; exact HE.out, HBB.out⟩
                  case measure => simp [lenV]; omega
              · have j1 : (m : Int) ≤ (c3 : Int) := by omega
                have j2 : m ≤ c3 := by omega
                have j3 : (m : Int) + 2 ≤ (l.length : Int) := by omega
                have j4 : ((m + 2 : Nat) : Int) ≤ (l.length : Int) := by omega
                have j5 : m + 2 ≤ l.length := by omega
                have j6 : m + 2 ≤ c3 := by omega
                have j7 : (0 : Int) ≤ (m : Int) + 2 := by omega
                have j8 : (0 : Int) ≤ ((m + 2 : Nat) : Int) := by omega
                have j9 : (l.length : Int) ≤ (c3 : Int) := by omega
                have j10 : ((m : Int) + 2).toNat = m + 2 := by omega
                obtain ⟨hb8, hx8, hX8⟩ := HPK.out
                have HP8 := hide (PairsIn.mono (PairsIn.agree HP6.out goodC (Agree.all hb8)) goodC fun i hi => Nat.lt_of_lt_of_le hi hb8.size)
                have HW8 := hide (HB6.out.trans (hb8.mono hs6))
                have hlt8 := hX8.lt
                have hs8 := HW8.out.size
                have hk0 : w8.cell? ⟨g8, 0, none⟩ = some (.slice Xp yn cp) := hX8.cell 0
                have hk1 : w8.cell? ⟨g8, 1, none⟩ = some (.slice Xg yk cg) := hX8.cell 1
                obtain ⟨P6, d6, w9, P7, d7, w10, P8, d8, w11, ra1, ra2, ra3, hO, p9, p9', p10, p11⟩ := tail_a (c := c3) (d := c3 - (m + 2)) HP8.out (drop_at HP8.out hc3 j5) hm1 hl12 hx8
                obtain ⟨Q6, e6, v9, Q7, e7, v10, Q8, e8, v11, rb1, rb2, rb3, hO', q9', q9, q10, q11⟩ := tail_b (c := c3) (d := c3 - (m + 2)) HP8.out (drop_at HP8.out hc3 j5) hm1 hl12 hx8
                rw [← HY.out] at hO hO'
                have HRA1 := hide ra1
                have HRA2 := hide ra2
                have HRA3 := hide ra3
                have HRB1 := hide rb1
                have HRB2 := hide rb2
                have HRB3 := hide rb3
                have hcell : ∀ v, Below w8.heap.size w8 v → v.cell? ⟨g8, 0, none⟩ = some (.slice Xp yn cp) ∧ v.cell? ⟨g8, 1, none⟩ = some (.slice Xg yk cg) := fun v hv => ⟨(hv.cell (p := ⟨g8, 0, none⟩) hlt8).trans hk0, (hv.cell (p := ⟨g8, 1, none⟩) hlt8).trans hk1⟩
                have HS0 := hide (hcell _ (below_drew (Below.refl w8.heap.size w8) 1))
                have HSA9 := hide (hcell _ p9)
                have HSAx := hide (hcell _ p9')
                have HSA10 := hide (hcell _ p10)
                have HSA11 := hide (hcell _ p11)
                have HSBx := hide (hcell _ q9')
                have HSB9 := hide (hcell _ q9)
                have HSB10 := hide (hcell _ q10)
                have HSB11 := hide (hcell _ q11)
                have HOA := hide (hO.lower hs8)
                have HOB := hide (hO'.lower hs8)
                have HBA := hide (HW8.out.trans (p11.mono hs8))
                have HBB := hide (HW8.out.trans (q11.mono hs8))
                clear ra1 ra2 ra3 rb1 rb2 rb3 hO hO' p9 p9' p10 p11 q9' q9 q10 q11 hcell hb8 hx8 hX8 hk0 hk1
                go_wp2_with fail
                refine wp_region_held_drew (S := fun v => v.cell? ⟨g8, 0, none⟩ = some (.slice Xp yn cp) ∧ v.cell? ⟨g8, 1, none⟩ = some (.slice Xg yk cg)) (by kernel_rfl) (HS0.out) (fun hH => ?_)
                refine wpAnyH_take (i := 0) (v := ?dv0) (by simp only [List.getElem?_toArray, List.getElem?_cons_succ, List.getElem?_cons_zero]; exact rfl) (by kernel_rfl) (by kernel_rfl) (by kernel_rfl) ?dq0 ?dy0 hH ?dr0
                case dq0 => exact fun _ _ _ h => h
                case dy0 =>
                  refine Or.inl ⟨by rfl, fun v hv => ?_⟩
                  go_simp
                  rfl
                try simp only [Act.put, List.setIfInBounds_toArray, List.set_cons_zero, List.set_cons_succ]
                refine wpAnyH_take (i := 1) (v := ?dv1) (by simp only [List.getElem?_toArray, List.getElem?_cons_succ, List.getElem?_cons_zero]; exact rfl) (by kernel_rfl) (by kernel_rfl) (by kernel_rfl) ?dq1 ?dy1 hH ?dr1
                case dq1 => exact fun _ _ _ h => h
                case dy1 =>
                  refine Or.inl ⟨by rfl, fun v hv => ?_⟩
                  go_simp
                  rfl
                try simp only [Act.put, List.setIfInBounds_toArray, List.set_cons_zero, List.set_cons_succ]
                refine wpAnyH_take (i := 2) (v := ?dv2) (by simp only [List.getElem?_toArray, List.getElem?_cons_succ, List.getElem?_cons_zero]; exact rfl) (by kernel_rfl) (by kernel_rfl) (by kernel_rfl) ?dq2 ?dy2 hH ?dr2
                case dq2 => exact fun _ _ _ h => h
                case dy2 =>
                  refine Or.inl ⟨by rfl, fun v hv => ?_⟩
                  go_simp
                  rfl
                try simp only [Act.put, List.setIfInBounds_toArray, List.set_cons_zero, List.set_cons_succ]
                refine wpAnyH_take (i := 4) (v := ?dv4) (by simp only [List.getElem?_toArray, List.getElem?_cons_succ, List.getElem?_cons_zero]; exact rfl) (by kernel_rfl) (by kernel_rfl) (by kernel_rfl) ?dq4 ?dy4 hH ?dr4
                case dq4 => exact fun _ _ _ h => h
                case dy4 =>
                  refine Or.inl ⟨by rfl, fun v hv => ?_⟩
                  obtain ⟨q0, q1⟩ := hv
                  go_simp
                  rfl
                try simp only [Act.put, List.setIfInBounds_toArray, List.set_cons_zero, List.set_cons_succ]
                refine wpAnyH_take (i := 7) (v := ?dv7) (by simp only [List.getElem?_toArray, List.getElem?_cons_succ, List.getElem?_cons_zero]; exact rfl) (by kernel_rfl) (by kernel_rfl) (by kernel_rfl) ?dq7 ?dy7 hH ?dr7
                case dq7 => exact fun _ _ _ h => h
                case dy7 =>
                  refine Or.inl ⟨by rfl, fun v hv => ?_⟩
                  go_simp
                  rfl
                try simp only [Act.put, List.setIfInBounds_toArray, List.set_cons_zero, List.set_cons_succ]
                refine wpAnyH_take (i := 8) (v := ?dv8) (by simp only [List.getElem?_toArray, List.getElem?_cons_succ, List.getElem?_cons_zero]; exact rfl) (by kernel_rfl) (by kernel_rfl) (by kernel_rfl) ?dq8 ?dy8 hH ?dr8
                case dq8 => exact fun _ _ _ h => h
                case dy8 =>
                  refine Or.inl ⟨by rfl, fun v hv => ?_⟩
                  go_simp
                  rfl
                try simp only [Act.put, List.setIfInBounds_toArray, List.set_cons_zero, List.set_cons_succ]
                refine wpAnyH_take (i := 9) (v := ?dv9) (by simp only [List.getElem?_toArray, List.getElem?_cons_succ, List.getElem?_cons_zero]; exact rfl) (by kernel_rfl) (by kernel_rfl) (by kernel_rfl) ?dq9 ?dy9 hH ?dr9
                case dq9 => exact fun _ _ _ h => h
                case dy9 =>
                  refine Or.inl ⟨by rfl, fun v hv => ?_⟩
                  go_simp
                  rfl
                try simp only [Act.put, List.setIfInBounds_toArray, List.set_cons_zero, List.set_cons_succ]
                refine wpAnyH_take (i := 10) (v := ?dv10) (by simp only [List.getElem?_toArray, List.getElem?_cons_succ, List.getElem?_cons_zero]; exact rfl) (by kernel_rfl) (by kernel_rfl) (by kernel_rfl) ?dq10 ?dy10 hH ?dr10
                case dq10 => exact fun _ _ _ h => h
                case dy10 =>
                  refine Or.inl ⟨by rfl, fun v hv => ?_⟩
                  go_simp
                  rfl
                try simp only [Act.put, List.setIfInBounds_toArray, List.set_cons_zero, List.set_cons_succ]
                refine wpAnyH_ready (rs := [3, 5]) (by kernel_rfl) (by simp) ?_
                refine AllReadyH.cons (by simp only [List.getElem?_toArray, List.getElem?_cons_succ, List.getElem?_cons_zero]; exact rfl) (fun K hK => ?db3) (AllReadyH.cons (by simp only [List.getElem?_toArray, List.getElem?_cons_succ, List.getElem?_cons_zero]; exact rfl) (fun K hK => ?db5) (AllReadyH.nil))
                case db3 =>
                  refine step_gives rfl (gives_append rfl rfl rfl HRA1.out) ?_
                  have hN := HSA9.out
                  refine hK.out _ _ hN (fun hH' => ?_)
                  clear hK hH hN K
                  have hH := hH'
                  clear hH'
                  try simp only [Act.put, List.setIfInBounds_toArray, List.set_cons_zero, List.set_cons_succ]
                  refine wpAnyH_ready (rs := [5]) (by kernel_rfl) (by simp) ?_
                  refine AllReadyH.cons (by simp only [List.getElem?_toArray, List.getElem?_cons_succ, List.getElem?_cons_zero]; exact rfl) (fun K hK => ?_) AllReadyH.nil
                  go_simp
                  have hN := HSAx.out
                  refine hK.out _ _ hN (fun hH' => ?_)
                  clear hK hH hN K
                  have hH := hH'
                  clear hH'
                  try simp only [Act.put, List.setIfInBounds_toArray, List.set_cons_zero, List.set_cons_succ]
                  refine wpAnyH_ready (rs := [6]) (by kernel_rfl) (by simp) ?_
                  refine AllReadyH.cons (by simp only [List.getElem?_toArray, List.getElem?_cons_succ, List.getElem?_cons_zero]; exact rfl) (fun K hK => ?_) AllReadyH.nil
                  refine step_gives rfl (gives_append rfl rfl rfl HRA2.out) ?_
                  have hN := HSA10.out
                  refine hK.out _ _ hN (fun hH' => ?_)
                  clear hK hH hN K
                  have hH := hH'
                  clear hH'
                  try simp only [Act.put, List.setIfInBounds_toArray, List.set_cons_zero, List.set_cons_succ]
                  refine wpAnyH_ready (rs := [11]) (by kernel_rfl) (by simp) ?_
                  refine AllReadyH.cons (by simp only [List.getElem?_toArray, List.getElem?_cons_succ, List.getElem?_cons_zero]; exact rfl) (fun K hK => ?_) AllReadyH.nil
                  refine step_gives rfl (gives_append rfl rfl rfl HRA3.out) ?_
                  have hN := HSA11.out
                  refine hK.out _ _ hN (fun hH' => ?_)
                  clear hK hH hN K
                  have hH := hH'
                  clear hH'
                  try simp only [Act.put, List.setIfInBounds_toArray, List.set_cons_zero, List.set_cons_succ]
                  refine wpAnyH_take (i := 12) (v := ?dc3v12) (by simp only [List.getElem?_toArray, List.getElem?_cons_succ, List.getElem?_cons_zero]; exact rfl) (by kernel_rfl) (by kernel_rfl) (by kernel_rfl) ?dc3q12 ?dc3y12 hH ?dc3r12
                  case dc3q12 => exact fun _ _ _ h => h
                  case dc3y12 =>
                    refine Or.inl ⟨by rfl, fun v hv => ?_⟩
                    go_simp
                    rfl
                  try simp only [Act.put, List.setIfInBounds_toArray, List.set_cons_zero, List.set_cons_succ]
                  refine wpAnyH_done (by kernel_rfl) ?_ _
                  go_wp2_with fail
                  go_roundw
                  case rel => exact ⟨stepM m l, _, rfl, HOA.out, HWS.out, by rw [← HSt.out]; exact HE.out, HBA.out⟩
                  case measure => simp [lenV]; omega
                case db5 =>
                  go_simp
                  have hN := HSBx.out
                  refine hK.out _ _ hN (fun hH' => ?_)
                  clear hK hH hN K
                  have hH := hH'
                  clear hH'
                  try simp only [Act.put, List.setIfInBounds_toArray, List.set_cons_zero, List.set_cons_succ]
                  refine wpAnyH_ready (rs := [3]) (by kernel_rfl) (by simp) ?_
                  refine AllReadyH.cons (by simp only [List.getElem?_toArray, List.getElem?_cons_succ, List.getElem?_cons_zero]; exact rfl) (fun K hK => ?_) AllReadyH.nil
                  refine step_gives rfl (gives_append rfl rfl rfl HRB1.out) ?_
                  have hN := HSB9.out
                  refine hK.out _ _ hN (fun hH' => ?_)
                  clear hK hH hN K
                  have hH := hH'
                  clear hH'
                  try simp only [Act.put, List.setIfInBounds_toArray, List.set_cons_zero, List.set_cons_succ]
                  refine wpAnyH_ready (rs := [6]) (by kernel_rfl) (by simp) ?_
                  refine AllReadyH.cons (by simp only [List.getElem?_toArray, List.getElem?_cons_succ, List.getElem?_cons_zero]; exact rfl) (fun K hK => ?_) AllReadyH.nil
                  refine step_gives rfl (gives_append rfl rfl rfl HRB2.out) ?_
                  have hN := HSB10.out
                  refine hK.out _ _ hN (fun hH' => ?_)
                  clear hK hH hN K
                  have hH := hH'
                  clear hH'
                  try simp only [Act.put, List.setIfInBounds_toArray, List.set_cons_zero, List.set_cons_succ]
                  refine wpAnyH_ready (rs := [11]) (by kernel_rfl) (by simp) ?_
                  refine AllReadyH.cons (by simp only [List.getElem?_toArray, List.getElem?_cons_succ, List.getElem?_cons_zero]; exact rfl) (fun K hK => ?_) AllReadyH.nil
                  refine step_gives rfl (gives_append rfl rfl rfl HRB3.out) ?_
                  have hN := HSB11.out
                  refine hK.out _ _ hN (fun hH' => ?_)
                  clear hK hH hN K
                  have hH := hH'
                  clear hH'
                  try simp only [Act.put, List.setIfInBounds_toArray, List.set_cons_zero, List.set_cons_succ]
                  refine wpAnyH_take (i := 12) (v := ?dc5v12) (by simp only [List.getElem?_toArray, List.getElem?_cons_succ, List.getElem?_cons_zero]; exact rfl) (by kernel_rfl) (by kernel_rfl) (by kernel_rfl) ?dc5q12 ?dc5y12 hH ?dc5r12
                  case dc5q12 => exact fun _ _ _ h => h
                  case dc5y12 =>
                    refine Or.inl ⟨by rfl, fun v hv => ?_⟩
                    go_simp
                    rfl
                  try simp only [Act.put, List.setIfInBounds_toArray, List.set_cons_zero, List.set_cons_succ]
                  refine wpAnyH_done (by kernel_rfl) ?_ _
                  go_wp2_with fail
                  go_roundw
                  case rel => exact ⟨stepM m l, _, rfl, HOB.out, HWS.out, by rw [← HSt.out]; exact HE.out, HBB.out⟩
                  case measure => simp [lenV]; omega
          · obtain rfl : k = l.length := by omega
            have HF := hide (firstBad_none HS.out)
            have HG := hide (mergeC_safe HF.out)
            go_wp2_with fail
            go_ret2
            exact ⟨_, by rw [HM.out]; rfl, by rw [HM.out, ← HE.out, HG.out]; exact HOi.out, HBi.out⟩
      · have HG := hide (mergeC_few (least := least) (cs := l) (by omega))
        go_wp2_with fail
        go_ret2
        exact ⟨_, by rw [HM.out]; rfl, by rw [HM.out, ← HE.out, HG.out]; exact HO.out, HB.out⟩
end Go.Proofs.Yteeamiacplfcmaa
