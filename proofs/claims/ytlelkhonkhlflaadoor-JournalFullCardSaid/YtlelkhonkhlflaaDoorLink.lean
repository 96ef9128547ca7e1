/-
  digest.Join, digest.Of, journal.link.
-/
import Derived.Test.YtlelkhonkhlflaaDoorSum
namespace Go.Proofs.YtlelkhonkhlflaaDoor
open Go.RowKit
set_option linter.unusedVariables false
set_option linter.unusedSimpArgs false

theorem push_bytes {B : Nat} {w : World} {v : Value} {bs ys : List UInt8} {b off c : Nat} (h : OwnBy B w v bs) (hB : B ≤ w.heap.size) (hl : bs.length ≤ 1000000) (hy : Bys w (some ⟨b, off, none⟩) ys) (hyl : 0 < ys.length) (hym : ys.length ≤ 1000000) (ty : TypeId) :
    ∃ A d w', (Builtin.append_ #[22, 22] ty #[v, .slice (some ⟨b, off, none⟩) ys.length c]).run Tryd.prog w = .ok (.slice A (bs ++ ys).length d) w' ∧ OwnBy B w' (.slice A (bs ++ ys).length d) (bs ++ ys) ∧ Below B w w' := by
  obtain ⟨i0, hi, hz0, hz1, hz2⟩ := info_parts u8info
  obtain ⟨v', w', hr, ho, hg, _, _⟩ := run_append_own_at (P := Tryd.prog) w B 22 ty 5 i0 (.int .u8 0) 1 1 Tryd.underlying22 hi hz0 hz1 hz2 rfl (by decide) v bs.length (bs.map u8v) h ⟨b, off, none⟩ ys.length c (ys.map u8v) (by simp) (news_of_bys hy) one_byte (by unfold maxLen; omega) (by omega) (by omega)
  have ho' : OwnBy B w' v' (bs ++ ys) := by
    unfold OwnBy
    rw [List.length_append, List.map_append]
    exact ho
  obtain ⟨A, d, rfl, _⟩ := ho'.form
  exact ⟨A, d, w', hr, ho', own_by (v' := v) hB h.lo hg⟩
/-- the first k parts, each with its length ahead -/
def joinB (fs : List (List UInt8)) : Nat → List UInt8
  | 0 => []
  | k + 1 => joinB fs k ++ beB (fs.getD k []).length 4 ++ fs.getD k []
theorem joinB_length {fs : List (List UInt8)} (h : ∀ k, (fs.getD k []).length ≤ 1000) : ∀ k, (joinB fs k).length ≤ k * 1004
  | 0 => Nat.le_refl _
  | k + 1 => by
    have h1 := joinB_length h k
    have h2 := h k
    rw [joinB, List.length_append, List.length_append, beB_length]
    omega
set_option maxHeartbeats 1600000 in
set_option maxRecDepth 100000 in
theorem join_any {A : Option Addr} {c : Nat} {fs : List (List UInt8)} {w : World} (hf : Fr w A fs) (hn : fs.length ≤ 300) (hp : ∀ k, k < fs.length → 0 < (fs.getD k []).length) (hm : ∀ k, (fs.getD k []).length ≤ 1000) :
    Calls Tryd.prog 50 #[.slice A fs.length c] w (NumPost w.heap.size w (joinB fs fs.length)) := by
  have HF := hide hf
  have HP := hide hp
  have HM := hide hm
  clear hf hp hm
  go_enter Tryd.func50, Tryd.ntmps50
  go_wp2_with fail
  go_loopw [3, 8] (fun v i wr => ∃ k : Nat, k ≤ fs.length ∧ i = .int .i64 k ∧ ∃ A c, v = .slice A (joinB fs k).length c ∧ Hid (OwnBy w.heap.size wr (.slice A (joinB fs k).length c) (joinB fs k)) ∧ Hid (Below w.heap.size w wr)) (fun _ i _ => fs.length - (iOf i).toNat)
  case atStart => exact ⟨0, by omega, rfl, none, 0, rfl, OwnBy.nil _ _, Below.refl _ _⟩
  case round =>
    obtain ⟨k, hk, rfl, D, d, rfl, HO, HB⟩ := hrel
    have hsr := HB.out.size
    have hjl := joinB_length HM.out k
    by_cases hlt : k < fs.length
    · obtain ⟨b1, o1, Ak, ck, hA, hb1, hc1, hby1, hk1⟩ := HF.out.at_ hlt
      subst hA
      have hb1r : b1 < wr.heap.size := by omega
      replace hc1 := (HB.out.cell (p := ⟨b1, o1 + k, none⟩) hb1).trans hc1
      have hpk := HP.out k hlt
      have hmk := HM.out k
      have HJ : Hid (joinB fs (k + 1) = joinB fs k ++ beB (fs.getD k []).length 4 ++ fs.getD k []) := rfl
      generalize fs.getD k [] = f at *
      obtain ⟨b2, o2, hA2, hb2, hc2⟩ := hby1 hpk
      subst hA2
      have HBY := hide hby1
      have HN := hide (number_any HO.out hsr (by omega) f.length (by omega) 4 (by omega))
      have ewx : IntKind.u64.wrap (f.length : Int) = (f.length : Int) := by
        rw [show IntKind.u64.wrap (f.length : Int) = (f.length : Int) % 18446744073709551616 from rfl]
        omega
      clear hby1 hc2
      go_wp2_with fail
      refine HN.out.mono ?_
      rintro en w2 ⟨A2, c2, rfl, hO2, hB2⟩
      obtain ⟨A3, d3, w3, hr3, hO3, hB3⟩ := push_bytes (c := ck) hO2 (by have := hB2.size; omega) (by rw [List.length_append, beB_length]; omega) (HBY.out.below (HB.out.trans hB2)) hpk (by omega) 22
      have hjl2 : (joinB fs k ++ beB f.length 4 ++ f).length = (joinB fs (k + 1)).length := by rw [HJ.out]
      rw [hjl2] at hr3 hO3
      rw [← HJ.out] at hO3
      obtain ⟨m, hm⟩ : ∃ m, m = (joinB fs k ++ beB f.length 4).length := ⟨_, rfl⟩
      rw [← hm] at hr3 ⊢
      have HR3 := hide hr3
      have HO3 := hide hO3
      have HB3 := hide (HB.out.trans (hB2.trans hB3))
      clear hm
      clear hr3 hO3 hB3 hjl2
      go_wp2_with ((with_reducible refine wpList_gives (o := ⟨some 18, _, _, _, _, _⟩) (v := .slice A3 (joinB fs (k + 1)).length d3) (w' := w3) ?_ ?_ ?_); rfl; exact gives_append rfl rfl rfl HR3.out)
      go_roundw
      case rel => exact ⟨k + 1, by omega, by go_num, A3, d3, rfl, HO3, HB3⟩
      case measure => simp [iOf]; omega
    · obtain rfl : k = fs.length := by omega
      go_wp2_with fail
      go_ret
      exact ⟨D, d, rfl, HO.out, HB.out⟩
/-- the digest of an entry behind another one -/
def linkF (C : List Nat) (last b : List UInt8) : List UInt8 := shaF C (joinB [last, b] 2)
theorem linkF_length (C : List Nat) (last b : List UInt8) : (linkF C last b).length = 32 := shaF_length _ _
set_option maxHeartbeats 1600000 in
set_option maxRecDepth 100000 in
theorem of_any {C : List Nat} {A : Option Addr} {c : Nat} {last b : List UInt8} {w : World} (hK : Kon C w) (hf : Fr w A [last, b]) (h1 : 0 < last.length) (h2 : 0 < b.length) (h3 : last.length ≤ 1000) (h4 : b.length ≤ 1000) :
    Calls Tryd.prog 39 #[.slice A 2 c] w (fun en w' => en = .returned (.agg (secA (linkF C last b))) ∧ Below w.heap.size w w') := by
  have h0 := hK.some_
  obtain ⟨w1, hw1⟩ : ∃ w1, w1 = w.alloc (.cells (secA z32) 58) := ⟨_, rfl⟩
  have hs1 : w1.heap.size = w.heap.size + 1 := by rw [hw1]; simp
  have HA1 : Hid (∀ {o : Oper} {a : Act}, o.op = .alloc 58 → Gives o a w (.pointer (some ⟨w.heap.size, 0, none⟩)) w1) := fun ho => by rw [hw1]; exact gives_alloc_dig ho
  have hB1 : Below w.heap.size w w1 := by rw [hw1]; exact (Below.refl _ _).alloc (Nat.le_refl _) _
  have hD1 : Dig w1 w.heap.size z32 := by unfold Dig; rw [hw1]; exact Box.new _ _ _
  have hm : ∀ k, (([last, b] : List (List UInt8)).getD k []).length ≤ 1000 := fun k => by
    rcases k with _ | _ | k
    · exact h3
    · exact h4
    · exact Nat.zero_le _
  have hj := join_any (w := w1) (A := A) (c := c) (fs := [last, b]) (hf.below hB1) (by simp) (fun k hk => by
    rcases k with _ | _ | k
    · exact h1
    · exact h2
    · simp at hk; omega) hm
  have hjl := joinB_length hm 2
  have HJ : Hid (Calls Tryd.prog 50 #[.slice A 2 c] w1 (NumPost w1.heap.size w1 (joinB [last, b] 2))) := hj
  have hjp : 0 < (joinB [last, b] 2).length := by
    show 0 < (joinB [last, b] 1 ++ beB b.length 4 ++ b).length
    rw [List.length_append]
    omega
  have HLF : Hid (linkF C last b = shaF C (joinB [last, b] 2)) := rfl
  have HK1 := hide (hK.below hB1 h0)
  have HD1 := hide hD1
  have HB1 := hide hB1
  generalize joinB [last, b] 2 = jb at *
  clear hw1 hB1 hD1 hj hm hf hK
  go_enter Tryd.func39, Tryd.ntmps39
  go_wp2_with ((with_reducible refine wpList_gives (o := ⟨some 2, _, _, _, _, _⟩) (v := .pointer (some ⟨w.heap.size, 0, none⟩)) (w' := w1) ?_ ?_ ?_); rfl; exact HA1.out rfl)
  refine HJ.out.mono ?_
  rintro en w2 ⟨A2, c2, rfl, hO2, hB2⟩
  have hy2 := hO2.bys
  obtain ⟨b2, o2, hA2, hb2, hc2⟩ := hy2 hjp
  subst hA2
  have HS := hide (sum_any (C := C) (b := b2) (off := o2) (c := c2) (w := w2) (HK1.out.kept hB2) hy2 hjp (by omega))
  have HB2 := hide (HB1.out.trans (hB2.mono (by omega)))
  have HD2 := hide (Box.kept HD1.out hB2)
  clear hc2 hO2 hB2 hy2
  go_wp2_with fail
  refine HS.out.mono ?_
  rintro en w3 ⟨rfl, hB3⟩
  have HB3 := hide (HB2.out.trans (hB3.mono HB2.out.size))
  obtain ⟨w9, hr9, hS9, hg9⟩ := Dig.store (d' := shaF C jb) (Box.kept HD2.out hB3) (List.length_replicate ..) (shaF_length C jb)
  have HR9 := hide hr9
  have HL9 := hide (load_dig hS9.bys (shaF_length C jb))
  have HB9 := hide (HB3.out.grown hg9 HB3.out.size (fun k hk => by injection hk with hk; omega))
  have HSA : Hid (secA (linkF C last b) = secA (shaF C jb)) := by rw [Hid, HLF.out]
  clear hr9 hS9 hg9 hB3
  generalize secA (shaF C jb) = sD at *
  go_wp2_with ((with_reducible refine wpList_does (o := ⟨none, .store 58 _ _, _, _, _, _⟩) (w' := w9) ?_ ?_ ?_); rfl; exact does_store rfl rfl rfl HR9.out)
  refine bodyPost_ret (v := .agg sD) (results_cell rfl rfl HL9.out) rfl ⟨?_, HB9.out⟩
  rw [HSA.out]
theorem gives_box_dig {d : List UInt8} {o : Oper} {a : Act} {w : World} {x : Operand} (ho : o.op = .box 58 x) (hx : a.eval x = .agg (secA d)) : Gives o a w (.pointer (some ⟨w.heap.size, 0, none⟩)) (w.alloc (.cells (secA d) 58)) := by
  unfold Gives execOp
  simp [ho, hx, Instr.box, newVar, newRow, Value.cells]
set_option maxHeartbeats 1600000 in
set_option maxRecDepth 100000 in
theorem link_any {C : List Nat} {b off c : Nat} {last bs : List UInt8} {w : World} (hK : Kon C w) (hll : last.length = 32) (hb : Bys w (some ⟨b, off, none⟩) bs) (hl : 0 < bs.length) (hm : bs.length ≤ 1000) (hc : bs.length ≤ c) :
    Calls Tryd.prog 25 #[.agg (secA last), .slice (some ⟨b, off, none⟩) bs.length c] w (fun en w' => en = .returned (.agg (secA (linkF C last bs))) ∧ Below w.heap.size w w') := by
  have h0 := hK.some_
  obtain ⟨lA, hlA⟩ : ∃ lA, lA = secA last := ⟨_, rfl⟩
  obtain ⟨w1, hw1⟩ : ∃ w1, w1 = w.alloc (.cells lA 58) := ⟨_, rfl⟩
  have hs1 : w1.heap.size = w.heap.size + 1 := by rw [hw1]; simp
  obtain ⟨w2, hw2⟩ : ∃ w2, w2 = w1.alloc (.cells (secA z32) 58) := ⟨_, rfl⟩
  have hs2 : w2.heap.size = w.heap.size + 1 + 1 := by rw [hw2]; simp [hs1]
  have HA1 : Hid (∀ {o : Oper} {a : Act} {x : Operand}, o.op = .box 58 x → a.eval x = .agg lA → Gives o a w (.pointer (some ⟨w.heap.size, 0, none⟩)) w1) := fun ho hx => by rw [hw1, hlA]; exact gives_box_dig ho (by rw [hx, hlA])
  have HA2 : Hid (∀ {o : Oper} {a : Act}, o.op = .alloc 58 → Gives o a w1 (.pointer (some ⟨w.heap.size + 1, 0, none⟩)) w2) := fun ho => by rw [hw2, ← hs1]; exact gives_alloc_dig ho
  have hB2 : Below w.heap.size w w2 := by rw [hw2, hw1]; exact ((Below.refl _ _).alloc (Nat.le_refl _) _).alloc (by simp) _
  have hD0 : Dig w2 w.heap.size last := by unfold Dig; rw [hw2, hw1, hlA]; exact (Box.new _ _ _).alloc _
  have hD1 : Dig w2 (w.heap.size + 1) z32 := by unfold Dig; rw [hw2, ← hs1]; exact Box.new _ _ _
  obtain ⟨w3, hw3⟩ : ∃ w3, w3 = w2.alloc (.cells #[.slice (some ⟨w.heap.size, 0, none⟩) 32 32, .slice (some ⟨b, off, none⟩) bs.length c] 22) := ⟨_, rfl⟩
  have hB3 : Below w2.heap.size w2 w3 := by rw [hw3]; exact (Below.refl _ _).alloc (Nat.le_refl _) _
  have hX3 : Box w3 w2.heap.size 22 #[.slice (some ⟨w.heap.size, 0, none⟩) 32 32, .slice (some ⟨b, off, none⟩) bs.length c] := by rw [hw3]; exact Box.new _ _ _
  have hF3 : Fr w3 (some ⟨w2.heap.size, 0, none⟩) [last, bs] := fun _ => ⟨w2.heap.size, 0, rfl, hX3.lt, fun k hk => by
    rcases k with _ | _ | k
    · refine ⟨_, 32, (hX3.cell 0).trans ?_, Dig.bys (Box.kept hD0 hB3), ?_⟩
      · show some (Value.slice _ 32 32) = some (Value.slice _ last.length 32)
        rw [hll]
      · show last.length ≤ 32
        omega
    · exact ⟨_, c, hX3.cell 1, ((hb.below hB2).below hB3), hc⟩
    · simp at hk; omega⟩
  have ho := of_any (c := 2) ((hK.below hB2 h0).kept hB3) hF3 (by omega) hl (by omega) hm
  rw [hs2] at ho
  have HO := hide ho
  have HB3 := hide (hB2.trans (hB3.mono hB2.size))
  have HD3 := hide (Box.kept hD1 hB3)
  have HW3 := hide hw3
  rw [← hlA]
  clear hw1 hw2 hs1 hlA hB2 hD0 hD1 hB3 hX3 hF3 hw3 hK hb ho
  go_enter Tryd.func25, Tryd.ntmps25
  go_wp2_with (first | ((with_reducible refine wpList_gives (o := ⟨some 2, _, _, _, _, _⟩) (v := .pointer (some ⟨w.heap.size, 0, none⟩)) (w' := w1) ?_ ?_ ?_); rfl; exact HA1.out rfl rfl) | ((with_reducible refine wpList_gives (o := ⟨some 4, _, _, _, _, _⟩) (v := .pointer (some ⟨w.heap.size + 1, 0, none⟩)) (w' := w2) ?_ ?_ ?_); rfl; exact HA2.out rfl))
  rw [← HW3.out]
  refine HO.out.mono ?_
  rintro en w5 ⟨rfl, hB5⟩
  have HB5 := hide (HB3.out.trans (hB5.mono HB3.out.size))
  obtain ⟨w9, hr9, hS9, hg9⟩ := Dig.store (d' := linkF C last bs) (Box.kept HD3.out hB5) (List.length_replicate ..) (linkF_length C last bs)
  have HR9 := hide hr9
  have HL9 := hide (load_dig hS9.bys (linkF_length C last bs))
  have HB9 := hide (HB5.out.grown hg9 HB5.out.size (fun k hk => by injection hk with hk; omega))
  obtain ⟨sD, hsD⟩ : ∃ sD, sD = secA (linkF C last bs) := ⟨_, rfl⟩
  have HSA := hide hsD
  rw [← hsD] at HR9 HL9 ⊢
  clear hr9 hS9 hg9 hB5 hsD
  go_wp2_with ((with_reducible refine wpList_does (o := ⟨none, .store 58 _ _, _, _, _, _⟩) (w' := w9) ?_ ?_ ?_); rfl; exact does_store rfl rfl rfl HR9.out)
  refine bodyPost_ret (v := .agg sD) (results_cell rfl rfl HL9.out) rfl ⟨?_, HB9.out⟩
  rw [HSA.out]
end Go.Proofs.YtlelkhonkhlflaaDoor
