/-
  console.written: 'issue'.
-/
import Derived.Test.YtnndaemmgbkjbaaDoorName
namespace Go.Proofs.YtnndaemmgbkjbaaDoor
open Go.RowKit
set_option linter.unusedVariables false
set_option linter.unusedSimpArgs false

def itS (n : Int) : ByteArray := ⟨(Lib.itoa n).toArray⟩
/-- strconv.Itoa writes this number, whatever the world behind w0 -/
def ItoaTo (w0 : World) (n : Int) : Prop := ∀ wq, Below w0.heap.size w0 wq → Calls Tryd.prog 33 #[.int .i64 n] wq fun e w' => e = .returned (.string (itS n)) ∧ Below wq.heap.size wq w'
theorem ItoaTo.small {w0 : World} {n : Int} (h0 : 0 ≤ n) (h1 : n < 100) : ItoaTo w0 n := fun wq _ => by
  obtain ⟨k, rfl⟩ : ∃ k : Nat, n = (k : Int) := ⟨n.toNat, by omega⟩
  refine (Tryd.strconv_Itoa_small k (by omega) wq).mono ?_
  rintro e w' ⟨rfl, rfl⟩
  refine ⟨?_, Below.refl _ _⟩
  unfold itS Lib.itoa
  rw [if_neg (by omega)]
  rfl
theorem ItoaTo.later {w0 w1 : World} {n : Int} (h : ItoaTo w0 n) (hb : Below w0.heap.size w0 w1) : ItoaTo w1 n := fun wq hq => h wq (hb.trans (hq.mono hb.size))
theorem own_new2 {α : Type} [Inhabited α] {enc : α → Value} {ty : TypeId} (w : World) (x y : α) : OwnE enc ty w.heap.size (w.alloc (.cells #[enc x, enc y] ty)) (.slice (some ⟨w.heap.size, 0, none⟩) 2 2) [x, y] :=
  ⟨rfl, .inr ⟨w.heap.size, 2, #[enc x, enc y], rfl, Nat.le_refl _, heap_alloc_new w _, Nat.le_refl _, by unfold maxLen; omega, rfl, rfl⟩⟩
def sIssue : ByteArray := ⟨#[105, 115, 115, 117, 101]⟩
set_option maxHeartbeats 8000000 in
set_option maxRecDepth 100000 in
theorem written_issue {e : EV} {P C : List ByteArray} {o : Opn} {A : Option Addr} {c : Nat} {D : Option Addr} {d : Nat} {w : World} (hk : o.kind = 1) (hE : Elec w e P C) (hPn : ∀ n ∈ P, n.size ≤ 3000000) (hM : Max w) (hms : ListIn iv (All w) w A o.marks) (hml : o.marks.length ≤ 1000) (hs : ItoaTo w o.scan) (hn : ItoaTo w o.n) (hm : ∀ n ∈ o.marks, ItoaTo w n) :
    Calls Tryd.prog 16 #[.agg (e.cells P.length C.length), .agg (o.cells A c D d)] w fun en w' => ∃ v, en = .returned v ∧ OwnE Value.string 9 w.heap.size w' v ([sIssue, nameV P o.prec] ++ o.marks.map itS) ∧ Below w.heap.size w w' := by
  obtain ⟨kind, prec, cont, scan, n, lie, marks, keep, lose, deaf, twice, text⟩ := o
  simp only [] at *
  subst hk
  obtain ⟨w1, hw1⟩ : ∃ q, (w.alloc (.cells (e.cells P.length C.length) 34)).alloc (.cells (Opn.cells ⟨1, prec, cont, scan, n, lie, marks, keep, lose, deaf, twice, text⟩ A c D d) 39) = q := ⟨_, rfl⟩
  have hb1 : Below w.heap.size w w1 := by rw [← hw1]; exact ((Below.refl _ _).alloc (Nat.le_refl _) _).alloc (by simp) _
  have hXe : Box w1 w.heap.size 34 (e.cells P.length C.length) := by rw [← hw1]; exact (Box.new _ _ _).alloc _
  have hXo : Box w1 (w.heap.size + 1) 39 (Opn.cells ⟨1, prec, cont, scan, n, lie, marks, keep, lose, deaf, twice, text⟩ A c D d) := by
    have := Box.new (w.alloc (.cells (e.cells P.length C.length) 34)) 39 (Opn.cells ⟨1, prec, cont, scan, n, lie, marks, keep, lose, deaf, twice, text⟩ A c D d)
    rw [World.size_alloc, hw1] at this
    exact this
  have HXe := hide hXe
  have HXo := hide hXo
  have HB1 := hide hb1
  have HW1 := hide hw1
  have HS := hide (hs.later hb1)
  have HN := hide (hn.later hb1)
  have HM := hide (fun x hx => (hm x hx).later hb1)
  have HNm := hide (fun (wq : World) (hq : Below w1.heap.size w1 wq) => name_any (c := e.pc) (i := prec) (w := wq) (ListIn.below hE.1 (hb1.trans (hq.mono hb1.size))) hPn (hM.below (hb1.trans (hq.mono hb1.size))))
  have HL := hide (ListIn.below hms hb1)
  have e4 := hXe.cell 4
  have o0 := hXo.cell 0
  have o1 := hXo.cell 1
  have o3 := hXo.cell 3
  have o4 := hXo.cell 4
  have o6 := hXo.cell 6
  have hcell : Hid (∀ v, Below w1.heap.size w1 v → v.cell? ⟨w.heap.size, 4, none⟩ = some (.slice e.pa P.length e.pc) ∧ v.cell? ⟨w.heap.size + 1, 0, none⟩ = some (.int .i64 1) ∧ v.cell? ⟨w.heap.size + 1, 1, none⟩ = some (.int .i64 prec) ∧ v.cell? ⟨w.heap.size + 1, 6, none⟩ = some (.slice A marks.length c) ∧ v.cell? ⟨w.heap.size + 1, 3, none⟩ = some (.int .i64 scan) ∧ v.cell? ⟨w.heap.size + 1, 4, none⟩ = some (.int .i64 n)) := fun v hv =>
    ⟨(hXe.kept hv).cell 4, (hXo.kept hv).cell 0, (hXo.kept hv).cell 1, (hXo.kept hv).cell 6, (hXo.kept hv).cell 3, (hXo.kept hv).cell 4⟩
  clear hE hPn hM hms hs hn hm hw1 hb1 hXe hXo e4 o0 o1 o3 o4 o6
  obtain ⟨title, dots, blank, marked, pa, pc, ca, cc, sa, sn, sc, scanners, batch, neg, na, nn, nc, da, dn, dc, cell, seed⟩ := e
  unfold EV.cells at *
  unfold Opn.cells at *
  simp only [] at *
  obtain ⟨_, _, _, _, p3, p4⟩ := hcell.out w1 (Below.refl _ _)
  have hCS := hide (fun (wq : World) (hq : Below w1.heap.size w1 wq) => (HS.out wq hq).mono (fun e w2 (h : e = .returned (.string (itS scan)) ∧ Below wq.heap.size wq w2) => (show e = .returned (.string (itS scan)) ∧ (w2.cell? ⟨w.heap.size + 1, 3, none⟩ = some (.int .i64 scan) ∧ w2.cell? ⟨w.heap.size + 1, 4, none⟩ = some (.int .i64 n)) ∧ Hid (Below w1.heap.size w1 w2) from
    have hb := hq.trans (h.2.mono hq.size)
    ⟨h.1, ⟨(hcell.out w2 hb).2.2.2.2.1, (hcell.out w2 hb).2.2.2.2.2⟩, hb⟩)))
  have hCN := hide (fun (wq : World) (hq : Below w1.heap.size w1 wq) => (HN.out wq hq).mono (fun e w2 (h : e = .returned (.string (itS n)) ∧ Below wq.heap.size wq w2) => (show e = .returned (.string (itS n)) ∧ (w2.cell? ⟨w.heap.size + 1, 3, none⟩ = some (.int .i64 scan) ∧ w2.cell? ⟨w.heap.size + 1, 4, none⟩ = some (.int .i64 n)) ∧ Hid (Below w1.heap.size w1 w2) from
    have hb := hq.trans (h.2.mono hq.size)
    ⟨h.1, ⟨(hcell.out w2 hb).2.2.2.2.1, (hcell.out w2 hb).2.2.2.2.2⟩, hb⟩)))
  go_enter Tryd.func16, Tryd.ntmps16
  go_upto_region 1 with (fail)
  rw [HW1.out]
  go_region_held_law (fun w' => w'.cell? ⟨w.heap.size + 1, 3, none⟩ = some (.int .i64 scan) ∧ w'.cell? ⟨w.heap.size + 1, 4, none⟩ = some (.int .i64 n))
    (first | exact ⟨by assumption, by assumption⟩ | assumption | go_keep)
    (first | (go_at_call 33; refine (hCS.out _ (below_drew (Below.refl _ _) 1)).mono ?_; rintro e w2 ⟨rfl, hc2, hb2⟩) | (go_at_call 33; refine (hCN.out _ hb2.out).mono ?_; rintro e w3 ⟨rfl, hc3, hb3⟩))
  have HBw3 := hb3
  have HN3 := hide (HNm.out w3 HBw3.out)
  obtain ⟨q4, q0, q1, q6, _, _⟩ := hcell.out w3 HBw3.out
  clear HXe HXo hCS hCN HS HN HNm
  generalize hnm : nameV P prec = nm at *
  have HNm2 := hide hnm
  clear hnm
  generalize itS scan = s1 at *
  generalize itS n = s2 at *
  go_wp2_with fail
  refine HN3.out.mono ?_
  rintro en w4 ⟨rfl, hb4⟩
  have hB4 : Below w1.heap.size w1 w4 := HBw3.out.trans (hb4.mono HBw3.out.size)
  obtain ⟨r4, r0, r1, r6, _, _⟩ := hcell.out w4 hB4
  have hO5 := own_new2 (enc := Value.string) (ty := 9) w4 (⟨#[105, 115, 115, 117, 101]⟩ : ByteArray) nm
  have hb5 : Below w4.heap.size w4 (w4.alloc (.cells #[.string ⟨#[105, 115, 115, 117, 101]⟩, .string nm] 9)) := (Below.refl _ _).alloc (Nat.le_refl _) _
  obtain ⟨t4, t0, t1, t6, _, _⟩ := hcell.out _ (hB4.trans (hb5.mono hB4.size))
  have HO5 := hide hO5
  have HB5 := hide hb5
  have HB4 := hide hB4
  clear hb4 hO5 hb5 hB4
  go_wp2_with fail
  go_loopw [7, 9, 32] (fun o _ i wr => ∃ k : Nat, k ≤ marks.length ∧ i = .int .i64 k ∧ ∃ v : Value, o = v ∧ Hid (OwnE Value.string 9 w4.heap.size wr v ([sIssue, nm] ++ (marks.take k).map itS)) ∧ Hid (Below w4.heap.size w4 wr)) (fun _ _ i _ => marks.length - (iOf i).toNat)
  case atStart => exact ⟨0, Nat.zero_le _, rfl, _, rfl, HO5.out, HB5.out⟩
  case round =>
    obtain ⟨k, hk, rfl, v, rfl, HO, HB⟩ := hrel
    have hBr : Below w1.heap.size w1 wr := HB4.out.trans (HB.out.mono HB4.out.size)
    have hs4 := HB.out.size
    by_cases hlt : k < marks.length
    · obtain ⟨b, off, rfl, hb, h0⟩ := HL.out.at_ hlt
      have h0 := (hBr.cell (p := ⟨b, off + k, none⟩) hb).trans h0
      have HI := hide (HM.out _ (getD_memD hlt) wr hBr)
      have hlen : ([sIssue, nm] ++ (marks.take k).map itS).length = k + 2 := by rw [List.length_append, List.length_map, List.length_take]; simp; omega
      have hts : Hid ([sIssue, nm] ++ (marks.take (k + 1)).map itS = ([sIssue, nm] ++ (marks.take k).map itS) ++ [itS (marks.getD k default)]) := by
        rw [Hid, take_succD hlt, List.map_append, List.append_assoc]
        rfl
      have HP := hide (fun (wq : World) (hq : Below wr.heap.size wr wq) => push_str (HO.out.kept hq) (Nat.le_trans hs4 hq.size) (by omega) 26 (itS (marks.getD k default)))
      rw [hlen] at HP
      rw [← hts.out] at HP
      clear hts hBr
      generalize itS (marks.getD k default) = ms at *
      simp only [iv] at h0
      generalize marks.getD k default = mk at *
      go_wp2_with fail
      refine HI.out.mono ?_
      rintro en w6 ⟨rfl, hb6⟩
      obtain ⟨A7, c7, w7, hr7, hO7, hb7⟩ := HP.out w6 hb6
      have HR7 := hide hr7
      have HO7 := hide hO7
      have HB7 := hide ((HB.out.trans (hb6.mono hs4)).trans hb7)
      clear hb6 hr7 hO7 hb7
      go_wp2_with ((with_reducible refine wpList_gives (o := ⟨some 40, _, _, _, _, _⟩) (v := Value.slice A7 (k + 2 + 1) c7) (w' := w7) ?_ ?_ ?_); rfl; exact gives_append rfl rfl rfl HR7.out)
      go_roundw
      case rel => exact ⟨k + 1, by omega, by go_num, _, rfl, HO7.out, HB7.out⟩
      case measure => simp [iOf]; omega
    · obtain rfl : k = marks.length := by omega
      have hO := HO.out
      rw [List.take_length] at hO
      have HO := hide (hO.lower (show w.heap.size ≤ w4.heap.size from Nat.le_trans HB1.out.size HB4.out.size))
      have HBf := hide (HB1.out.trans (hBr.mono HB1.out.size))
      clear hO hBr
      go_wp2_with fail
      go_ret
      exact ⟨_, rfl, by rw [HNm2.out]; exact HO.out, HBf.out⟩
end Go.Proofs.YtnndaemmgbkjbaaDoor
