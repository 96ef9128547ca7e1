/-
  electionlaw45.Awake: the example of the chapter holds.
-/
import Derived.Test.YtnndaemmgbkjbaaDoorErr
namespace Go.Proofs.YtnndaemmgbkjbaaDoor
open Go.RowKit
set_option linter.unusedVariables false
set_option linter.unusedSimpArgs false

/-- "issue b 0 4" -/
def exLine : ByteArray := ⟨#[105, 115, 115, 117, 101, 32, 98, 32, 48, 32, 52]⟩
def s0 : ByteArray := ⟨#[48]⟩
def s4 : ByteArray := ⟨#[52]⟩
theorem ex_split : splitW exLine = [sIssue, sB, s0, s4] := by decide +kernel
theorem ex_idx : idxN [sA, sB] sB = 1 := by decide +kernel
theorem ex_nums : numsV [s0, s4] = ([0, 4], true) := by decide +kernel
theorem ex_name : nameV [sA, sB] 1 = sB := by decide +kernel
theorem ex_prefix : Lib.hasPrefix exLine.data.toList [115, 101, 101, 100, 32] = false := by decide +kernel
def exO : Opn := { zeroO with kind := 1, prec := 1, marks := [0, 4] }
theorem ex_op : issueO [sA, sB] sB [s0, s4] = exO := by
  unfold issueO exO
  rw [ex_idx, ex_nums]
theorem ex_join : joinS ([sIssue, nameV [sA, sB] exO.prec] ++ exO.marks.map itS) = exLine := by
  show joinS ([sIssue, nameV [sA, sB] 1] ++ [0, 4].map itS) = exLine
  rw [ex_name]
  decide +kernel
theorem ex_err : errS 19 = ⟨#[119, 105, 110, 110, 101, 114]⟩ := by decide +kernel
/-- Parse of the example's line -/
theorem ex_parse {e : EV} {w : World} (hE : Elec w e [sA, sB] [sM]) (hM : Max w) :
    Calls Tryd.prog 8 #[.agg (e.cells 2 1), .string exLine] w fun en w' => ∃ v, en = .returned (.tuple #[v, .bool true]) ∧ OpV (fun i => w.heap.size ≤ i ∧ i < w'.heap.size) w' v exO ∧ Below w.heap.size w w' := by
  have h := parse_words (e := e) (P := [sA, sB]) (C := [sM]) (line := exLine) (x0 := sIssue) (l := [sB, s0, s4]) (o := exO) (ok := true) (w := w) (by decide) ex_prefix ex_split hM (fun wq B d hq hB hd hd2 => by
    have h1 := words_issue (e := e) (P := [sA, sB]) (C := [sM]) (B := B) (d := d) (r := [s0, s4]) (x := sB) (word := sIssue) (w := wq) (by decide +kernel) (hE.below hq) (by simp) (fun n hn => by
      simp only [List.mem_cons, List.not_mem_nil, or_false] at hn
      rcases hn with rfl | rfl <;> decide) (hM.below hq) hB hd (by omega) (fun n hn => by
      simp only [List.mem_cons, List.not_mem_nil, or_false] at hn
      rcases hn with rfl | rfl <;> decide)
    rw [ex_op, ex_idx, ex_nums] at h1
    exact h1)
  exact h
theorem ex_print {e : EV} {A : Option Addr} {c : Nat} {D : Option Addr} {d : Nat} {w : World} (hE : Elec w e [sA, sB] [sM]) (hM : Max w) (hO : OpV (All w) w (.agg (exO.cells A c D d)) exO) :
    Calls Tryd.prog 9 #[.agg (e.cells 2 1), .agg (exO.cells A c D d)] w fun en w' => en = .returned (.tuple #[.string exLine, .bool true]) ∧ Below w.heap.size w w' := by
  have h := print_to (ecs := e.cells 2 1) (ocs := exO.cells A c D d) (o := exO) (ws := [sIssue, nameV [sA, sB] exO.prec] ++ exO.marks.map itS) (w := w) rfl rfl hO (by decide) (by decide) (by simp) (by simp [exO]) (by rw [ex_join]; decide) (fun wq hq => by
    have hO2 := hO.below hq
    obtain ⟨A', c', D', d', e', hm, _, _, _⟩ := hO2
    have e6 : A = A' := by
      have : (exO.cells A c D d)[6]? = (exO.cells A' c' D' d')[6]? := by rw [Value.agg.inj e']
      simp [Opn.cells] at this
      exact this.1
    subst e6
    exact written_issue (P := [sA, sB]) (C := [sM]) (o := exO) rfl (hE.below hq) (fun n hn => by
      simp only [List.mem_cons, List.not_mem_nil, or_false] at hn
      rcases hn with rfl | rfl <;> decide) (hM.below hq) hm (by decide) (ItoaTo.small (by decide) (by decide)) (ItoaTo.small (by decide) (by decide)) (fun n hn => by
      have hn : n ∈ [(0 : Int), 4] := hn
      simp only [List.mem_cons, List.not_mem_nil, or_false] at hn
      rcases hn with rfl | rfl <;> exact ItoaTo.small (by decide) (by decide)))
    (fun wq hq => by rw [ex_join]; exact ex_parse (hE.below hq) (hM.below hq))
  rw [ex_join] at h
  exact h
def zeroE : EV := { title := ⟨#[]⟩, dots := 0, blank := 0, marked := 0, pa := none, pc := 0, ca := none, cc := 0, sa := none, sn := 0, sc := 0, scanners := 0, batch := 0, neg := false, na := none, nn := 0, nc := 0, da := none, dn := 0, dc := 0, cell := 0, seed := ⟨#[]⟩ }
set_option maxHeartbeats 8000000 in
set_option maxRecDepth 100000 in
theorem awake_any (w : World) (hM : Max w) : Calls Tryd.prog 4 #[] w fun e w' => e = .returned (.bool true) ∧ Below w.heap.size w w' := by
  have HS := hide (sample_any (w := w))
  have HM := hide hM
  clear hM
  go_enter Tryd.func4, Tryd.ntmps4
  go_wp2_with fail
  refine HS.out.mono ?_
  rintro en w1 ⟨rfl, hE1, hb1⟩
  generalize sampleE w.heap.size = e at *
  have hX2 := Box.new w1 34 (zeroE.cells 0 0)
  have hb2 : Below w1.heap.size w1 (w1.alloc (.cells (zeroE.cells 0 0) 34)) := (Below.refl _ _).alloc (Nat.le_refl _) _
  obtain ⟨w3, hst3, hX3, hg3⟩ := box_store aggE hX2 rfl rfl (EV.one e 2 1)
  have hb3 : Below w1.heap.size w1 w3 := below_grown hb2 hg3 (Nat.le_refl _)
  have HSt3 := hide hst3
  have HX3 := hide hX3
  have HE3 := hide (hE1.below hb3)
  have HM3 := hide (HM.out.below (below_then hb1 hb3))
  have HB3 := hide (below_then hb1 hb3)
  have HP3 := hide (ex_parse HE3.out HM3.out)
  have HL3 := hide (box_load aggE hX3 rfl)
  clear hE1 hb1 hX2 hb2 hst3 hX3 hg3 hb3
  obtain ⟨ecs, hecs⟩ : ∃ q, e.cells 2 1 = q := ⟨_, rfl⟩
  have hsz : ecs.size = 14 := by rw [← hecs]; rfl
  have HEc := hide hecs
  rw [hecs] at HSt3 HX3 HP3 HL3
  go_wp2_with (first | ((with_reducible refine wpList_does (o := ⟨none, _, _, _, _, _⟩) (w' := w3) ?_ ?_ ?_); rfl; exact does_store rfl rfl rfl HSt3.out) | ((with_reducible refine wpList_gives (o := ⟨some 8, _, _, _, _, _⟩) (v := .agg ecs) (w' := w3) ?_ ?_ ?_); rfl; exact gives_load rfl rfl HL3.out))
  refine HP3.out.mono ?_
  rintro en w4 ⟨_, rfl, ⟨A4, c4, D4, d4, rfl, hV4⟩, hb4⟩
  have hX5 := Box.new w4 39 (zeroO.cells none 0 none 0)
  have hb5 : Below w4.heap.size w4 (w4.alloc (.cells (zeroO.cells none 0 none 0) 39)) := (Below.refl _ _).alloc (Nat.le_refl _) _
  obtain ⟨w6, hst6, hX6, hg6⟩ := box_store aggOp hX5 rfl rfl (Opn.one exO A4 c4 D4 d4)
  have hb6 : Below w4.heap.size w4 w6 := below_grown hb5 hg6 (Nat.le_refl _)
  have hB6 : Below w3.heap.size w3 w6 := below_then hb4 hb6
  have hO6 : OpV (All w6) w6 (.agg (exO.cells A4 c4 D4 d4)) exO :=
    OpV.below (OpV.mono (show OpV (fun i => w3.heap.size ≤ i ∧ i < w4.heap.size) w4 _ exO from ⟨A4, c4, D4, d4, rfl, hV4⟩) fun i hi => hi.2) hb6
  have hPr := ex_print (e := e) (HE3.out.below hB6) (HM3.out.below hB6) hO6
  rw [HEc.out] at hPr
  have HPr := hide hPr
  have HSt6 := hide hst6
  have HLe6 := hide (box_load aggE (HX3.out.kept hB6) hsz)
  have HLo6 := hide (box_load aggOp hX6 rfl)
  have HX6 := hide hX6
  have HB6 := hide (below_then HB3.out hB6)
  have HM6 := hide (HM3.out.below hB6)
  clear hX5 hb5 hst6 hX6 hg6 hb6 hB6 hO6 hPr hb4 hV4
  obtain ⟨ocs, hocs⟩ : ∃ q, exO.cells A4 c4 D4 d4 = q := ⟨_, rfl⟩
  have o1 : ocs[1]? = some (.int .i64 1) := by rw [← hocs]; rfl
  rw [hocs] at HPr HSt6 HLo6 HX6
  have hld : exLine.toList = [105, 115, 115, 117, 101, 32, 98, 32, 48, 32, 52] := by decide +kernel
  go_wp2_with (first | ((with_reducible refine wpList_does (o := ⟨none, _, _, _, _, _⟩) (w' := w6) ?_ ?_ ?_); rfl; exact does_store rfl rfl rfl HSt6.out) | ((with_reducible refine wpList_gives (o := ⟨some 13, _, _, _, _, _⟩) (v := .agg ecs) (w' := w6) ?_ ?_ ?_); rfl; exact gives_load rfl rfl HLe6.out) | ((with_reducible refine wpList_gives (o := ⟨some 14, _, _, _, _, _⟩) (v := .agg ocs) (w' := w6) ?_ ?_ ?_); rfl; exact gives_load rfl rfl HLo6.out))
  refine HPr.out.mono ?_
  rintro en w7 ⟨rfl, hb7⟩
  have x1 := (HX6.out.kept hb7).cell 1
  rw [o1] at x1
  have HEr := hide (err_any (n := 19) (w := w7) (by unfold InI; omega))
  rw [ex_err] at HEr
  have HB7 := hide (below_then HB6.out hb7)
  clear hb7
  go_wp2_with fail
  refine HEr.out.mono ?_
  rintro en w8 ⟨rfl, hb8⟩
  have HB8 := hide (below_then HB7.out hb8)
  clear hb8
  go_wp2_with fail
  go_ret
  exact ⟨rfl, HB8.out⟩
end Go.Proofs.YtnndaemmgbkjbaaDoor
