/-
  console.Print: where what is written is parsed as the operation.
-/
import Derived.Test.YtnndaemmgbkjbaaDoorSame
namespace Go.Proofs.YtnndaemmgbkjbaaDoor
open Go.RowKit
set_option linter.unusedVariables false
set_option linter.unusedSimpArgs false

section
variable {w w' : World} {ops : Array Oper} {rest : List Oper} {o : Oper} {a : Act} {Q : Exit → Act → World → Prop} {v : Value}
/-- an operation under a guard that is met -/
theorem wpList_gives_g (hw : Region.wanted o (yielded ops a.tmps) = true) (hr : Gives o a w v w') (h : wpList Tryd.prog ops Q rest (a.put o.dst v) w') : wpList Tryd.prog ops Q (o :: rest) a w :=
  wpList_step fun K hK => by
    rw [if_pos hw]
    unfold Oper.wp
    rw [show (execOp a.eval o).run Tryd.prog w = .ok (.value v) w' from hr, Oper.upon_value]
    exact hK _ _ h
end
def joinS (ws : List ByteArray) : ByteArray := ⟨(Lib.join (ws.map (·.data.toList)) [32]).toArray⟩
theorem join_any {B : Nat} {A : Option Addr} {n c : Nat} {ws : List ByteArray} {w : World} (h : OwnE Value.string 9 B w (.slice A n c) ws) (h0 : 0 < ws.length) (hl : ws.length ≤ 1000000) (hs : (joinS ws).size ≤ 100000000) :
    Calls Tryd.prog 15 #[.slice A n c, .string ⟨#[32]⟩] w fun e w' => e = .returned (.string (joinS ws)) ∧ Below w.heap.size w w' := by
  obtain ⟨A', c', e, hc, hL, _⟩ := h.form
  injection e with e1 e2 e3
  subst e1 e2 e3
  obtain ⟨b, off, rfl, hb, hcl⟩ := hL h0
  refine (Tryd.strings_Join b off c ws ⟨#[32]⟩ w (fun j x hj => ?_) hb.1 (by omega) hc ?_).mono ?_
  · have hlt : j < ws.length := (List.getElem?_eq_some_iff.1 hj).1
    rw [hcl j hlt, List.getD_eq_getElem?_getD, hj]
    rfl
  · rw [Lib.size_eq] at hs
    unfold joinS at hs
    have : ((⟨(Lib.join (ws.map (·.data.toList)) [32]).toArray⟩ : ByteArray).data.toList).length = (Lib.join (ws.map (·.data.toList)) [32]).length := by simp
    rw [this] at hs
    exact Nat.le_trans hs (by decide)
  · rintro en w' ⟨rfl, hb'⟩
    exact ⟨rfl, hb'⟩
set_option maxHeartbeats 8000000 in
set_option maxRecDepth 100000 in
theorem print_to {ecs ocs : Array Value} {o : Opn} {ws : List ByteArray} {w : World} (hes : ecs.size = 14) (hos : ocs.size = 12) (hO : OpV (All w) w (.agg ocs) o) (hm : o.marks.length ≤ 1000000) (hk : o.keep.length ≤ 1000000) (h0 : 0 < ws.length) (hl : ws.length ≤ 1000000) (hsz : (joinS ws).size ≤ 100000000)
    (hW : ∀ wq, Below w.heap.size w wq → Calls Tryd.prog 16 #[.agg ecs, .agg ocs] wq fun en w' => ∃ v, en = .returned v ∧ OwnE Value.string 9 wq.heap.size w' v ws ∧ Below wq.heap.size wq w')
    (hP : ∀ wq, Below w.heap.size w wq → Calls Tryd.prog 8 #[.agg ecs, .string (joinS ws)] wq fun en w' => ∃ v, en = .returned (.tuple #[v, .bool true]) ∧ OpV (fun i => wq.heap.size ≤ i ∧ i < w'.heap.size) w' v o ∧ Below wq.heap.size wq w') :
    Calls Tryd.prog 9 #[.agg ecs, .agg ocs] w fun en w' => en = .returned (.tuple #[.string (joinS ws), .bool true]) ∧ Below w.heap.size w w' := by
  obtain ⟨w1, hw1⟩ : ∃ q, (w.alloc (.cells ecs 34)).alloc (.cells ocs 39) = q := ⟨_, rfl⟩
  have hb1 : Below w.heap.size w w1 := by rw [← hw1]; exact ((Below.refl _ _).alloc (Nat.le_refl _) _).alloc (by simp) _
  have hXe : Box w1 w.heap.size 34 ecs := by rw [← hw1]; exact (Box.new _ _ _).alloc _
  have hXo : Box w1 (w.heap.size + 1) 39 ocs := by
    have := Box.new (w.alloc (.cells ecs 34)) 39 ocs
    rw [World.size_alloc, hw1] at this
    exact this
  have HLe := hide (fun (wq : World) (hq : Below w1.heap.size w1 wq) => box_load aggE (hXe.kept hq) hes)
  have HLo := hide (fun (wq : World) (hq : Below w1.heap.size w1 wq) => box_load aggOp (hXo.kept hq) hos)
  have HW := hide (hW w1 hb1)
  have HP := hide (fun (wq : World) (hq : Below w1.heap.size w1 wq) => hP wq (hb1.trans (hq.mono hb1.size)))
  have HO := hide (fun (wq : World) (hq : Below w1.heap.size w1 wq) => OpV.below hO (hb1.trans (hq.mono hb1.size)))
  have HB1 := hide hb1
  have HW1 := hide hw1
  have HJ := hide (fun (B : Nat) (A : Option Addr) (n c : Nat) (wq : World) (h : OwnE Value.string 9 B wq (.slice A n c) ws) => join_any h h0 hl hsz)
  clear hO hW hP hw1 hb1 hXe hXo h0 hl hsz
  generalize joinS ws = line at *
  have HLe1 := hide (HLe.out w1 (Below.refl _ _))
  have HLo1 := hide (HLo.out w1 (Below.refl _ _))
  go_enter Tryd.func9, Tryd.ntmps9
  go_upto_region 1 with (fail)
  rw [HW1.out]
  go_wp2_with (first | ((with_reducible refine wpList_gives (o := ⟨some 9, _, _, _, _, _⟩) (v := .agg ecs) (w' := w1) ?_ ?_ ?_); rfl; exact gives_load rfl rfl HLe1.out) | ((with_reducible refine wpList_gives (o := ⟨some 10, _, _, _, _, _⟩) (v := .agg ocs) (w' := w1) ?_ ?_ ?_); rfl; exact gives_load rfl rfl HLo1.out))
  refine HW.out.mono ?_
  rintro en w2 ⟨v2, rfl, hO2, hb2⟩
  obtain ⟨A2, c2, rfl, hc2, _, _⟩ := hO2.form
  have HJ2 := hide (HJ.out _ _ _ _ _ hO2)
  have HB2 := hide hb2
  clear hO2 hb2
  go_wp2_with fail
  refine HJ2.out.mono ?_
  rintro en w3 ⟨rfl, hb3⟩
  have HB3 := hide (HB2.out.trans (hb3.mono HB2.out.size))
  have HLe3 := hide (HLe.out w3 HB3.out)
  have HP3 := hide (HP.out w3 HB3.out)
  clear hb3
  go_wp2_with ((with_reducible refine wpList_gives (o := ⟨some 14, _, _, _, _, _⟩) (v := .agg ecs) (w' := w3) ?_ ?_ ?_); rfl; exact gives_load rfl rfl HLe3.out)
  refine HP3.out.mono ?_
  rintro en w4 ⟨_, rfl, ⟨A4, c4, D4, d4, rfl, hV4⟩, hb4⟩
  have hB4 : Below w1.heap.size w1 w4 := HB3.out.trans (hb4.mono HB3.out.size)
  obtain ⟨w5, hw5⟩ : ∃ q, w4.alloc (.cells (zeroO.cells none 0 none 0) 39) = q := ⟨_, rfl⟩
  have hb5 : Below w1.heap.size w1 w5 := by rw [← hw5]; exact hB4.alloc hB4.size _
  have hX5 : Box w5 w4.heap.size 39 (zeroO.cells none 0 none 0) := by rw [← hw5]; exact Box.new _ _ _
  have hV5 : OpV (fun i => w3.heap.size ≤ i ∧ i < w4.heap.size) w5 (.agg (o.cells A4 c4 D4 d4)) o := by
    rw [← hw5]
    exact OpV.agree (show OpV (fun i => w3.heap.size ≤ i ∧ i < w4.heap.size) w4 _ o from ⟨A4, c4, D4, d4, rfl, hV4⟩) fun i hi => Below.heap_alloc w4 _ i hi.2
  obtain ⟨w6, hst, hX6, hg6⟩ := box_store aggOp hX5 rfl rfl (Opn.one o A4 c4 D4 d4)
  have hV6 := hV5.agree fun i hi => hg6.block i (by have := hX5.lt; omega) fun e => by have := Option.some.inj e; omega
  have hB6 : Below w1.heap.size w1 w6 := below_grown hb5 hg6 hB4.size
  have HLb := hide (box_load aggOp hX6 rfl)
  have HLo6 := hide (HLo.out w6 hB6)
  have HSm := hide (same_eq (hV6.mono fun i hi => (show All w6 i by have := hX6.lt; unfold All; omega)) (HO.out w6 hB6) hm hk)
  rw [← hw5] at hst
  have HSt := hide hst
  have HB6 := hide hB6
  clear hb4 hB4 hw5 hb5 hX5 hV5 hst hX6 hg6 hV6 hB6 hV4
  go_wp2_with (first | ((with_reducible refine wpList_does (o := ⟨none, _, _, _, _, _⟩) (w' := w6) ?_ ?_ ?_); rfl; exact does_store rfl rfl rfl HSt.out) | ((with_reducible refine wpList_gives_g (o := ⟨some 22, _, _, _, _, _⟩) (v := .agg (o.cells A4 c4 D4 d4)) (w' := w6) ?_ ?_ ?_); rfl; exact gives_load rfl rfl HLb.out) | ((with_reducible refine wpList_gives_g (o := ⟨some 23, _, _, _, _, _⟩) (v := .agg ocs) (w' := w6) ?_ ?_ ?_); rfl; exact gives_load rfl rfl HLo6.out))
  refine HSm.out.mono ?_
  rintro en w7 ⟨rfl, hb7⟩
  have HBf := hide (HB1.out.trans ((HB6.out.trans (hb7.mono HB6.out.size)).mono HB1.out.size))
  clear hb7
  go_wp2_with fail
  go_ret2
  exact ⟨rfl, HBf.out⟩
end Go.Proofs.YtnndaemmgbkjbaaDoor
