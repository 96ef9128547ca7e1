/-
  parts of the proof: R45I R45J R45K.
-/
import Derived.Deep.CutBlock
import Derived.Test.YtnndaemmgbkjbaaGreatDoorPR
import Derived.Test.YtnndaemmgbkjbaaGreatDoorPB
import Derived.Test.YtnndaemmgbkjbaaGreatDoorPH
import Derived.Test.YtnndaemmgbkjbaaGreatDoorPF
import Derived.Test.YtnndaemmgbkjbaaGreatDoorPK
namespace Go.Proofs.YtnndaemmgbkjbaaGreatDoor
open Go.RowKit
open Go.Act renaming put → aP
open List renaming setIfInBounds_toArray → aS, set_cons_zero → aZ, set_cons_succ → aU
open Go.World renaming cell?_of_block → cB
open Nat renaming lt_of_lt_of_le → lL, le_trans → lT, le_refl → lR, zero_le → zL
open Go.RowKit.Below renaming refl → bR
open _root_.Go.Proofs.Tryz renaming prog → pG
open Go.Value renaming int → vI, slice → vS, string → vT, bool → vB, pointer → vP
open Go.IntKind renaming i64 → kI
set_option linter.unusedVariables false
set_option linter.unusedSimpArgs false
section
def Decides (P:Prop) (w:World) (en:Ending) (w':World):Prop:=∃ q:Bool,en=.returned (.bool q)∧(q=true↔P)∧Below w.heap.size w w'
set_option maxHeartbeats 16000000
set_option maxRecDepth 100000
theorem eq45_any {a b : Opn} {A B A' B' : Option Addr} {c d c' d' : Nat} {w : World} (hA : Ints w A a.marks) (hB : Bools w B a.keep) (hA' : Ints w A' b.marks) (hB' : Bools w B' b.keep) (m1 : a.marks.length ≤ 1000000) (m2 : b.marks.length ≤ 1000000) (m3 : a.keep.length ≤ 1000000) (m4 : b.keep.length ≤ 1000000) :
    Calls pG 10 #[.agg (a.cells A c B d), .agg (b.cells A' c' B' d')] w fun en w' => Decides (a = b) w en w' := by
  obtain ⟨k1, p1, o1, s1, n1, l1, marks1, keep1, e1, f1, t1, x1⟩ := a
  obtain ⟨k2, p2, o2, s2, n2, l2, marks2, keep2, e2, f2, t2, x2⟩ := b
  simp only [] at hA hB hA' hB' m1 m2 m3 m4
  obtain ⟨PP, hPP⟩ : ∃ P : Prop, ((⟨k1, p1, o1, s1, n1, l1, marks1, keep1, e1, f1, t1, x1⟩ : Opn) = (⟨k2, p2, o2, s2, n2, l2, marks2, keep2, e2, f2, t2, x2⟩ : Opn)) = P := ⟨_, rfl⟩
  rw [hPP]
  have HPP := hide hPP
  clear hPP
  simp only [Opn.cells]
  obtain ⟨w1, hw1⟩ : ∃ x, (w.alloc (.cells #[vI kI k1, vI kI p1, vI kI o1, vI kI s1, vI kI n1, vI kI l1, vS A marks1.length c, vS B keep1.length d, .bool e1, .bool f1, .bool t1, vT x1] 36)).alloc (.cells #[vI kI k2, vI kI p2, vI kI o2, vI kI s2, vI kI n2, vI kI l2, vS A' marks2.length c', vS B' keep2.length d', .bool e2, .bool f2, .bool t2, vT x2] 36) = x := ⟨_, rfl⟩
  have hb1 : Below w.heap.size w w1 := by rw [← hw1]; exact ((bR _ _).alloc (lR _) _).alloc (by simp) _
  have y2 : Box w1 w.heap.size 36 #[vI kI k1, vI kI p1, vI kI o1, vI kI s1, vI kI n1, vI kI l1, vS A marks1.length c, vS B keep1.length d, .bool e1, .bool f1, .bool t1, vT x1] := by rw [← hw1]; exact (Box.new w _ _).alloc _
  have y3 : Box w1 (w.heap.size + 1) 36 #[vI kI k2, vI kI p2, vI kI o2, vI kI s2, vI kI n2, vI kI l2, vS A' marks2.length c', vS B' keep2.length d', .bool e2, .bool f2, .bool t2, vT x2] := by
    rw [← hw1]
    have := Box.new (w.alloc (.cells #[vI kI k1, vI kI p1, vI kI o1, vI kI s1, vI kI n1, vI kI l1, vS A marks1.length c, vS B keep1.length d, .bool e1, .bool f1, .bool t1, vT x1] 36)) 36 #[vI kI k2, vI kI p2, vI kI o2, vI kI s2, vI kI n2, vI kI l2, vS A' marks2.length c', vS B' keep2.length d', .bool e2, .bool f2, .bool t2, vT x2]
    rwa [World.size_alloc] at this
  obtain ⟨qm, hqm⟩ : ∃ q, decide (marks1 = marks2) = q := ⟨_, rfl⟩
  have hS := eqInts_any (c := c) (d := c') (ListIn.below hA hb1) (ListIn.below hA' hb1) (by omega) (by omega)
  rw [hqm] at hS
  have HS := hide hS
  have HQ := hide hqm
  have HB1 := hide hb1
  have HX2 := hide y2
  have HX3 := hide y3
  have HKa := hide (ListIn.below hB hb1)
  have HKb := hide (ListIn.below hB' hb1)
  obtain ⟨ec1, he1⟩ : ∃ q : Array Value, #[vI kI k1, vI kI p1, vI kI o1, vI kI s1, vI kI n1, vI kI l1, vS A marks1.length c, vS B keep1.length d, .bool e1, .bool f1, .bool t1, vT x1] = q := ⟨_, rfl⟩
  obtain ⟨ec2, he2⟩ : ∃ q : Array Value, #[vI kI k2, vI kI p2, vI kI o2, vI kI s2, vI kI n2, vI kI l2, vS A' marks2.length c', vS B' keep2.length d', .bool e2, .bool f2, .bool t2, vT x2] = q := ⟨_, rfl⟩
  rw [he1, he2] at hw1 ⊢
  have HW1 := hide hw1
  clear he1 he2
  clear hA hB hA' hB' hb1 hw1 hS hqm
  have a0 := y2.cell 0
  have a1 := y2.cell 1
  have a2 := y2.cell 2
  have a3 := y2.cell 3
  have a4 := y2.cell 4
  have a5 := y2.cell 5
  have a6 := y2.cell 6
  have a7 := y2.cell 7
  have a8 := y2.cell 8
  have a9 := y2.cell 9
  have a10 := y2.cell 10
  have a11 := y2.cell 11
  have b0 := y3.cell 0
  have b1 := y3.cell 1
  have b2 := y3.cell 2
  have b3 := y3.cell 3
  have b4 := y3.cell 4
  have b5 := y3.cell 5
  have b6 := y3.cell 6
  have b7 := y3.cell 7
  have b8 := y3.cell 8
  have b9 := y3.cell 9
  have b10 := y3.cell 10
  have b11 := y3.cell 11
  simp at a0 a1 a2 a3 a4 a5 a6 a7 a8 a9 a10 a11 b0 b1 b2 b3 b4 b5 b6 b7 b8 b9 b10 b11
  have hl2 := y2.lt
  have hl3 := y3.lt
  clear y2 y3
  go_enter Tryz.func10, Tryz.ntmps10
  go_upto_region 1 with (fail)
  rw [HW1.out]
  go_cut [90] (fun r wx => (∃ q : Bool, r = .bool q ∧ (q = true → ¬ (k1 = k2 ∧ p1 = p2 ∧ o1 = o2 ∧ s1 = s2 ∧ n1 = n2 ∧ l1 = l2 ∧ marks1 = marks2 ∧ keep1.length = keep2.length ∧ e1 = e2 ∧ f1 = f2 ∧ t1 = t2 ∧ x1 = x2)) ∧ (q = false → k1 = k2 ∧ p1 = p2 ∧ o1 = o2 ∧ s1 = s2 ∧ n1 = n2 ∧ l1 = l2 ∧ marks1 = marks2 ∧ keep1.length = keep2.length ∧ e1 = e2 ∧ f1 = f2 ∧ t1 = t2 ∧ x1 = x2)) ∧ Hid (Drew w1 wx))
  case first =>
    clear HW1
    go_wp2_with fail
    all_goals first
      | (go_meet
         refine ⟨⟨_, rfl, fun _ hh => ?_, fun h => (by cases h)⟩, Drew.refl _⟩
         first | exact absurd hh.1 (by assumption) | exact absurd hh.2.1 (by assumption) | exact absurd hh.2.2.1 (by assumption) | exact absurd hh.2.2.2.1 (by assumption) | exact absurd hh.2.2.2.2.1 (by assumption) | exact absurd hh.2.2.2.2.2.1 (by assumption) | exact absurd hh.2.2.2.2.2.2.1 (by assumption) | exact absurd hh.2.2.2.2.2.2.2.1 (by assumption) | exact absurd hh.2.2.2.2.2.2.2.2.1 (by assumption) | exact absurd hh.2.2.2.2.2.2.2.2.2.1 (by assumption) | exact absurd hh.2.2.2.2.2.2.2.2.2.2.1 (by assumption) | exact absurd hh.2.2.2.2.2.2.2.2.2.2.2 (by assumption) | exact absurd (congrArg ByteArray.toList hh.2.2.2.2.2.2.2.2.2.2.2) (by assumption))
      | (refine HS.out.mono ?_
         rintro en w5 ⟨rfl, nq, rfl⟩
         try dsimp only
         have HD5 : Hid (Drew w1 (w1.drewN nq)) := ⟨nq, rfl⟩
         have a7' : (w1.drewN nq).cell? ⟨w.heap.size, 7, none⟩ = some (vS B keep1.length d) := a7
         have b7' : (w1.drewN nq).cell? ⟨w.heap.size + 1, 7, none⟩ = some (vS B' keep2.length d') := b7
         have hl2' : w.heap.size < (w1.drewN nq).heap.size := hl2
         have hl3' : w.heap.size + 1 < (w1.drewN nq).heap.size := hl3
         have hx := bytes_eq (x := x1) (y := x2) (by assumption)
         have HAll : Hid (k1 = k2 ∧ p1 = p2 ∧ o1 = o2 ∧ s1 = s2 ∧ n1 = n2 ∧ l1 = l2 ∧ e1 = e2 ∧ f1 = f2 ∧ t1 = t2 ∧ x1 = x2) := ⟨by assumption, by assumption, by assumption, by assumption, by assumption, by assumption, by assumption, by assumption, by assumption, hx⟩
         clear a0 a1 a2 a3 a4 a5 a6 a7 a8 a9 a10 a11 b0 b1 b2 b3 b4 b5 b6 b7 b8 b9 b10 b11 hl2 hl3 hx
         cases qm with
         | false =>
           go_wp2_with fail
           go_meet
           exact ⟨⟨_, rfl, fun _ hh => of_decide_eq_false HQ.out hh.2.2.2.2.2.2.1, fun h => (by cases h)⟩, HD5.out⟩
         | true =>
           have hmm := of_decide_eq_true HQ.out
           have HMm := hide hmm
           clear hmm
           by_cases hk : keep1.length = keep2.length
           · have hk' : ((keep1.length : Int) != (keep2.length : Int)) = false := by simp [hk]
             go_wp2_with fail
             all_goals
               go_meet
               first
               | exact ⟨⟨_, rfl, fun h => (by cases h), fun _ => ⟨HAll.out.1, HAll.out.2.1, HAll.out.2.2.1, HAll.out.2.2.2.1, HAll.out.2.2.2.2.1, HAll.out.2.2.2.2.2.1, HMm.out, hk, HAll.out.2.2.2.2.2.2.1, HAll.out.2.2.2.2.2.2.2.1, HAll.out.2.2.2.2.2.2.2.2.1, HAll.out.2.2.2.2.2.2.2.2.2⟩⟩, HD5.out⟩
           · have hk0 : ¬ (keep1.length : Int) = (keep2.length : Int) := by omega
             have hk' : ((keep1.length : Int) != (keep2.length : Int)) = true := bne_iff_ne.2 hk0
             go_wp2_with fail
             all_goals
               go_meet
               exact ⟨⟨_, rfl, fun _ hh => hk hh.2.2.2.2.2.2.2.1, fun h => (by first | cases h | simp_all)⟩, HD5.out⟩)
  case rest =>
    obtain ⟨⟨q, rfl, hq1, hq2⟩, HD⟩ := hcut
    have HQ1 := hide hq1
    have HQ2 := hide hq2
    clear a0 a1 a2 a3 a4 a5 a6 a7 a8 a9 a10 a11 b0 b1 b2 b3 b4 b5 b6 b7 b8 b9 b10 b11 hl2 hl3 HS HQ hq1 hq2 HW1
    cases q with
    | true =>
      go_wp2_with fail
      go_ret
      have hp : (false = true ↔ PP) := by
        rw [← HPP.out]
        refine ⟨fun h => (by cases h), fun e => ?_⟩
        injection e with r1 r2 r3 r4 r5 r6 r7 r8 r9 r10 r11 r12
        exact (HQ1.out (by first | rfl | trivial) ⟨r1, r2, r3, r4, r5, r6, r7, by rw [r8], r9, r10, r11, r12⟩).elim
      exact ⟨false, rfl, hp, below_then HB1.out HD.out.below⟩
    | false =>
      have hall := HQ2.out rfl
      have hlk := hall.2.2.2.2.2.2.2.1
      have HAll := hide hall
      clear hall HQ1 HQ2
      obtain ⟨wd, hwd⟩ : ∃ q, wc = q := ⟨_, rfl⟩
      rw [hwd] at HD ⊢
      clear hwd
      have c7 : wd.cell? ⟨w.heap.size, 7, none⟩ = some (vS B keep1.length d) := (HX2.out.kept HD.out.below).cell 7
      have hl2 := (HX2.out.kept HD.out.below).lt
      go_wp2_with fail
      go_loopw [94] (fun i wr => ∃ k : Nat, k ≤ keep1.length ∧ i = vI kI k ∧ Hid (∀ j, j < k → keep1.getD j default = keep2.getD j default) ∧ Hid (Drew w1 wr)) (fun i _ => keep1.length - (iOf i).toNat)
      case atStart => exact ⟨0, zL _, rfl, fun j hj => by omega, HD.out⟩
      case round =>
        obtain ⟨k, hk, rfl, HE, HDr⟩ := hrel
        clear c7 hl2
        by_cases hlt : k < keep1.length
        · have hki : (k : Int) < (keep1.length : Int) := by omega
          have hki2 : (k : Int) < (keep2.length : Int) := by omega
          obtain ⟨g1, o1', rfl, hg1, e1'⟩ := HKa.out.at_ hlt
          obtain ⟨g2, o2', rfl, hg2, e2'⟩ := HKb.out.at_ (show k < keep2.length by omega)
          have hgg : ∀ wq, Drew w1 wq → wq.cell? ⟨w.heap.size, 7, none⟩ = some (vS (some ⟨g1, o1', none⟩) keep1.length d) ∧ wq.cell? ⟨w.heap.size + 1, 7, none⟩ = some (vS (some ⟨g2, o2', none⟩) keep2.length d') ∧ wq.cell? ⟨g1, o1' + k, none⟩ = some (.bool (keep1.getD k default)) ∧ wq.cell? ⟨g2, o2' + k, none⟩ = some (.bool (keep2.getD k default)) ∧ w.heap.size < wq.heap.size ∧ w.heap.size + 1 < wq.heap.size ∧ g1 < wq.heap.size ∧ g2 < wq.heap.size := fun wq hq => by
            have hb := hq.below
            refine ⟨(HX2.out.kept hb).cell 7, (HX3.out.kept hb).cell 7, (cB (hb.block g1 hg1)).trans e1', (cB (hb.block g2 hg2)).trans e2', (HX2.out.kept hb).lt, (HX3.out.kept hb).lt, lL hg1 hb.size, lL hg2 hb.size⟩
          obtain ⟨x1', x2', x3', x4', x5', x6', x7', x8'⟩ := hgg wr HDr.out
          have HG := hide hgg
          clear hgg e1' e2' hg1 hg2
          cases hv1 : keep1.getD k default <;> cases hv2 : keep2.getD k default
          all_goals
            rw [hv1] at x3'
            rw [hv2] at x4'
            have HV1 := hide hv1
            have HV2 := hide hv2
            clear hv1 hv2
            go_wp2_with fail
            go_quiet (fail)
            go_wp2_with fail
          all_goals first
            | (go_roundw
               case rel =>
                 refine ⟨k + 1, by omega, by go_num, fun j hj => ?_, HDr.out.drew _⟩
                 by_cases hjk : j = k
                 · rw [hjk, HV1.out, HV2.out]
                 · exact HE.out j (by omega)
               case measure => simp [iOf]; omega)
            | (go_ret
               have hp : (false = true ↔ PP) := by
                 rw [← HPP.out]
                 refine ⟨fun h => (by cases h), fun e => ?_⟩
                 injection e with r1 r2 r3 r4 r5 r6 r7 r8 r9 r10 r11 r12
                 have := HV1.out
                 rw [r8, HV2.out] at this
                 cases this
               exact ⟨false, rfl, hp, below_then HB1.out (HDr.out.drew _).below⟩)
        · obtain rfl : k = keep1.length := by omega
          go_wp2_with fail
          go_ret
          have hp : (true = true ↔ PP) := by
            rw [← HPP.out]
            refine ⟨fun _ => ?_, fun _ => rfl⟩
            obtain ⟨r1, r2, r3, r4, r5, r6, r7, _, r9, r10, r11, r12⟩ := HAll.out
            rw [r1, r2, r3, r4, r5, r6, r7, list_eq hlk HE.out, r9, r10, r11, r12]
          exact ⟨true, rfl, hp, below_then HB1.out HDr.out.below⟩
end
section
def wIssue:List UInt8:=[105,115,115,117,101]
def wSpoil:List UInt8:=[115,112,111,105,108]
def wAudit:List UInt8:=[97,117,100,105,116]
def wFeed:List UInt8:=[102,101,101,100]
def wFuse:List UInt8:=[102,117,115,101]
def wClose:List UInt8:=[99,108,111,115,101]
def wFinal:List UInt8:=[102,105,110,97,108]
def wVanish:List UInt8:=[118,97,110,105,115,104]
def wRestart:List UInt8:=[114,101,115,116,97,114,116]
def wSend:List UInt8:=[115,101,110,100]
def wLie:List UInt8:=[108,105,101]
def wCount:List UInt8:=[99,111,117,110,116]
def wFinish:List UInt8:=[102,105,110,105,115,104]
def twoV (kind:Int) (r:List ByteArray):Option Opn:=if (numsV r).2=true∧(numsV r).1.length=2 then some { zeroO with kind:=kind,scan:=(numsV r).1.getD 0 0,n:=(numsV r).1.getD 1 0 } else none
def oneV (r:List ByteArray) (f:Int→Opn):Option Opn:=if (numsV r).2=true∧(numsV r).1.length=1 then some (f ((numsV r).1.getD 0 0)) else none
def someV (P C:List ByteArray) (x:ByteArray) (r:List ByteArray):Option Opn:=
 if x.toList=wIssue then (match r with
  | []=>none
  |s :: t=>if (numsV t).2=true∧0≤idxN P s then some { zeroO with kind:=1,prec:=idxN P s,marks:=(numsV t).1 } else none)
 else if x.toList=wSpoil then (match r with
  | [s]=>if 0≤idxN P s then some { zeroO with kind:=2,prec:=idxN P s } else none
  |_=>none)
 else if x.toList=wAudit then (match r with
  | []=>none
  |s :: t=>if (numsV t).2=true∧(numsV t).1.length=1∧0≤idxN C s then some { zeroO with kind:=12,cont:=idxN C s,n:=(numsV t).1.getD 0 0 } else none)
 else if x.toList=wFeed then twoV 3 r
 else if x.toList=wFuse then twoV 4 r
 else if x.toList=wClose then oneV r fun n=>{ zeroO with kind:=6,scan:=n }
 else if x.toList=wFinal then oneV r fun n=>{ zeroO with kind:=6,scan:=n,n:=1 }
 else if x.toList=wVanish then oneV r fun n=>{ zeroO with kind:=9,n:=n }
 else if x.toList=wRestart then (match r with
  | [a,b]=>if (numsV [a]).2=true∧(bitsV b).2=true then some { zeroO with kind:=5,scan:=(numsV [a]).1.getD 0 0,keep:=(bitsV b).1 } else none
  |_=>none)
 else if x.toList=wSend then (match r with
  | []=>none
  |a :: t=>if (numsV [a]).2=true∧(flagsR t).2=true then some { (flagsR t).1 with kind:=7,scan:=(numsV [a]).1.getD 0 0 } else none)
 else if x.toList=wLie then (match r with
  | [a,b,c]=>if (numsV [a,b]).2=true∧1≤posS liesL c then some { zeroO with kind:=8,scan:=(numsV [a,b]).1.getD 0 0,n:=(numsV [a,b]).1.getD 1 0,lie:=posS liesL c } else none
  |_=>none)
 else if x.toList=wCount then (if r=[] then some { zeroO with kind:=10 } else none)
 else if x.toList=wFinish then (if r=[] then some { zeroO with kind:=13 } else none)
 else none
def Agg12 (v:Value):Prop:=∃ cs:Array Value,v=.agg cs∧cs.size=12∧(cs.toList.all fun u=>u.oneCell')=true
def SomeP (o:Option Opn) (w0 w':World) (v:Value) (q:Bool):Prop:=q=o.isSome∧(∀ p,o=some p→OpV (fun i=>w0.heap.size≤i∧i < w'.heap.size) w' v p)∧Below w0.heap.size w0 w'∧Agg12 v
theorem twoV_some {kind:Int}{r:List ByteArray}{a b:Int}(h:(numsV r).2=true) (hn:(numsV r).1=[a,b]):twoV kind r=some { zeroO with kind:=kind,scan:=a,n:=b }:=by
 unfold twoV;rw[if_pos ⟨h,by rw[hn];rfl⟩,hn];rfl
theorem twoV_none {kind:Int}{r:List ByteArray}(h:¬ ((numsV r).2=true∧(numsV r).1.length=2)):twoV kind r=none:=by
 unfold twoV;rw[if_neg h]
end
section
variable {u0 u3 u6 u7 u8 u9 jA qA yA zA fA nA rA mA lA oA pA vA sA tA uA aA bA cA dA eA hA iA kA jB qB yB zB fB gB nB rB mB lB oB pB sB tB uB aB bB dB eB iB kB jC qC yC zC fC gC nC rC mC lC oC pC vC sC tC uC aC bC cC dC eC hC iC kC jD qD yD zD fD gD nD rD mD lD oD pD vD sD tD uD aD bD cD dD eD hD iD kD jE qE yE zE fE gE nE rE mE lE oE pE vE sE tE uE aE bE cE dE eE hE iE kE jF qF yF zF fF gF nF rF mF lF oF pF vF sF tF uF aF bF cF dF eF hF iF kF jG qG yG zG fG gG nG rG mG lG oG vG sG tG uG aG bG cG dG eG hG iG kG jH qH yH zH fH gH nH rH mH lH oH pH vH sH tH uH aH bH cH dH eH iH kH jI qI yI zI fI gI nI rI mI lI oI pI sI tI uI aI bI cI dI eI hI iI jJ qJ yJ zJ fJ gJ nJ rJ mJ lJ oJ pJ vJ sJ tJ uJ aJ bJ cJ dJ eJ hJ iJ kJ jK qK yK zK fK gK nK rK mK lK oK pK vK sK tK uK aK bK cK dK:Value}
theorem below_growB {B g:Nat}{w a b:World}(h:Below B w a) (k:a.grownBy b (some g)) (hg:B≤g) (hB:B≤w.heap.size:=by omega):Below B w b:=
 ⟨k.os.trans h.os,k.tape.trans h.tape,k.output.trans h.output,lT h.size k.size,fun i hi=>(k.block i (lL hi (lT hB h.size)) (fun e=>by have:=Option.some.inj e;omega)).trans (h.block i hi)⟩
set_option maxHeartbeats 16000000
set_option maxRecDepth 1000000
theorem some19 {w0 wc:World}{PP CC:List ByteArray}{q2 q4 lb lo lc:Nat}{kd:Int}{x:ByteArray}{r:List ByteArray}
   (hl:Strs wc (some ⟨lb,lo,none⟩) (x :: r)) (hlc:r.length+1≤lc) (hm:r.length≤1000) (hs:∀ s ∈ r,s.size≤1000) (hx4:Box wc q4 36 (zeroO.cells none 0 none 0)) (hq4:w0.heap.size≤q4) (hb:Below w0.heap.size w0 wc) (hx:Hid (∀ P C r,someV P C x r=twoV kd r)) (hk:x.toList=wFeed∧kd=3∨x.toList=wFuse∧kd=4)
 {K:Act→World→Prop}{post:Ending→World→Prop}
   (hP:∀ v q w',SomeP (someV PP CC x r) w0 w' v q→post (.returned (.tuple #[v,.bool q])) w')
 :
   Code.wp pG (seqL ((Tryz.f27.body.bind (findAt 19)).getD .skip)) (Exit.then (Code.wp pG (seqR ((Tryz.f27.body.bind (findAt 19)).getD .skip)) (Exit.inBlock 0 (Exit.then K (bodyPost pG Tryz.f27 post)))) (Exit.inBlock 0 (Exit.then K (bodyPost pG Tryz.f27 post)))) ⟨#[u0,vS (some ⟨lb,lo,none⟩) (r.length+1) lc,vP (some ⟨q2,0,none⟩),u3,vP (some ⟨q4,0,none⟩),vB false,u6,u7,u8,u9,jA,qA,yA,zA,fA,nA,rA,mA,lA,oA,pA,vA,sA,tA,uA,aA,bA,cA,dA,eA,hA,iA,kA,jB,qB,yB,zB,fB,gB,nB,rB,mB,lB,oB,pB,sB,tB,uB,aB,bB,dB,eB,iB,kB,jC,qC,yC,zC,fC,gC,nC,rC,mC,lC,oC,pC,vC,sC,tC,uC,aC,bC,cC,dC,eC,hC,iC,kC,jD,qD,yD,zD,fD,gD,nD,rD,mD,lD,oD,pD,vD,sD,tD,uD,aD,bD,cD,dD,eD,hD,iD,kD,jE,qE,yE,zE,fE,gE,nE,rE,mE,lE,oE,pE,vE,sE,tE,uE,aE,bE,cE,dE,eE,hE,iE,kE,jF,qF,yF,zF,fF,gF,nF,rF,mF,lF,oF,pF,vF,sF,tF,uF,aF,bF,cF,dF,eF,hF,iF,kF,jG,qG,yG,zG,fG,gG,nG,rG,mG,lG,oG,vG,sG,tG,uG,aG,bG,cG,dG,eG,hG,iG,kG,jH,qH,yH,zH,fH,gH,nH,rH,mH,lH,oH,pH,vH,sH,tH,uH,aH,bH,cH,dH,eH,iH,kH,jI,qI,yI,zI,fI,gI,nI,rI,mI,lI,oI,pI,sI,tI,uI,aI,bI,cI,dI,eI,hI,iI,jJ,qJ,yJ,zJ,fJ,gJ,nJ,rJ,mJ,lJ,oJ,pJ,vJ,sJ,tJ,uJ,aJ,bJ,cJ,dJ,eJ,hJ,iJ,kJ,jK,qK,yK,zK,fK,gK,nK,rK,mK,lK,oK,pK,vK,sK,tK,uK,aK,bK,cK,dK],[]⟩ wc:=by
  have HPP:=hide hP;have HL:=hide hl;have HX4:=hide hx4;have HB:=hide hb;clear hP hl hx4 hb;conv=>pattern (seqL _);whnf
  conv=>pattern (seqR _);whnf
  refine wp_open (fun K0 hK0=>?_);dsimp only;have hz0:Box wc q4 36 #[vI kI 0,vI kI 0,vI kI 0,vI kI 0,vI kI 0,vI kI 0,vS none 0 0,vS none 0 0,vB false,vB false,vB false,vT ⟨#[]⟩]:=HX4.out;have hpl:=plain45_any (want:=2) HL.out hlc (by omega) (fun s h=>by have:=hs s h;omega);obtain⟨qb,hqb⟩:∃ q,((numsV r).2 && decide (((numsV r).1.length:Int)=2))=q:=⟨_,rfl⟩;rw[hqb]at hpl;have HPl:=hide hpl;have HQ:=hide hqb;clear hpl hqb;go_wp2_with fail;refine HPl.out.mono ?_;rintro en w3 ⟨v3,rfl,hO3,hb3⟩;try dsimp only
  have HX4z:=hide (HX4.out.kept hb3);have HB4z:Hid (Below w0.heap.size w0 w3):=HB.out.trans (hb3.mono HB.out.size);have HL3:=hide (ListIn.below HL.out hb3);have HO3:=hide hO3;clear hO3 hb3 HPl HX4 HL;cases qb with
  |false=>
   have hn:someV PP CC x r=none:=by have hq:=HQ.out;rw[hx.out PP CC r];refine twoV_none fun h=>?_;rw[h.1]at hq;have:decide (((numsV r).1.length:Int)=2)=true:=decide_eq_true (by omega);rw[this]at hq;cases hq
   have HN:=hide hn;clear hn;obtain⟨wz,hsz,hxz,hgz⟩:=box_store (cs':=#[vI kI 0,vI kI 0,vI kI 0,vI kI 0,vI kI 0,vI kI 0,vS none 0 0,vS none 0 0,vB false,vB false,vB false,vT ⟨#[]⟩]) aggOp HX4z.out rfl rfl (Opn.one zeroO none 0 none 0);have HBz:=hide (below_growB HB4z.out hgz hq4);have HXz:=hide hxz;have HSz:=hide hsz;clear hxz hgz hsz;go_wp2_with ((with_reducible refine dS wz ?_ ?_ ?_);rfl;exact does_store rfl rfl rfl HSz.out);refine bodyPost_ret (v:=.tuple #[.agg #[vI kI 0,vI kI 0,vI kI 0,vI kI 0,vI kI 0,vI kI 0,vS none 0 0,vS none 0 0,vB false,vB false,vB false,vT ⟨#[]⟩],vB false]) (by refine results_ct (p:=4) (q:=5) ?_ ?_ (box_load aggOp HXz.out rfl) <;> rfl) rfl ?_;exact HPP.out _ _ _ ⟨by rw[HN.out];rfl,fun p hp=>(by rw[HN.out]at hp;cases hp),HBz.out,_,rfl,rfl,rfl⟩
  |true=>
   obtain⟨hq1,hq2⟩:=Bool.and_eq_true_iff.1 HQ.out;have hq2:=of_decide_eq_true hq2;obtain⟨na,nb,hab⟩:=len_two (ns:=(numsV r).1) (by omega);have hv:someV PP CC x r=some { zeroO with kind:=kd,scan:=na,n:=nb }:=by rw[hx.out PP CC r];exact twoV_some hq1 hab
   obtain⟨A3,c3,rfl,hc3,hl3,_⟩:=HO3.out.form;rw[hab]at hl3;obtain⟨nk,noff,rfl,hnk,n0⟩:=hl3.at_ (k:=0) (by simp);obtain⟨nk',noff',e,_,n1⟩:=hl3.at_ (k:=1) (by simp);cases e;simp[iv]at n0 n1;have hnk:=hnk.1;have hlen:(numsV r).1.length=2:=by rw[hab];rfl
   rw[hlen]at hc3 ⊢;have hx4l:=HX4z.out.lt;go_upto_region 22 with fail;refine wp_region_held_drew (S:=fun v=>Below w3.heap.size w3 v) (by kernel_rfl) (below_drew (bR _ _) 1) (fun hH=>?_);refine wT 0 ?xv0 ?xy0 hH ?xr0;case xy0=>intro v hv;go_simp;rfl
   try simp only[aP,aS,aZ,aU]
   refine wT 1 ?xv1 ?xy1 hH ?xr1;case xy1=>intro v hv;go_simp;rfl
   try simp only[aP,aS,aZ,aU]
   refine wT 2 ?xv2 ?xy2 hH ?xr2;case xy2=>intro v hv;have q0:=(cB (hv.block _ hnk)).trans n0;have q1:=(cB (hv.block _ hnk)).trans n1;have q2:=lL hnk hv.size;go_simp;rfl
   try simp only[aP,aS,aZ,aU]
   refine wT 3 ?xv3 ?xy3 hH ?xr3;case xy3=>intro v hv;go_simp;rfl
   try simp only[aP,aS,aZ,aU]
   refine wT 4 ?xv4 ?xy4 hH ?xr4;case xy4=>intro v hv;go_simp;rfl
   try simp only[aP,aS,aZ,aU]
   refine wT 5 ?xv5 ?xy5 hH ?xr5;case xy5=>intro v hv;have q0:=(cB (hv.block _ hnk)).trans n0;have q1:=(cB (hv.block _ hnk)).trans n1;have q2:=lL hnk hv.size;go_simp;rfl
   try simp only[aP,aS,aZ,aU]
   refine wT 6 ?xv6 ?xy6 hH ?xr6;case xy6=>intro v hv;go_simp;rfl
   try simp only[aP,aS,aZ,aU]
   refine wR 7 fun K hK=>?_;go_simp;obtain⟨v1,hwv1⟩:∃ r,World.alloc (w3.drewN 1) (.cells #[vI kI 0,vI kI 0,vI kI 0,vI kI 0,vI kI 0,vI kI 0,vS none 0 0,vS none 0 0,vB false,vB false,vB false,vT ⟨#[]⟩] 36)=r:=⟨_,rfl⟩;first|rw[hwv1]|(change K _ (World.alloc (w3.drewN 1) (.cells #[vI kI 0,vI kI 0,vI kI 0,vI kI 0,vI kI 0,vI kI 0,vS none 0 0,vS none 0 0,vB false,vB false,vB false,vT ⟨#[]⟩] 36));rw[hwv1])|skip
   have hN:Below w3.heap.size w3 v1:=by rw[← hwv1];exact(below_drew (bR _ _) 1).alloc (lR _) _
   have hbx1:Box v1 w3.heap.size 36 #[vI kI 0,vI kI 0,vI kI 0,vI kI 0,vI kI 0,vI kI 0,vS none 0 0,vS none 0 0,vB false,vB false,vB false,vT ⟨#[]⟩]:=by rw[← hwv1];exact Box.new _ _ _
   have HBv1:=hide hN;refine hK.out _ _ hN fun hZ=>?_;clear hK hH hN K;have hH:=hZ;clear hZ;try simp only[aP,aS,aZ,aU]
   refine wR 8 fun K hK=>?_;obtain⟨v3,hs3,hx3,hg3⟩:=box_store (cs':=#[vI kI 3,vI kI 0,vI kI 0,vI kI na,vI kI nb,vI kI 0,vS none 0 0,vS none 0 0,vB false,vB false,vB false,vT ⟨#[]⟩]) aggOp hbx1 rfl rfl (Opn.one ({ zeroO with kind:=3,scan:=na,n:=nb }) none 0 none 0);have HB3:=hide (below_grow HBv1.out hg3 (lR _));have HS3:=hide hs3;have HX3:=hide hx3;clear hx3 hg3 hs3;refine step_does rfl (does_store rfl rfl rfl HS3.out) ?_;have hN:=HB3.out;refine hK.out _ _ hN fun hZ=>?_;clear hK hH hN K;have hH:=hZ;clear hZ;try simp only[aP,aS,aZ,aU]
   refine wpAnyH_done (by kernel_rfl) ?_ _;have HBw:Hid (Below w3.heap.size w3 v3):=HB3.out;have hl0:=ListIn.below HL3.out HBw.out;obtain⟨lb',lo',e,hlb,hlx⟩:=hl0.at_ (k:=0) (by simp);cases e;have hlx:v3.cell? ⟨lb,lo,none⟩=some (vT x):=hlx;have hlb:lb < v3.heap.size:=hlb;have HX4y:=hide (HX4z.out.kept HBw.out);have HB4y:Hid (Below w0.heap.size w0 v3):=HB4z.out.trans (HBw.out.mono HB4z.out.size);clear hl0 n0 n1;have hne:w3.heap.size≠q4:=by omega
   rcases hk with ⟨hx1,rfl⟩|⟨hx1,rfl⟩
   ·have hw:(x.toList==[102,117,115,101])=false:=by rw[hx1];rfl
    obtain⟨wz,hsz,hxz,hgz⟩:=box_store (cs':=#[vI kI 3,vI kI 0,vI kI 0,vI kI na,vI kI nb,vI kI 0,vS none 0 0,vS none 0 0,vB false,vB false,vB false,vT ⟨#[]⟩]) aggOp HX4y.out rfl rfl (Opn.one ({ zeroO with kind:=3,scan:=na,n:=nb }) none 0 none 0);have HBz:=hide (below_growB HB4y.out hgz hq4);have HXz:=hide hxz;have HSz:=hide hsz;have HLd:=hide (box_load aggOp HX3.out rfl);clear hxz hgz hsz;go_wp2_with (first|((with_reducible refine gV 119 (.agg #[vI kI 3,vI kI 0,vI kI 0,vI kI na,vI kI nb,vI kI 0,vS none 0 0,vS none 0 0,vB false,vB false,vB false,vT ⟨#[]⟩]) v3 ?_ ?_ ?_);rfl;exact gives_load rfl rfl HLd.out)|((with_reducible refine dS wz ?_ ?_ ?_);rfl;exact does_store rfl rfl rfl HSz.out));refine bodyPost_ret (v:=.tuple #[.agg #[vI kI 3,vI kI 0,vI kI 0,vI kI na,vI kI nb,vI kI 0,vS none 0 0,vS none 0 0,vB false,vB false,vB false,vT ⟨#[]⟩],vB true]) (by refine results_ct (p:=4) (q:=5) ?_ ?_ (box_load aggOp HXz.out rfl) <;> rfl) rfl ?_;exact HPP.out _ _ _ ⟨by rw[hv];rfl,fun p hp=>(by rw[hv]at hp;injection hp with hp;subst hp;exact opv_nil (o:={ zeroO with kind:=3,scan:=na,n:=nb }) rfl rfl),HBz.out,_,rfl,rfl,rfl⟩
   ·have hw:(x.toList==[102,117,115,101])=true:=by rw[hx1];rfl
    have f0:v3.cell? ⟨w3.heap.size,0,none⟩=some (vI kI 3):=HX3.out.cell 0;have f1:=HX3.out.frozen 0;have f2:=HX3.out.lt;obtain⟨v5,hv5⟩:∃ q,v3.setCell ⟨w3.heap.size,0,none⟩ (vI kI 4)=q:=⟨_,rfl⟩;have hx5:Box v5 w3.heap.size 36 #[vI kI 4,vI kI 0,vI kI 0,vI kI na,vI kI nb,vI kI 0,vS none 0 0,vS none 0 0,vB false,vB false,vB false,vT ⟨#[]⟩]:=by rw[← hv5];exact HX3.out.set 0 (vI kI 4)
    have hx4y:Box v5 q4 36 (zeroO.cells none 0 none 0):=by rw[← hv5];exact HX4y.out.far (fun e=>hne e.symm) _
    have hb5:Below w0.heap.size w0 v5:=by rw[← hv5];exact HB4y.out.setCell HB4z.out.size _
    obtain⟨wz,hsz,hxz,hgz⟩:=box_store (cs':=#[vI kI 4,vI kI 0,vI kI 0,vI kI na,vI kI nb,vI kI 0,vS none 0 0,vS none 0 0,vB false,vB false,vB false,vT ⟨#[]⟩]) aggOp hx4y rfl rfl (Opn.one ({ zeroO with kind:=4,scan:=na,n:=nb }) none 0 none 0);have HBz:=hide (below_growB hb5 hgz hq4);have HXz:=hide hxz;have HSz:=hide hsz;have HLd:=hide (box_load aggOp hx5 rfl);have HV5:=hide hv5;clear hxz hgz hsz hx5 hx4y hb5 hv5;go_upto_region 25 with fail;try rw[HV5.out]
    go_wp2_with (first|((with_reducible refine gV 119 (.agg #[vI kI 4,vI kI 0,vI kI 0,vI kI na,vI kI nb,vI kI 0,vS none 0 0,vS none 0 0,vB false,vB false,vB false,vT ⟨#[]⟩]) v5 ?_ ?_ ?_);rfl;exact gives_load rfl rfl HLd.out)|((with_reducible refine dS wz ?_ ?_ ?_);rfl;exact does_store rfl rfl rfl HSz.out));refine bodyPost_ret (v:=.tuple #[.agg #[vI kI 4,vI kI 0,vI kI 0,vI kI na,vI kI nb,vI kI 0,vS none 0 0,vS none 0 0,vB false,vB false,vB false,vT ⟨#[]⟩],vB true]) (by refine results_ct (p:=4) (q:=5) ?_ ?_ (box_load aggOp HXz.out rfl) <;> rfl) rfl ?_;exact HPP.out _ _ _ ⟨by rw[hv];rfl,fun p hp=>(by rw[hv]at hp;injection hp with hp;subst hp;exact opv_nil (o:={ zeroO with kind:=4,scan:=na,n:=nb }) rfl rfl),HBz.out,_,rfl,rfl,rfl⟩
end
end Go.Proofs.YtnndaemmgbkjbaaGreatDoor
