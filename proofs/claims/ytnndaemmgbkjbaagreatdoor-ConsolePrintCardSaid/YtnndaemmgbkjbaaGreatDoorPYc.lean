/-
  parts of the proof: Prt.
-/
import Derived.Test.YtnndaemmgbkjbaaGreatDoorPWb
import Derived.Test.YtnndaemmgbkjbaaGreatDoorPYb
import Derived.Test.YtnndaemmgbkjbaaGreatDoorPW
namespace Go.Proofs.YtnndaemmgbkjbaaGreatDoor
open Go.RowKit
open Nat renaming le_refl → lR
open Go.RowKit.Below renaming refl → bR
open _root_.Go.Proofs.Tryz renaming prog → pG
open Go.Value renaming int → vI, slice → vS, string → vT, bool → vB
open Go.IntKind renaming i64 → kI
set_option linter.unusedVariables false
set_option linter.unusedSimpArgs false
section
theorem joinN_any {B:Nat}{A:Option Addr}{n c:Nat}{ws:List ByteArray}{w:World}(h:OwnE Value.string 9 B w (vS A n c) ws) (hl:ws.length≤1000000) (hs:(joinS ws).size≤100000000) :
  Calls pG 29 #[vS A n c,vT ⟨#[32]⟩] w fun e w'=>e=.returned (vT (joinS ws))∧Below w.heap.size w w':=by
 by_cases h0:0 < ws.length
 ·exact join_any h h0 hl hs
 ·obtain rfl:ws=[]:=List.length_eq_zero_iff.1 (by omega);obtain⟨A',c',e,hc,hL,_⟩:=h.form;injection e with e1 e2 e3;subst e1 e2 e3;refine(Tryz.strings_Join_none A c ⟨#[32]⟩ w).mono ?_;rintro en w' ⟨rfl,rfl⟩;exact⟨rfl,bR _ _⟩
set_option maxHeartbeats 8000000
set_option maxRecDepth 100000
theorem prt_any {ecs ocs:Array Value}{P C:List ByteArray}{o:Opn}{ws:List ByteArray}{w:World}(hes:ecs.size=14) (hos:ocs.size=12) (hO:OpV (All w) w (.agg ocs) o) (hm:o.marks.length≤1000000) (hk:o.keep.length≤1000000) (hl:ws.length≤1000000) (hsz:(joinS ws).size≤100000000)
  (hW:∀ wq,Below w.heap.size w wq→Calls pG 30 #[.agg ecs,.agg ocs] wq fun en w'=>∃ v,en=.returned v∧OwnE Value.string 9 wq.heap.size w' v ws∧Below wq.heap.size wq w')
  (hP:∀ wq,Below w.heap.size w wq→Calls pG 8 #[.agg ecs,vT (joinS ws)] wq (SomeTo wq (parseV P C (joinS ws)))) :
  Calls pG 12 #[.agg ecs,.agg ocs] w (PrintTo P C ws o w):=by
 obtain⟨w1,hw1⟩:∃ q,(w.alloc (.cells ecs 30)).alloc (.cells ocs 36)=q:=⟨_,rfl⟩;have hb1:Below w.heap.size w w1:=by rw[← hw1];exact((bR _ _).alloc (lR _) _).alloc (by simp) _
 have hXe:Box w1 w.heap.size 30 ecs:=by rw[← hw1];exact(Box.new _ _ _).alloc _
 have hXo:Box w1 (w.heap.size+1) 36 ocs:=by have:=Box.new (w.alloc (.cells ecs 30)) 36 ocs;rw[World.size_alloc,hw1]at this;exact this
 have HLe:=hide (fun (wq:World) (hq:Below w1.heap.size w1 wq)=>box_load aggE (hXe.kept hq) hes);have HLo:=hide (fun (wq:World) (hq:Below w1.heap.size w1 wq)=>box_load aggOp (hXo.kept hq) hos);have HW:=hide (hW w1 hb1);have HP:=hide (fun (wq:World) (hq:Below w1.heap.size w1 wq)=>hP wq (hb1.trans (hq.mono hb1.size)));have HO:=hide (fun (wq:World) (hq:Below w1.heap.size w1 wq)=>OpV.below hO (hb1.trans (hq.mono hb1.size)));have HB1:=hide hb1;have HW1:=hide hw1;have HM:=hide hm;have HK:=hide hk;have HJ:=hide (fun (B:Nat) (A:Option Addr) (n c:Nat) (wq:World) (h:OwnE Value.string 9 B wq (vS A n c) ws)=>joinN_any h hl hsz);obtain⟨line,hline⟩:∃ q,joinS ws=q:=⟨_,rfl⟩;obtain⟨O,hOO⟩:∃ O,parseV P C (joinS ws)=O:=⟨_,rfl⟩;have HLn:Hid (∀ p,O=some p→p.marks.length≤1000000∧p.keep.length≤1000000):=fun p hp=>by have hg:=(parse_back (hOO.trans hp)).1;exact⟨by have:=hg.ml;omega,by have:=hg.kl;omega⟩
 have HPS:Hid (∀ t q,((q=true↔O=some o)∧t=if q=true then line else ⟨#[]⟩)→PrintsTo P C ws o t q):=fun t q h=>by unfold PrintsTo;rw[hOO,hline];exact h
 rw[hOO]at HP;rw[hline]at HJ HP;clear hO hW hP hw1 hb1 hXe hXo hl hsz hm hk hline hOO;have HLe1:=hide (HLe.out w1 (bR _ _));have HLo1:=hide (HLo.out w1 (bR _ _));go_enter Tryz.func12,Tryz.ntmps12;go_upto_region 1 with (fail);rw[HW1.out];go_wp2_with (first|((with_reducible refine gV 9 (.agg ecs) w1 ?_ ?_ ?_);rfl;exact gives_load rfl rfl HLe1.out)|((with_reducible refine gV 10 (.agg ocs) w1 ?_ ?_ ?_);rfl;exact gives_load rfl rfl HLo1.out));refine HW.out.mono ?_;rintro en w2 ⟨v2,rfl,hO2,hb2⟩;obtain⟨A2,c2,rfl,hc2,_,_⟩:=hO2.form;have HJ2:=hide (HJ.out _ _ _ _ _ hO2);have HB2:=hide hb2;clear hO2 hb2;go_wp2_with fail;refine HJ2.out.mono ?_;rintro en w3 ⟨rfl,hb3⟩;have HB3:=hide (HB2.out.trans (hb3.mono HB2.out.size));have HLe3:=hide (HLe.out w3 HB3.out);have HP3:=hide (HP.out w3 HB3.out);clear hb3;go_wp2_with ((with_reducible refine gV 14 (.agg ecs) w3 ?_ ?_ ?_);rfl;exact gives_load rfl rfl HLe3.out);refine HP3.out.mono ?_;rintro en w4 ⟨v4,q,rfl,hq,hV4,hb4,hA4⟩;obtain⟨cs,rfl,hcs,hone⟩:=hA4.one;have hB4:Below w1.heap.size w1 w4:=HB3.out.trans (hb4.mono HB3.out.size);obtain⟨w6,hst,hX6,hg6⟩:=box_store aggOp (Box.new w4 36 (zeroO.cells none 0 none 0)) rfl hcs hone;have hb6:Below w4.heap.size w4 w6:=below_grow ((bR _ _).alloc (lR _) _) hg6 (lR _);have HSt:Hid ((storeVar 36 ⟨w4.heap.size,0,none⟩ (.agg cs)).run pG (w4.alloc (.cells #[vI kI 0,vI kI 0,vI kI 0,vI kI 0,vI kI 0,vI kI 0,vS none 0 0,vS none 0 0,vB false,vB false,vB false,vT ⟨#[]⟩] 36))=.ok () w6):=hst;have HB6:Hid (Below w1.heap.size w1 w6):=hB4.trans (hb6.mono hB4.size);have HLb:=hide (box_load aggOp hX6 hcs);have HLo6:=hide (HLo.out w6 HB6.out);have HO6:=hide (HO.out w6 HB6.out);have HV6:Hid (∀ p,O=some p→OpV (All w6) w6 (.agg cs) p):=fun p hp=>OpV.below ((hV4 p hp).mono fun i hi=>hi.2) hb6;have HQ:=hide hq;clear hst hX6 hg6 hb6 hB4 hV4 hb4 hA4 hq hcs hone;cases O with
 |none=>obtain rfl:q=false:=HQ.out;go_wp2_with ((with_reducible refine dS w6 ?_ ?_ ?_);rfl;exact does_store rfl rfl rfl HSt.out);go_ret2;exact⟨_,false,rfl,HPS.out _ _ ⟨⟨fun h=>(by cases h),fun h=>(by cases h)⟩,rfl⟩,HB1.out.trans (HB6.out.mono HB1.out.size)⟩
 |some p=>
  obtain rfl:q=true:=HQ.out;have HSm:=hide (same_any (HV6.out p rfl) HO6.out (HLn.out p rfl).1 HM.out (HLn.out p rfl).2 HK.out);go_wp2_with (first|((with_reducible refine dS w6 ?_ ?_ ?_);rfl;exact does_store rfl rfl rfl HSt.out)|((with_reducible refine wpList_gives_g (o:=⟨some 22,_,_,_,_,_⟩) (v:=.agg cs) (w':=w6) ?_ ?_ ?_);rfl;exact gives_load rfl rfl HLb.out)|((with_reducible refine wpList_gives_g (o:=⟨some 23,_,_,_,_,_⟩) (v:=.agg ocs) (w':=w6) ?_ ?_ ?_);rfl;exact gives_load rfl rfl HLo6.out));refine HSm.out.mono ?_;rintro en w7 ⟨q7,rfl,hq7,hb7⟩;have HBf:Hid (Below w.heap.size w w7):=HB1.out.trans ((HB6.out.trans (hb7.mono HB6.out.size)).mono HB1.out.size);have HQ7:=hide hq7;clear hb7 hq7;cases q7 with
  |false=>go_wp2_with fail;go_ret2;exact⟨_,false,rfl,HPS.out _ _ ⟨⟨fun h=>(by cases h),fun h=>(by injection h with h;exact absurd (HQ7.out.2 h) (by simp))⟩,rfl⟩,HBf.out⟩
  |true=>go_wp2_with fail;go_ret2;exact⟨_,true,rfl,HPS.out _ _ ⟨⟨fun _=>(by rw[HQ7.out.1 (by trivial)]),fun _=>rfl⟩,rfl⟩,HBf.out⟩
end
end Go.Proofs.YtnndaemmgbkjbaaGreatDoor
