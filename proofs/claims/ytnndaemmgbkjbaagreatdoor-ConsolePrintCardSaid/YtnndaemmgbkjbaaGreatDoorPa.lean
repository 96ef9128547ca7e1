/-
  parts of the proof: Shrt.
-/
import Derived.Test.YtnndaemmgbkjbaaGreatDoorPS
import Derived.Test.YtnndaemmgbkjbaaGreatDoorPI
namespace Go.Proofs.YtnndaemmgbkjbaaGreatDoor
open Go.RowKit
open Go.Act renaming put → aP
open List renaming setIfInBounds_toArray → aS, set_cons_zero → aZ, set_cons_succ → aU
open Nat renaming le_refl → lR
open Go.RowKit.Below renaming refl → bR
open _root_.Go.Proofs.Tryz renaming prog → pG
open Go.Value renaming int → vI, slice → vS, string → vT, bool → vB
open Go.IntKind renaming i64 → kI
set_option linter.unusedVariables false
set_option linter.unusedSimpArgs false
section
def shortO (o:Opn):Opn:={ o with marks:=o.marks.take 40,keep:=o.keep.take 210,text:=o.text.extract 0 (min o.text.size 210) }
def ShortTo (F:Nat→Prop) (o:Opn) (w:World) (en:Ending) (w':World):Prop:=∃ v,en=.returned v∧OpV F w' v (shortO o)∧Below w.heap.size w w'
theorem sh_boxes {w:World}{ocs:Array Value}:∃ w1,(w.alloc (.cells ocs 36)).alloc (.cells (zeroO.cells none 0 none 0) 36)=w1∧Below w.heap.size w w1∧Box w1 w.heap.size 36 ocs∧Box w1 (w.heap.size+1) 36 (zeroO.cells none 0 none 0):=by
 refine⟨_,rfl,((bR _ _).alloc (lR _) _).alloc (by simp) _,(Box.new _ _ _).alloc _,?_⟩;have:=Box.new (w.alloc (.cells ocs 36)) 36 (zeroO.cells none 0 none 0);rwa [World.size_alloc]at this
set_option maxHeartbeats 16000000
set_option maxRecDepth 1000000
theorem short_any {F:Nat→Prop}{o:Opn}{v:Value}{w:World}(hO:OpV F w v o) (hF:∀ i,F i→i < w.heap.size) (ht:o.text.size≤big) (hm:o.marks.length≤big) (hk:o.keep.length≤big) :
  Calls pG 11 #[v] w (ShortTo F o w):=by
 obtain⟨kind,prec,cont,scan,n,lie,marks,keep,lose,deaf,twice,text⟩:=o;obtain⟨A,c,D,d,rfl,hA,hc,hD,hd⟩:=hO;simp only[]at hA hc hD hd ht hm hk;obtain⟨w2,hw2,hb2,hx2,hy2⟩:=sh_boxes (w:=w) (ocs:=Opn.cells ⟨kind,prec,cont,scan,n,lie,marks,keep,lose,deaf,twice,text⟩ A c D d);unfold Opn.cells at hx2 hw2;simp only[]at hx2 hw2;obtain⟨m1,hm1⟩:∃ k,min marks.length 40=k:=⟨_,rfl⟩;obtain⟨k1,hk1⟩:∃ k,min keep.length 210=k:=⟨_,rfl⟩;obtain⟨t1,ht1⟩:∃ k,min text.size 210=k:=⟨_,rfl⟩;have HF:Hid (ListIn iv F w A (marks.take 40)∧(marks.take 40).length=m1∧m1≤c∧ListIn Value.bool F w D (keep.take 210)∧(keep.take 210).length=k1∧k1≤d):=⟨ListIn.take hA 40,by rw[List.length_take];omega,by omega,ListIn.take hD 210,by rw[List.length_take];omega,by omega⟩;have HT1:=hide ht1;have HFb:=hide hF;clear hF;obtain⟨ml,hml⟩:∃ k,marks.length=k:=⟨_,rfl⟩;obtain⟨kl,hkl⟩:∃ k,keep.length=k:=⟨_,rfl⟩;rw[hml]at hc hx2 hm1 hw2 hm;rw[hkl]at hd hx2 hk1 hw2 hk;show Calls _ _ #[.agg #[vI kI kind,vI kI prec,vI kI cont,vI kI scan,vI kI n,vI kI lie,vS A marks.length c,vS D keep.length d,.bool lose,.bool deaf,.bool twice,vT text]] w (ShortTo _ _ w);rw[hml,hkl];have i1:min (ml:Int) 40=(m1:Int):=by omega
 have i2:min (kl:Int) 210=(k1:Int):=by omega
 have i3:min (text.size:Int) 210=(t1:Int):=by omega
 have j1:(0:Int)≤(m1:Int):=by omega
 have j2:(m1:Int)≤(c:Int):=by omega
 have j3:(0:Int)≤(k1:Int):=by omega
 have j4:(k1:Int)≤(d:Int):=by omega
 have j5:(0:Int)≤(t1:Int):=by omega
 have j6:(t1:Int)≤(text.size:Int):=by omega
 have l1:(ml:Int)≤9223372036854775807:=by unfold big at hm;omega
 have l2:(kl:Int)≤9223372036854775807:=by unfold big at hk;omega
 have l3:(text.size:Int)≤9223372036854775807:=by unfold big at ht;omega
 obtain⟨tx,htx⟩:∃ q,text.extract 0 t1=q:=⟨_,rfl⟩;have HTx:=hide htx;have HX2:=hide hx2;have HY2:=hide hy2;have HB2:=hide hb2;have HW2:=hide hw2;have HS0:Hid (w2.cell? ⟨w.heap.size,6,none⟩=some (vS A ml c)∧w2.cell? ⟨w.heap.size,7,none⟩=some (vS D kl d)∧w2.cell? ⟨w.heap.size,11,none⟩=some (vT text)):=⟨hx2.cell 6,hx2.cell 7,hx2.cell 11⟩;clear hA hc hD hd ht hm hk hw2 hb2 hx2 hy2 hm1 hk1 ht1 hml hkl;go_enter Tryz.func11,Tryz.ntmps11;go_upto_region 1 with (fail);rw[show (w.alloc (.cells #[vI kI kind,vI kI prec,vI kI cont,vI kI scan,vI kI n,vI kI lie,vS A ml c,vS D kl d,.bool lose,.bool deaf,.bool twice,vT text] 36)).alloc (.cells #[vI kI 0,vI kI 0,vI kI 0,vI kI 0,vI kI 0,vI kI 0,vS none 0 0,vS none 0 0,vB false,vB false,vB false,vT ⟨#[]⟩] 36)=w2 from HW2.out];refine region_to 22 (fun v=>v.cell? ⟨w.heap.size,6,none⟩=some (vS A ml c)∧v.cell? ⟨w.heap.size,7,none⟩=some (vS D kl d)∧v.cell? ⟨w.heap.size,11,none⟩=some (vT text)) (by kernel_rfl) (fun hC=>?_);have hH:=(HS0.out:(w2.drewN 1).cell? ⟨w.heap.size,6,none⟩=some (vS A ml c)∧(w2.drewN 1).cell? ⟨w.heap.size,7,none⟩=some (vS D kl d)∧(w2.drewN 1).cell? ⟨w.heap.size,11,none⟩=some (vT text));refine wA 0 ?x0v hC ?x0y (fun _=>hH) (fun hC'=>?x0r);case x0y=>intro v hv;go_simp;rfl
 clear hC;have hC:=hC';clear hC';try simp only[aP,aS,aZ,aU]
 refine wL 1 ?x1v [1] hC ?x1y hH (fun hC'=>?x1r);case x1y=>intro v hv;have q0:=hv.1;go_simp;rfl
 clear hC;have hC:=hC';clear hC';try simp only[aP,aS,aZ,aU]
 refine wA 2 ?x2v hC ?x2y (fun _=>hH) (fun hC'=>?x2r);case x2y=>intro v hv;go_simp;rfl
 clear hC;have hC:=hC';clear hC';try simp only[aP,aS,aZ,aU]
 refine wL 3 ?x3v [3] hC ?x3y hH (fun hC'=>?x3r);case x3y=>intro v hv;have q0:=hv.1;go_simp;rfl
 clear hC;have hC:=hC';clear hC';try simp only[aP,aS,aZ,aU]
 refine wA 4 ?x4v hC ?x4y (fun _=>hH) (fun hC'=>?x4r);case x4y=>intro v hv;go_simp;rfl
 clear hC;have hC:=hC';clear hC';try simp only[aP,aS,aZ,aU]
 refine wA 5 ?x5v hC ?x5y (fun _=>hH) (fun hC'=>?x5r);case x5y=>intro v hv;go_simp;rfl
 clear hC;have hC:=hC';clear hC';try simp only[aP,aS,aZ,aU]
 refine wA 6 ?x6v hC ?x6y (fun _=>hH) (fun hC'=>?x6r);case x6y=>intro v hv;go_simp;rfl
 clear hC;have hC:=hC';clear hC';try simp only[aP,aS,aZ,aU]
 refine wA 7 ?x7v hC ?x7y (fun _=>hH) (fun hC'=>?x7r);case x7y=>intro v hv;go_simp;rfl
 clear hC;have hC:=hC';clear hC';try simp only[aP,aS,aZ,aU]
 refine wL 8 ?x8v [8] hC ?x8y hH (fun hC'=>?x8r);case x8y=>intro v hv;have q0:=hv.2.1;go_simp;rfl
 clear hC;have hC:=hC';clear hC';try simp only[aP,aS,aZ,aU]
 refine wA 9 ?x9v hC ?x9y (fun _=>hH) (fun hC'=>?x9r);case x9y=>intro v hv;go_simp;rfl
 clear hC;have hC:=hC';clear hC';try simp only[aP,aS,aZ,aU]
 refine wL 10 ?x10v [10] hC ?x10y hH (fun hC'=>?x10r);case x10y=>intro v hv;have q0:=hv.2.1;go_simp;rfl
 clear hC;have hC:=hC';clear hC';try simp only[aP,aS,aZ,aU]
 refine wA 11 ?x11v hC ?x11y (fun _=>hH) (fun hC'=>?x11r);case x11y=>intro v hv;go_simp;rfl
 clear hC;have hC:=hC';clear hC';try simp only[aP,aS,aZ,aU]
 refine wA 12 ?x12v hC ?x12y (fun _=>hH) (fun hC'=>?x12r);case x12y=>intro v hv;go_simp;rfl
 clear hC;have hC:=hC';clear hC';try simp only[aP,aS,aZ,aU]
 refine wA 13 ?x13v hC ?x13y (fun _=>hH) (fun hC'=>?x13r);case x13y=>intro v hv;go_simp;rfl
 clear hC;have hC:=hC';clear hC';try simp only[aP,aS,aZ,aU]
 refine wA 14 ?x14v hC ?x14y (fun _=>hH) (fun hC'=>?x14r);case x14y=>intro v hv;go_simp;rfl
 clear hC;have hC:=hC';clear hC';try simp only[aP,aS,aZ,aU]
 refine wL 15 ?x15v [15] hC ?x15y hH (fun hC'=>?x15r);case x15y=>intro v hv;have q0:=hv.2.2;go_simp;rfl
 clear hC;have hC:=hC';clear hC';try simp only[aP,aS,aZ,aU]
 refine wA 16 ?x16v hC ?x16y (fun _=>hH) (fun hC'=>?x16r);case x16y=>intro v hv;go_simp;rfl
 clear hC;have hC:=hC';clear hC';try simp only[aP,aS,aZ,aU]
 refine wL 17 ?x17v [17] hC ?x17y hH (fun hC'=>?x17r);case x17y=>intro v hv;have q0:=hv.2.2;go_simp;rfl
 clear hC;have hC:=hC';clear hC';try simp only[aP,aS,aZ,aU]
 refine wA 18 ?x18v hC ?x18y (fun _=>hH) (fun hC'=>?x18r);case x18y=>intro v hv;go_simp;rfl
 clear hC;have hC:=hC';clear hC';try simp only[aP,aS,aZ,aU]
 refine wA 19 ?x19v hC ?x19y (fun _=>hH) (fun hC'=>?x19r);case x19y=>intro v hv;go_simp;rfl
 clear hC;have hC:=hC';clear hC';try simp only[aP,aS,aZ,aU]
 refine wA 20 ?x20v hC ?x20y (fun _=>hH) (fun hC'=>?x20r);case x20y=>intro v hv;go_simp;rfl
 clear hC;have hC:=hC';clear hC';try simp only[aP,aS,aZ,aU]
 refine wA 21 ?x21v hC ?x21y (fun _=>hH) (fun hC'=>?x21r);case x21y=>intro v hv;go_simp;rfl
 clear hC;have hC:=hC';clear hC';try simp only[aP,aS,aZ,aU]
 refine wB 22 hC fun K hK=>?_;go_simp;have g0:(w2.drewN 1).cell? ⟨w.heap.size,6,none⟩=some (vS A ml c):=HX2.out.cell 6;have g1:(w2.drewN 1).frozen? ⟨w.heap.size,6,none⟩=false:=HX2.out.frozen 6;have g2:=HX2.out.lt;have g3:w2.cell? ⟨w.heap.size,6,none⟩=some (vS A ml c):=HX2.out.cell 6;have g4:=HX2.out.frozen 6;go_simp;obtain⟨v1,hv1⟩:∃ q,(w2.setCell ⟨w.heap.size,6,none⟩ (vS A m1 c)).drew=q:=⟨_,rfl⟩;first|rw[hv1]|(change K _ ((w2.setCell ⟨w.heap.size,6,none⟩ (vS A m1 c)).drew);rw[hv1])|skip
 have hx:Box v1 w.heap.size 36 #[vI kI kind,vI kI prec,vI kI cont,vI kI scan,vI kI n,vI kI lie,vS A m1 c,vS D kl d,.bool lose,.bool deaf,.bool twice,vT text]:=by rw[← hv1];exact(HX2.out.set 6 _).drew
 have hB:Below w.heap.size w v1:=by rw[← hv1];exact(HB2.out.setCell (lR _) _).drew
 have HV1:=hide hx;have HY1:Hid (Box v1 (w.heap.size+1) 36 (zeroO.cells none 0 none 0)):=by rw[← hv1];exact(HY2.out.far (p:=⟨w.heap.size,6,none⟩) (by show w.heap.size+1≠w.heap.size;omega) _).drew
 have HBv1:=hide hB;clear g0 g1 g2 g3 g4 hv1 hx hB;refine hK.out _ _ (fun h=>by have h2:true=false:=h;cases h2) (fun hC'=>?_);clear hK hC K;have hC:=hC';clear hC';try simp only[aP,aS,aZ,aU]
 refine wA 23 ?xs23v hC ?xs23y (fun h=>by have h2:true=false:=h;cases h2) (fun hC'=>?xs23r);case xs23y=>intro v hv;go_simp;rfl
 clear hC;have hC:=hC';clear hC';try simp only[aP,aS,aZ,aU]
 refine wB 24 hC fun K hK=>?_;go_simp;have g0:v1.cell? ⟨w.heap.size,7,none⟩=some (vS D kl d):=HV1.out.cell 7;have g1:=HV1.out.frozen 7;have g2:=HV1.out.lt;go_simp;obtain⟨v2,hv2⟩:∃ q,v1.setCell ⟨w.heap.size,7,none⟩ (vS D k1 d)=q:=⟨_,rfl⟩;first|rw[hv2]|(change K _ (v1.setCell ⟨w.heap.size,7,none⟩ (vS D k1 d));rw[hv2])|skip
 have hx:Box v2 w.heap.size 36 #[vI kI kind,vI kI prec,vI kI cont,vI kI scan,vI kI n,vI kI lie,vS A m1 c,vS D k1 d,.bool lose,.bool deaf,.bool twice,vT text]:=by rw[← hv2];exact HV1.out.set 7 _
 have hB:Below w.heap.size w v2:=by rw[← hv2];exact HBv1.out.setCell (lR _) _
 have HV2:=hide hx;have HYb:Hid (Box v2 (w.heap.size+1) 36 (zeroO.cells none 0 none 0)):=by rw[← hv2];exact HY1.out.far (p:=⟨w.heap.size,7,none⟩) (by show w.heap.size+1≠w.heap.size;omega) _
 have HBv2:=hide hB;clear g0 g1 g2 hv2 hx hB;refine hK.out _ _ (fun h=>by have h2:true=false:=h;cases h2) (fun hC'=>?_);clear hK hC K;have hC:=hC';clear hC';try simp only[aP,aS,aZ,aU]
 refine wA 25 ?xss25v hC ?xss25y (fun h=>by have h2:true=false:=h;cases h2) (fun hC'=>?xss25r);case xss25y=>intro v hv;go_simp;rfl
 clear hC;have hC:=hC';clear hC';try simp only[aP,aS,aZ,aU]
 refine wB 26 hC fun K hK=>?_;go_simp;have g0:v2.cell? ⟨w.heap.size,11,none⟩=some (vT text):=HV2.out.cell 11;have g1:=HV2.out.frozen 11;have g2:=HV2.out.lt;go_simp;obtain⟨v3,hv3⟩:∃ q,v2.setCell ⟨w.heap.size,11,none⟩ (vT tx)=q:=⟨_,rfl⟩;first|rw[hv3]|(change K _ (v2.setCell ⟨w.heap.size,11,none⟩ (vT tx));rw[hv3])|skip
 have hx:Box v3 w.heap.size 36 #[vI kI kind,vI kI prec,vI kI cont,vI kI scan,vI kI n,vI kI lie,vS A m1 c,vS D k1 d,.bool lose,.bool deaf,.bool twice,vT tx]:=by rw[← hv3];exact HV2.out.set 11 _
 have hB:Below w.heap.size w v3:=by rw[← hv3];exact HBv2.out.setCell (lR _) _
 have HV3:=hide hx;have HY3:Hid (Box v3 (w.heap.size+1) 36 (zeroO.cells none 0 none 0)):=by rw[← hv3];exact HYb.out.far (p:=⟨w.heap.size,11,none⟩) (by show w.heap.size+1≠w.heap.size;omega) _
 have HBv3:=hide hB;clear g0 g1 g2 hv3 hx hB;refine hK.out _ _ (fun h=>by have h2:true=false:=h;cases h2) (fun hC'=>?_);clear hK hC K;have hC:=hC';clear hC';try simp only[aP,aS,aZ,aU]
 refine AnyTo.done (by kernel_rfl) ?_ _;clear hC;obtain⟨wz,hsz,hxz,hgz⟩:=box_store (cs':=#[vI kI kind,vI kI prec,vI kI cont,vI kI scan,vI kI n,vI kI lie,vS A m1 c,vS D k1 d,.bool lose,.bool deaf,.bool twice,vT tx]) aggOp HY3.out rfl rfl (Opn.one ⟨kind,prec,cont,scan,n,lie,(marks.take 40),(keep.take 210),lose,deaf,twice,tx⟩ A c D d |> (fun h=>by rw[show Opn.cells ⟨kind,prec,cont,scan,n,lie,(marks.take 40),(keep.take 210),lose,deaf,twice,tx⟩ A c D d=#[vI kI kind,vI kI prec,vI kI cont,vI kI scan,vI kI n,vI kI lie,vS A m1 c,vS D k1 d,.bool lose,.bool deaf,.bool twice,vT tx] from by unfold Opn.cells;simp only[];rw[HF.out.2.1,HF.out.2.2.2.2.1]]at h;exact h));have HLd:=hide (box_load aggOp HV3.out rfl);have HXz:=hide hxz;have HSz:=hide hsz;have HBz:=hide (below_growB HBv3.out hgz (by omega));clear hxz hsz hgz;go_wp2_with (first|((with_reducible refine gV 27 (.agg #[vI kI kind,vI kI prec,vI kI cont,vI kI scan,vI kI n,vI kI lie,vS A m1 c,vS D k1 d,.bool lose,.bool deaf,.bool twice,vT tx]) v3 ?_ ?_ ?_);rfl;exact gives_load rfl rfl HLd.out)|((with_reducible refine dS wz ?_ ?_ ?_);rfl;exact does_store rfl rfl rfl HSz.out));refine bodyPost_ret (v:=.agg #[vI kI kind,vI kI prec,vI kI cont,vI kI scan,vI kI n,vI kI lie,vS A m1 c,vS D k1 d,.bool lose,.bool deaf,.bool twice,vT tx]) (by refine results_cell (p:=2) ?_ ?_ (box_load aggOp HXz.out rfl) <;> rfl) rfl ?_;refine⟨_,rfl,?_,HBz.out⟩;obtain⟨f1,f2,f3,f4,f5,f6⟩:=HF.out;have e:shortO ⟨kind,prec,cont,scan,n,lie,marks,keep,lose,deaf,twice,text⟩=⟨kind,prec,cont,scan,n,lie,marks.take 40,keep.take 210,lose,deaf,twice,tx⟩:=by unfold shortO;simp only[];rw[HT1.out,HTx.out]
 rw[e];refine⟨A,c,D,d,?_,f1.agree (Agree.of_below HBz.out HFb.out),by simp only[];omega,f4.agree (Agree.of_below HBz.out HFb.out),by simp only[];omega⟩;unfold Opn.cells;simp only[];rw[f2,f5]
end
end Go.Proofs.YtnndaemmgbkjbaaGreatDoor
