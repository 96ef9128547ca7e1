/-
  parts of the proof: Counted WIssue Parse Name Writ Same Print Sample Err Awake.
-/
import Derived.Test.YtnndaemmgbkjbaaGreatDoorPD
import Derived.Test.YtnndaemmgbkjbaaGreatDoorPJ
namespace Go.Proofs.YtnndaemmgbkjbaaGreatDoor
open Go.RowKit
open Go.Act renaming put → aP
open List renaming setIfInBounds_toArray → aS, set_cons_zero → aZ, set_cons_succ → aU
open Nat renaming lt_of_lt_of_le → lL, le_trans → lT, le_refl → lR, zero_le → zL
open Go.RowKit.Below renaming refl → bR
open _root_.Go.Proofs.Tryz renaming prog → pG
open Go.Value renaming int → vI, slice → vS, string → vT, bool → vB, pointer → vP
open Go.IntKind renaming i64 → kI
set_option linter.unusedVariables false
set_option linter.unusedSimpArgs false
section
def isW (word:ByteArray) (l:List UInt8):Bool:=word.toList==l
def okTwo (q:List Int × Bool):Bool:=q.2 && decide (q.1.length=2)
def okOne (q:List Int × Bool):Bool:=q.2 && decide (q.1.length=1)
theorem below_grown {g:Nat}{w a b:World}(h:Below w.heap.size w a) (k:a.grownBy b (some g)) (hg:w.heap.size≤g):Below w.heap.size w b:=
 ⟨k.os.trans h.os,k.tape.trans h.tape,k.output.trans h.output,lT h.size k.size,fun i hi=>(k.block i (lL hi h.size) (fun e=>by have:=Option.some.inj e;omega)).trans (h.block i hi)⟩
theorem opv_nil {F:Nat→Prop}{w:World}{o:Opn}(hm:o.marks=[]) (hk:o.keep=[]):OpV F w (.agg (o.cells none 0 none 0)) o:=by
 refine⟨none,0,none,0,rfl,?_,?_,?_,?_⟩
 ·rw[hm];exact ListIn.nil _ _ _ _
 ·rw[hm];exact lR _
 ·rw[hk];exact ListIn.nil _ _ _ _
 ·rw[hk];exact lR _
theorem len_two {ns:List Int}(h:ns.length=2):∃ a b,ns=[a,b]:=by
 match ns,h with
 | [a,b],_=>exact⟨a,b,rfl⟩
theorem len_one {ns:List Int}(h:ns.length=1):∃ a,ns=[a]:=by
 match ns,h with
 | [a],_=>exact⟨a,rfl⟩
def cntV (word:ByteArray) (l:List ByteArray):Opn × Bool:=
 if isW word [102,101,101,100]=true∧okTwo (numsV l)=true then ({ zeroO with kind:=3,scan:=(numsV l).1.getD 0 0,n:=(numsV l).1.getD 1 0 },true) else
 if isW word [102,117,115,101]=true∧okTwo (numsV l)=true then ({ zeroO with kind:=4,scan:=(numsV l).1.getD 0 0,n:=(numsV l).1.getD 1 0 },true) else
 if isW word [99,108,111,115,101]=true∧okOne (numsV l)=true then ({ zeroO with kind:=6,scan:=(numsV l).1.getD 0 0 },true) else
 if isW word [102,105,110,97,108]=true∧okOne (numsV l)=true then ({ zeroO with kind:=6,scan:=(numsV l).1.getD 0 0,n:=1 },true) else
 if isW word [118,97,110,105,115,104]=true∧okOne (numsV l)=true then ({ zeroO with kind:=9,n:=(numsV l).1.getD 0 0 },true) else
 if isW word [99,111,117,110,116]=true∧l.length=0 then ({ zeroO with kind:=10 },true) else
 if isW word [102,105,110,105,115,104]=true∧l.length=0 then ({ zeroO with kind:=13 },true) else
 (zeroO,false)
theorem cnt_none {word:ByteArray}{l:List ByteArray}(h0:isW word [102,101,101,100]=true→¬ okTwo (numsV l)=true) (h1:isW word [102,117,115,101]=true→¬ okTwo (numsV l)=true) (h2:isW word [99,108,111,115,101]=true→¬ okOne (numsV l)=true) (h3:isW word [102,105,110,97,108]=true→¬ okOne (numsV l)=true) (h4:isW word [118,97,110,105,115,104]=true→¬ okOne (numsV l)=true) (h5:isW word [99,111,117,110,116]=true→¬ l.length=0) (h6:isW word [102,105,110,105,115,104]=true→¬ l.length=0):cntV word l=(zeroO,false):=by
 unfold cntV;rw[if_neg (fun e=>h0 e.1 e.2),if_neg (fun e=>h1 e.1 e.2),if_neg (fun e=>h2 e.1 e.2),if_neg (fun e=>h3 e.1 e.2),if_neg (fun e=>h4 e.1 e.2),if_neg (fun e=>h5 e.1 e.2),if_neg (fun e=>h6 e.1 e.2)]
set_option maxHeartbeats 8000000
set_option maxRecDepth 100000
theorem counted_any {B:Option Addr}{d:Nat}{l:List ByteArray}{word:ByteArray}{w:World}(h:Strs w B l) (hm:l.length≤1000000) (hs:∀ s ∈ l,s.size≤1000000) :
  Calls pG 59 #[vT word,vS B l.length d] w fun e w'=>∃ v,e=.returned (.tuple #[v,.bool (cntV word l).2])∧OpV (fun i=>w.heap.size≤i∧i < w'.heap.size) w' v (cntV word l).1∧Below w.heap.size w w':=by
 obtain⟨w1,hw1⟩:∃ x,w.alloc (.cells (zeroO.cells none 0 none 0) 36)=x:=⟨_,rfl⟩;have hb1:Below w.heap.size w w1:=by rw[← hw1];exact(bR _ _).alloc (lR _) _
 have hX1:Box w1 w.heap.size 36 (zeroO.cells none 0 none 0):=by rw[← hw1];exact Box.new _ _ _
 have HN:=hide (numbers_any (c:=d) (ListIn.below h hb1) hm hs);have HX1:=hide hX1;have HB1:=hide hb1;have HW1:=hide hw1;obtain⟨q,hq2⟩:∃ q,numsV l=q:=⟨_,rfl⟩;have HQ:=hide hq2;rw[hq2]at HN;clear h hs hb1 hX1 hw1 hq2;obtain⟨ns,ok⟩:=q;simp only[]at HN;go_enter Tryz.func59,Tryz.ntmps59;go_upto_region 1 with (fail);rw[show w.alloc (.cells #[vI kI 0,vI kI 0,vI kI 0,vI kI 0,vI kI 0,vI kI 0,vS none 0 0,vS none 0 0,vB false,vB false,vB false,vT ⟨#[]⟩] 36)=w1 from HW1.out];go_wp2_with fail;refine HN.out.mono ?_;rintro e w2 ⟨v2,rfl,hO2,hb2⟩;have hX2:=HX1.out.kept hb2;have HX2:=hide hX2;have hg2:=hX2.lt;have HB2:=hide (HB1.out.trans (hb2.mono HB1.out.size));obtain⟨A2,c2,rfl,hc2,hL2,hq2⟩:=hO2.form;have HL2:=hide hL2;clear hX2 hO2 hb2 hL2 hq2;obtain⟨wz,hsz,hXz,hgz⟩:=box_store aggOp HX2.out rfl rfl (Opn.one zeroO none 0 none 0);have HSz:=hide hsz;have HXz:=hide hXz;have HBz:=hide (below_grown HB2.out hgz (lR _));clear hsz hXz hgz;go_upto_region 2 with (fail);go_cut [8] (fun v wx=>v=.bool (okTwo (ns,ok))∧wx=w2);case first=>
  cases ok with
  |false=>go_wp2_with fail;go_meet;exact⟨rfl,rfl⟩
  |true=>
   match ns with
   | []=>go_wp2_with fail;go_meet;exact⟨rfl,rfl⟩
   | [a]=>go_wp2_with fail;go_meet;exact⟨rfl,rfl⟩
   | [a,b]=>go_wp2_with fail;go_meet;exact⟨rfl,rfl⟩
   |a :: b :: c :: r=>
    have e1:(((a :: b :: c :: r).length:Int)==1)=false:=bN (by simp;omega);have e2:(((a :: b :: c :: r).length:Int)==2)=false:=bN (by simp;omega);have e3:Hid (okTwo (a :: b :: c :: r,true)=false):=by rw[Hid,okTwo,decide_eq_false (by simp)];rfl
    have e4:Hid (okOne (a :: b :: c :: r,true)=false):=by rw[Hid,okOne,decide_eq_false (by simp)];rfl
    generalize a :: b :: c :: r=ns at *;go_wp2_with fail;go_meet;exact⟨by rw[e3.out],rfl⟩
 case rest=>
  obtain⟨rfl,hww⟩:=hcut;have hww:=hww.symm;subst hww;go_upto_region 3 with (fail);go_cut [9] (fun v wx=>v=.bool (okOne (ns,ok))∧wx=w2);case first=>
   cases ok with
   |false=>go_wp2_with fail;go_meet;exact⟨rfl,rfl⟩
   |true=>
    match ns with
    | []=>go_wp2_with fail;go_meet;exact⟨rfl,rfl⟩
    | [a]=>go_wp2_with fail;go_meet;exact⟨rfl,rfl⟩
    | [a,b]=>go_wp2_with fail;go_meet;exact⟨rfl,rfl⟩
    |a :: b :: c :: r=>
     have e1:(((a :: b :: c :: r).length:Int)==1)=false:=bN (by simp;omega);have e2:(((a :: b :: c :: r).length:Int)==2)=false:=bN (by simp;omega);have e3:Hid (okTwo (a :: b :: c :: r,true)=false):=by rw[Hid,okTwo,decide_eq_false (by simp)];rfl
     have e4:Hid (okOne (a :: b :: c :: r,true)=false):=by rw[Hid,okOne,decide_eq_false (by simp)];rfl
     generalize a :: b :: c :: r=ns at *;go_wp2_with fail;go_meet;exact⟨by rw[e4.out],rfl⟩
  case rest=>
   obtain⟨rfl,hww⟩:=hcut;have hww:=hww.symm;subst hww;by_cases hw0:word.toList=[102,101,101,100]
   ·have h0:(word.toList==[102,101,101,100])=true:=by rw[hw0];rfl
    have h1:(word.toList==[102,117,115,101])=false:=by rw[hw0];rfl
    have h2:(word.toList==[99,108,111,115,101])=false:=by rw[hw0];rfl
    have h3:(word.toList==[102,105,110,97,108])=false:=by rw[hw0];rfl
    have h4:(word.toList==[118,97,110,105,115,104])=false:=by rw[hw0];rfl
    have h5:(word.toList==[99,111,117,110,116])=false:=by rw[hw0];rfl
    have h6:(word.toList==[102,105,110,105,115,104])=false:=by rw[hw0];rfl
    clear hw0;cases hz:okTwo (ns,ok) with
    |false=>have hv:=hide (cnt_none (l:=l) (fun _ e=>by rw[HQ.out]at e;rw[hz]at e;cases e) (fun e=>by rw[isW,h1]at e;cases e) (fun e=>by rw[isW,h2]at e;cases e) (fun e=>by rw[isW,h3]at e;cases e) (fun e=>by rw[isW,h4]at e;cases e) (fun e=>by rw[isW,h5]at e;cases e) (fun e=>by rw[isW,h6]at e;cases e));go_wp2_with ((with_reducible refine dS wz ?_ ?_ ?_);rfl;exact does_store rfl rfl rfl HSz.out);refine bodyPost_ret (v:=.tuple #[.agg (zeroO.cells none 0 none 0),vB false]) (by refine results_ct (p:=4) (q:=5) ?_ ?_ (box_load aggOp HXz.out rfl) <;> rfl) rfl ?_;exact⟨_,by rw[hv.out],by rw[hv.out];exact opv_nil rfl rfl,HBz.out⟩
    |true=>
     have hok:ok=true:=by unfold okTwo at hz;simp only[Bool.and_eq_true]at hz;exact hz.1
     have hln:ns.length=2:=by unfold okTwo at hz;simp only[Bool.and_eq_true,decide_eq_true_eq]at hz;exact hz.2
     subst hok;obtain⟨a,b,rfl⟩:∃ a b,ns=[a,b]:=len_two hln;obtain⟨nb,noff,rfl,_,n0⟩:=HL2.out.at_ (k:=0) (by simp);obtain⟨nb',noff',e,_,n1⟩:=HL2.out.at_ (k:=1) (by simp);cases e;simp[iv]at n0 n1;have hv:Hid (cntV word l=({ zeroO with kind:=3,scan:=a,n:=b },true)):=by rw[Hid];unfold cntV;rw[if_pos ⟨h0,by rw[HQ.out];exact hz⟩,HQ.out];rfl
     obtain⟨w5,hst,hX5,hg5⟩:=box_store aggOp (HX2.out.drew) rfl rfl (Opn.one ({ zeroO with kind:=3,scan:=a,n:=b }) none 0 none 0);have HS5:=hide hst;have HX5:=hide hX5;have HB5:=hide (below_grown (below_drew HB2.out 1) hg5 (lR _));clear hst hX5 hg5;go_upto_region 5 with (fail);go_still_tail 7,(by kernel_rfl);change wpList _ _ _ _ _ w2.drew;go_wp2_with ((with_reducible refine dS w5 ?_ ?_ ?_);rfl;exact does_store rfl rfl rfl HS5.out);refine bodyPost_ret (v:=.tuple #[.agg (({ zeroO with kind:=3,scan:=a,n:=b }:Opn).cells none 0 none 0),vB true]) (by refine results_ct (p:=4) (q:=5) ?_ ?_ (box_load aggOp HX5.out rfl) <;> rfl) rfl ?_;exact⟨_,by rw[hv.out],by rw[hv.out];exact opv_nil rfl rfl,HB5.out⟩
   by_cases hw1:word.toList=[102,117,115,101]
   ·have h0:(word.toList==[102,101,101,100])=false:=by rw[hw1];rfl
    have h1:(word.toList==[102,117,115,101])=true:=by rw[hw1];rfl
    have h2:(word.toList==[99,108,111,115,101])=false:=by rw[hw1];rfl
    have h3:(word.toList==[102,105,110,97,108])=false:=by rw[hw1];rfl
    have h4:(word.toList==[118,97,110,105,115,104])=false:=by rw[hw1];rfl
    have h5:(word.toList==[99,111,117,110,116])=false:=by rw[hw1];rfl
    have h6:(word.toList==[102,105,110,105,115,104])=false:=by rw[hw1];rfl
    clear hw1 hw0;cases hz:okTwo (ns,ok) with
    |false=>have hv:=hide (cnt_none (l:=l) (fun e=>by rw[isW,h0]at e;cases e) (fun _ e=>by rw[HQ.out]at e;rw[hz]at e;cases e) (fun e=>by rw[isW,h2]at e;cases e) (fun e=>by rw[isW,h3]at e;cases e) (fun e=>by rw[isW,h4]at e;cases e) (fun e=>by rw[isW,h5]at e;cases e) (fun e=>by rw[isW,h6]at e;cases e));go_wp2_with ((with_reducible refine dS wz ?_ ?_ ?_);rfl;exact does_store rfl rfl rfl HSz.out);refine bodyPost_ret (v:=.tuple #[.agg (zeroO.cells none 0 none 0),vB false]) (by refine results_ct (p:=4) (q:=5) ?_ ?_ (box_load aggOp HXz.out rfl) <;> rfl) rfl ?_;exact⟨_,by rw[hv.out],by rw[hv.out];exact opv_nil rfl rfl,HBz.out⟩
    |true=>
     have hok:ok=true:=by unfold okTwo at hz;simp only[Bool.and_eq_true]at hz;exact hz.1
     have hln:ns.length=2:=by unfold okTwo at hz;simp only[Bool.and_eq_true,decide_eq_true_eq]at hz;exact hz.2
     subst hok;obtain⟨a,b,rfl⟩:∃ a b,ns=[a,b]:=len_two hln;obtain⟨nb,noff,rfl,_,n0⟩:=HL2.out.at_ (k:=0) (by simp);obtain⟨nb',noff',e,_,n1⟩:=HL2.out.at_ (k:=1) (by simp);cases e;simp[iv]at n0 n1;have hv:Hid (cntV word l=({ zeroO with kind:=4,scan:=a,n:=b },true)):=by rw[Hid];unfold cntV;rw[if_neg (fun e=>by have:=e.1;rw[isW,h0]at this;cases this),if_pos ⟨h1,by rw[HQ.out];exact hz⟩,HQ.out];rfl
     obtain⟨w5,hst,hX5,hg5⟩:=box_store aggOp (HX2.out.drew) rfl rfl (Opn.one ({ zeroO with kind:=4,scan:=a,n:=b }) none 0 none 0);have HS5:=hide hst;have HX5:=hide hX5;have HB5:=hide (below_grown (below_drew HB2.out 1) hg5 (lR _));clear hst hX5 hg5;go_upto_region 7 with (fail);go_still_tail 7,(by kernel_rfl);change wpList _ _ _ _ _ w2.drew;go_wp2_with ((with_reducible refine dS w5 ?_ ?_ ?_);rfl;exact does_store rfl rfl rfl HS5.out);refine bodyPost_ret (v:=.tuple #[.agg (({ zeroO with kind:=4,scan:=a,n:=b }:Opn).cells none 0 none 0),vB true]) (by refine results_ct (p:=4) (q:=5) ?_ ?_ (box_load aggOp HX5.out rfl) <;> rfl) rfl ?_;exact⟨_,by rw[hv.out],by rw[hv.out];exact opv_nil rfl rfl,HB5.out⟩
   by_cases hw2:word.toList=[99,108,111,115,101]
   ·have h0:(word.toList==[102,101,101,100])=false:=by rw[hw2];rfl
    have h1:(word.toList==[102,117,115,101])=false:=by rw[hw2];rfl
    have h2:(word.toList==[99,108,111,115,101])=true:=by rw[hw2];rfl
    have h3:(word.toList==[102,105,110,97,108])=false:=by rw[hw2];rfl
    have h4:(word.toList==[118,97,110,105,115,104])=false:=by rw[hw2];rfl
    have h5:(word.toList==[99,111,117,110,116])=false:=by rw[hw2];rfl
    have h6:(word.toList==[102,105,110,105,115,104])=false:=by rw[hw2];rfl
    clear hw2 hw0 hw1;cases hz:okOne (ns,ok) with
    |false=>have hv:=hide (cnt_none (l:=l) (fun e=>by rw[isW,h0]at e;cases e) (fun e=>by rw[isW,h1]at e;cases e) (fun _ e=>by rw[HQ.out]at e;rw[hz]at e;cases e) (fun e=>by rw[isW,h3]at e;cases e) (fun e=>by rw[isW,h4]at e;cases e) (fun e=>by rw[isW,h5]at e;cases e) (fun e=>by rw[isW,h6]at e;cases e));go_wp2_with ((with_reducible refine dS wz ?_ ?_ ?_);rfl;exact does_store rfl rfl rfl HSz.out);refine bodyPost_ret (v:=.tuple #[.agg (zeroO.cells none 0 none 0),vB false]) (by refine results_ct (p:=4) (q:=5) ?_ ?_ (box_load aggOp HXz.out rfl) <;> rfl) rfl ?_;exact⟨_,by rw[hv.out],by rw[hv.out];exact opv_nil rfl rfl,HBz.out⟩
    |true=>
     have hok:ok=true:=by unfold okOne at hz;simp only[Bool.and_eq_true]at hz;exact hz.1
     have hln:ns.length=1:=by unfold okOne at hz;simp only[Bool.and_eq_true,decide_eq_true_eq]at hz;exact hz.2
     subst hok;obtain⟨a,rfl⟩:∃ a,ns=[a]:=len_one hln;obtain⟨nb,noff,rfl,_,n0⟩:=HL2.out.at_ (k:=0) (by simp);simp[iv]at n0;have hv:Hid (cntV word l=({ zeroO with kind:=6,scan:=a },true)):=by rw[Hid];unfold cntV;rw[if_neg (fun e=>by have:=e.1;rw[isW,h0]at this;cases this),if_neg (fun e=>by have:=e.1;rw[isW,h1]at this;cases this),if_pos ⟨h2,by rw[HQ.out];exact hz⟩,HQ.out];rfl
     obtain⟨w5,hst,hX5,hg5⟩:=box_store aggOp HX2.out rfl rfl (Opn.one ({ zeroO with kind:=6,scan:=a }) none 0 none 0);have HS5:=hide hst;have HX5:=hide hX5;have HB5:=hide (below_grown HB2.out hg5 (lR _));clear hst hX5 hg5;go_wp2_with ((with_reducible refine dS w5 ?_ ?_ ?_);rfl;exact does_store rfl rfl rfl HS5.out);refine bodyPost_ret (v:=.tuple #[.agg (({ zeroO with kind:=6,scan:=a }:Opn).cells none 0 none 0),vB true]) (by refine results_ct (p:=4) (q:=5) ?_ ?_ (box_load aggOp HX5.out rfl) <;> rfl) rfl ?_;exact⟨_,by rw[hv.out],by rw[hv.out];exact opv_nil rfl rfl,HB5.out⟩
   by_cases hw3:word.toList=[102,105,110,97,108]
   ·have h0:(word.toList==[102,101,101,100])=false:=by rw[hw3];rfl
    have h1:(word.toList==[102,117,115,101])=false:=by rw[hw3];rfl
    have h2:(word.toList==[99,108,111,115,101])=false:=by rw[hw3];rfl
    have h3:(word.toList==[102,105,110,97,108])=true:=by rw[hw3];rfl
    have h4:(word.toList==[118,97,110,105,115,104])=false:=by rw[hw3];rfl
    have h5:(word.toList==[99,111,117,110,116])=false:=by rw[hw3];rfl
    have h6:(word.toList==[102,105,110,105,115,104])=false:=by rw[hw3];rfl
    clear hw3 hw0 hw1 hw2;cases hz:okOne (ns,ok) with
    |false=>have hv:=hide (cnt_none (l:=l) (fun e=>by rw[isW,h0]at e;cases e) (fun e=>by rw[isW,h1]at e;cases e) (fun e=>by rw[isW,h2]at e;cases e) (fun _ e=>by rw[HQ.out]at e;rw[hz]at e;cases e) (fun e=>by rw[isW,h4]at e;cases e) (fun e=>by rw[isW,h5]at e;cases e) (fun e=>by rw[isW,h6]at e;cases e));go_wp2_with ((with_reducible refine dS wz ?_ ?_ ?_);rfl;exact does_store rfl rfl rfl HSz.out);refine bodyPost_ret (v:=.tuple #[.agg (zeroO.cells none 0 none 0),vB false]) (by refine results_ct (p:=4) (q:=5) ?_ ?_ (box_load aggOp HXz.out rfl) <;> rfl) rfl ?_;exact⟨_,by rw[hv.out],by rw[hv.out];exact opv_nil rfl rfl,HBz.out⟩
    |true=>
     have hok:ok=true:=by unfold okOne at hz;simp only[Bool.and_eq_true]at hz;exact hz.1
     have hln:ns.length=1:=by unfold okOne at hz;simp only[Bool.and_eq_true,decide_eq_true_eq]at hz;exact hz.2
     subst hok;obtain⟨a,rfl⟩:∃ a,ns=[a]:=len_one hln;obtain⟨nb,noff,rfl,_,n0⟩:=HL2.out.at_ (k:=0) (by simp);simp[iv]at n0;have hv:Hid (cntV word l=({ zeroO with kind:=6,scan:=a,n:=1 },true)):=by rw[Hid];unfold cntV;rw[if_neg (fun e=>by have:=e.1;rw[isW,h0]at this;cases this),if_neg (fun e=>by have:=e.1;rw[isW,h1]at this;cases this),if_neg (fun e=>by have:=e.1;rw[isW,h2]at this;cases this),if_pos ⟨h3,by rw[HQ.out];exact hz⟩,HQ.out];rfl
     obtain⟨w5,hst,hX5,hg5⟩:=box_store aggOp HX2.out rfl rfl (Opn.one ({ zeroO with kind:=6,scan:=a,n:=1 }) none 0 none 0);have HS5:=hide hst;have HX5:=hide hX5;have HB5:=hide (below_grown HB2.out hg5 (lR _));clear hst hX5 hg5;go_wp2_with ((with_reducible refine dS w5 ?_ ?_ ?_);rfl;exact does_store rfl rfl rfl HS5.out);refine bodyPost_ret (v:=.tuple #[.agg (({ zeroO with kind:=6,scan:=a,n:=1 }:Opn).cells none 0 none 0),vB true]) (by refine results_ct (p:=4) (q:=5) ?_ ?_ (box_load aggOp HX5.out rfl) <;> rfl) rfl ?_;exact⟨_,by rw[hv.out],by rw[hv.out];exact opv_nil rfl rfl,HB5.out⟩
   by_cases hw4:word.toList=[118,97,110,105,115,104]
   ·have h0:(word.toList==[102,101,101,100])=false:=by rw[hw4];rfl
    have h1:(word.toList==[102,117,115,101])=false:=by rw[hw4];rfl
    have h2:(word.toList==[99,108,111,115,101])=false:=by rw[hw4];rfl
    have h3:(word.toList==[102,105,110,97,108])=false:=by rw[hw4];rfl
    have h4:(word.toList==[118,97,110,105,115,104])=true:=by rw[hw4];rfl
    have h5:(word.toList==[99,111,117,110,116])=false:=by rw[hw4];rfl
    have h6:(word.toList==[102,105,110,105,115,104])=false:=by rw[hw4];rfl
    clear hw4 hw0 hw1 hw2 hw3;cases hz:okOne (ns,ok) with
    |false=>have hv:=hide (cnt_none (l:=l) (fun e=>by rw[isW,h0]at e;cases e) (fun e=>by rw[isW,h1]at e;cases e) (fun e=>by rw[isW,h2]at e;cases e) (fun e=>by rw[isW,h3]at e;cases e) (fun _ e=>by rw[HQ.out]at e;rw[hz]at e;cases e) (fun e=>by rw[isW,h5]at e;cases e) (fun e=>by rw[isW,h6]at e;cases e));go_wp2_with ((with_reducible refine dS wz ?_ ?_ ?_);rfl;exact does_store rfl rfl rfl HSz.out);refine bodyPost_ret (v:=.tuple #[.agg (zeroO.cells none 0 none 0),vB false]) (by refine results_ct (p:=4) (q:=5) ?_ ?_ (box_load aggOp HXz.out rfl) <;> rfl) rfl ?_;exact⟨_,by rw[hv.out],by rw[hv.out];exact opv_nil rfl rfl,HBz.out⟩
    |true=>
     have hok:ok=true:=by unfold okOne at hz;simp only[Bool.and_eq_true]at hz;exact hz.1
     have hln:ns.length=1:=by unfold okOne at hz;simp only[Bool.and_eq_true,decide_eq_true_eq]at hz;exact hz.2
     subst hok;obtain⟨a,rfl⟩:∃ a,ns=[a]:=len_one hln;obtain⟨nb,noff,rfl,_,n0⟩:=HL2.out.at_ (k:=0) (by simp);simp[iv]at n0;have hv:Hid (cntV word l=({ zeroO with kind:=9,n:=a },true)):=by rw[Hid];unfold cntV;rw[if_neg (fun e=>by have:=e.1;rw[isW,h0]at this;cases this),if_neg (fun e=>by have:=e.1;rw[isW,h1]at this;cases this),if_neg (fun e=>by have:=e.1;rw[isW,h2]at this;cases this),if_neg (fun e=>by have:=e.1;rw[isW,h3]at this;cases this),if_pos ⟨h4,by rw[HQ.out];exact hz⟩,HQ.out];rfl
     obtain⟨w5,hst,hX5,hg5⟩:=box_store aggOp HX2.out rfl rfl (Opn.one ({ zeroO with kind:=9,n:=a }) none 0 none 0);have HS5:=hide hst;have HX5:=hide hX5;have HB5:=hide (below_grown HB2.out hg5 (lR _));clear hst hX5 hg5;go_wp2_with ((with_reducible refine dS w5 ?_ ?_ ?_);rfl;exact does_store rfl rfl rfl HS5.out);refine bodyPost_ret (v:=.tuple #[.agg (({ zeroO with kind:=9,n:=a }:Opn).cells none 0 none 0),vB true]) (by refine results_ct (p:=4) (q:=5) ?_ ?_ (box_load aggOp HX5.out rfl) <;> rfl) rfl ?_;exact⟨_,by rw[hv.out],by rw[hv.out];exact opv_nil rfl rfl,HB5.out⟩
   by_cases hw5:word.toList=[99,111,117,110,116]
   ·have h0:(word.toList==[102,101,101,100])=false:=by rw[hw5];rfl
    have h1:(word.toList==[102,117,115,101])=false:=by rw[hw5];rfl
    have h2:(word.toList==[99,108,111,115,101])=false:=by rw[hw5];rfl
    have h3:(word.toList==[102,105,110,97,108])=false:=by rw[hw5];rfl
    have h4:(word.toList==[118,97,110,105,115,104])=false:=by rw[hw5];rfl
    have h5:(word.toList==[99,111,117,110,116])=true:=by rw[hw5];rfl
    have h6:(word.toList==[102,105,110,105,115,104])=false:=by rw[hw5];rfl
    clear hw5 hw0 hw1 hw2 hw3 hw4;by_cases hl:l.length=0
    ·have hv:Hid (cntV word l=({ zeroO with kind:=10 },true)):=by rw[Hid];unfold cntV;rw[if_neg (fun e=>by have:=e.1;rw[isW,h0]at this;cases this),if_neg (fun e=>by have:=e.1;rw[isW,h1]at this;cases this),if_neg (fun e=>by have:=e.1;rw[isW,h2]at this;cases this),if_neg (fun e=>by have:=e.1;rw[isW,h3]at this;cases this),if_neg (fun e=>by have:=e.1;rw[isW,h4]at this;cases this),if_pos ⟨h5,hl⟩]
     obtain⟨w5,hst,hX5,hg5⟩:=box_store aggOp HX2.out rfl rfl (Opn.one ({ zeroO with kind:=10 }) none 0 none 0);have HS5:=hide hst;have HX5:=hide hX5;have HB5:=hide (below_grown HB2.out hg5 (lR _));clear hst hX5 hg5;go_wp2_with ((with_reducible refine dS w5 ?_ ?_ ?_);rfl;exact does_store rfl rfl rfl HS5.out);refine bodyPost_ret (v:=.tuple #[.agg (({ zeroO with kind:=10 }:Opn).cells none 0 none 0),vB true]) (by refine results_ct (p:=4) (q:=5) ?_ ?_ (box_load aggOp HX5.out rfl) <;> rfl) rfl ?_;exact⟨_,by rw[hv.out],by rw[hv.out];exact opv_nil rfl rfl,HB5.out⟩
    ·have hl2:((l.length:Int)==0)=false:=bN (by omega);have hv:=hide (cnt_none (l:=l) (fun e=>by rw[isW,h0]at e;cases e) (fun e=>by rw[isW,h1]at e;cases e) (fun e=>by rw[isW,h2]at e;cases e) (fun e=>by rw[isW,h3]at e;cases e) (fun e=>by rw[isW,h4]at e;cases e) (fun _ e=>hl e) (fun e=>by rw[isW,h6]at e;cases e));go_wp2_with ((with_reducible refine dS wz ?_ ?_ ?_);rfl;exact does_store rfl rfl rfl HSz.out);refine bodyPost_ret (v:=.tuple #[.agg (zeroO.cells none 0 none 0),vB false]) (by refine results_ct (p:=4) (q:=5) ?_ ?_ (box_load aggOp HXz.out rfl) <;> rfl) rfl ?_;exact⟨_,by rw[hv.out],by rw[hv.out];exact opv_nil rfl rfl,HBz.out⟩
   by_cases hw6:word.toList=[102,105,110,105,115,104]
   ·have h0:(word.toList==[102,101,101,100])=false:=by rw[hw6];rfl
    have h1:(word.toList==[102,117,115,101])=false:=by rw[hw6];rfl
    have h2:(word.toList==[99,108,111,115,101])=false:=by rw[hw6];rfl
    have h3:(word.toList==[102,105,110,97,108])=false:=by rw[hw6];rfl
    have h4:(word.toList==[118,97,110,105,115,104])=false:=by rw[hw6];rfl
    have h5:(word.toList==[99,111,117,110,116])=false:=by rw[hw6];rfl
    have h6:(word.toList==[102,105,110,105,115,104])=true:=by rw[hw6];rfl
    clear hw6 hw0 hw1 hw2 hw3 hw4 hw5;by_cases hl:l.length=0
    ·have hv:Hid (cntV word l=({ zeroO with kind:=13 },true)):=by rw[Hid];unfold cntV;rw[if_neg (fun e=>by have:=e.1;rw[isW,h0]at this;cases this),if_neg (fun e=>by have:=e.1;rw[isW,h1]at this;cases this),if_neg (fun e=>by have:=e.1;rw[isW,h2]at this;cases this),if_neg (fun e=>by have:=e.1;rw[isW,h3]at this;cases this),if_neg (fun e=>by have:=e.1;rw[isW,h4]at this;cases this),if_neg (fun e=>by have:=e.1;rw[isW,h5]at this;cases this),if_pos ⟨h6,hl⟩]
     obtain⟨w5,hst,hX5,hg5⟩:=box_store aggOp HX2.out rfl rfl (Opn.one ({ zeroO with kind:=13 }) none 0 none 0);have HS5:=hide hst;have HX5:=hide hX5;have HB5:=hide (below_grown HB2.out hg5 (lR _));clear hst hX5 hg5;go_wp2_with ((with_reducible refine dS w5 ?_ ?_ ?_);rfl;exact does_store rfl rfl rfl HS5.out);refine bodyPost_ret (v:=.tuple #[.agg (({ zeroO with kind:=13 }:Opn).cells none 0 none 0),vB true]) (by refine results_ct (p:=4) (q:=5) ?_ ?_ (box_load aggOp HX5.out rfl) <;> rfl) rfl ?_;exact⟨_,by rw[hv.out],by rw[hv.out];exact opv_nil rfl rfl,HB5.out⟩
    ·have hl2:((l.length:Int)==0)=false:=bN (by omega);have hv:=hide (cnt_none (l:=l) (fun e=>by rw[isW,h0]at e;cases e) (fun e=>by rw[isW,h1]at e;cases e) (fun e=>by rw[isW,h2]at e;cases e) (fun e=>by rw[isW,h3]at e;cases e) (fun e=>by rw[isW,h4]at e;cases e) (fun e=>by rw[isW,h5]at e;cases e) (fun _ e=>hl e));go_wp2_with ((with_reducible refine dS wz ?_ ?_ ?_);rfl;exact does_store rfl rfl rfl HSz.out);refine bodyPost_ret (v:=.tuple #[.agg (zeroO.cells none 0 none 0),vB false]) (by refine results_ct (p:=4) (q:=5) ?_ ?_ (box_load aggOp HXz.out rfl) <;> rfl) rfl ?_;exact⟨_,by rw[hv.out],by rw[hv.out];exact opv_nil rfl rfl,HBz.out⟩
   have h0:(word.toList==[102,101,101,100])=false:=bN hw0;have h1:(word.toList==[102,117,115,101])=false:=bN hw1;have h2:(word.toList==[99,108,111,115,101])=false:=bN hw2;have h3:(word.toList==[102,105,110,97,108])=false:=bN hw3;have h4:(word.toList==[118,97,110,105,115,104])=false:=bN hw4;have h5:(word.toList==[99,111,117,110,116])=false:=bN hw5;have h6:(word.toList==[102,105,110,105,115,104])=false:=bN hw6;clear hw0 hw1 hw2 hw3 hw4 hw5 hw6;have hv:=hide (cnt_none (l:=l) (fun e=>by rw[isW,h0]at e;cases e) (fun e=>by rw[isW,h1]at e;cases e) (fun e=>by rw[isW,h2]at e;cases e) (fun e=>by rw[isW,h3]at e;cases e) (fun e=>by rw[isW,h4]at e;cases e) (fun e=>by rw[isW,h5]at e;cases e) (fun e=>by rw[isW,h6]at e;cases e));go_wp2_with ((with_reducible refine dS wz ?_ ?_ ?_);rfl;exact does_store rfl rfl rfl HSz.out);refine bodyPost_ret (v:=.tuple #[.agg (zeroO.cells none 0 none 0),vB false]) (by refine results_ct (p:=4) (q:=5) ?_ ?_ (box_load aggOp HXz.out rfl) <;> rfl) rfl ?_;exact⟨_,by rw[hv.out],by rw[hv.out];exact opv_nil rfl rfl,HBz.out⟩
end
section
theorem words_boxes {w:World}{e:EV}{p c:Nat}:∃ w1,((w.alloc (.cells (e.cells p c) 30)).alloc (.cells (zeroO.cells none 0 none 0) 36)).alloc (.cells (zeroO.cells none 0 none 0) 36)=w1∧w1.heap.size=w.heap.size+1+1+1∧Below w.heap.size w w1∧
  Box w1 w.heap.size 30 (e.cells p c)∧Box w1 (w.heap.size+1) 36 (zeroO.cells none 0 none 0)∧Box w1 (w.heap.size+1+1) 36 (zeroO.cells none 0 none 0):=by
 refine⟨_,rfl,by simp,(((bR _ _).alloc (lR _) _).alloc (by simp) _).alloc (by simp;omega) _,?_,?_,?_⟩
 ·exact((Box.new _ _ _).alloc _).alloc _
 ·have:=(Box.new (w.alloc (.cells (e.cells p c) 30)) 36 (zeroO.cells none 0 none 0)).alloc (.cells (zeroO.cells none 0 none 0) 36);rwa [World.size_alloc]at this
 ·have:=Box.new ((w.alloc (.cells (e.cells p c) 30)).alloc (.cells (zeroO.cells none 0 none 0) 36)) 36 (zeroO.cells none 0 none 0);rwa [World.size_alloc,World.size_alloc]at this
def issueO (P:List ByteArray) (x:ByteArray) (r:List ByteArray):Opn:={ zeroO with kind:=1,prec:=idxN P x,marks:=(numsV r).1 }
set_option maxHeartbeats 8000000
set_option maxRecDepth 100000
theorem words_issue {e:EV}{P C:List ByteArray}{B:Option Addr}{d:Nat}{r:List ByteArray}{x word:ByteArray}{w:World}(hword:word.toList=[105,115,115,117,101]) (hE:Elec w e P C) (hP:P.length≤1000000) (hPn:∀ n ∈ P,n.size≤3000000) (hM:Max w) (hr:Strs w B (x :: r)) (hd:r.length+1≤d) (hd2:d≤1000000) (hx:∀ s ∈ r,s.size≤1000000) :
  Calls pG 24 #[.agg (e.cells P.length C.length),vT word,vS B (r.length+1) d] w fun en w'=>∃ v,en=.returned (.tuple #[v,.bool (decide (0≤idxN P x) && (numsV r).2)])∧OpV (fun i=>w.heap.size≤i∧i < w'.heap.size) w' v (issueO P x r)∧Below w.heap.size w w':=by
 obtain⟨w1,hw1,hs1,hb1,hXe,hXr,hXo⟩:=words_boxes (w:=w) (e:=e) (p:=P.length) (c:=C.length);have hw:(word.toList==[105,115,115,117,101])=true:=by rw[hword];rfl
 obtain⟨w2,hw2⟩:∃ q,w1.setCell ⟨w.heap.size+1+1,0,none⟩ (vI kI 1)=q:=⟨_,rfl⟩;have hXo2:=hXo.set 0 (vI kI 1);have hXr2:=hXr.far (p:=⟨w.heap.size+1+1,0,none⟩) (by show w.heap.size+1≠w.heap.size+1+1;omega) (vI kI 1);have hXe2:=hXe.far (p:=⟨w.heap.size+1+1,0,none⟩) (by show w.heap.size≠w.heap.size+1+1;omega) (vI kI 1);have hb2:Below w.heap.size w (w1.setCell ⟨w.heap.size+1+1,0,none⟩ (vI kI 1)):=below_grown hb1 (grown_set _ _ _ _) (by omega);rw[hw2]at hXo2 hXr2 hXe2 hb2;have o0:=hXo.cell 0;have of0:=hXo.frozen 0;have hN:=named_cons (A:=e.pa) (c:=e.pc) (names:=P) (g:=w.heap.size+1+1) (o:=1) (u:=vI kI 0) (ListIn.below hE.1 hb2) hP hPn (hM.below hb2) (ListIn.below hr hb2) hd hd2 hx (by rw[hXo2.cell 1];rfl) (hXo2.frozen 1);have e4:=hXe2.cell 4;have HN:=hide hN;have HX2:=hide hXo2;have HR2:=hide hXr2;have HB2:=hide hb2;have HW1:=hide hw1;have HW2:=hide hw2;have hs2:w2.heap.size=w1.heap.size:=by rw[← hw2];simp[World.setCell]
 have HS2:=hide (hs2.trans hs1);clear hword hE hP hPn hM hr hx hw1 hs1 hb1 hXe hXr hXo hXo2 hXr2 hXe2 hb2 hN hw2 hs2;have HI:Hid (issueO P x r={ zeroO with kind:=1,prec:=idxN P x,marks:=(numsV r).1 }):=rfl;generalize idxN P x=i at *;generalize numsV r=q at *;obtain⟨ns,ok⟩:=q;obtain⟨title,dots,blank,marked,pa,pc,ca,cc,sa,sn,sc,scanners,batch,neg,na,nn,nc,da,dn,dc,cell,seed⟩:=e;unfold EV.cells at *;simp only[]at *;simp[Opn.cells,zeroO]at o0 e4;go_enter Tryz.func24,Tryz.ntmps24;go_upto_region 2 with (fail);rw[show ((w.alloc (.cells #[vT title,vI kI dots,vI kI blank,vI kI marked,vS pa P.length pc,vS ca C.length cc,vS sa sn sc,vI kI scanners,vI kI batch,.bool neg,vS na nn nc,vS da dn dc,vI kI cell,vT seed] 30)).alloc (.cells #[vI kI 0,vI kI 0,vI kI 0,vI kI 0,vI kI 0,vI kI 0,vS none 0 0,vS none 0 0,vB false,vB false,vB false,vT ⟨#[]⟩] 36)).alloc (.cells #[vI kI 0,vI kI 0,vI kI 0,vI kI 0,vI kI 0,vI kI 0,vS none 0 0,vS none 0 0,vB false,vB false,vB false,vT ⟨#[]⟩] 36)=w1 from HW1.out];go_upto_region 7 with (fail);rw[HW2.out];go_wp2_with fail;refine HN.out.mono ?_;rintro en w4 ⟨v,w3,rfl,hw4,hO3,hb3⟩;obtain⟨A3,c3,rfl,hc3,hL3,_⟩:=hO3.form;have hs3:=hb3.size;have hx3:=HX2.out.kept hb3;have hr3:=HR2.out.kept hb3;have hx4:=hx3.set 1 (vI kI i);have hr4:=hr3.far (p:=⟨w.heap.size+1+1,1,none⟩) (by show w.heap.size+1≠w.heap.size+1+1;omega) (vI kI i);have hl3:ListIn iv (fun b=>w2.heap.size≤b∧b < w3.heap.size) w3 A3 ns:=hL3.mono fun b hb=>⟨hb.2.1,hb.1⟩;have hne:¬ (w2.heap.size≤w.heap.size+1+1∧w.heap.size+1+1 < w3.heap.size):=by have:=HS2.out;omega
 have hl4:=list_set hl3 hne 1 (vI kI i);have hb4:Below w.heap.size w (w3.setCell ⟨w.heap.size+1+1,1,none⟩ (vI kI i)):=below_grown (HB2.out.trans (hb3.mono HB2.out.size)) (grown_set _ _ _ _) (by omega);have hsz4:(w3.setCell ⟨w.heap.size+1+1,1,none⟩ (vI kI i)).heap.size=w3.heap.size:=by simp[World.setCell]
 rw[← hw4]at hx4 hr4 hl4 hb4 hsz4;have q6:=hx4.cell 6;have qf:=hx4.frozen 6;simp[Opn.cells,zeroO]at q6;obtain⟨w5,hw5⟩:∃ q,w4.setCell ⟨w.heap.size+1+1,6,none⟩ (vS A3 ns.length c3)=q:=⟨_,rfl⟩;have hx5:=hx4.set 6 (vS A3 ns.length c3);have hr5:=hr4.far (p:=⟨w.heap.size+1+1,6,none⟩) (by show w.heap.size+1≠w.heap.size+1+1;omega) (vS A3 ns.length c3);have hl5:=list_set hl4 hne 6 (vS A3 ns.length c3);have hb5:Below w.heap.size w (w4.setCell ⟨w.heap.size+1+1,6,none⟩ (vS A3 ns.length c3)):=below_grown hb4 (grown_set _ _ _ _) (by omega);have hsz5:(w4.setCell ⟨w.heap.size+1+1,6,none⟩ (vS A3 ns.length c3)).heap.size=w4.heap.size:=by simp[World.setCell]
 rw[hw5]at hx5 hr5 hl5 hb5 hsz5;obtain⟨o,ho⟩:∃ o:Opn,o={ zeroO with kind:=1,prec:=i,marks:=ns }:=⟨_,rfl⟩;have hx5:Box w5 (w.heap.size+1+1) 36 (o.cells A3 c3 none 0):=by rw[ho];exact hx5
 obtain⟨w6,hst,hx6,hg6⟩:=box_store aggOp hr5 rfl rfl (Opn.one o A3 c3 none 0);have hl6:ListIn iv (fun b=>w2.heap.size≤b∧b < w3.heap.size) w6 A3 ns:=hl5.agree fun b hb=>hg6.block b (by omega) (fun e=>by have:=Option.some.inj e;have:=HS2.out;omega);have hom:o.marks=ns:=by rw[ho]
 have hok:o.keep=[]:=by rw[ho];rfl
 have hV:OpV (fun b=>w.heap.size≤b∧b < w6.heap.size) w6 (.agg (o.cells A3 c3 none 0)) o:=by
  refine⟨A3,c3,none,0,rfl,?_,?_,?_,?_⟩
  ·rw[hom];exact hl6.mono fun b hb=>⟨by have:=HS2.out;omega,by have:=hg6.size;omega⟩
  ·rw[hom];exact hc3
  ·rw[hok];exact ListIn.nil _ _ _ _
  ·rw[hok];exact lR _
 have HV:=hide hV;have HLd:=hide (box_load aggOp hx5 rfl);have HSt:=hide hst;have HX6:=hide hx6;have HB6:=hide (below_grown hb5 hg6 (Nat.le_succ _));have HW4:=hide hw4;have HW5:=hide hw5;have HO:=hide ho;clear hx3 hr3 hx4 hr4 hl3 hl4 hb4 hsz4 hw5 hx5 hr5 hl5 hb5 hsz5 hst hx6 hg6 hl6 hV hom hok hO3 hb3 hL3 ho hw4;go_upto_region 40 with (fail);rw[HW5.out];go_wp2_with (first|((with_reducible refine gV 154 (.agg (o.cells A3 c3 none 0)) w5 ?_ ?_ ?_);rfl;exact gives_load rfl rfl HLd.out)|((with_reducible refine dS w6 ?_ ?_ ?_);rfl;exact does_store rfl rfl rfl HSt.out));refine bodyPost_ret (v:=.tuple #[.agg (o.cells A3 c3 none 0),.bool (decide (0≤i) && ok)]) (by refine results_ct (p:=6) (q:=7) ?_ ?_ (box_load aggOp HX6.out rfl) <;> rfl) rfl ?_;exact⟨_,rfl,by rw[HI.out,← HO.out];exact HV.out,HB6.out⟩
end
section
theorem aggE:AggT 30 14:=by
 refine⟨?_,fun w=>?_⟩
 ·have h:(pG.info? 30).map (fun i=>i.size)=some 14:=by kernel_rfl
  obtain⟨i0,h1,h2⟩:=Option.map_eq_some_iff.1 h;exact⟨i0,h1,h2⟩
 ·unfold isAgg;rw[Sem.run_bind,run_underlying Tryz.underlying30 w];rfl
def sSeed:ByteArray:=⟨#[115,101,101,100,32]⟩
def WordsTo (ecs:Array Value) (w0:World) (x0:ByteArray) (l:List ByteArray) (o:Opn) (ok:Bool):Prop:=
 ∀ (wq:World) (B:Option Addr) (d:Nat),Below w0.heap.size w0 wq→Strs wq B l→l.length≤d→d≤1000→
  Calls pG 24 #[.agg ecs,vT x0,vS B l.length d] wq fun en w'=>∃ v,en=.returned (.tuple #[v,.bool ok])∧OpV (fun i=>wq.heap.size≤i∧i < w'.heap.size) w' v o∧Below wq.heap.size wq w'
theorem EV.one (e:EV) (p c:Nat):OneC (e.cells p c):=by
 intro v hv;simp only[EV.cells,List.mem_cons,List.not_mem_nil,or_false]at hv;rcases hv with rfl|rfl|rfl|rfl|rfl|rfl|rfl|rfl|rfl|rfl|rfl|rfl|rfl|rfl <;> rfl
theorem parse_boxes {w:World}{e:EV}{p c:Nat}:∃ w1,(w.alloc (.cells (e.cells p c) 30)).alloc (.cells (zeroO.cells none 0 none 0) 36)=w1∧w1.heap.size=w.heap.size+1+1∧Below w.heap.size w w1∧
  Box w1 w.heap.size 30 (e.cells p c)∧Box w1 (w.heap.size+1) 36 (zeroO.cells none 0 none 0):=by
 refine⟨_,rfl,by simp,((bR _ _).alloc (lR _) _).alloc (by simp) _,?_,?_⟩
 ·exact(Box.new _ _ _).alloc _
 ·have:=Box.new (w.alloc (.cells (e.cells p c) 30)) 36 (zeroO.cells none 0 none 0);rwa [World.size_alloc]at this
def OBox (B:Nat) (w:World) (g:Nat) (o:Opn):Prop:=∃ A c D d,Box w g 36 (o.cells A c D d)∧OpV (fun i=>B≤i∧i < w.heap.size∧i≠g) w (.agg (o.cells A c D d)) o∧B≤g
theorem obox_of {B:Nat}{w w5:World}{g:Nat}{o:Opn}{A:Option Addr}{c:Nat}{D:Option Addr}{d:Nat}{F:Nat→Prop}(hV:OpV F w (.agg (o.cells A c D d)) o) (hX:Box w5 g 36 (o.cells A c D d)) (hg:w.grownBy w5 (some g)) (hF:∀ i,F i→B≤i∧i < w.heap.size∧i≠g) (hB:B≤g):OBox B w5 g o:=by
 refine⟨A,c,D,d,hX,?_,hB⟩;refine(hV.agree (F:=F) fun i hi=>hg.block i (hF i hi).2.1 fun e=>(hF i hi).2.2 (Option.some.inj e)).mono fun i hi=>⟨(hF i hi).1,lL (hF i hi).2.1 hg.size,(hF i hi).2.2⟩
set_option maxHeartbeats 16000000
set_option maxRecDepth 100000
theorem parse_words {e:EV}{P C:List ByteArray}{line x0:ByteArray}{l:List ByteArray}{o:Opn}{ok:Bool}{w:World}(hsz:line.size≤200) (hp:Lib.hasPrefix line.data.toList [115,101,101,100,32]=false) (hsp:splitW line=x0 :: l) (hM:Max w) (hW:WordsTo (e.cells P.length C.length) w x0 l o ok) :
  Calls pG 8 #[.agg (e.cells P.length C.length),vT line] w fun en w'=>∃ v,en=.returned (.tuple #[v,.bool ok])∧OpV (fun i=>w.heap.size≤i∧i < w'.heap.size) w' v (if ok=true then o else zeroO)∧Below w.heap.size w w':=by
 obtain⟨w1,hw1,hs1,hb1,hXe,hXr⟩:=parse_boxes (w:=w) (e:=e) (p:=P.length) (c:=C.length);have hS:=split_any (s:=line) (by omega) (hM.below hb1);rw[hsp]at hS;have HS:=hide hS;have HXe:=hide hXe;have HXr:=hide hXr;have HB1:=hide hb1;have HW1:=hide hw1;have HWd:=hide hW;have HCut:=hide (Tryz.strings_CutPrefix line sSeed w1);rw[show Lib.hasPrefix line.data.toList sSeed.data.toList=false from hp]at HCut;have hls:l.length≤200:=by have h1:=splitW_length line;have h2:=count_le_size line 32;rw[hsp,List.length_cons]at h1;have h3:Lib.countB line ⟨#[32]⟩≤line.size:=h2;omega
 clear hp hsp hM hW hw1 hb1 hXe hXr hS;obtain⟨ecs,hecs⟩:∃ q,q=e.cells P.length C.length:=⟨_,rfl⟩;rw[← hecs]at HWd;have HEc:=hide hecs;clear hecs;obtain⟨title,dots,blank,marked,pa,pc,ca,cc,sa,sn,sc,scanners,batch,neg,na,nn,nc,da,dn,dc,cell,seed⟩:=e;unfold EV.cells at *;simp only[]at *;go_enter Tryz.func8,Tryz.ntmps8;go_upto_region 1 with (fail);rw[show (w.alloc (.cells #[vT title,vI kI dots,vI kI blank,vI kI marked,vS pa P.length pc,vS ca C.length cc,vS sa sn sc,vI kI scanners,vI kI batch,.bool neg,vS na nn nc,vS da dn dc,vI kI cell,vT seed] 30)).alloc (.cells #[vI kI 0,vI kI 0,vI kI 0,vI kI 0,vI kI 0,vI kI 0,vS none 0 0,vS none 0 0,vB false,vB false,vB false,vT ⟨#[]⟩] 36)=w1 from HW1.out];go_wp2_with fail;refine HCut.out.mono ?_;rintro en wz ⟨rfl,hwz⟩;have hwz:=hwz.symm;subst hwz;go_wp2_with fail;refine HS.out.mono ?_;rintro en w2 ⟨b8,rfl,hS2,hb2⟩;rw[List.length_cons];have hXe2:=HXe.out.kept hb2;have hXr2:=HXr.out.kept hb2;have hs2:=hb2.size;obtain⟨b8',off8,e8,hb8,h08⟩:=hS2.at_ (k:=0) (by simp);obtain⟨b8'',off8',e8',hT8⟩:=hS2.tail;cases e8;cases e8';have h08:w2.cell? ⟨b8,0,none⟩=some (vT x0):=h08;have hb8:b8 < w2.heap.size:=hb8;have hd2:Below w2.heap.size w2 w2.drew:=below_drew (bR _ _) 1;have hsd:w2.drew.heap.size=w2.heap.size:=rfl;obtain⟨wa,hwa⟩:∃ q,(w2.alloc (.cells (zeroO.cells none 0 none 0) 36)).drew=q:=⟨_,rfl⟩;have hba:Below w2.heap.size w2 wa:=by rw[← hwa];exact below_drew ((bR _ _).alloc (lR _) _) 1
 have hXa:Box wa w2.heap.size 36 (zeroO.cells none 0 none 0):=by rw[← hwa];exact(Box.new w2 _ _).drew
 have hcell:Hid (∀ v,Below w2.heap.size w2 v→Box v w.heap.size 30 ecs∧v.cell? ⟨b8,0,none⟩=some (vT x0)):=fun v hv=>⟨by rw[HEc.out];exact hXe2.kept hv,(hv.cell (p:=⟨b8,0,none⟩) hb8).trans h08⟩;have HS0:=hide (hcell.out w2 (bR _ _));have HSa:=hide (hcell.out wa hba);have HWl:=hide (fun (wq:World) (h:Below w1.heap.size w1 wq) (B:Option Addr) (d:Nat)=>HWd.out wq B d (HB1.out.trans (h.mono HB1.out.size)));have HB2:=hide hb2;have HBa:=hide hba;have HXa:=hide hXa;have HXr2:=hide hXr2;have HT8:=hide hT8;have HWa:=hide hwa;have HL:Hid (l.length=0→l=[]):=fun e=>List.length_eq_zero_iff.1 e;clear hXe2 hXr2 hS2 hb2 hT8 hwa hba hXa hd2;by_cases hl0:l.length=0
 ·obtain rfl:=HL.out hl0;have HCA:=hide (HWl.out wa (HB2.out.trans (HBa.out.mono hs2)) (some ⟨b8,0,none⟩) 0 (ListIn.nil _ _ _ _) (lR _) (by omega));have HCB:=hide (HWl.out w2.drew (HB2.out.trans (below_drew (bR _ _) 1)) (some ⟨b8,0,none⟩) 0 (ListIn.nil _ _ _ _) (lR _) (by omega));go_upto_region 9 with (fail);go_cut [9,10] (fun v u wx=>∃ g:Nat,v=vP (some ⟨g,0,none⟩)∧u=.bool ok∧Hid (OBox w2.heap.size wx g o)∧Hid (Below w2.heap.size w2 wx));case first=>
   refine wp_region_held_drew (S:=fun v=>Box v w.heap.size 30 ecs∧v.cell? ⟨b8,0,none⟩=some (vT x0)) (by kernel_rfl) (HS0.out) (fun hH=>?_);refine wT 0 ?xv0 ?xy0 hH ?xr0;case xy0=>intro v hv;refine Eq.trans (b:=Result.ok (Next.value (.agg ecs)) v) (gives_load rfl rfl (box_load aggE hv.1 (by rw[HEc.out];rfl))) ?_;rfl
   try simp only[aP,aS,aZ,aU]
   refine wT 1 ?xv1 ?xy1 hH ?xr1;case xy1=>intro v hv;go_simp;rfl
   try simp only[aP,aS,aZ,aU]
   refine wT 2 ?xv2 ?xy2 hH ?xr2;case xy2=>intro v hv;go_simp;rfl
   try simp only[aP,aS,aZ,aU]
   refine wT 3 ?xv3 ?xy3 hH ?xr3;case xy3=>intro v hv;have q0:=hv.2;go_simp;rfl
   try simp only[aP,aS,aZ,aU]
   refine wT 4 ?xv4 ?xy4 hH ?xr4;case xy4=>intro v hv;go_simp;rfl
   try simp only[aP,aS,aZ,aU]
   refine wT 5 ?xv5 ?xy5 hH ?xr5;case xy5=>intro v hv;go_simp;rfl
   try simp only[aP,aS,aZ,aU]
   refine wS [6,10] (wC (fun K hK=>?xb6) (wC (fun K hK=>?xb10) (wN)));case xb6=>
    go_simp;refine HCB.out.mono ?_;rintro en w4 ⟨_,rfl,⟨A4,c4,D4,d4,rfl,hV4⟩,hb4⟩;have hb4':Below w2.heap.size w2 w4:=(below_drew (bR _ _) 1).trans hb4;have hN:=hcell.out w4 hb4';obtain⟨wb,hwb⟩:∃ q,w4.alloc (.cells (zeroO.cells none 0 none 0) 36)=q:=⟨_,rfl⟩;have hs4:w2.heap.size≤w4.heap.size:=hb4'.size;have hbb:Below w2.heap.size w2 wb:=by rw[← hwb];exact hb4'.alloc hs4 _
    have hXb:Box wb w4.heap.size 36 (zeroO.cells none 0 none 0):=by rw[← hwb];exact Box.new w4 _ _
    have hVb:OpV (fun i=>w2.heap.size≤i∧i < w4.heap.size) wb (.agg (o.cells A4 c4 D4 d4)) o:=by rw[← hwb];exact OpV.agree (show OpV (fun i=>w2.heap.size≤i∧i < w4.heap.size) w4 _ o from ⟨A4,c4,D4,d4,rfl,hV4⟩) fun i hi=>Below.heap_alloc w4 _ i hi.2
    obtain⟨w5,hst,hX5,hg5⟩:=box_store aggOp hXb rfl rfl (Opn.one o A4 c4 D4 d4);have HOB:=hide (obox_of (B:=w2.heap.size) hVb hX5 hg5 (fun i hi=>⟨hi.1,by have:=hXb.lt;omega,by omega⟩) hs4);have HBw:=hide (below_grown hbb hg5 hs4);have HSb:=hide (hcell.out wb hbb);have HWb:=hide hwb;have HS5:=hide (hcell.out w5 HBw.out);have HR5:=hide hst;clear hst hX5 hg5 hV4 hb4 hb4' hwb hbb hXb hVb hs4;refine hK.out _ _ hN fun hZ=>?_;clear hK hH hN K;have hH:=hZ;clear hZ;try simp only[aP,aS,aZ,aU]
    refine wT 7 ?xc6v7 ?xc6y7 hH ?xc6r7;case xc6y7=>intro v hv;go_simp;rfl
    try simp only[aP,aS,aZ,aU]
    refine wT 8 ?xc6v8 ?xc6y8 hH ?xc6r8;case xc6y8=>intro v hv;go_simp;rfl
    try simp only[aP,aS,aZ,aU]
    refine wT 9 ?xc6v9 ?xc6y9 hH ?xc6r9;case xc6y9=>intro v hv;go_simp;rfl
    try simp only[aP,aS,aZ,aU]
    refine wR 10 fun K hK=>?_;go_simp;rw[show w4.alloc (.cells #[vI kI 0,vI kI 0,vI kI 0,vI kI 0,vI kI 0,vI kI 0,vS none 0 0,vS none 0 0,vB false,vB false,vB false,vT ⟨#[]⟩] 36)=wb from HWb.out];have hN:=HSb.out;refine hK.out _ _ hN fun hZ=>?_;clear hK hH hN K;have hH:=hZ;clear hZ;try simp only[aP,aS,aZ,aU]
    refine wR 11 fun K hK=>?_;refine step_does rfl (does_store rfl rfl rfl HR5.out) ?_;have hN:=HS5.out;refine hK.out _ _ hN fun hZ=>?_;clear hK hH hN K;have hH:=hZ;clear hZ;try simp only[aP,aS,aZ,aU]
    refine wT 12 ?xc6v12 ?xc6y12 hH ?xc6r12;case xc6y12=>intro v hv;go_simp;rfl
    try simp only[aP,aS,aZ,aU]
    refine wpAnyH_done (by kernel_rfl) ?_ _;clear hH;go_wp2_with fail;go_meet;exact⟨_,rfl,rfl,HOB.out,HBw.out⟩
   case xb10=>
    go_simp;rw[show (w2.alloc (.cells #[vI kI 0,vI kI 0,vI kI 0,vI kI 0,vI kI 0,vI kI 0,vS none 0 0,vS none 0 0,vB false,vB false,vB false,vT ⟨#[]⟩] 36)).drew=wa from HWa.out];have hN:=HSa.out;refine hK.out _ _ hN fun hZ=>?_;clear hK hH hN K;have hH:=hZ;clear hZ;try simp only[aP,aS,aZ,aU]
    refine wR 6 fun K hK=>?_;go_simp;refine HCA.out.mono ?_;rintro en w4 ⟨_,rfl,⟨A4,c4,D4,d4,rfl,hV4⟩,hb4⟩;have hN:=hcell.out w4 (HBa.out.trans (hb4.mono HBa.out.size));obtain⟨w5,hst,hX5,hg5⟩:=box_store aggOp (HXa.out.kept hb4) rfl rfl (Opn.one o A4 c4 D4 d4);have HOB:=hide (obox_of (B:=w2.heap.size) (F:=fun i=>wa.heap.size≤i∧i < w4.heap.size) (show OpV _ w4 _ o from ⟨A4,c4,D4,d4,rfl,hV4⟩) hX5 hg5 (fun i hi=>⟨by have:=HBa.out.size;omega,hi.2,by have:=HXa.out.lt;omega⟩) (lR _));have HBw:=hide (below_grown (HBa.out.trans (hb4.mono HBa.out.size)) hg5 (lR _));have HS5:=hide (hcell.out w5 HBw.out);have HR5:=hide hst;clear hst hX5 hg5 hV4 hb4;refine hK.out _ _ hN fun hZ=>?_;clear hK hH hN K;have hH:=hZ;clear hZ;try simp only[aP,aS,aZ,aU]
    refine wT 7 ?xc10v7 ?xc10y7 hH ?xc10r7;case xc10y7=>intro v hv;go_simp;rfl
    try simp only[aP,aS,aZ,aU]
    refine wT 8 ?xc10v8 ?xc10y8 hH ?xc10r8;case xc10y8=>intro v hv;go_simp;rfl
    try simp only[aP,aS,aZ,aU]
    refine wT 9 ?xc10v9 ?xc10y9 hH ?xc10r9;case xc10y9=>intro v hv;go_simp;rfl
    try simp only[aP,aS,aZ,aU]
    refine wR 11 fun K hK=>?_;refine step_does rfl (does_store rfl rfl rfl HR5.out) ?_;have hN:=HS5.out;refine hK.out _ _ hN fun hZ=>?_;clear hK hH hN K;have hH:=hZ;clear hZ;try simp only[aP,aS,aZ,aU]
    refine wT 12 ?xc10v12 ?xc10y12 hH ?xc10r12;case xc10y12=>intro v hv;go_simp;rfl
    try simp only[aP,aS,aZ,aU]
    refine wpAnyH_done (by kernel_rfl) ?_ _;clear hH;go_wp2_with fail;go_meet;exact⟨_,rfl,rfl,HOB.out,HBw.out⟩
  case rest=>
   obtain⟨g9,rfl,rfl,HOB,HBx⟩:=hcut;obtain⟨A9,c9,D9,d9,hX9,hV9,hB9⟩:=HOB.out;have hXr9:=HXr2.out.kept HBx.out;have hg2:=HXr2.out.lt;have hBf:Below w.heap.size w wc:=(HB1.out.trans (HB2.out.mono HB1.out.size)).trans (HBx.out.mono (lT HB1.out.size hs2));have HBf:=hide hBf;cases ok with
   |true=>obtain⟨w6,hst,hX6,hg6⟩:=box_store aggOp hXr9 rfl rfl (Opn.one o A9 c9 D9 d9);have HLd:=hide (box_load aggOp hX9 rfl);have HSt:=hide hst;have HX6:=hide hX6;have HV6:=hide ((hV9.agree fun i hi=>hg6.block i hi.2.1 fun e=>by have:=Option.some.inj e;omega).mono fun i hi=>(⟨by omega,lL hi.2.1 hg6.size⟩:w.heap.size≤i∧i < w6.heap.size));have HB6:=hide (below_grown HBf.out hg6 (Nat.le_succ _));clear hX9 hV9 hXr9 hst hX6 hg6 hBf;go_wp2_with (first|((with_reducible refine gV 41 (.agg (o.cells A9 c9 D9 d9)) wc ?_ ?_ ?_);rfl;exact gives_load rfl rfl HLd.out)|((with_reducible refine dS w6 ?_ ?_ ?_);rfl;exact does_store rfl rfl rfl HSt.out));refine bodyPost_ret (v:=.tuple #[.agg (o.cells A9 c9 D9 d9),vB true]) (by refine results_ct (p:=4) (q:=5) ?_ ?_ (box_load aggOp HX6.out rfl) <;> rfl) rfl ?_;exact⟨_,rfl,HV6.out,HB6.out⟩
   |false=>obtain⟨w6,hst,hX6,hg6⟩:=box_store aggOp hXr9 rfl rfl (Opn.one zeroO none 0 none 0);have HSt:=hide hst;have HX6:=hide hX6;have HB6:=hide (below_grown HBf.out hg6 (Nat.le_succ _));clear hX9 hV9 hXr9 hst hX6 hg6 hBf;go_wp2_with ((with_reducible refine dS w6 ?_ ?_ ?_);rfl;exact does_store rfl rfl rfl HSt.out);refine bodyPost_ret (v:=.tuple #[.agg (zeroO.cells none 0 none 0),vB false]) (by refine results_ct (p:=4) (q:=5) ?_ ?_ (box_load aggOp HX6.out rfl) <;> rfl) rfl ?_;exact⟨_,rfl,opv_nil rfl rfl,HB6.out⟩
 ·have hl1:1 < l.length+1:=by omega
  have hl2:(1:Int)≤(l.length:Int)+1:=by omega
  have HCA:=hide (HWl.out wa (HB2.out.trans (HBa.out.mono hs2)) (some ⟨b8,1,none⟩) l.length (ListIn.below HT8.out HBa.out) (lR _) (by omega));have HCB:=hide (HWl.out w2.drew (HB2.out.trans (below_drew (bR _ _) 1)) (some ⟨b8,1,none⟩) l.length (ListIn.below HT8.out (below_drew (bR _ _) 1)) (lR _) (by omega));go_upto_region 9 with (fail);go_cut [9,10] (fun v u wx=>∃ g:Nat,v=vP (some ⟨g,0,none⟩)∧u=.bool ok∧Hid (OBox w2.heap.size wx g o)∧Hid (Below w2.heap.size w2 wx));case first=>
   refine wp_region_held_drew (S:=fun v=>Box v w.heap.size 30 ecs∧v.cell? ⟨b8,0,none⟩=some (vT x0)) (by kernel_rfl) (HS0.out) (fun hH=>?_);refine wT 0 ?yv0 ?yy0 hH ?yr0;case yy0=>intro v hv;refine Eq.trans (b:=Result.ok (Next.value (.agg ecs)) v) (gives_load rfl rfl (box_load aggE hv.1 (by rw[HEc.out];rfl))) ?_;rfl
   try simp only[aP,aS,aZ,aU]
   refine wT 1 ?yv1 ?yy1 hH ?yr1;case yy1=>intro v hv;go_simp;rfl
   try simp only[aP,aS,aZ,aU]
   refine wT 2 ?yv2 ?yy2 hH ?yr2;case yy2=>intro v hv;go_simp;rfl
   try simp only[aP,aS,aZ,aU]
   refine wT 3 ?yv3 ?yy3 hH ?yr3;case yy3=>intro v hv;have q0:=hv.2;go_simp;rfl
   try simp only[aP,aS,aZ,aU]
   refine wT 4 ?yv4 ?yy4 hH ?yr4;case yy4=>intro v hv;go_simp;rfl
   try simp only[aP,aS,aZ,aU]
   refine wT 5 ?yv5 ?yy5 hH ?yr5;case yy5=>intro v hv;go_simp;rfl
   try simp only[aP,aS,aZ,aU]
   refine wS [6,10] (wC (fun K hK=>?yb6) (wC (fun K hK=>?yb10) (wN)));case yb6=>
    go_simp;refine HCB.out.mono ?_;rintro en w4 ⟨_,rfl,⟨A4,c4,D4,d4,rfl,hV4⟩,hb4⟩;have hb4':Below w2.heap.size w2 w4:=(below_drew (bR _ _) 1).trans hb4;have hN:=hcell.out w4 hb4';obtain⟨wb,hwb⟩:∃ q,w4.alloc (.cells (zeroO.cells none 0 none 0) 36)=q:=⟨_,rfl⟩;have hs4:w2.heap.size≤w4.heap.size:=hb4'.size;have hbb:Below w2.heap.size w2 wb:=by rw[← hwb];exact hb4'.alloc hs4 _
    have hXb:Box wb w4.heap.size 36 (zeroO.cells none 0 none 0):=by rw[← hwb];exact Box.new w4 _ _
    have hVb:OpV (fun i=>w2.heap.size≤i∧i < w4.heap.size) wb (.agg (o.cells A4 c4 D4 d4)) o:=by rw[← hwb];exact OpV.agree (show OpV (fun i=>w2.heap.size≤i∧i < w4.heap.size) w4 _ o from ⟨A4,c4,D4,d4,rfl,hV4⟩) fun i hi=>Below.heap_alloc w4 _ i hi.2
    obtain⟨w5,hst,hX5,hg5⟩:=box_store aggOp hXb rfl rfl (Opn.one o A4 c4 D4 d4);have HOB:=hide (obox_of (B:=w2.heap.size) hVb hX5 hg5 (fun i hi=>⟨hi.1,by have:=hXb.lt;omega,by omega⟩) hs4);have HBw:=hide (below_grown hbb hg5 hs4);have HSb:=hide (hcell.out wb hbb);have HWb:=hide hwb;have HS5:=hide (hcell.out w5 HBw.out);have HR5:=hide hst;clear hst hX5 hg5 hV4 hb4 hb4' hwb hbb hXb hVb hs4;refine hK.out _ _ hN fun hZ=>?_;clear hK hH hN K;have hH:=hZ;clear hZ;try simp only[aP,aS,aZ,aU]
    refine wT 7 ?yc6v7 ?yc6y7 hH ?yc6r7;case yc6y7=>intro v hv;go_simp;rfl
    try simp only[aP,aS,aZ,aU]
    refine wT 8 ?yc6v8 ?yc6y8 hH ?yc6r8;case yc6y8=>intro v hv;go_simp;rfl
    try simp only[aP,aS,aZ,aU]
    refine wT 9 ?yc6v9 ?yc6y9 hH ?yc6r9;case yc6y9=>intro v hv;go_simp;rfl
    try simp only[aP,aS,aZ,aU]
    refine wR 10 fun K hK=>?_;go_simp;rw[show w4.alloc (.cells #[vI kI 0,vI kI 0,vI kI 0,vI kI 0,vI kI 0,vI kI 0,vS none 0 0,vS none 0 0,vB false,vB false,vB false,vT ⟨#[]⟩] 36)=wb from HWb.out];have hN:=HSb.out;refine hK.out _ _ hN fun hZ=>?_;clear hK hH hN K;have hH:=hZ;clear hZ;try simp only[aP,aS,aZ,aU]
    refine wR 11 fun K hK=>?_;refine step_does rfl (does_store rfl rfl rfl HR5.out) ?_;have hN:=HS5.out;refine hK.out _ _ hN fun hZ=>?_;clear hK hH hN K;have hH:=hZ;clear hZ;try simp only[aP,aS,aZ,aU]
    refine wT 12 ?yc6v12 ?yc6y12 hH ?yc6r12;case yc6y12=>intro v hv;go_simp;rfl
    try simp only[aP,aS,aZ,aU]
    refine wpAnyH_done (by kernel_rfl) ?_ _;clear hH;go_wp2_with fail;go_meet;exact⟨_,rfl,rfl,HOB.out,HBw.out⟩
   case yb10=>
    go_simp;rw[show (w2.alloc (.cells #[vI kI 0,vI kI 0,vI kI 0,vI kI 0,vI kI 0,vI kI 0,vS none 0 0,vS none 0 0,vB false,vB false,vB false,vT ⟨#[]⟩] 36)).drew=wa from HWa.out];have hN:=HSa.out;refine hK.out _ _ hN fun hZ=>?_;clear hK hH hN K;have hH:=hZ;clear hZ;try simp only[aP,aS,aZ,aU]
    refine wR 6 fun K hK=>?_;go_simp;refine HCA.out.mono ?_;rintro en w4 ⟨_,rfl,⟨A4,c4,D4,d4,rfl,hV4⟩,hb4⟩;have hN:=hcell.out w4 (HBa.out.trans (hb4.mono HBa.out.size));obtain⟨w5,hst,hX5,hg5⟩:=box_store aggOp (HXa.out.kept hb4) rfl rfl (Opn.one o A4 c4 D4 d4);have HOB:=hide (obox_of (B:=w2.heap.size) (F:=fun i=>wa.heap.size≤i∧i < w4.heap.size) (show OpV _ w4 _ o from ⟨A4,c4,D4,d4,rfl,hV4⟩) hX5 hg5 (fun i hi=>⟨by have:=HBa.out.size;omega,hi.2,by have:=HXa.out.lt;omega⟩) (lR _));have HBw:=hide (below_grown (HBa.out.trans (hb4.mono HBa.out.size)) hg5 (lR _));have HS5:=hide (hcell.out w5 HBw.out);have HR5:=hide hst;clear hst hX5 hg5 hV4 hb4;refine hK.out _ _ hN fun hZ=>?_;clear hK hH hN K;have hH:=hZ;clear hZ;try simp only[aP,aS,aZ,aU]
    refine wT 7 ?yc10v7 ?yc10y7 hH ?yc10r7;case yc10y7=>intro v hv;go_simp;rfl
    try simp only[aP,aS,aZ,aU]
    refine wT 8 ?yc10v8 ?yc10y8 hH ?yc10r8;case yc10y8=>intro v hv;go_simp;rfl
    try simp only[aP,aS,aZ,aU]
    refine wT 9 ?yc10v9 ?yc10y9 hH ?yc10r9;case yc10y9=>intro v hv;go_simp;rfl
    try simp only[aP,aS,aZ,aU]
    refine wR 11 fun K hK=>?_;refine step_does rfl (does_store rfl rfl rfl HR5.out) ?_;have hN:=HS5.out;refine hK.out _ _ hN fun hZ=>?_;clear hK hH hN K;have hH:=hZ;clear hZ;try simp only[aP,aS,aZ,aU]
    refine wT 12 ?yc10v12 ?yc10y12 hH ?yc10r12;case yc10y12=>intro v hv;go_simp;rfl
    try simp only[aP,aS,aZ,aU]
    refine wpAnyH_done (by kernel_rfl) ?_ _;clear hH;go_wp2_with fail;go_meet;exact⟨_,rfl,rfl,HOB.out,HBw.out⟩
  case rest=>
   obtain⟨g9,rfl,rfl,HOB,HBx⟩:=hcut;obtain⟨A9,c9,D9,d9,hX9,hV9,hB9⟩:=HOB.out;have hXr9:=HXr2.out.kept HBx.out;have hg2:=HXr2.out.lt;have hBf:Below w.heap.size w wc:=(HB1.out.trans (HB2.out.mono HB1.out.size)).trans (HBx.out.mono (lT HB1.out.size hs2));have HBf:=hide hBf;cases ok with
   |true=>obtain⟨w6,hst,hX6,hg6⟩:=box_store aggOp hXr9 rfl rfl (Opn.one o A9 c9 D9 d9);have HLd:=hide (box_load aggOp hX9 rfl);have HSt:=hide hst;have HX6:=hide hX6;have HV6:=hide ((hV9.agree fun i hi=>hg6.block i hi.2.1 fun e=>by have:=Option.some.inj e;omega).mono fun i hi=>(⟨by omega,lL hi.2.1 hg6.size⟩:w.heap.size≤i∧i < w6.heap.size));have HB6:=hide (below_grown HBf.out hg6 (Nat.le_succ _));clear hX9 hV9 hXr9 hst hX6 hg6 hBf;go_wp2_with (first|((with_reducible refine gV 41 (.agg (o.cells A9 c9 D9 d9)) wc ?_ ?_ ?_);rfl;exact gives_load rfl rfl HLd.out)|((with_reducible refine dS w6 ?_ ?_ ?_);rfl;exact does_store rfl rfl rfl HSt.out));refine bodyPost_ret (v:=.tuple #[.agg (o.cells A9 c9 D9 d9),vB true]) (by refine results_ct (p:=4) (q:=5) ?_ ?_ (box_load aggOp HX6.out rfl) <;> rfl) rfl ?_;exact⟨_,rfl,HV6.out,HB6.out⟩
   |false=>obtain⟨w6,hst,hX6,hg6⟩:=box_store aggOp hXr9 rfl rfl (Opn.one zeroO none 0 none 0);have HSt:=hide hst;have HX6:=hide hX6;have HB6:=hide (below_grown HBf.out hg6 (Nat.le_succ _));clear hX9 hV9 hXr9 hst hX6 hg6 hBf;go_wp2_with ((with_reducible refine dS w6 ?_ ?_ ?_);rfl;exact does_store rfl rfl rfl HSt.out);refine bodyPost_ret (v:=.tuple #[.agg (zeroO.cells none 0 none 0),vB false]) (by refine results_ct (p:=4) (q:=5) ?_ ?_ (box_load aggOp HX6.out rfl) <;> rfl) rfl ?_;exact⟨_,rfl,opv_nil rfl rfl,HB6.out⟩
end
section
def nameV (l:List ByteArray) (i:Int):ByteArray:=if i < 0∨(l.length:Int)≤i then ⟨#[37]⟩ else escS (l.getD i.toNat default)
set_option maxHeartbeats 2000000
set_option maxRecDepth 100000
theorem name_any {A:Option Addr}{c:Nat}{l:List ByteArray}{i:Int}{w:World}(h:Strs w A l) (hn:∀ n ∈ l,n.size≤3000000) (hM:Max w) :
  Calls pG 70 #[vS A l.length c,vI kI i] w fun e w'=>e=.returned (vT (nameV l i))∧Below w.heap.size w w':=by
 by_cases hi:i < 0∨(l.length:Int)≤i
 ·have hv:nameV l i=⟨#[37]⟩:=if_pos hi;have HV:=hide hv;clear hv;go_enter Tryz.func70,Tryz.ntmps70;rcases hi with hi|hi
  ·go_wp2_with fail;go_ret;exact⟨by rw[HV.out];rfl,bR _ _⟩
  ·have hi0:¬ i < 0:=by omega
   go_wp2_with fail;go_ret;exact⟨by rw[HV.out];rfl,bR _ _⟩
 ·obtain⟨k,rfl⟩:∃ k:Nat,i=(k:Int):=⟨i.toNat,by omega⟩;have hk:k < l.length:=by omega
  have hv:nameV l (k:Int)=escS (l.getD k default):=by unfold nameV;rw[if_neg hi];rfl
  have HV:=hide hv;obtain⟨b,off,rfl,hb,h0⟩:=h.at_ hk;have HE:=hide (escape_any (w:=w) (hn _ (getD_memD hk)) hM);clear hv h hn hM hi;generalize l.getD k default=nm at *;go_enter Tryz.func70,Tryz.ntmps70;go_wp2_with fail;refine HE.out.mono ?_;rintro e w1 ⟨rfl,hb1⟩;have HB1:=hide hb1;clear hb1;go_wp2_with fail;go_ret;exact⟨by rw[HV.out];rfl,HB1.out⟩
end
section
def itS (n:Int):ByteArray:=⟨(Lib.itoa n).toArray⟩
def ItoaTo (w0:World) (n:Int):Prop:=∀ wq,Below w0.heap.size w0 wq→Calls pG 69 #[vI kI n] wq fun e w'=>e=.returned (vT (itS n))∧Below wq.heap.size wq w'
theorem ItoaTo.small {w0:World}{n:Int}(h0:0≤n) (h1:n < 100):ItoaTo w0 n:=fun wq _=>by
 obtain⟨k,rfl⟩:∃ k:Nat,n=(k:Int):=⟨n.toNat,by omega⟩;refine(Tryz.strconv_Itoa_small k (by omega) wq).mono ?_;rintro e w' ⟨rfl,rfl⟩;refine⟨?_,bR _ _⟩;unfold itS Lib.itoa;rw[if_neg (by omega)];rfl
theorem ItoaTo.later {w0 w1:World}{n:Int}(h:ItoaTo w0 n) (hb:Below w0.heap.size w0 w1):ItoaTo w1 n:=fun wq hq=>h wq (hb.trans (hq.mono hb.size))
theorem own_new2 {α:Type} [Inhabited α] {enc:α→Value}{ty:TypeId}(w:World) (x y:α):OwnE enc ty w.heap.size (w.alloc (.cells #[enc x,enc y] ty)) (vS (some ⟨w.heap.size,0,none⟩) 2 2) [x,y]:=
 ⟨rfl,.inr ⟨w.heap.size,2,#[enc x,enc y],rfl,lR _,heap_alloc_new w _,lR _,by unfold maxLen;omega,rfl,rfl⟩⟩
def sIssue:ByteArray:=⟨#[105,115,115,117,101]⟩
set_option maxHeartbeats 8000000
set_option maxRecDepth 100000
theorem written_issue {e:EV}{P C:List ByteArray}{o:Opn}{A:Option Addr}{c:Nat}{D:Option Addr}{d:Nat}{w:World}(hk:o.kind=1) (hE:Elec w e P C) (hPn:∀ n ∈ P,n.size≤3000000) (hM:Max w) (hms:ListIn iv (All w) w A o.marks) (hml:o.marks.length≤1000) (hs:ItoaTo w o.scan) (hn:ItoaTo w o.n) (hm:∀ n ∈ o.marks,ItoaTo w n) :
  Calls pG 30 #[.agg (e.cells P.length C.length),.agg (o.cells A c D d)] w fun en w'=>∃ v,en=.returned v∧OwnE Value.string 9 w.heap.size w' v ([sIssue,nameV P o.prec] ++ o.marks.map itS)∧Below w.heap.size w w':=by
 obtain⟨kind,prec,cont,scan,n,lie,marks,keep,lose,deaf,twice,text⟩:=o;simp only[]at *;subst hk;obtain⟨w1,hw1⟩:∃ q,(w.alloc (.cells (e.cells P.length C.length) 30)).alloc (.cells (Opn.cells ⟨1,prec,cont,scan,n,lie,marks,keep,lose,deaf,twice,text⟩ A c D d) 36)=q:=⟨_,rfl⟩;have hb1:Below w.heap.size w w1:=by rw[← hw1];exact((bR _ _).alloc (lR _) _).alloc (by simp) _
 have hXe:Box w1 w.heap.size 30 (e.cells P.length C.length):=by rw[← hw1];exact(Box.new _ _ _).alloc _
 have hXo:Box w1 (w.heap.size+1) 36 (Opn.cells ⟨1,prec,cont,scan,n,lie,marks,keep,lose,deaf,twice,text⟩ A c D d):=by have:=Box.new (w.alloc (.cells (e.cells P.length C.length) 30)) 36 (Opn.cells ⟨1,prec,cont,scan,n,lie,marks,keep,lose,deaf,twice,text⟩ A c D d);rw[World.size_alloc,hw1]at this;exact this
 have HXe:=hide hXe;have HXo:=hide hXo;have HB1:=hide hb1;have HW1:=hide hw1;have HS:=hide (hs.later hb1);have HN:=hide (hn.later hb1);have HM:=hide (fun x hx=>(hm x hx).later hb1);have HNm:=hide (fun (wq:World) (hq:Below w1.heap.size w1 wq)=>name_any (c:=e.pc) (i:=prec) (w:=wq) (ListIn.below hE.1 (hb1.trans (hq.mono hb1.size))) hPn (hM.below (hb1.trans (hq.mono hb1.size))));have HL:=hide (ListIn.below hms hb1);have e4:=hXe.cell 4;have o0:=hXo.cell 0;have o1:=hXo.cell 1;have o3:=hXo.cell 3;have o4:=hXo.cell 4;have o6:=hXo.cell 6;have hcell:Hid (∀ v,Below w1.heap.size w1 v→v.cell? ⟨w.heap.size,4,none⟩=some (vS e.pa P.length e.pc)∧v.cell? ⟨w.heap.size+1,0,none⟩=some (vI kI 1)∧v.cell? ⟨w.heap.size+1,1,none⟩=some (vI kI prec)∧v.cell? ⟨w.heap.size+1,6,none⟩=some (vS A marks.length c)∧v.cell? ⟨w.heap.size+1,3,none⟩=some (vI kI scan)∧v.cell? ⟨w.heap.size+1,4,none⟩=some (vI kI n)):=fun v hv=>⟨(hXe.kept hv).cell 4,(hXo.kept hv).cell 0,(hXo.kept hv).cell 1,(hXo.kept hv).cell 6,(hXo.kept hv).cell 3,(hXo.kept hv).cell 4⟩;clear hE hPn hM hms hs hn hm hw1 hb1 hXe hXo e4 o0 o1 o3 o4 o6;obtain⟨title,dots,blank,marked,pa,pc,ca,cc,sa,sn,sc,scanners,batch,neg,na,nn,nc,da,dn,dc,cell,seed⟩:=e;unfold EV.cells at *;unfold Opn.cells at *;simp only[]at *;obtain⟨_,_,_,_,p3,p4⟩:=hcell.out w1 (bR _ _);have hCS:=hide (fun (wq:World) (hq:Below w1.heap.size w1 wq)=>(HS.out wq hq).mono (fun e w2 (h:e=.returned (vT (itS scan))∧Below wq.heap.size wq w2)=>(show e=.returned (vT (itS scan))∧(w2.cell? ⟨w.heap.size+1,3,none⟩=some (vI kI scan)∧w2.cell? ⟨w.heap.size+1,4,none⟩=some (vI kI n))∧Hid (Below w1.heap.size w1 w2) from
  have hb:=hq.trans (h.2.mono hq.size)
  ⟨h.1,⟨(hcell.out w2 hb).2.2.2.2.1,(hcell.out w2 hb).2.2.2.2.2⟩,hb⟩)))
 have hCN:=hide (fun (wq:World) (hq:Below w1.heap.size w1 wq)=>(HN.out wq hq).mono (fun e w2 (h:e=.returned (vT (itS n))∧Below wq.heap.size wq w2)=>(show e=.returned (vT (itS n))∧(w2.cell? ⟨w.heap.size+1,3,none⟩=some (vI kI scan)∧w2.cell? ⟨w.heap.size+1,4,none⟩=some (vI kI n))∧Hid (Below w1.heap.size w1 w2) from
  have hb:=hq.trans (h.2.mono hq.size)
  ⟨h.1,⟨(hcell.out w2 hb).2.2.2.2.1,(hcell.out w2 hb).2.2.2.2.2⟩,hb⟩)))
 go_enter Tryz.func30,Tryz.ntmps30;go_upto_region 1 with (fail);rw[HW1.out];go_region_held_law (fun w'=>w'.cell? ⟨w.heap.size+1,3,none⟩=some (vI kI scan)∧w'.cell? ⟨w.heap.size+1,4,none⟩=some (vI kI n))
  (first|exact⟨by assumption,by assumption⟩|assumption|go_keep)
  (first|(go_at_call 69;refine(hCS.out _ (below_drew (bR _ _) 1)).mono ?_;rintro e w2 ⟨rfl,hc2,hb2⟩)|(go_at_call 69;refine(hCN.out _ hb2.out).mono ?_;rintro e w3 ⟨rfl,hc3,hb3⟩))
 have HBw3:=hb3;have HN3:=hide (HNm.out w3 HBw3.out);obtain⟨q4,q0,q1,q6,_,_⟩:=hcell.out w3 HBw3.out;clear HXe HXo hCS hCN HS HN HNm;generalize hnm:nameV P prec=nm at *;have HNm2:=hide hnm;clear hnm;generalize itS scan=s1 at *;generalize itS n=s2 at *;go_wp2_with fail;refine HN3.out.mono ?_;rintro en w4 ⟨rfl,hb4⟩;have hB4:Below w1.heap.size w1 w4:=HBw3.out.trans (hb4.mono HBw3.out.size);obtain⟨r4,r0,r1,r6,_,_⟩:=hcell.out w4 hB4;have hO5:=own_new2 (enc:=Value.string) (ty:=9) w4 (⟨#[105,115,115,117,101]⟩:ByteArray) nm;have hb5:Below w4.heap.size w4 (w4.alloc (.cells #[vT ⟨#[105,115,115,117,101]⟩,vT nm] 9)):=(bR _ _).alloc (lR _) _;obtain⟨t4,t0,t1,t6,_,_⟩:=hcell.out _ (hB4.trans (hb5.mono hB4.size));have HO5:=hide hO5;have HB5:=hide hb5;have HB4:=hide hB4;clear hb4 hO5 hb5 hB4;go_wp2_with fail;go_loopw [7,9,32] (fun o _ i wr=>∃ k:Nat,k≤marks.length∧i=vI kI k∧∃ v:Value,o=v∧Hid (OwnE Value.string 9 w4.heap.size wr v ([sIssue,nm] ++ (marks.take k).map itS))∧Hid (Below w4.heap.size w4 wr)) (fun _ _ i _=>marks.length - (iOf i).toNat);case atStart=>exact⟨0,zL _,rfl,_,rfl,HO5.out,HB5.out⟩
 case round=>
  obtain⟨k,hk,rfl,v,rfl,HO,HB⟩:=hrel;have hBr:Below w1.heap.size w1 wr:=HB4.out.trans (HB.out.mono HB4.out.size);have hs4:=HB.out.size;by_cases hlt:k < marks.length
  ·obtain⟨b,off,rfl,hb,h0⟩:=HL.out.at_ hlt;have h0:=(hBr.cell (p:=⟨b,off+k,none⟩) hb).trans h0;have HI:=hide (HM.out _ (getD_memD hlt) wr hBr);have hlen:([sIssue,nm] ++ (marks.take k).map itS).length=k+2:=by rw[List.length_append,List.length_map,List.length_take];simp;omega
   have hts:Hid ([sIssue,nm] ++ (marks.take (k+1)).map itS=([sIssue,nm] ++ (marks.take k).map itS) ++ [itS (marks.getD k default)]):=by rw[Hid,take_succD hlt,List.map_append,List.append_assoc];rfl
   have HP:=hide (fun (wq:World) (hq:Below wr.heap.size wr wq)=>push_str (HO.out.kept hq) (lT hs4 hq.size) (by omega) 22 (itS (marks.getD k default)));rw[hlen]at HP;rw[← hts.out]at HP;clear hts hBr;generalize itS (marks.getD k default)=ms at *;simp only[iv]at h0;generalize marks.getD k default=mk at *;go_wp2_with fail;refine HI.out.mono ?_;rintro en w6 ⟨rfl,hb6⟩;obtain⟨A7,c7,w7,hr7,hO7,hb7⟩:=HP.out w6 hb6;have HR7:=hide hr7;have HO7:=hide hO7;have HB7:=hide ((HB.out.trans (hb6.mono hs4)).trans hb7);clear hb6 hr7 hO7 hb7;go_wp2_with ((with_reducible refine gV 40 (Value.slice A7 (k+2+1) c7) w7 ?_ ?_ ?_);rfl;exact gives_append rfl rfl rfl HR7.out);go_roundw;case rel=>exact⟨k+1,by omega,by go_num,_,rfl,HO7.out,HB7.out⟩
   case measure=>simp[iOf];omega
  ·obtain rfl:k=marks.length:=by omega
   have hO:=HO.out;rw[List.take_length]at hO;have HO:=hide (hO.lower (show w.heap.size≤w4.heap.size from lT HB1.out.size HB4.out.size));have HBf:=hide (HB1.out.trans (hBr.mono HB1.out.size));clear hO hBr;go_wp2_with fail;go_ret;exact⟨_,rfl,by rw[HNm2.out];exact HO.out,HBf.out⟩
end
section
theorem ext_getD {α:Type} [Inhabited α] {xs ys:List α}(hl:xs.length=ys.length) (h:∀ i,i < xs.length→xs.getD i default=ys.getD i default):xs=ys:=by
 refine List.ext_getElem hl fun i h1 h2=>?_;have:=h i h1;rw[List.getD_eq_getElem?_getD,List.getD_eq_getElem?_getD,List.getElem?_eq_getElem h1,List.getElem?_eq_getElem h2]at this;exact this
set_option maxHeartbeats 2000000
set_option maxRecDepth 100000
theorem eqI_any {A B:Option Addr}{c d:Nat}{l m:List Int}{w:World}(h:ListIn iv (All w) w A l) (h':ListIn iv (All w) w B m) (hl:l.length≤1000000) (hm:m.length≤1000000) :
  Calls pG 72 #[vS A l.length c,vS B m.length d] w fun e w'=>e=.returned (.bool (decide (l=m)))∧Drew w w':=by
 have H:=hide h;have H':=hide h';clear h h';go_enter Tryz.func72,Tryz.ntmps72;by_cases hlm:l.length=m.length
 ·have HLM:=hide hlm;have hb:((l.length:Int) != (l.length:Int))=false:=by simp
  rw[← hlm];clear hlm;go_wp2_with fail;go_loopw [5,13] (fun _ i wr=>∃ k:Nat,k≤l.length∧i=vI kI k∧Hid (∀ j,j < k→l.getD j default=m.getD j default)∧Hid (Drew w wr)) (fun _ i _=>l.length - (iOf i).toNat);case atStart=>exact⟨0,zL _,rfl,(fun j hj=>absurd hj (by omega)),Drew.refl _⟩
  case round=>
   obtain⟨k,hk,rfl,HA,HD⟩:=hrel;by_cases hlt:k < l.length
   ·obtain⟨b,off,rfl,hb1,h0⟩:=H.out.at_ hlt;obtain⟨b',off',rfl,hb2,h0'⟩:=H'.out.at_ (show k < m.length by have:=HLM.out;omega);have h0:=(HD.out.below.cell (p:=⟨b,off+k,none⟩) hb1).trans h0;have h0':=(HD.out.below.cell (p:=⟨b',off'+k,none⟩) hb2).trans h0';have HY:Hid (l.getD k default=m.getD k default→∀ j,j < k+1→l.getD j default=m.getD j default):=fun e j hj=>by
     by_cases e2:j=k
     ·rw[e2];exact e
     ·exact HA.out j (by omega)
    have HN:Hid (¬ l.getD k default=m.getD k default→decide (l=m)=false):=fun e=>decide_eq_false fun e2=>e (by rw[e2]);simp only[iv]at h0 h0';generalize l.getD k default=x at *;generalize m.getD k default=y at *;by_cases e:x=y
    ·have hy:=hide (HY.out e);have hne:(x != y)=false:=by rw[e];simp
     clear e;go_upto_region 6 with (fail);go_quiet (fail);go_wp2_with fail;go_roundw;case rel=>exact⟨k+1,by omega,by go_num,hy.out,HD.out.drew _⟩
     case measure=>simp[iOf];omega
    ·have hn:=hide (HN.out e);have hne:(x != y)=true:=bne_iff_ne.2 e;clear e;go_upto_region 6 with (fail);go_quiet (fail);go_wp2_with fail;go_ret;exact⟨by rw[hn.out];rfl,HD.out.drew _⟩
   ·obtain rfl:k=l.length:=by omega
    have HE:Hid (decide (l=m)=true):=decide_eq_true (ext_getD HLM.out HA.out);go_wp2_with fail;go_ret;exact⟨by rw[HE.out];rfl,HD.out⟩
 ·have hb:((l.length:Int) != (m.length:Int))=true:=bne_iff_ne.2 (by omega);have HN:Hid (decide (l=m)=false):=decide_eq_false fun e=>hlm (by rw[e]);clear hlm;go_wp2_with fail;go_ret;exact⟨by rw[HN.out];rfl,Drew.refl _⟩
theorem eqB_any {A B:Option Addr}{c d:Nat}{l m:List Bool}{w:World}(h:ListIn Value.bool (All w) w A l) (h':ListIn Value.bool (All w) w B m) (hl:l.length≤1000000) (hm:m.length≤1000000) :
  Calls pG 73 #[vS A l.length c,vS B m.length d] w fun e w'=>e=.returned (.bool (decide (l=m)))∧Drew w w':=by
 have H:=hide h;have H':=hide h';clear h h';go_enter Tryz.func73,Tryz.ntmps73;by_cases hlm:l.length=m.length
 ·have HLM:=hide hlm;have hb:((l.length:Int) != (l.length:Int))=false:=by simp
  rw[← hlm];clear hlm;go_wp2_with fail;go_loopw [5,13] (fun _ i wr=>∃ k:Nat,k≤l.length∧i=vI kI k∧Hid (∀ j,j < k→l.getD j default=m.getD j default)∧Hid (Drew w wr)) (fun _ i _=>l.length - (iOf i).toNat);case atStart=>exact⟨0,zL _,rfl,(fun j hj=>absurd hj (by omega)),Drew.refl _⟩
  case round=>
   obtain⟨k,hk,rfl,HA,HD⟩:=hrel;by_cases hlt:k < l.length
   ·obtain⟨b,off,rfl,hb1,h0⟩:=H.out.at_ hlt;obtain⟨b',off',rfl,hb2,h0'⟩:=H'.out.at_ (show k < m.length by have:=HLM.out;omega);have h0:=(HD.out.below.cell (p:=⟨b,off+k,none⟩) hb1).trans h0;have h0':=(HD.out.below.cell (p:=⟨b',off'+k,none⟩) hb2).trans h0';have HY:Hid (l.getD k default=m.getD k default→∀ j,j < k+1→l.getD j default=m.getD j default):=fun e j hj=>by
     by_cases e2:j=k
     ·rw[e2];exact e
     ·exact HA.out j (by omega)
    have HN:Hid (¬ l.getD k default=m.getD k default→decide (l=m)=false):=fun e=>decide_eq_false fun e2=>e (by rw[e2]);skip;generalize l.getD k default=x at *;generalize m.getD k default=y at *;cases x <;> cases y
    ·have hy:=hide (HY.out rfl);go_upto_region 6 with (fail);go_quiet (fail);go_wp2_with fail;go_roundw;case rel=>exact⟨k+1,by omega,by go_num,hy.out,HD.out.drew _⟩
     case measure=>simp[iOf];omega
    ·have hn:=hide (HN.out (by simp));go_upto_region 6 with (fail);go_quiet (fail);go_wp2_with fail;go_ret;exact⟨by rw[hn.out];rfl,HD.out.drew _⟩
    ·have hn:=hide (HN.out (by simp));go_upto_region 6 with (fail);go_quiet (fail);go_wp2_with fail;go_ret;exact⟨by rw[hn.out];rfl,HD.out.drew _⟩
    ·have hy:=hide (HY.out rfl);go_upto_region 6 with (fail);go_quiet (fail);go_wp2_with fail;go_roundw;case rel=>exact⟨k+1,by omega,by go_num,hy.out,HD.out.drew _⟩
     case measure=>simp[iOf];omega
   ·obtain rfl:k=l.length:=by omega
    have HE:Hid (decide (l=m)=true):=decide_eq_true (ext_getD HLM.out HA.out);go_wp2_with fail;go_ret;exact⟨by rw[HE.out];rfl,HD.out⟩
 ·have hb:((l.length:Int) != (m.length:Int))=true:=bne_iff_ne.2 (by omega);have HN:Hid (decide (l=m)=false):=decide_eq_false fun e=>hlm (by rw[e]);clear hlm;go_wp2_with fail;go_ret;exact⟨by rw[HN.out];rfl,Drew.refl _⟩
set_option maxHeartbeats 200000
set_option maxRecDepth 512
theorem op_boxes {w:World}{a b:Opn}{A:Option Addr}{c:Nat}{D:Option Addr}{d:Nat}{A':Option Addr}{c':Nat}{D':Option Addr}{d':Nat}:∃ w1,(w.alloc (.cells (a.cells A c D d) 36)).alloc (.cells (b.cells A' c' D' d') 36)=w1∧Below w.heap.size w w1∧Box w1 w.heap.size 36 (a.cells A c D d)∧Box w1 (w.heap.size+1) 36 (b.cells A' c' D' d'):=by
 refine⟨_,rfl,((bR _ _).alloc (lR _) _).alloc (by simp) _,(Box.new _ _ _).alloc _,?_⟩;have:=Box.new (w.alloc (.cells (a.cells A c D d) 36)) 36 (b.cells A' c' D' d');rwa [World.size_alloc]at this
set_option maxHeartbeats 8000000
set_option maxRecDepth 100000
theorem same_eq {o:Opn}{u v:Value}{w:World}(hu:OpV (All w) w u o) (hv:OpV (All w) w v o) (hm:o.marks.length≤1000000) (hk:o.keep.length≤1000000) :
  Calls pG 31 #[u,v] w fun e w'=>e=.returned (vB true)∧Below w.heap.size w w':=by
 obtain⟨A,c,D,d,rfl,hA,_,hD,_⟩:=hu;obtain⟨A',c',D',d',rfl,hA',_,hD',_⟩:=hv;obtain⟨w1,hw1,hb1,hX,hY⟩:=op_boxes (w:=w) (a:=o) (b:=o) (A:=A) (c:=c) (D:=D) (d:=d) (A':=A') (c':=c') (D':=D') (d':=d');have HI:=hide (fun (wq:World) (hq:Drew w1 wq)=>eqI_any (c:=c) (d:=c') (w:=wq) (ListIn.below hA (hb1.trans (hq.below.mono hb1.size))) (ListIn.below hA' (hb1.trans (hq.below.mono hb1.size))) hm hm);have HB:=hide (fun (wq:World) (hq:Drew w1 wq)=>eqB_any (c:=d) (d:=d') (w:=wq) (ListIn.below hD (hb1.trans (hq.below.mono hb1.size))) (ListIn.below hD' (hb1.trans (hq.below.mono hb1.size))) hk hk);rw[decide_eq_true rfl]at HI HB;have HB1:=hide hb1;have HW1:=hide hw1;have HX:=hide hX;have HY:=hide hY;clear hA hA' hD hD' hw1 hb1 hX hY hm hk;obtain⟨kind,prec,cont,scan,n,lie,marks,keep,lose,deaf,twice,text⟩:=o;unfold Opn.cells at *;simp only[]at *;have x0:=HX.out.cell 0;have x1:=HX.out.cell 1;have x2:=HX.out.cell 2;have x3:=HX.out.cell 3;have x4:=HX.out.cell 4;have x5:=HX.out.cell 5;have x6:=HX.out.cell 6;have x7:=HX.out.cell 7;have x8:=HX.out.cell 8;have x9:=HX.out.cell 9;have x10:=HX.out.cell 10;have x11:=HX.out.cell 11;have y0:=HY.out.cell 0;have y1:=HY.out.cell 1;have y2:=HY.out.cell 2;have y3:=HY.out.cell 3;have y4:=HY.out.cell 4;have y5:=HY.out.cell 5;have y6:=HY.out.cell 6;have y7:=HY.out.cell 7;have y8:=HY.out.cell 8;have y9:=HY.out.cell 9;have y10:=HY.out.cell 10;have y11:=HY.out.cell 11;simp at x0 x1 x2 x3 x4 x5 x6 x7 x8 x9 x10 x11 y0 y1 y2 y3 y4 y5 y6 y7 y8 y9 y10 y11;go_enter Tryz.func31,Tryz.ntmps31;go_upto_region 1 with (fail);rw[HW1.out];go_wp2_with fail;refine(HI.out w1 (Drew.refl _)).mono ?_;rintro e w2 ⟨rfl,hd2⟩;have HX2:=HX.out.kept hd2.below;have HY2:=HY.out.kept hd2.below;have x7:=HX2.cell 7;have x8:=HX2.cell 8;have x9:=HX2.cell 9;have x10:=HX2.cell 10;have x11:=HX2.cell 11;have y7:=HY2.cell 7;have y8:=HY2.cell 8;have y9:=HY2.cell 9;have y10:=HY2.cell 10;have y11:=HY2.cell 11;simp at x7 y7 x8 y8 x9 y9 x10 y10 x11 y11;have HD2:=hide hd2;clear hd2 HX2 HY2;go_wp2_with fail;refine(HB.out w2 HD2.out).mono ?_;rintro e w3 ⟨rfl,hd3⟩;have HX3:=HX.out.kept (HD2.out.trans hd3).below;have HY3:=HY.out.kept (HD2.out.trans hd3).below;have x8:=HX3.cell 8;have x9:=HX3.cell 9;have x10:=HX3.cell 10;have x11:=HX3.cell 11;have y8:=HY3.cell 8;have y9:=HY3.cell 9;have y10:=HY3.cell 10;have y11:=HY3.cell 11;simp at x8 y8 x9 y9 x10 y10 x11 y11;have HD3:=hide (HD2.out.trans hd3);clear hd3 HX3 HY3;go_wp2_with fail;go_ret;exact⟨rfl,HB1.out.trans (HD3.out.below.mono HB1.out.size)⟩
end
section
section
variable {w w':World}{ops:Array Oper}{rest:List Oper}{o:Oper}{a:Act}{Q:Exit→Act→World→Prop}{v:Value}
theorem wpList_gives_g (hw:Region.wanted o (yielded ops a.tmps)=true) (hr:Gives o a w v w') (h:wpList pG ops Q rest (a.put o.dst v) w'):wpList pG ops Q (o :: rest) a w:=
 wpList_step fun K hK=>by
  rw[if_pos hw];unfold Oper.wp;rw[show (execOp a.eval o).run pG w=.ok (.value v) w' from hr,Oper.upon_value];exact hK _ _ h
end
def joinS (ws:List ByteArray):ByteArray:=⟨(Lib.join (ws.map (·.data.toList)) [32]).toArray⟩
theorem join_any {B:Nat}{A:Option Addr}{n c:Nat}{ws:List ByteArray}{w:World}(h:OwnE Value.string 9 B w (vS A n c) ws) (h0:0 < ws.length) (hl:ws.length≤1000000) (hs:(joinS ws).size≤100000000) :
  Calls pG 29 #[vS A n c,vT ⟨#[32]⟩] w fun e w'=>e=.returned (vT (joinS ws))∧Below w.heap.size w w':=by
 obtain⟨A',c',e,hc,hL,_⟩:=h.form;injection e with e1 e2 e3;subst e1 e2 e3;obtain⟨b,off,rfl,hb,hcl⟩:=hL h0;refine(Tryz.strings_Join b off c ws ⟨#[32]⟩ w (fun j x hj=>?_) hb.1 (by omega) hc ?_).mono ?_
 ·have hlt:j < ws.length:=(List.getElem?_eq_some_iff.1 hj).1;rw[hcl j hlt,List.getD_eq_getElem?_getD,hj];rfl
 ·rw[Lib.size_eq]at hs;unfold joinS at hs;have:((⟨(Lib.join (ws.map (·.data.toList)) [32]).toArray⟩:ByteArray).data.toList).length=(Lib.join (ws.map (·.data.toList)) [32]).length:=by simp
  rw[this]at hs;exact lT hs (by decide)
 ·rintro en w' ⟨rfl,hb'⟩;exact⟨rfl,hb'⟩
set_option maxHeartbeats 8000000
set_option maxRecDepth 100000
theorem print_to {ecs ocs:Array Value}{o:Opn}{ws:List ByteArray}{w:World}(hes:ecs.size=14) (hos:ocs.size=12) (hO:OpV (All w) w (.agg ocs) o) (hm:o.marks.length≤1000000) (hk:o.keep.length≤1000000) (h0:0 < ws.length) (hl:ws.length≤1000000) (hsz:(joinS ws).size≤100000000)
  (hW:∀ wq,Below w.heap.size w wq→Calls pG 30 #[.agg ecs,.agg ocs] wq fun en w'=>∃ v,en=.returned v∧OwnE Value.string 9 wq.heap.size w' v ws∧Below wq.heap.size wq w')
  (hP:∀ wq,Below w.heap.size w wq→Calls pG 8 #[.agg ecs,vT (joinS ws)] wq fun en w'=>∃ v,en=.returned (.tuple #[v,vB true])∧OpV (fun i=>wq.heap.size≤i∧i < w'.heap.size) w' v o∧Below wq.heap.size wq w') :
  Calls pG 12 #[.agg ecs,.agg ocs] w fun en w'=>en=.returned (.tuple #[vT (joinS ws),vB true])∧Below w.heap.size w w':=by
 obtain⟨w1,hw1⟩:∃ q,(w.alloc (.cells ecs 30)).alloc (.cells ocs 36)=q:=⟨_,rfl⟩;have hb1:Below w.heap.size w w1:=by rw[← hw1];exact((bR _ _).alloc (lR _) _).alloc (by simp) _
 have hXe:Box w1 w.heap.size 30 ecs:=by rw[← hw1];exact(Box.new _ _ _).alloc _
 have hXo:Box w1 (w.heap.size+1) 36 ocs:=by have:=Box.new (w.alloc (.cells ecs 30)) 36 ocs;rw[World.size_alloc,hw1]at this;exact this
 have HLe:=hide (fun (wq:World) (hq:Below w1.heap.size w1 wq)=>box_load aggE (hXe.kept hq) hes);have HLo:=hide (fun (wq:World) (hq:Below w1.heap.size w1 wq)=>box_load aggOp (hXo.kept hq) hos);have HW:=hide (hW w1 hb1);have HP:=hide (fun (wq:World) (hq:Below w1.heap.size w1 wq)=>hP wq (hb1.trans (hq.mono hb1.size)));have HO:=hide (fun (wq:World) (hq:Below w1.heap.size w1 wq)=>OpV.below hO (hb1.trans (hq.mono hb1.size)));have HB1:=hide hb1;have HW1:=hide hw1;have HJ:=hide (fun (B:Nat) (A:Option Addr) (n c:Nat) (wq:World) (h:OwnE Value.string 9 B wq (vS A n c) ws)=>join_any h h0 hl hsz);clear hO hW hP hw1 hb1 hXe hXo h0 hl hsz;generalize joinS ws=line at *;have HLe1:=hide (HLe.out w1 (bR _ _));have HLo1:=hide (HLo.out w1 (bR _ _));go_enter Tryz.func12,Tryz.ntmps12;go_upto_region 1 with (fail);rw[HW1.out];go_wp2_with (first|((with_reducible refine gV 9 (.agg ecs) w1 ?_ ?_ ?_);rfl;exact gives_load rfl rfl HLe1.out)|((with_reducible refine gV 10 (.agg ocs) w1 ?_ ?_ ?_);rfl;exact gives_load rfl rfl HLo1.out));refine HW.out.mono ?_;rintro en w2 ⟨v2,rfl,hO2,hb2⟩;obtain⟨A2,c2,rfl,hc2,_,_⟩:=hO2.form;have HJ2:=hide (HJ.out _ _ _ _ _ hO2);have HB2:=hide hb2;clear hO2 hb2;go_wp2_with fail;refine HJ2.out.mono ?_;rintro en w3 ⟨rfl,hb3⟩;have HB3:=hide (HB2.out.trans (hb3.mono HB2.out.size));have HLe3:=hide (HLe.out w3 HB3.out);have HP3:=hide (HP.out w3 HB3.out);clear hb3;go_wp2_with ((with_reducible refine gV 14 (.agg ecs) w3 ?_ ?_ ?_);rfl;exact gives_load rfl rfl HLe3.out);refine HP3.out.mono ?_;rintro en w4 ⟨_,rfl,⟨A4,c4,D4,d4,rfl,hV4⟩,hb4⟩;have hB4:Below w1.heap.size w1 w4:=HB3.out.trans (hb4.mono HB3.out.size);obtain⟨w5,hw5⟩:∃ q,w4.alloc (.cells (zeroO.cells none 0 none 0) 36)=q:=⟨_,rfl⟩;have hb5:Below w1.heap.size w1 w5:=by rw[← hw5];exact hB4.alloc hB4.size _
 have hX5:Box w5 w4.heap.size 36 (zeroO.cells none 0 none 0):=by rw[← hw5];exact Box.new _ _ _
 have hV5:OpV (fun i=>w3.heap.size≤i∧i < w4.heap.size) w5 (.agg (o.cells A4 c4 D4 d4)) o:=by rw[← hw5];exact OpV.agree (show OpV (fun i=>w3.heap.size≤i∧i < w4.heap.size) w4 _ o from ⟨A4,c4,D4,d4,rfl,hV4⟩) fun i hi=>Below.heap_alloc w4 _ i hi.2
 obtain⟨w6,hst,hX6,hg6⟩:=box_store aggOp hX5 rfl rfl (Opn.one o A4 c4 D4 d4);have hV6:=hV5.agree fun i hi=>hg6.block i (by have:=hX5.lt;omega) fun e=>by have:=Option.some.inj e;omega
 have hB6:Below w1.heap.size w1 w6:=below_grown hb5 hg6 hB4.size;have HLb:=hide (box_load aggOp hX6 rfl);have HLo6:=hide (HLo.out w6 hB6);have HSm:=hide (same_eq (hV6.mono fun i hi=>(show All w6 i by have:=hX6.lt;unfold All;omega)) (HO.out w6 hB6) hm hk);rw[← hw5]at hst;have HSt:=hide hst;have HB6:=hide hB6;clear hb4 hB4 hw5 hb5 hX5 hV5 hst hX6 hg6 hV6 hB6 hV4;go_wp2_with (first|((with_reducible refine dS w6 ?_ ?_ ?_);rfl;exact does_store rfl rfl rfl HSt.out)|((with_reducible refine wpList_gives_g (o:=⟨some 22,_,_,_,_,_⟩) (v:=.agg (o.cells A4 c4 D4 d4)) (w':=w6) ?_ ?_ ?_);rfl;exact gives_load rfl rfl HLb.out)|((with_reducible refine wpList_gives_g (o:=⟨some 23,_,_,_,_,_⟩) (v:=.agg ocs) (w':=w6) ?_ ?_ ?_);rfl;exact gives_load rfl rfl HLo6.out));refine HSm.out.mono ?_;rintro en w7 ⟨rfl,hb7⟩;have HBf:=hide (HB1.out.trans ((HB6.out.trans (hb7.mono HB6.out.size)).mono HB1.out.size));clear hb7;go_wp2_with fail;go_ret2;exact⟨rfl,HBf.out⟩
end
section
def sampleE (b:Nat):EV:={ title:=⟨#[]⟩,dots:=2,blank:=20,marked:=50,pa:=some ⟨b+1,0,none⟩,pc:=2,ca:=some ⟨b+1+1+1,0,none⟩,cc:=1,sa:=some ⟨b+1+1+1+1+1+1,0,none⟩,sn:=1,sc:=1,scanners:=1,batch:=4,neg:=false,na:=some ⟨b+1+1+1+1+1+1+1,0,none⟩,nn:=1,nc:=1,da:=some ⟨b+1+1+1+1+1+1+1+1,0,none⟩,dn:=1,dc:=1,cell:=2,seed:=⟨#[]⟩ }
def sA:ByteArray:=⟨#[97]⟩
def sB:ByteArray:=⟨#[98]⟩
def sM:ByteArray:=⟨#[109]⟩
def conC (b:Nat):Array Value:=#[vT ⟨#[109]⟩,vS (some ⟨b+1+1,0,none⟩) 3 3,vI kI 1,vI kI 1,vI kI 3,vI kI 0,vI kI 3,vI kI 1,vI kI 1]
def sample3 (w:World):World:=(((w.alloc (.cells ((sampleE w.heap.size).cells 2 1) 30)).alloc (.cells #[vT ⟨#[97]⟩,vT ⟨#[98]⟩] 9)).alloc (.cells #[vT ⟨#[120]⟩,vT ⟨#[121]⟩,vT ⟨#[122]⟩] 9)).alloc (.cells (conC w.heap.size) 74)
def sampleW (w:World):World:=(((((sample3 w).alloc (.cells #[vI kI 0,vI kI 1] 3)).alloc (.cells #[vI kI 0] 3)).alloc (.cells #[vT ⟨#[115]⟩,vS (some ⟨w.heap.size+1+1+1+1,0,none⟩) 2 2,vS (some ⟨w.heap.size+1+1+1+1+1,0,none⟩) 1 1] 76)).alloc (.cells #[.int .u32 1] 100)).alloc (.cells #[.int .u32 20] 100)
theorem sample_facts (w:World):Below w.heap.size w (sampleW w)∧Box (sampleW w) w.heap.size 30 ((sampleE w.heap.size).cells 2 1)∧Box (sampleW w) (w.heap.size+1) 9 #[vT ⟨#[97]⟩,vT ⟨#[98]⟩]∧Box (sampleW w) (w.heap.size+1+1+1) 74 (conC w.heap.size):=by
 have s1:(w.alloc (.cells ((sampleE w.heap.size).cells 2 1) 30)).heap.size=w.heap.size+1:=World.size_alloc ..;have s2:((w.alloc (.cells ((sampleE w.heap.size).cells 2 1) 30)).alloc (.cells #[vT ⟨#[97]⟩,vT ⟨#[98]⟩] 9)).heap.size=w.heap.size+1+1:=by rw[World.size_alloc,s1]
 have s3:(((w.alloc (.cells ((sampleE w.heap.size).cells 2 1) 30)).alloc (.cells #[vT ⟨#[97]⟩,vT ⟨#[98]⟩] 9)).alloc (.cells #[vT ⟨#[120]⟩,vT ⟨#[121]⟩,vT ⟨#[122]⟩] 9)).heap.size=w.heap.size+1+1+1:=by rw[World.size_alloc,s2]
 have b3:Below w.heap.size w (sample3 w):=((((bR _ _).alloc (lR _) _).alloc (by rw[s1];omega) _).alloc (by rw[s2];omega) _).alloc (by rw[s3];omega) _;have x0:Box (sample3 w) w.heap.size 30 ((sampleE w.heap.size).cells 2 1):=(((Box.new w _ _).alloc _).alloc _).alloc _;have x1:Box (sample3 w) (w.heap.size+1) 9 #[vT ⟨#[97]⟩,vT ⟨#[98]⟩]:=by have:=((Box.new (w.alloc (.cells ((sampleE w.heap.size).cells 2 1) 30)) 9 #[vT ⟨#[97]⟩,vT ⟨#[98]⟩]).alloc (.cells #[vT ⟨#[120]⟩,vT ⟨#[121]⟩,vT ⟨#[122]⟩] 9)).alloc (.cells (conC w.heap.size) 74);rw[s1]at this;exact this
 have x3:Box (sample3 w) (w.heap.size+1+1+1) 74 (conC w.heap.size):=by have:=Box.new (((w.alloc (.cells ((sampleE w.heap.size).cells 2 1) 30)).alloc (.cells #[vT ⟨#[97]⟩,vT ⟨#[98]⟩] 9)).alloc (.cells #[vT ⟨#[120]⟩,vT ⟨#[121]⟩,vT ⟨#[122]⟩] 9)) 74 (conC w.heap.size);rw[s3]at this;exact this
 have hs3:=b3.size;refine⟨?_,((((x0.alloc _).alloc _).alloc _).alloc _).alloc _,((((x1.alloc _).alloc _).alloc _).alloc _).alloc _,((((x3.alloc _).alloc _).alloc _).alloc _).alloc _⟩;exact((((b3.alloc hs3 _).alloc (by rw[World.size_alloc];omega) _).alloc (by rw[World.size_alloc,World.size_alloc];omega) _).alloc (by rw[World.size_alloc,World.size_alloc,World.size_alloc];omega) _).alloc (by rw[World.size_alloc,World.size_alloc,World.size_alloc,World.size_alloc];omega) _
set_option maxHeartbeats 8000000
set_option maxRecDepth 100000
theorem sample_any {w:World} :
  Calls pG 18 #[] w fun en w'=>en=.returned (.agg ((sampleE w.heap.size).cells 2 1))∧Elec w' (sampleE w.heap.size) [sA,sB] [sM]∧Below w.heap.size w w':=by
 obtain⟨hb,hX0,hX1,hX3⟩:=sample_facts w;obtain⟨wf,hwf⟩:∃ q,sampleW w=q:=⟨_,rfl⟩;rw[hwf]at hb hX0 hX1 hX3;have HX0:=hide hX0;have HB:=hide hb;have HE:Hid (Elec wf (sampleE w.heap.size) [sA,sB] [sM]):=by
  refine⟨fun _=>⟨w.heap.size+1,0,rfl,hX1.lt,fun k hk=>?_⟩,fun _=>⟨w.heap.size+1+1+1,0,rfl,hX3.lt,fun k hk=>?_⟩⟩
  ·have hk2:k < 2:=hk;rcases (show k=0∨k=1 by omega) with rfl|rfl
   ·exact hX1.cell 0
   ·exact hX1.cell 1
  ·have hk2:k < 1:=hk;obtain rfl:k=0:=by omega
   exact⟨_,_,_,_,_,_,_,_,_,_,hX3.cell 0,hX3.cell 1,hX3.cell 2,hX3.cell 3,hX3.cell 4,hX3.cell 5,hX3.cell 6,hX3.cell 7,hX3.cell 8⟩
 unfold sampleW sample3 sampleE EV.cells conC at hwf;have HW:=hide hwf;clear hb hX0 hX1 hX3 hwf;go_enter Tryz.func18,Tryz.ntmps18;go_wp2_with fail;rw[HW.out];refine bodyPost_ret (v:=.agg ((sampleE w.heap.size).cells 2 1)) (by refine results_cell (p:=0) ?_ ?_ (box_load aggE HX0.out rfl) <;> rfl) rfl ?_;exact⟨rfl,HE.out,HB.out⟩
end
section
def errTab:List ByteArray:=[(⟨#[111,107]⟩:ByteArray),(⟨#[115,121,110,116,97,120]⟩:ByteArray),(⟨#[110,97,109,101]⟩:ByteArray),(⟨#[100,117,112,108,105,99,97,116,101]⟩:ByteArray),(⟨#[114,97,110,103,101]⟩:ByteArray),(⟨#[107,105,110,100]⟩:ByteArray),(⟨#[109,105,115,115,105,110,103]⟩:ByteArray),(⟨#[108,101,110,103,116,104]⟩:ByteArray),(⟨#[102,111,114,109]⟩:ByteArray),(⟨#[100,105,103,101,115,116]⟩:ByteArray),(⟨#[102,117,108,108]⟩:ByteArray),(⟨#[99,108,111,115,101,100]⟩:ByteArray),(⟨#[100,111,119,110]⟩:ByteArray),(⟨#[111,114,100,101,114]⟩:ByteArray),(⟨#[115,116,101,112]⟩:ByteArray),(⟨#[98,111,117,110,100]⟩:ByteArray),(⟨#[112,101,110,100,105,110,103]⟩:ByteArray),(⟨#[105,109,112,114,105,110,116]⟩:ByteArray),(⟨#[105,109,97,103,101]⟩:ByteArray),(⟨#[119,105,110,110,101,114]⟩:ByteArray)]
def errS (n:Int):ByteArray:=if n < 0∨20≤n then ⟨#[117,110,107,110,111,119,110]⟩ else errTab.getD n.toNat default
theorem err_cell (w:World) {k:Nat}(hk:k < 20):(w.alloc (.cells #[vT ⟨#[111,107]⟩,vT ⟨#[115,121,110,116,97,120]⟩,vT ⟨#[110,97,109,101]⟩,vT ⟨#[100,117,112,108,105,99,97,116,101]⟩,vT ⟨#[114,97,110,103,101]⟩,vT ⟨#[107,105,110,100]⟩,vT ⟨#[109,105,115,115,105,110,103]⟩,vT ⟨#[108,101,110,103,116,104]⟩,vT ⟨#[102,111,114,109]⟩,vT ⟨#[100,105,103,101,115,116]⟩,vT ⟨#[102,117,108,108]⟩,vT ⟨#[99,108,111,115,101,100]⟩,vT ⟨#[100,111,119,110]⟩,vT ⟨#[111,114,100,101,114]⟩,vT ⟨#[115,116,101,112]⟩,vT ⟨#[98,111,117,110,100]⟩,vT ⟨#[112,101,110,100,105,110,103]⟩,vT ⟨#[105,109,112,114,105,110,116]⟩,vT ⟨#[105,109,97,103,101]⟩,vT ⟨#[119,105,110,110,101,114]⟩] 9)).cell? ⟨w.heap.size,k,none⟩=some (vT (errTab.getD k default)):=by
 rw[(Box.new w 9 #[vT ⟨#[111,107]⟩,vT ⟨#[115,121,110,116,97,120]⟩,vT ⟨#[110,97,109,101]⟩,vT ⟨#[100,117,112,108,105,99,97,116,101]⟩,vT ⟨#[114,97,110,103,101]⟩,vT ⟨#[107,105,110,100]⟩,vT ⟨#[109,105,115,115,105,110,103]⟩,vT ⟨#[108,101,110,103,116,104]⟩,vT ⟨#[102,111,114,109]⟩,vT ⟨#[100,105,103,101,115,116]⟩,vT ⟨#[102,117,108,108]⟩,vT ⟨#[99,108,111,115,101,100]⟩,vT ⟨#[100,111,119,110]⟩,vT ⟨#[111,114,100,101,114]⟩,vT ⟨#[115,116,101,112]⟩,vT ⟨#[98,111,117,110,100]⟩,vT ⟨#[112,101,110,100,105,110,103]⟩,vT ⟨#[105,109,112,114,105,110,116]⟩,vT ⟨#[105,109,97,103,101]⟩,vT ⟨#[119,105,110,110,101,114]⟩]).cell];match k,hk with
 |0,_=>rfl
 |1,_=>rfl
 |2,_=>rfl
 |3,_=>rfl
 |4,_=>rfl
 |5,_=>rfl
 |6,_=>rfl
 |7,_=>rfl
 |8,_=>rfl
 |9,_=>rfl
 |10,_=>rfl
 |11,_=>rfl
 |12,_=>rfl
 |13,_=>rfl
 |14,_=>rfl
 |15,_=>rfl
 |16,_=>rfl
 |17,_=>rfl
 |18,_=>rfl
 |19,_=>rfl
 |k+20,h=>exact absurd h (by omega)
set_option maxHeartbeats 4000000
set_option maxRecDepth 100000
theorem err_any {n:Int}{w:World}(hn:InI n) :
  Calls pG 19 #[vI kI n] w fun e w'=>e=.returned (vT (errS n))∧Below w.heap.size w w':=by
 obtain⟨w1,hw1⟩:∃ q,w.alloc (.cells #[vT ⟨#[111,107]⟩,vT ⟨#[115,121,110,116,97,120]⟩,vT ⟨#[110,97,109,101]⟩,vT ⟨#[100,117,112,108,105,99,97,116,101]⟩,vT ⟨#[114,97,110,103,101]⟩,vT ⟨#[107,105,110,100]⟩,vT ⟨#[109,105,115,115,105,110,103]⟩,vT ⟨#[108,101,110,103,116,104]⟩,vT ⟨#[102,111,114,109]⟩,vT ⟨#[100,105,103,101,115,116]⟩,vT ⟨#[102,117,108,108]⟩,vT ⟨#[99,108,111,115,101,100]⟩,vT ⟨#[100,111,119,110]⟩,vT ⟨#[111,114,100,101,114]⟩,vT ⟨#[115,116,101,112]⟩,vT ⟨#[98,111,117,110,100]⟩,vT ⟨#[112,101,110,100,105,110,103]⟩,vT ⟨#[105,109,112,114,105,110,116]⟩,vT ⟨#[105,109,97,103,101]⟩,vT ⟨#[119,105,110,110,101,114]⟩] 9)=q:=⟨_,rfl⟩;have hb1:Below w.heap.size w w1:=by rw[← hw1];exact(bR _ _).alloc (lR _) _
 have HW1:=hide hw1;have HB1:=hide hb1;by_cases h:n < 0∨20≤n
 ·have hv:errS n=⟨#[117,110,107,110,111,119,110]⟩:=if_pos h;have HV:=hide hv;clear hv hw1 hb1 hn;go_enter Tryz.func19,Tryz.ntmps19;go_upto_region 2 with (fail);rw[HW1.out];rcases h with h|h
  ·go_wp2_with fail;go_ret;exact⟨by rw[HV.out];rfl,HB1.out⟩
  ·have h0:¬ n < 0:=by omega
   go_wp2_with fail;go_ret;exact⟨by rw[HV.out];rfl,HB1.out⟩
 ·obtain⟨k,rfl⟩:∃ k:Nat,n=(k:Int):=⟨n.toNat,by omega⟩;have hk:k < 20:=by omega
  have hv:errS (k:Int)=errTab.getD k default:=by unfold errS;rw[if_neg h];rfl
  have hc:=err_cell w hk;rw[hw1]at hc;have HV:=hide hv;clear hv hw1 hb1 hn h;generalize errTab.getD k default=s at *;go_enter Tryz.func19,Tryz.ntmps19;go_upto_region 2 with (fail);rw[HW1.out];go_wp2_with fail;go_ret;exact⟨by rw[HV.out];rfl,HB1.out⟩
end
section
def exLine:ByteArray:=⟨#[105,115,115,117,101,32,98,32,48,32,52]⟩
def s0:ByteArray:=⟨#[48]⟩
def s4:ByteArray:=⟨#[52]⟩
theorem ex_split:splitW exLine=[sIssue,sB,s0,s4]:=by decide +kernel
theorem ex_idx:idxN [sA,sB] sB=1:=by decide +kernel
theorem ex_nums:numsV [s0,s4]=([0,4],true):=by decide +kernel
theorem ex_name:nameV [sA,sB] 1=sB:=by decide +kernel
theorem ex_prefix:Lib.hasPrefix exLine.data.toList [115,101,101,100,32]=false:=by decide +kernel
def exO:Opn:={ zeroO with kind:=1,prec:=1,marks:=[0,4] }
theorem ex_op:issueO [sA,sB] sB [s0,s4]=exO:=by
 unfold issueO exO;rw[ex_idx,ex_nums]
theorem ex_join:joinS ([sIssue,nameV [sA,sB] exO.prec] ++ exO.marks.map itS)=exLine:=by
 show joinS ([sIssue,nameV [sA,sB] 1] ++ [0,4].map itS)=exLine;rw[ex_name];decide +kernel
theorem ex_err:errS 19=⟨#[119,105,110,110,101,114]⟩:=by decide +kernel
theorem ex_parse {e:EV}{w:World}(hE:Elec w e [sA,sB] [sM]) (hM:Max w) :
  Calls pG 8 #[.agg (e.cells 2 1),vT exLine] w fun en w'=>∃ v,en=.returned (.tuple #[v,vB true])∧OpV (fun i=>w.heap.size≤i∧i < w'.heap.size) w' v exO∧Below w.heap.size w w':=by
 have h:=parse_words (e:=e) (P:=[sA,sB]) (C:=[sM]) (line:=exLine) (x0:=sIssue) (l:=[sB,s0,s4]) (o:=exO) (ok:=true) (w:=w) (by decide) ex_prefix ex_split hM (fun wq B d hq hB hd hd2=>by
  have h1:=words_issue (e:=e) (P:=[sA,sB]) (C:=[sM]) (B:=B) (d:=d) (r:=[s0,s4]) (x:=sB) (word:=sIssue) (w:=wq) (by decide +kernel) (hE.below hq) (by simp) (fun n hn=>by
   simp only[List.mem_cons,List.not_mem_nil,or_false]at hn;rcases hn with rfl|rfl <;> decide) (hM.below hq) hB hd (by omega) (fun n hn=>by
   simp only[List.mem_cons,List.not_mem_nil,or_false]at hn;rcases hn with rfl|rfl <;> decide)
  rw[ex_op,ex_idx,ex_nums]at h1;exact h1)
 exact h
theorem ex_print {e:EV}{A:Option Addr}{c:Nat}{D:Option Addr}{d:Nat}{w:World}(hE:Elec w e [sA,sB] [sM]) (hM:Max w) (hO:OpV (All w) w (.agg (exO.cells A c D d)) exO) :
  Calls pG 12 #[.agg (e.cells 2 1),.agg (exO.cells A c D d)] w fun en w'=>en=.returned (.tuple #[vT exLine,vB true])∧Below w.heap.size w w':=by
 have h:=print_to (ecs:=e.cells 2 1) (ocs:=exO.cells A c D d) (o:=exO) (ws:=[sIssue,nameV [sA,sB] exO.prec] ++ exO.marks.map itS) (w:=w) rfl rfl hO (by decide) (by decide) (by simp) (by simp[exO]) (by rw[ex_join];decide) (fun wq hq=>by
  have hO2:=hO.below hq;obtain⟨A',c',D',d',e',hm,_,_,_⟩:=hO2;have e6:A=A':=by
   have:(exO.cells A c D d)[6]? = (exO.cells A' c' D' d')[6]? := by rw[Value.agg.inj e']
   simp[Opn.cells]at this;exact this.1
  subst e6;exact written_issue (P:=[sA,sB]) (C:=[sM]) (o:=exO) rfl (hE.below hq) (fun n hn=>by
   simp only[List.mem_cons,List.not_mem_nil,or_false]at hn;rcases hn with rfl|rfl <;> decide) (hM.below hq) hm (by decide) (ItoaTo.small (by decide) (by decide)) (ItoaTo.small (by decide) (by decide)) (fun n hn=>by
   have hn:n ∈ [(0:Int),4]:=hn;simp only[List.mem_cons,List.not_mem_nil,or_false]at hn;rcases hn with rfl|rfl <;> exact ItoaTo.small (by decide) (by decide)))
  (fun wq hq=>by rw[ex_join];exact ex_parse (hE.below hq) (hM.below hq))
 rw[ex_join]at h;exact h
def zeroE:EV:={ title:=⟨#[]⟩,dots:=0,blank:=0,marked:=0,pa:=none,pc:=0,ca:=none,cc:=0,sa:=none,sn:=0,sc:=0,scanners:=0,batch:=0,neg:=false,na:=none,nn:=0,nc:=0,da:=none,dn:=0,dc:=0,cell:=0,seed:=⟨#[]⟩ }
set_option maxHeartbeats 8000000
set_option maxRecDepth 100000
theorem awake_any (w:World) (hM:Max w):Calls pG 7 #[] w fun e w'=>e=.returned (vB true)∧Below w.heap.size w w':=by
 have HS:=hide (sample_any (w:=w));have HM:=hide hM;clear hM;go_enter Tryz.func7,Tryz.ntmps7;go_wp2_with fail;refine HS.out.mono ?_;rintro en w1 ⟨rfl,hE1,hb1⟩;generalize sampleE w.heap.size=e at *;have hX2:=Box.new w1 30 (zeroE.cells 0 0);have hb2:Below w1.heap.size w1 (w1.alloc (.cells (zeroE.cells 0 0) 30)):=(bR _ _).alloc (lR _) _;obtain⟨w3,hst3,hX3,hg3⟩:=box_store aggE hX2 rfl rfl (EV.one e 2 1);have hb3:Below w1.heap.size w1 w3:=below_grown hb2 hg3 (lR _);have HSt3:=hide hst3;have HX3:=hide hX3;have HE3:=hide (hE1.below hb3);have HM3:=hide (HM.out.below (below_then hb1 hb3));have HB3:=hide (below_then hb1 hb3);have HP3:=hide (ex_parse HE3.out HM3.out);have HL3:=hide (box_load aggE hX3 rfl);clear hE1 hb1 hX2 hb2 hst3 hX3 hg3 hb3;obtain⟨ecs,hecs⟩:∃ q,e.cells 2 1=q:=⟨_,rfl⟩;have hsz:ecs.size=14:=by rw[← hecs];rfl
 have HEc:=hide hecs;rw[hecs]at HSt3 HX3 HP3 HL3;go_wp2_with (first|((with_reducible refine dS w3 ?_ ?_ ?_);rfl;exact does_store rfl rfl rfl HSt3.out)|((with_reducible refine gV 8 (.agg ecs) w3 ?_ ?_ ?_);rfl;exact gives_load rfl rfl HL3.out));refine HP3.out.mono ?_;rintro en w4 ⟨_,rfl,⟨A4,c4,D4,d4,rfl,hV4⟩,hb4⟩;have hX5:=Box.new w4 36 (zeroO.cells none 0 none 0);have hb5:Below w4.heap.size w4 (w4.alloc (.cells (zeroO.cells none 0 none 0) 36)):=(bR _ _).alloc (lR _) _;obtain⟨w6,hst6,hX6,hg6⟩:=box_store aggOp hX5 rfl rfl (Opn.one exO A4 c4 D4 d4);have hb6:Below w4.heap.size w4 w6:=below_grown hb5 hg6 (lR _);have hB6:Below w3.heap.size w3 w6:=below_then hb4 hb6;have hO6:OpV (All w6) w6 (.agg (exO.cells A4 c4 D4 d4)) exO:=
  OpV.below (OpV.mono (show OpV (fun i=>w3.heap.size≤i∧i < w4.heap.size) w4 _ exO from ⟨A4,c4,D4,d4,rfl,hV4⟩) fun i hi=>hi.2) hb6
 have hPr:=ex_print (e:=e) (HE3.out.below hB6) (HM3.out.below hB6) hO6;rw[HEc.out]at hPr;have HPr:=hide hPr;have HSt6:=hide hst6;have HLe6:=hide (box_load aggE (HX3.out.kept hB6) hsz);have HLo6:=hide (box_load aggOp hX6 rfl);have HX6:=hide hX6;have HB6:=hide (below_then HB3.out hB6);have HM6:=hide (HM3.out.below hB6);clear hX5 hb5 hst6 hX6 hg6 hb6 hB6 hO6 hPr hb4 hV4;obtain⟨ocs,hocs⟩:∃ q,exO.cells A4 c4 D4 d4=q:=⟨_,rfl⟩;have o1:ocs[1]? = some (vI kI 1):=by rw[← hocs];rfl
 rw[hocs]at HPr HSt6 HLo6 HX6;have hld:exLine.toList=[105,115,115,117,101,32,98,32,48,32,52]:=by decide +kernel
 go_wp2_with (first|((with_reducible refine dS w6 ?_ ?_ ?_);rfl;exact does_store rfl rfl rfl HSt6.out)|((with_reducible refine gV 13 (.agg ecs) w6 ?_ ?_ ?_);rfl;exact gives_load rfl rfl HLe6.out)|((with_reducible refine gV 14 (.agg ocs) w6 ?_ ?_ ?_);rfl;exact gives_load rfl rfl HLo6.out));refine HPr.out.mono ?_;rintro en w7 ⟨rfl,hb7⟩;have x1:=(HX6.out.kept hb7).cell 1;rw[o1]at x1;have HEr:=hide (err_any (n:=19) (w:=w7) (by unfold InI;omega));rw[ex_err]at HEr;have HB7:=hide (below_then HB6.out hb7);clear hb7;go_wp2_with fail;refine HEr.out.mono ?_;rintro en w8 ⟨rfl,hb8⟩;have HB8:=hide (below_then HB7.out hb8);clear hb8;go_wp2_with fail;go_ret;exact⟨rfl,HB8.out⟩
end
end Go.Proofs.YtnndaemmgbkjbaaGreatDoor
