/-
  parts of the proof: R45S.
-/
import Derived.Test.YtnndaemmgbkjbaaGreatDoorPW
import Derived.Test.YtnndaemmgbkjbaaGreatDoorPV
import Derived.Test.YtnndaemmgbkjbaaGreatDoorPR
namespace Go.Proofs.YtnndaemmgbkjbaaGreatDoor
open Go.RowKit
open Nat renaming le_trans → lT, le_refl → lR
open Go.RowKit.Below renaming refl → bR
open _root_.Go.Proofs.Tryz renaming prog → pG
open Go.Value renaming int → vI, slice → vS, string → vT, bool → vB
open Go.IntKind renaming i64 → kI
set_option linter.unusedVariables false
set_option linter.unusedSimpArgs false
section
theorem pre_eq {s:ByteArray}(h:5≤s.size):((s.extract 0 5).toList==[115,101,101,100,32])=Lib.hasPrefix s.data.toList [115,101,101,100,32]:=by
 have e:(s.extract 0 5).toList=s.data.toList.take 5:=by rw[Lib.toList_data,ByteArray.data_extract,Array.toList_extract];simp[List.extract]
 rw[e,Bool.eq_iff_iff,beq_iff_eq];unfold Lib.hasPrefix;rw[List.isPrefixOf_iff_prefix,List.prefix_iff_eq_take];exact⟨fun h=>h.symm,fun h=>h.symm⟩
set_option maxHeartbeats 4000000
set_option maxRecDepth 1000000
theorem parse45_long {e:EV}{PP CC:List ByteArray}{line:ByteArray}{w:World}(h1:200 < line.size) :
  Calls pG 9 #[.agg (e.cells PP.length CC.length),vT line] w (ParseTo w (parseV PP CC line)):=by
 obtain⟨w1,hw1,hs1,hb1,hx2,hx4⟩:=some_boxes (w:=w) (e:=e) (p:=PP.length) (c:=CC.length);have hv:Hid (parseV PP CC line=none):=by unfold parseV;exact if_pos h1
 have HW1:=hide hw1;have HX4:=hide hx4;have HB1:=hide hb1;have hq4:w.heap.size≤w.heap.size+1:=by omega
 have hl:(200:Int) < (line.size:Int):=by omega
 clear hw1 hs1 hb1 hx2 hx4 h1;obtain⟨ecs,hecs⟩:∃ q,e.cells PP.length CC.length=q:=⟨_,rfl⟩;rw[hecs]at HW1 ⊢;clear hecs;go_enter Tryz.func9,Tryz.ntmps9;go_upto_region 1 with (fail);rw[show (w.alloc (.cells ecs 30)).alloc (.cells #[vI kI 0,vI kI 0,vI kI 0,vI kI 0,vI kI 0,vI kI 0,vS none 0 0,vS none 0 0,vB false,vB false,vB false,vT ⟨#[]⟩] 36)=w1 from HW1.out];obtain⟨wz,hsz,hxz,hgz⟩:=box_store aggOp HX4.out rfl rfl (Opn.one zeroO none 0 none 0);have HBz:=hide (below_growB HB1.out hgz hq4);have HXz:=hide hxz;have HSz:=hide hsz;clear hxz hgz hsz;go_wp2_with ((with_reducible refine dS wz ?_ ?_ ?_);rfl;exact does_store rfl rfl rfl HSz.out);refine bodyPost_ret (v:=.tuple #[.agg (zeroO.cells none 0 none 0),vB false]) (by refine results_ct (p:=4) (q:=5) ?_ ?_ (box_load aggOp HXz.out rfl) <;> rfl) rfl ?_;exact⟨_,false,rfl,by rw[hv.out];rfl,by rw[hv.out];exact opv_nil rfl rfl,HBz.out⟩
set_option maxHeartbeats 8000000
theorem parse45_seed {e:EV}{PP CC:List ByteArray}{line:ByteArray}{w:World}(h1:line.size≤200) (h2:Lib.hasPrefix line.data.toList [115,101,101,100,32]=true) :
  Calls pG 9 #[.agg (e.cells PP.length CC.length),vT line] w (ParseTo w (parseV PP CC line)):=by
 obtain⟨w1,hw1,hs1,hb1,hx2,hx4⟩:=some_boxes (w:=w) (e:=e) (p:=PP.length) (c:=CC.length);have hv:Hid (parseV PP CC line=if plainS (line.extract 5 line.size)=true then some { zeroO with kind:=11,text:=line.extract 5 line.size } else none):=by unfold parseV;rw[Hid,if_neg (by omega),if_pos h2]
 have h5:=pre_size h2;have hp:((line.extract 0 5).toList==[115,101,101,100,32])=true:=by rw[pre_eq h5];exact h2
 have HW1:=hide hw1;have HX4:=hide hx4;have HB1:=hide hb1;have hq4:w.heap.size≤w.heap.size+1:=by omega
 have HS1:=hide hs1;have hl:¬ (200:Int) < (line.size:Int):=by omega
 have hl5:(5:Int)≤(line.size:Int):=by omega
 obtain⟨w3,hst3,hx3,hg3⟩:=box_store (cs':=#[vI kI 11,vI kI 0,vI kI 0,vI kI 0,vI kI 0,vI kI 0,vS none 0 0,vS none 0 0,vB false,vB false,vB false,vT (line.extract 5 line.size)]) aggOp (Box.new w1 36 (zeroO.cells none 0 none 0)) rfl rfl (Opn.one ({ zeroO with kind:=11,text:=line.extract 5 line.size }) none 0 none 0);have hb3:Below w1.heap.size w1 w3:=below_grow ((bR _ _).alloc (lR _) _) hg3 (lR _);have HX3:=hide hx3;have HB3:=hide hb3;have HS3:=hide hst3;have HX4z:=hide (HX4.out.kept hb3);have HPl:=hide (plain_any (s:=line.extract 5 line.size) (w:=w3) (by rw[ByteArray.size_extract];omega));have hc11:w3.cell? ⟨w1.heap.size,11,none⟩=some (vT (line.extract 5 line.size)):=hx3.cell 11;have hlt3:=hx3.lt;clear hw1 hs1 hb1 hx2 hx4 h1 h2 hx3 hb3 hst3 hg3;obtain⟨ecs,hecs⟩:∃ q,e.cells PP.length CC.length=q:=⟨_,rfl⟩;rw[hecs]at HW1 ⊢;clear hecs;obtain⟨qp,hqp⟩:∃ q,plainS (line.extract 5 line.size)=q:=⟨_,rfl⟩;rw[hqp]at HPl hv;clear hqp;obtain⟨tx,htx⟩:∃ q,line.extract 5 line.size=q:=⟨_,rfl⟩;have HTx:=hide htx;rw[htx]at hv HX3 HS3 HPl hc11;clear htx;go_enter Tryz.func9,Tryz.ntmps9;go_upto_region 1 with (fail);rw[show (w.alloc (.cells ecs 30)).alloc (.cells #[vI kI 0,vI kI 0,vI kI 0,vI kI 0,vI kI 0,vI kI 0,vS none 0 0,vS none 0 0,vB false,vB false,vB false,vT ⟨#[]⟩] 36)=w1 from HW1.out];go_upto_region 4 with (fail);have HSt:Hid ((storeVar 36 ⟨w1.heap.size,0,none⟩ (.agg #[vI kI 11,vI kI 0,vI kI 0,vI kI 0,vI kI 0,vI kI 0,vS none 0 0,vS none 0 0,vB false,vB false,vB false,vT (line.extract 5 line.size)])).run pG (w1.alloc (.cells #[vI kI 0,vI kI 0,vI kI 0,vI kI 0,vI kI 0,vI kI 0,vS none 0 0,vS none 0 0,vB false,vB false,vB false,vT ⟨#[]⟩] 36))=.ok () w3):=by rw[Hid,HTx.out];exact HS3.out
 go_wp2_with ((with_reducible refine dS w3 ?_ ?_ ?_);rfl;exact does_store rfl rfl rfl HSt.out);refine HPl.out.mono ?_;rintro en w4 ⟨rfl,rfl⟩;have HB4:Hid (Below w.heap.size w w4):=HB1.out.trans (HB3.out.mono HB1.out.size);cases qp with
 |false=>have hv:Hid (parseV PP CC line=none):=hv.out.trans (if_neg (by simp));obtain⟨wz,hsz,hxz,hgz⟩:=box_store aggOp HX4z.out rfl rfl (Opn.one zeroO none 0 none 0);have HBz:=hide (below_growB HB4.out hgz hq4);have HXz:=hide hxz;have HSz:=hide hsz;clear hxz hgz hsz;go_wp2_with ((with_reducible refine dS wz ?_ ?_ ?_);rfl;exact does_store rfl rfl rfl HSz.out);refine bodyPost_ret (v:=.tuple #[.agg (zeroO.cells none 0 none 0),vB false]) (by refine results_ct (p:=4) (q:=5) ?_ ?_ (box_load aggOp HXz.out rfl) <;> rfl) rfl ?_;exact⟨_,false,rfl,by rw[hv.out];rfl,by rw[hv.out];exact opv_nil rfl rfl,HBz.out⟩
 |true=>have hv:Hid (parseV PP CC line=some { zeroO with kind:=11,text:=tx }):=hv.out.trans (if_pos rfl);obtain⟨wz,hsz,hxz,hgz⟩:=box_store (cs':=#[vI kI 11,vI kI 0,vI kI 0,vI kI 0,vI kI 0,vI kI 0,vS none 0 0,vS none 0 0,vB false,vB false,vB false,vT tx]) aggOp HX4z.out rfl rfl (Opn.one ({ zeroO with kind:=11,text:=tx }) none 0 none 0);have HBz:=hide (below_growB HB4.out hgz hq4);have HXz:=hide hxz;have HSz:=hide hsz;have HLd:=hide (box_load aggOp HX3.out rfl);clear hxz hgz hsz;go_wp2_with (first|((with_reducible refine gV 30 (.agg #[vI kI 11,vI kI 0,vI kI 0,vI kI 0,vI kI 0,vI kI 0,vS none 0 0,vS none 0 0,vB false,vB false,vB false,vT tx]) w4 ?_ ?_ ?_);rfl;exact gives_load rfl rfl HLd.out)|((with_reducible refine dS wz ?_ ?_ ?_);rfl;exact does_store rfl rfl rfl HSz.out));refine bodyPost_ret (v:=.tuple #[.agg #[vI kI 11,vI kI 0,vI kI 0,vI kI 0,vI kI 0,vI kI 0,vS none 0 0,vS none 0 0,vB false,vB false,vB false,vT tx],vB true]) (by refine results_ct (p:=4) (q:=5) ?_ ?_ (box_load aggOp HXz.out rfl) <;> rfl) rfl ?_;exact⟨_,true,rfl,by rw[hv.out];rfl,by rw[hv.out];exact opv_nil (o:={ zeroO with kind:=11,text:=tx }) rfl rfl,HBz.out⟩
theorem parse45_words {e:EV}{PP CC:List ByteArray}{line:ByteArray}{w:World}(h1:line.size≤200) (h2:Lib.hasPrefix line.data.toList [115,101,101,100,32]=false) (hE:Elec w e PP CC) (hP:PP.length≤1000) (hPn:∀ s ∈ PP,s.size≤3000000) (hC:CC.length≤1000) (hCn:∀ s ∈ CC,s.size≤3000000) :
  Calls pG 9 #[.agg (e.cells PP.length CC.length),vT line] w (ParseTo w (parseV PP CC line)):=by
 obtain⟨w1,hw1,hs1,hb1,hx2,hx4⟩:=some_boxes (w:=w) (e:=e) (p:=PP.length) (c:=CC.length);obtain⟨x,r,hsp⟩:∃ x r,splitW line=x :: r:=by
  cases h:splitW line with
  |nil=>have:=splitW_length line;rw[h]at this;simp at this
  |cons x r=>exact⟨x,r,rfl⟩
 have hj:=joinS_splitW line;rw[hsp]at hj;have hrl:r.length≤200:=by have:=length_joinS (x :: r);rw[hj]at this;simp at this;omega
 have hrs:∀ s ∈ r,s.size≤1000:=fun s hs=>by have:=mem_size (l:=x :: r) (List.mem_cons_of_mem _ hs);rw[hj]at this;omega
 have hv:Hid (parseV PP CC line=someV PP CC x r):=by unfold parseV;rw[Hid,if_neg (by omega),if_neg (by rw[h2];simp),hsp]
 have HWd:=hide (words45_any (s:=line) (w:=w1) (by omega));rw[wordsL_splitW,hsp]at HWd;have HLe:=hide (fun (v:World) (hv:Below w1.heap.size w1 v)=>box_load aggE8 (hx2.kept hv) rfl);have HSm:=hide (fun (v:World) (hv:Below w1.heap.size w1 v) (lb lo lc:Nat) (hl:Strs v (some ⟨lb,lo,none⟩) (x :: r)) (hlc:r.length+1≤lc)=>some45_any (e:=e) hl hlc (by omega) hrs ((hE.below hb1).below hv) hP hPn hC hCn);have HW1:=hide hw1;have HX4:=hide hx4;have HB1:=hide hb1;have hq4:w.heap.size≤w.heap.size+1:=by omega
 have HS1:=hide hs1;have hl:¬ (200:Int) < (line.size:Int):=by omega
 have HP:Hid (5≤line.size→((line.extract 0 5).toList==[115,101,101,100,32])=false):=fun h5=>(pre_eq h5).trans h2;clear hw1 hs1 hb1 hx2 hx4 h1 h2 hsp hj hrs hE hP hPn hC hCn;obtain⟨ecs,hecs⟩:∃ q,e.cells PP.length CC.length=q:=⟨_,rfl⟩;rw[hecs]at HW1 HLe HSm ⊢;clear hecs;obtain⟨O,hO⟩:∃ O,parseV PP CC line=O:=⟨_,rfl⟩;rw[hO]at hv ⊢;rw[← hv.out]at HSm;clear hO hv;go_enter Tryz.func9,Tryz.ntmps9;go_upto_region 1 with (fail);rw[show (w.alloc (.cells ecs 30)).alloc (.cells #[vI kI 0,vI kI 0,vI kI 0,vI kI 0,vI kI 0,vI kI 0,vS none 0 0,vS none 0 0,vB false,vB false,vB false,vT ⟨#[]⟩] 36)=w1 from HW1.out];by_cases h5:5≤line.size;all_goals
  first
   |have hl5:(5:Int)≤(line.size:Int):=by omega
    have hp:=HP.out h5
   |have hl5:¬ (5:Int)≤(line.size:Int):=by omega
  clear HP
  go_upto_region 8 with (fail)
  go_wp2_with fail
  refine HWd.out.mono ?_
  rintro en w2 ⟨v2,rfl,hO2,hb2⟩
  obtain⟨A2,c2,rfl,hc2,hL2,_⟩:=hO2.form
  obtain⟨lb,lo,rfl,_,_⟩:=hL2.at_ (k:=0) (by simp)
  have HL2:Hid (Strs w2 (some ⟨lb,lo,none⟩) (x :: r)):=hL2.mono fun i hi=>hi.1
  have HB2:=hide hb2
  have HL:=hide (HLe.out w2 hb2)
  have HSo:=hide (HSm.out w2 hb2 lb lo c2 HL2.out hc2)
  have HX4a:=hide (HX4.out.kept hb2)
  clear hO2 hb2 hL2 hc2 HLe HSm HL2 HX4
  rw[List.length_cons]
  go_wp2_with ((with_reducible refine gV 34 (.agg ecs) w2 ?_ ?_ ?_);rfl;exact gives_load rfl rfl HL.out)
  refine HSo.out.mono ?_
  rintro en w3 ⟨v3,q,rfl,hq,hV3,hb3,hA3⟩
  obtain⟨cs,rfl,hcs,hone⟩:=hA3.one
  obtain⟨w5,hst5,hx5,hg5⟩:=box_store aggOp (Box.new w3 36 (zeroO.cells none 0 none 0)) rfl hcs hone
  have hb5:Below w3.heap.size w3 w5:=below_grow ((bR _ _).alloc (lR _) _) hg5 (lR _)
  have HSt:Hid ((storeVar 36 ⟨w3.heap.size,0,none⟩ (.agg cs)).run pG (w3.alloc (.cells #[vI kI 0,vI kI 0,vI kI 0,vI kI 0,vI kI 0,vI kI 0,vS none 0 0,vS none 0 0,vB false,vB false,vB false,vT ⟨#[]⟩] 36))=.ok () w5):=hst5
  have HX5:=hide hx5
  have HV3:=hide hV3
  have HX4z:=hide ((HX4a.out.kept hb3).kept hb5)
  have HB5:Hid (Below w.heap.size w w5):=((HB1.out.trans (HB2.out.mono HB1.out.size)).trans (hb3.mono (lT HB1.out.size HB2.out.size))).trans (hb5.mono (lT HB1.out.size (lT HB2.out.size hb3.size)))
  have HF5:=hide hb5
  have HZ:Hid (w.heap.size+1 < w2.heap.size∧w2.heap.size≤w3.heap.size):=⟨HX4a.out.lt,hb3.size⟩
  have HQ:=hide hq
  have HCs:=hide hcs
  have HOne:=hide hone
  clear hst5 hx5 hg5 hb5 hV3 hb3 hA3 hq hcs hone HSo HL HX4a
  cases O with
  |none=>obtain rfl:q=false:=HQ.out;obtain⟨wz,hsz,hxz,hgz⟩:=box_store aggOp HX4z.out rfl rfl (Opn.one zeroO none 0 none 0);have HBz:=hide (below_growB HB5.out hgz hq4);have HXz:=hide hxz;have HSz:=hide hsz;clear hxz hgz hsz;go_wp2_with (first|((with_reducible refine dS w5 ?_ ?_ ?_);rfl;exact does_store rfl rfl rfl HSt.out)|((with_reducible refine dS wz ?_ ?_ ?_);rfl;exact does_store rfl rfl rfl HSz.out));refine bodyPost_ret (v:=.tuple #[.agg (zeroO.cells none 0 none 0),vB false]) (by refine results_ct (p:=4) (q:=5) ?_ ?_ (box_load aggOp HXz.out rfl) <;> rfl) rfl ?_;exact⟨_,false,rfl,rfl,opv_nil rfl rfl,HBz.out⟩
  |some p=>
   obtain rfl:q=true:=HQ.out;obtain⟨wz,hsz,hxz,hgz⟩:=box_store aggOp HX4z.out rfl HCs.out HOne.out;have HBz:=hide (below_growB HB5.out hgz hq4);have HXz:=hide hxz;have HSz:=hide hsz;have HLd:=hide (box_load aggOp HX5.out HCs.out);have HVz:Hid (OpV (fun i=>w.heap.size≤i∧i < wz.heap.size) wz (.agg cs) p):=by have h3:=HV3.out p rfl;have hs5:=HF5.out.size;have h5:OpV (fun i=>w2.heap.size≤i∧i < w3.heap.size) w5 (.agg cs) p:=h3.agree fun i hi=>HF5.out.block i hi.2;have hz:OpV (fun i=>w2.heap.size≤i∧i < w3.heap.size) wz (.agg cs) p:=h5.agree fun i hi=>hgz.block i (by omega) (fun e=>by have:=Option.some.inj e;have:=HZ.out.1;omega);have h6:=hgz.size;exact hz.mono fun i hi=>⟨by have:=HZ.out.1;omega,by omega⟩
   clear hxz hgz hsz;go_wp2_with (first|((with_reducible refine dS w5 ?_ ?_ ?_);rfl;exact does_store rfl rfl rfl HSt.out)|((with_reducible refine gV 42 (.agg cs) w5 ?_ ?_ ?_);rfl;exact gives_load rfl rfl HLd.out)|((with_reducible refine dS wz ?_ ?_ ?_);rfl;exact does_store rfl rfl rfl HSz.out));refine bodyPost_ret (v:=.tuple #[.agg cs,vB true]) (by refine results_ct (p:=4) (q:=5) ?_ ?_ (box_load aggOp HXz.out HCs.out) <;> rfl) rfl ?_;exact⟨_,true,rfl,rfl,HVz.out,HBz.out⟩
set_option maxHeartbeats 200000
set_option maxRecDepth 512
theorem parse45_to {e:EV}{PP CC:List ByteArray}{line:ByteArray}{w:World}(hE:Elec w e PP CC) (hP:PP.length≤1000) (hPn:∀ s ∈ PP,s.size≤3000000) (hC:CC.length≤1000) (hCn:∀ s ∈ CC,s.size≤3000000) :
  Calls pG 9 #[.agg (e.cells PP.length CC.length),vT line] w (ParseTo w (parseV PP CC line)):=by
 by_cases h1:200 < line.size
 ·exact parse45_long h1
 ·cases h2:Lib.hasPrefix line.data.toList [115,101,101,100,32] with
  |true=>exact parse45_seed (by omega) h2
  |false=>exact parse45_words (by omega) h2 hE hP hPn hC hCn
theorem parse45_any {e:EV}{PP CC:List ByteArray}{line:ByteArray}{w:World}(hE:Elec w e PP CC) (hP:PP.length≤1000) (hPn:∀ s ∈ PP,s.size≤3000000) (hC:CC.length≤1000) (hCn:∀ s ∈ CC,s.size≤3000000) :
 Calls pG 9 #[.agg (e.cells PP.length CC.length),vT line] w (SomeTo w (parseV PP CC line)):=(parse45_to hE hP hPn hC hCn).mono fun _ _ h=>h.toSome
end
end Go.Proofs.YtnndaemmgbkjbaaGreatDoor
