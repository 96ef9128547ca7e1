/-
  parts of the proof: Op NormR FromB ToB RatR RatD RatF RatT.
-/
import Derived.Laws.CopyRow
import Derived.Laws.Cells
import Derived.Test.YtnndaemmgbkjbaaGreatDoorPB
import Derived.Test.YtnndaemmgbkjbaaGreatDoorPC
namespace Go.Proofs.YtnndaemmgbkjbaaGreatDoor
open Go.RowKit
open Nat renaming lt_of_lt_of_le → lL, le_trans → lT, le_refl → lR, zero_le → zL
open Go.RowKit.Below renaming refl → bR
open _root_.Go.Proofs.Tryz renaming prog → pG
open Go.Value renaming int → vI, slice → vS, string → vT, bool → vB, pointer → vP
open Go.IntKind renaming i64 → kI
set_option linter.unusedVariables false
set_option linter.unusedSimpArgs false
section
structure Opn where
 kind:Int
 prec:Int
 cont:Int
 scan:Int
 n:Int
 lie:Int
 marks:List Int
 keep:List Bool
 lose:Bool
 deaf:Bool
 twice:Bool
 text:ByteArray
def Opn.cells (o:Opn) (A:Option Addr) (c:Nat) (B:Option Addr) (d:Nat):Array Value:=#[vI kI o.kind,vI kI o.prec,vI kI o.cont,vI kI o.scan,vI kI o.n,vI kI o.lie,vS A o.marks.length c,vS B o.keep.length d,vB o.lose,vB o.deaf,vB o.twice,vT o.text]
def zeroO:Opn:=⟨0,0,0,0,0,0,[],[],false,false,false,⟨#[]⟩⟩
def OpV (F:Nat→Prop) (w:World) (v:Value) (o:Opn):Prop:=∃ A c B d,v=.agg (o.cells A c B d)∧ListIn iv F w A o.marks∧o.marks.length≤c∧ListIn Value.bool F w B o.keep∧o.keep.length≤d
theorem OpV.agree {F:Nat→Prop}{a b:World}{v:Value}{o:Opn}(h:OpV F a v o) (hg:Agree F a b):OpV F b v o:=by
 obtain⟨A,c,B,d,rfl,h1,h2,h3,h4⟩:=h;exact⟨A,c,B,d,rfl,h1.agree hg,h2,h3.agree hg,h4⟩
theorem OpV.mono {F G:Nat→Prop}{w:World}{v:Value}{o:Opn}(h:OpV F w v o) (hs:∀ i,F i→G i):OpV G w v o:=by
 obtain⟨A,c,B,d,rfl,h1,h2,h3,h4⟩:=h;exact⟨A,c,B,d,rfl,h1.mono hs,h2,h3.mono hs,h4⟩
theorem OpV.below {w w':World}{v:Value}{o:Opn}(h:OpV (All w) w v o) (hb:Below w.heap.size w w'):OpV (All w') w' v o:=
 (h.agree (Agree.all hb)).mono fun _ hi=>lL hi hb.size
def OneC (cs:Array Value):Prop:=∀ v ∈ cs.toList,v.oneCell'=true
theorem Opn.one (o:Opn) (A:Option Addr) (c:Nat) (B:Option Addr) (d:Nat):OneC (o.cells A c B d):=by
 intro v hv;simp only[Opn.cells,List.mem_cons,List.not_mem_nil,or_false]at hv;rcases hv with rfl|rfl|rfl|rfl|rfl|rfl|rfl|rfl|rfl|rfl|rfl|rfl <;> rfl
def AggT (t:TypeId) (n:Nat):Prop:=(∃ i0,pG.info? t=some i0∧i0.size=n)∧∀ w:World,(isAgg t).run pG w=.ok true w
theorem aggOp:AggT 36 12:=by
 refine⟨?_,fun w=>?_⟩
 ·have h:(pG.info? 36).map (fun i=>i.size)=some 12:=by kernel_rfl
  obtain⟨i0,h1,h2⟩:=Option.map_eq_some_iff.1 h;exact⟨i0,h1,h2⟩
 ·unfold isAgg;rw[Sem.run_bind,run_underlying Tryz.underlying36 w];rfl
theorem box_load {t:TypeId}{n g:Nat}{cs:Array Value}{w:World}(hT:AggT t n) (h:Box w g t cs) (hs:cs.size=n):(loadVar t ⟨g,0,none⟩).run pG w=.ok (.agg cs) w:=by
 have hc:∀ j v,cs.toList[j]? = some v→w.cell? ((⟨g,0,none⟩:Addr).add j)=some v:=fun j v hv=>by rw[add_off,Nat.zero_add,h.cell];simpa using hv
 have h1:=run_loadCells_list (P:=pG) w ⟨g,0,none⟩ _ hc;rw[Array.length_toList,hs]at h1;obtain⟨⟨i0,h2,h3⟩,h4⟩:=hT;have h5:(loadCells ⟨g,0,none⟩ n).run pG w=.ok cs w:=by simpa using h1
 simp[loadVar,Sem.run_bind,h4,sizeOf,typeInfo,h2,h3,h5]
theorem setRow_grown (w:World) (g:Nat) (cs:Array Value):w.grownBy (w.setRow g cs) (some g):=
 ⟨rfl,rfl,rfl,by simp,fun k hk hne=>setRow_other w g k cs (fun e=>hne (by rw[e]))⟩
set_option maxRecDepth 100000
theorem box_store {t:TypeId}{n g:Nat}{cs cs':Array Value}{w:World}(hT:AggT t n) (h:Box w g t cs) (hs:cs.size=n) (hs':cs'.size=n) (h1:OneC cs') :
  ∃ w',(storeVar t ⟨g,0,none⟩ (.agg cs')).run pG w=.ok () w'∧Box w' g t cs'∧w.grownBy w' (some g):=by
 have hr:=run_storeCells_at pG g 0 t cs'.toList 0 cs w h (by rw[Array.length_toList];omega) h1;have e0:(cs.toList.take (0+0) ++ cs'.toList ++ cs.toList.drop (0+cs'.toList.length+0))=cs'.toList:=by rw[List.take_zero,List.nil_append,List.drop_of_length_le (by rw[Array.length_toList,Array.length_toList];omega),List.append_nil]
 refine⟨w.setRow g cs',?_,setRow_heap w g _ _ _ _ h,setRow_grown _ _ _⟩;obtain⟨⟨i0,h2,h3⟩,h4⟩:=hT;have e:(Value.agg cs').cells.toList=cs'.toList:=by simp[Value.cells]
 have e2:(Value.agg cs').cells.size=n:=by simp[Value.cells,hs']
 simp[storeVar,sizeOf,typeInfo,h2,h3,e,e2];rw[hr];congr 2;apply Array.toList_inj.1;simpa using e0
set_option maxRecDepth 512
theorem results_ct {fn:Func}{p q:Tmp}{ty:TypeId}{tmps:Array Value}{w:World}{a:Addr}{v:Value}(h:fn.results=#[.cell p ty,.tmp q]) (hp:tmps.getD p undef=vP (some a))
  (hl:(loadVar ty a).run pG w=.ok v w):(results fn tmps).run pG w=.ok (.tuple #[v,tmps.getD q undef]) w:=by
 have hp':tmps[p]?.getD undef=vP (some a):=by simpa using hp
 simp[results,h,hp',asAddr,hl]
theorem results_cell {fn:Func}{p:Tmp}{ty:TypeId}{tmps:Array Value}{w:World}{a:Addr}{v:Value}(h:fn.results=#[.cell p ty]) (hp:tmps.getD p undef=vP (some a))
  (hl:(loadVar ty a).run pG w=.ok v w):(results fn tmps).run pG w=.ok v w:=by
 have hp':tmps[p]?.getD undef=vP (some a):=by simpa using hp
 simp[results,h,hp',asAddr,hl]
end
section
def RV (m B:Nat) (w:World) (v:Value):Prop:=∃ neg vn vd n d,v=.agg #[vB neg,vn,vd]∧OwnB B w vn n∧OwnB B w vd d∧NormB n∧NormB d∧n.length≤m∧d.length≤m
theorem RV.kept {m B:Nat}{w w':World}{v:Value}(h:RV m B w v) (hb:Below w.heap.size w w'):RV m B w' v:=by
 obtain⟨neg,vn,vd,n,d,e,h1,h2,h3⟩:=h;exact⟨neg,vn,vd,n,d,e,h1.kept hb,h2.kept hb,h3⟩
theorem RV.lower {m B C:Nat}{w:World}{v:Value}(h:RV m B w v) (hC:C≤B):RV m C w v:=by
 obtain⟨neg,vn,vd,n,d,e,h1,h2,h3⟩:=h;exact⟨neg,vn,vd,n,d,e,h1.lower hC,h2.lower hC,h3⟩
theorem aggR:AggT 96 3:=by
 refine⟨?_,fun w=>?_⟩
 ·have h:(pG.info? 96).map (fun i=>i.size)=some 3:=by kernel_rfl
  obtain⟨i0,h1,h2⟩:=Option.map_eq_some_iff.1 h;exact⟨i0,h1,h2⟩
 ·unfold isAgg;rw[Sem.run_bind,run_underlying Tryz.underlying96 w];rfl
theorem OwnE.one {α:Type} [Inhabited α] {enc:α→Value}{ty:TypeId}{B:Nat}{w:World}{v:Value}{l:List α}(h:OwnE enc ty B w v l):v.oneCell'=true:=by
 obtain⟨A,c,rfl,_⟩:=h.form;rfl
theorem oneR {v0 v1 v2:Value}(h0:v0.oneCell'=true) (h1:v1.oneCell'=true) (h2:v2.oneCell'=true):OneC #[v0,v1,v2]:=by
 intro v hv;simp only[List.mem_cons,List.not_mem_nil,or_false]at hv;rcases hv with rfl|rfl|rfl <;> assumption
theorem storeR {m B g:Nat}{cs:Array Value}{w:World}{neg:Bool}{vn vd:Value}{n d:List Bool}(hx:Box w g 96 cs) (hs:cs.size=3) (hg:B≤g) (hB:g < B+1) (h1:OwnB (g+1) w vn n) (h2:OwnB (g+1) w vd d) (h3:NormB n) (h4:NormB d) (h5:n.length≤m) (h6:d.length≤m) (hBs:B≤w.heap.size) :
  ∃ w',(storeVar 96 ⟨g,0,none⟩ (.agg #[vB neg,vn,vd])).run pG w=.ok () w'∧(loadVar 96 ⟨g,0,none⟩).run pG w'=.ok (.agg #[vB neg,vn,vd]) w'∧RV m B w' (.agg #[vB neg,vn,vd])∧Below B w w':=by
 obtain⟨w',hst,hx',hgr⟩:=box_store (cs':=#[vB neg,vn,vd]) aggR hx hs rfl (oneR rfl h1.one h2.one);have keep:∀ (v:Value) (l:List Bool),OwnB (g+1) w v l→OwnB B w' v l:=fun v l h=>by have h':OwnB (g+1) w' v l:=ownsRow_of h fun k hk hl=>hgr.block k hl (fun e=>by have:=h.lo k hk;injection e with e;omega);exact OwnE.lower h' (by omega)
 exact⟨w',hst,box_load aggR hx' rfl,⟨neg,vn,vd,n,d,rfl,keep _ _ h1,keep _ _ h2,h3,h4,h5,h6⟩,⟨hgr.os,hgr.tape,hgr.output,hgr.size,fun i hi=>hgr.block i (by omega) (fun e=>by injection e with e;omega)⟩⟩
set_option maxHeartbeats 8000000
set_option maxRecDepth 100000
theorem norm_any {A B:Option Addr}{c e m:Nat}{neg:Bool}{n d:List Bool}{w:World}(hA:Bools w A n) (hB:Bools w B d) (hm:n.length≤m) (hm2:d.length≤m) (h64:64≤m) (hmm:m≤1000) (hc:n.length≤c) (he:d.length≤e) (hn:NormB n) (hd:NormB d) :
  Calls pG 83 #[vB neg,vS A n.length c,vS B d.length e] w fun en w'=>∃ v,en=.returned v∧RV m w.heap.size w' v∧Below w.heap.size w w':=by
 have hb1:Below w.heap.size w (w.alloc (.cells #[vB false,vS none 0 0,vS none 0 0] 96)):=(bR _ _).alloc (lR _) _;have hx1:=Box.new w 96 #[vB false,vS none 0 0,vS none 0 0];have hs1:(w.alloc (.cells #[vB false,vS none 0 0,vS none 0 0] 96)).heap.size=w.heap.size+1:=by simp
 obtain⟨w1,hw1⟩:∃ q,w.alloc (.cells #[vB false,vS none 0 0,vS none 0 0] 96)=q:=⟨_,rfl⟩;rw[hw1]at hb1 hx1 hs1;have HA:=hide (ListIn.below hA hb1);have HB:=hide (ListIn.below hB hb1);have HB1:=hide hb1;have HX1:=hide hx1;have HS1:=hide hs1;have HW1:=hide hw1;have HN:=hide hn;have HD:=hide hd;clear hA hB hb1 hx1 hs1 hw1 hn hd;by_cases h0:n.length=0∨d.length=0
 ·have HSm:=hide (small_any (n:=1) (w:=w1) (by decide));go_enter Tryz.func83,Tryz.ntmps83;go_upto_region 1 with (fail);rw[HW1.out];have key:∀ (v:Value) (l:List Bool) (w2:World),OwnB w1.heap.size w2 v l→NormB l→l.length≤64→Below w1.heap.size w1 w2→∃ w',(storeVar 96 ⟨w.heap.size,0,none⟩ (.agg #[vB false,vS none 0 0,v])).run pG w2=.ok () w'∧(loadVar 96 ⟨w.heap.size,0,none⟩).run pG w'=.ok (.agg #[vB false,vS none 0 0,v]) w'∧RV m w.heap.size w' (.agg #[vB false,vS none 0 0,v])∧Below w.heap.size w w':=fun v l w2 h1 h2 h3 h4=>by have hs:=HB1.out.size;have hs2:=h4.size;obtain⟨w',a1,a2,a3,a4⟩:=storeR (m:=m) (neg:=false) (vn:=vS none 0 0) (n:=[]) (HX1.out.kept h4) rfl (lR _) (Nat.lt_succ_self _) (OwnE.nil _ _ _ _) (OwnE.lower h1 (by rw[HS1.out];exact lR _)) rfl h2 (by simp) (by omega) (by omega);exact⟨w',a1,a2,a3,(below_then HB1.out h4).trans a4⟩
  have HK:=hide key;clear key;rcases Nat.eq_zero_or_pos n.length with h1|h1
  ·have e1:((n.length:Int)==0)=true:=beq_iff_eq.2 (by omega);clear h0;go_wp2_with fail;refine HSm.out.mono ?_;rintro en w2 ⟨v,l,rfl,ho,_,hnl,hl,hb⟩;obtain⟨A9,c9,rfl,_,_,_⟩:=ho.form;obtain⟨w3,hst,hld,hrv,hbl⟩:=HK.out _ l w2 ho hnl hl hb;have HSt:=hide hst;have HLd:=hide hld;clear ho hnl hl hb hst hld;go_wp2_with ((with_reducible refine dS w3 ?_ ?_ ?_);rfl;exact does_store rfl rfl rfl HSt.out);refine bodyPost_ret (v:=.agg #[vB false,vS none 0 0,vS A9 l.length c9]) (by refine results_cell (p:=6) ?_ ?_ HLd.out <;> rfl) rfl ?_;exact⟨_,rfl,hrv,hbl⟩
  ·have e1:((n.length:Int)==0)=false:=bN (by omega);have e2:((d.length:Int)==0)=true:=beq_iff_eq.2 (by omega);clear h0;go_wp2_with fail;refine HSm.out.mono ?_;rintro en w2 ⟨v,l,rfl,ho,_,hnl,hl,hb⟩;obtain⟨A9,c9,rfl,_,_,_⟩:=ho.form;obtain⟨w3,hst,hld,hrv,hbl⟩:=HK.out _ l w2 ho hnl hl hb;have HSt:=hide hst;have HLd:=hide hld;clear ho hnl hl hb hst hld;go_wp2_with ((with_reducible refine dS w3 ?_ ?_ ?_);rfl;exact does_store rfl rfl rfl HSt.out);refine bodyPost_ret (v:=.agg #[vB false,vS none 0 0,vS A9 l.length c9]) (by refine results_cell (p:=6) ?_ ?_ HLd.out <;> rfl) rfl ?_;exact⟨_,rfl,hrv,hbl⟩
 ·have h1:0 < n.length:=by omega
  have h2:0 < d.length:=by omega
  have e1:((n.length:Int)==0)=false:=bN (by omega);have e2:((d.length:Int)==0)=false:=bN (by omega);have HG:=hide (gcd_any (c:=c) (d:=e) HA.out HB.out (by omega) (by omega) hc he (norm_pos HN.out h1) HD.out);clear h0 h1 h2;go_enter Tryz.func83,Tryz.ntmps83;go_upto_region 1 with (fail);rw[HW1.out];go_wp2_with fail;refine HG.out.mono ?_;rintro en w2 ⟨v2,g,rfl,ho2,hg,_,hgl,hb2⟩;obtain⟨A2,c2,rfl,_,_,_⟩:=ho2.form;have HD1:=hide (divB_any (c:=c) (d:=c2) (ListIn.below HA.out hb2) ho2.list (by omega) hgl hg);have HO2:=hide ho2;have HBl2:=hide hb2;have HGp:=hide hg;have HGl:=hide hgl;clear ho2 hg hgl hb2;go_wp2_with fail;refine HD1.out.mono ?_;rintro en w3 ⟨vx,vr,x,r,rfl,hox,_,_,_,hnx,_,hlx,_,hb3⟩;obtain⟨A7,c7,rfl,_,_,_⟩:=hox.form;have HD2:=hide (divB_any (c:=e) (d:=c2) (ListIn.below HB.out (below_then HBl2.out hb3)) (ListIn.below (OwnE.list HO2.out) hb3) (by omega) HGl.out HGp.out);have HOx:=hide hox;have HNx:=hide hnx;have HLx:=hide hlx;have HBl3:=hide (below_then HBl2.out hb3);have HSz2:=hide HBl2.out.size;clear hox hnx hlx hb3;go_wp2_with fail;refine HD2.out.mono ?_;rintro en w4 ⟨vy,vr2,y,r2,rfl,hoy,_,_,_,hny,_,hly,_,hb4⟩;have hs:=HB1.out.size;have hs3:=HBl3.out.size;have hs2:=HSz2.out;have hbl4:=below_then HBl3.out hb4;have hs4:=hbl4.size;obtain⟨A8,c8,rfl,_,_,_⟩:=hoy.form;obtain⟨w5,a1,a2,a3,a4⟩:=storeR (m:=m) (neg:=neg) (HX1.out.kept hbl4) rfl (lR _) (Nat.lt_succ_self _) (OwnE.lower (OwnE.kept HOx.out hb4) (by have:=HS1.out;omega)) (OwnE.lower hoy (by have:=HS1.out;omega)) HNx.out hny (by have:=HLx.out;omega) (by omega) (by omega);have HSt:=hide a1;have HLd:=hide a2;have HRv:=hide a3;have HBl5:=hide ((below_then HB1.out hbl4).trans a4);clear a1 a2 a3 a4 hbl4 hoy hny hly hb4 hs hs2 hs3 hs4;go_wp2_with ((with_reducible refine dS w5 ?_ ?_ ?_);rfl;exact does_store rfl rfl rfl HSt.out);refine bodyPost_ret (v:=.agg #[vB neg,vS A7 x.length c7,vS A8 y.length c8]) (by refine results_cell (p:=6) ?_ ?_ HLd.out <;> rfl) rfl ?_;exact⟨_,rfl,HRv.out,HBl5.out⟩
end
section
def natv (n:Int):Value:=.int .u32 n
abbrev Nats (w:World) (A:Option Addr) (l:List Int):Prop:=ListIn natv (All w) w A l
set_option maxHeartbeats 4000000
set_option maxRecDepth 100000
theorem fromB_any {A:Option Addr}{c:Nat}{a:List Int}{w:World}(ha:Nats w A a) (hm:a.length≤20) :
  Calls pG 84 #[vS A a.length c] w fun e w'=>∃ v l,e=.returned v∧OwnB w.heap.size w' v l∧NormB l∧l.length≤32 * a.length∧Below w.heap.size w w':=by
 have HA:=hide ha;clear ha;go_enter Tryz.func84,Tryz.ntmps84;go_wp2_with fail;go_loopw [3,4,5] (fun o i _ wr=>∃ k:Nat,k≤a.length∧i=vI kI k∧∃ (v:Value) (s:List Bool),o=v∧Hid (OwnB w.heap.size wr v s)∧Hid (s.length=32 * k)∧Hid (Below w.heap.size w wr)) (fun _ i _ _=>a.length - (iOf i).toNat);case atStart=>exact⟨0,zL _,rfl,_,[],rfl,OwnE.nil _ _ _ _,rfl,bR _ _⟩
 case round=>
  obtain⟨k,hk,rfl,v,s,rfl,HO,HL,HW⟩:=hrel;by_cases hlt:k < a.length
  ·obtain⟨b0,off,hA0,hbk,hcell⟩:=HA.out.at_ hlt;subst hA0;generalize a.getD k default=x at *;unfold natv at hcell;have HC:=hide hcell;have HBk:=hide hbk;clear hcell hbk;go_wp2_with fail;go_loopw [3,5] (fun o j wi=>∃ m:Nat,m≤32∧j=.int .u64 m∧∃ (v:Value) (s:List Bool),o=v∧Hid (OwnB w.heap.size wi v s)∧Hid (s.length=32 * k+m)∧Hid (Below w.heap.size w wi)) (fun _ j _=>32 - (iOf j).toNat);case atStart=>exact⟨0,zL _,rfl,_,s,rfl,HO.out,HL.out,HW.out⟩
   case round=>
    obtain⟨m,hm32,rfl,v,s,rfl,HO,HL,HW⟩:=hrel;by_cases hlt2:m < 32
    ·have hcell:=(HW.out.cell (p:=⟨b0,off+k,none⟩) HBk.out).trans HC.out;have hbs:=lL HBk.out HW.out.size;have hm2:(m:Int) < 32:=by omega
     obtain⟨A4,c4,w4,hr4,hO4,hb4⟩:=push_bit HO.out HW.out.size (by have:=HL.out;omega) 94 (bits BinOp.and IntKind.u32 (x / 2 ^ m) 1==1);have HR4:=hide hr4;have HO4:=hide hO4;have HL4:Hid ((s ++ [bits BinOp.and IntKind.u32 (x / 2 ^ m) 1==1]).length=32 * k+(m+1)):=by rw[Hid,List.length_append,HL.out];rfl
     have HW4:=hide (HW.out.trans hb4);clear hr4 hO4 hb4;go_wp2_with ((with_reducible refine gV 26 (Value.slice A4 (s.length+1) c4) w4 ?_ ?_ ?_);rfl;exact gives_append rfl rfl rfl HR4.out);go_roundw;case rel=>exact⟨m+1,by omega,by go_num,_,_,rfl,HO4.out,HL4.out,HW4.out⟩
     case measure=>simp[iOf];omega
    ·obtain rfl:m=32:=by omega
     go_wp2_with fail;go_roundw;case rel=>exact⟨k+1,by omega,by go_num,_,s,rfl,HO.out,(by rw[Hid,HL.out];omega),HW.out⟩
     case measure=>simp[iOf];omega
  ·obtain rfl:k=a.length:=by omega
   obtain⟨A2,c2,rfl,hcc,_,_⟩:=HO.out.form;have hlen:=HL.out;have HT:=hide (trim_any (c:=c2) (OwnE.list HO.out) (by omega) hcc);have hsw:=HW.out.size;have hll:Hid ((trimB s).length≤32 * a.length):=by rw[Hid];have:=trimB_length s;omega
   clear hcc hlen;go_wp2_with fail;refine HT.out.mono ?_;rintro e w1 ⟨v1,rfl,hO1,hb1⟩;have HO1:=hide hO1;have HB1:=hide hb1;clear hO1 hb1;go_wp2_with fail;go_ret;exact⟨_,_,rfl,HO1.out.lower hsw,trimB_norm _,hll.out,below_then HW.out HB1.out⟩
set_option maxHeartbeats 2000000
theorem eqNat_any {A B:Option Addr}{c d:Nat}{a b:List Int}{w:World}(ha:Nats w A a) (hb:Nats w B b) (hm:a.length≤1000000) (hm2:b.length≤1000000) :
  Calls pG 85 #[vS A a.length c,vS B b.length d] w fun e w'=>∃ r:Bool,e=.returned (vB r)∧Drew w w':=by
 have HA:=hide ha;have HB:=hide hb;clear ha hb;go_enter Tryz.func85,Tryz.ntmps85;by_cases hl:a.length=b.length
 ·have hl':((a.length:Int)==(b.length:Int))=true:=beq_iff_eq.2 (by omega);have HL:=hide hl;clear hl;go_wp2_with fail;go_loopw [5] (fun i wr=>∃ k:Nat,k≤a.length∧i=vI kI k∧Hid (Drew w wr)) (fun i _=>a.length - (iOf i).toNat);case atStart=>exact⟨0,zL _,rfl,Drew.refl _⟩
  case round=>
   obtain⟨k,hk,rfl,HD⟩:=hrel;by_cases hlt:k < a.length
   ·obtain⟨b1,off1,rfl,hb1,h1⟩:=HA.out.at_ hlt;obtain⟨b2,off2,rfl,hb2,h2⟩:=HB.out.at_ (k:=k) (by have:=HL.out;omega);have h1:=(HD.out.below.cell (p:=⟨b1,off1+k,none⟩) hb1).trans h1;have h2:=(HD.out.below.cell (p:=⟨b2,off2+k,none⟩) hb2).trans h2;have hkb:(k:Int) < (b.length:Int):=by have:=HL.out;omega
    unfold natv at h1 h2;generalize a.getD k default=x at *;generalize b.getD k default=y at *;by_cases hxy:x=y
    ·subst hxy;go_wp2_with (fail);go_quiet (fail);go_wp2_with fail;go_roundw;case rel=>exact⟨k+1,by omega,by go_num,HD.out.drew _⟩
     case measure=>simp[iOf];omega
    ·go_wp2_with (fail);go_quiet (fail);go_wp2_with fail;go_ret;exact⟨_,rfl,HD.out.drew _⟩
   ·obtain rfl:k=a.length:=by omega
    go_wp2_with fail;go_ret;exact⟨_,rfl,HD.out⟩
 ·have hl':((a.length:Int)==(b.length:Int))=false:=bN (by omega);clear hl;go_wp2_with fail;go_ret;exact⟨_,rfl,Drew.refl _⟩
end
section
theorem u32info:(pG.info? 100).map (fun i=>(i.zero,i.size,i.bytes))=some (some (.int .u32 0),1,4):=by kernel_rfl
def NatBox (w:World) (b n:Nat):Prop:=∃ cs:Array Value,Box w b 100 cs∧cs.size=n∧∀ (i:Nat) (v:Value),cs[i]? = some v→∃ x:Int,v=Value.int .u32 x
theorem NatBox.at_ {w:World}{b n i:Nat}(h:NatBox w b n) (hi:i < n):∃ x,w.cell? ⟨b,i,none⟩=some (.int .u32 x):=by
 obtain⟨cs,hx,hs,hv⟩:=h;have e:cs[i]? = some cs[i]:=Array.getElem?_eq_getElem (by omega);obtain⟨x,hx2⟩:=hv i _ e;exact⟨x,by rw[hx.cell,e,hx2]⟩
theorem NatBox.set {w:World}{b n i:Nat}(h:NatBox w b n) (x:Int):NatBox (w.setCell ⟨b,i,none⟩ (.int .u32 x)) b n:=by
 obtain⟨cs,hx,hs,hv⟩:=h;refine⟨_,hx.set i _,by simpa using hs,fun j v e=>?_⟩;rw[Array.getElem?_setIfInBounds]at e;split at e
 ·split at e
  ·injection e with e;exact⟨x,e.symm⟩
  ·cases e
 ·exact hv j v e
theorem NatBox.lt {w:World}{b n:Nat}(h:NatBox w b n):b < w.heap.size:=by
 obtain⟨cs,hx,_⟩:=h;exact hx.lt
theorem NatBox.kept {w w':World}{b n:Nat}(h:NatBox w b n) (hb:Below w.heap.size w w'):NatBox w' b n:=by
 obtain⟨cs,hx,q⟩:=h;exact⟨cs,hx.kept hb,q⟩
theorem natbox_made (w:World) (n:Nat):NatBox (w.alloc (.cells (madeCells #[.int .u32 0] n) 100)) w.heap.size n:=by
 refine⟨_,Box.new _ _ _,by simp[madeCells],fun i v e=>?_⟩;have hm:=Array.mem_of_getElem? e;simp[madeCells]at hm;obtain⟨j,_,h1⟩:=hm;rw[Nat.mod_one]at h1;exact⟨0,h1.symm⟩
set_option maxHeartbeats 4000000
set_option maxRecDepth 100000
theorem toB_any {A:Option Addr}{c:Nat}{a:List Bool}{w:World}(ha:Bools w A a) (hm:a.length≤1000) (hc:a.length≤c) :
  Calls pG 138 #[vS A a.length c] w fun e w'=>∃ b n,e=.returned (vS (some ⟨b,0,none⟩) n n)∧w.heap.size≤b∧n≤100∧NatBox w' b n∧Below w.heap.size w w':=by
 have HT:=hide (trim_any (c:=c) ha (by omega) hc);have hl:=trimB_length a;clear ha;go_enter Tryz.func138,Tryz.ntmps138;go_wp2_with fail;refine HT.out.mono ?_;rintro e w1 ⟨v1,rfl,hO1,hb1⟩;obtain⟨A2,c2,rfl,hcc,_,_⟩:=hO1.form;generalize trimB a=t at *;obtain⟨n,hn⟩:∃ n,(t.length+31) / 32=n:=⟨_,rfl⟩;have hni:((t.length:Int)+31) / 32=(n:Int):=by omega
 have hnl:n≤100:=by omega
 have hmk:(Instr.makeSlice 26 (vI kI n) (vI kI n)).run pG w1=.ok (vS (some ⟨w1.heap.size,0,none⟩) n n) (w1.alloc (.cells (madeCells #[.int .u32 0] n) 100)):=
  run_make_row' 26 100 (.int .u32 0) 4 Tryz.underlying26 u32info rfl .i64 .i64 n (by omega) (by omega) w1
 have hB0:Below w1.heap.size w1 (w1.alloc (.cells (madeCells #[.int .u32 0] n) 100)):=(bR _ _).alloc (lR _) _;have hbox0:=natbox_made w1 n;obtain⟨w2,hw2⟩:∃ q,w1.alloc (.cells (madeCells #[.int .u32 0] n) 100)=q:=⟨_,rfl⟩;rw[hw2,← hni]at hmk;rw[hw2]at hB0 hbox0;obtain⟨g,hg⟩:∃ g,w1.heap.size=g:=⟨_,rfl⟩;have hL:ListIn Value.bool (fun b=>b < g) w2 A2 t:=(ListIn.mono (hO1.list) (fun i hi=>by rw[← hg];exact hi)).agree (fun i hi=>hB0.block i (by omega));have hs1:=hb1.size;have HMk:=hide hmk;have HL:=hide hL;have HX:=hide hbox0;have HB1:=hide (below_then hb1 hB0);have HG:=hide (show w.heap.size≤g by omega);have HNn:=hide hn;rw[hg]at HMk HX;clear hmk hB0 hbox0 hw2 hO1 hb1 hL hs1 hcc hn hg hni;go_wp2_with ((with_reducible refine gV 11 (Value.slice (some ⟨g,0,none⟩) n n) w2 ?_ ?_ ?_);rfl;exact gives_make rfl rfl rfl HMk.out);go_loopw [4] (fun i wr=>∃ k:Nat,k≤t.length∧i=vI kI k∧Hid (NatBox wr g n)∧Hid (Below g w2 wr)) (fun i _=>t.length - (iOf i).toNat);case atStart=>exact⟨0,zL _,rfl,HX.out,bR _ _⟩
 case round=>
  obtain⟨k,hk,rfl,HX2,HB2⟩:=hrel;by_cases hlt:k < t.length
  ·obtain⟨b0,off,hA0,hbk,hcell⟩:=HL.out.at_ hlt;subst hA0;have hcell:=(HB2.out.cell (p:=⟨b0,off+k,none⟩) hbk).trans hcell;generalize t.getD k default=y at *;obtain⟨q,hq⟩:∃ q,k / 32=q:=⟨_,rfl⟩;obtain⟨r,hr⟩:∃ r,k % 32=r:=⟨_,rfl⟩;have hqn:q < n:=by have:=HNn.out;omega
   have hqi:(k:Int) / 32=(q:Int):=by omega
   have hri:(k:Int) % 32=(r:Int):=by omega
   have hr32:(r:Int) < 32:=by omega
   have hqz:(q:Int) < (n:Int):=by omega
   obtain⟨x,hx⟩:=HX2.out.at_ hqn;have hgl:=HX2.out.lt;have hfr:wr.frozen? ⟨g,q,none⟩=false:=by obtain⟨cs,hx,_⟩:=HX2.out;exact hx.frozen q
   clear hq hr;cases y with
   |true=>
    go_wp2_with fail;go_roundw;case rel=>exact⟨k+1,by omega,by go_num,HX2.out.set _,HB2.out.setCell (lR _) _⟩
    case measure=>simp[iOf];omega
   |false=>
    go_wp2_with fail;go_roundw;case rel=>exact⟨k+1,by omega,by go_num,HX2.out,HB2.out⟩
    case measure=>simp[iOf];omega
  ·obtain rfl:k=t.length:=by omega
   go_wp2_with fail;go_ret;exact⟨g,n,rfl,HG.out,hnl,HX2.out,HB1.out.trans (HB2.out.mono HG.out)⟩
end
section
theorem storeRV {m B g:Nat}{cs:Array Value}{w:World}{v:Value}(hx:Box w g 96 cs) (hs:cs.size=3) (hg:B≤g) (h:RV m (g+1) w v) (hBs:B≤w.heap.size) :
  ∃ w',(storeVar 96 ⟨g,0,none⟩ v).run pG w=.ok () w'∧(loadVar 96 ⟨g,0,none⟩).run pG w'=.ok v w'∧RV m B w' v∧Below B w w':=by
 obtain⟨neg,vn,vd,n,d,rfl,h1,h2,h3,h4,h5,h6⟩:=h;obtain⟨w',hst,hx',hgr⟩:=box_store (cs':=#[vB neg,vn,vd]) aggR hx hs rfl (oneR rfl h1.one h2.one);have keep:∀ (v:Value) (l:List Bool),OwnB (g+1) w v l→OwnB B w' v l:=fun v l h=>by have h':OwnB (g+1) w' v l:=ownsRow_of h fun k hk hl=>hgr.block k hl (fun e=>by have:=h.lo k hk;injection e with e;omega);exact OwnE.lower h' (by omega)
 exact⟨w',hst,box_load aggR hx' rfl,⟨neg,vn,vd,n,d,rfl,keep _ _ h1,keep _ _ h2,h3,h4,h5,h6⟩,⟨hgr.os,hgr.tape,hgr.output,hgr.size,fun i hi=>hgr.block i (by omega) (fun e=>by injection e with e;omega)⟩⟩
theorem RV.open {m B:Nat}{w:World}{v:Value}(h:RV m B w v):∃ (neg:Bool) (A D:Option Addr) (n d:List Bool) (c e:Nat),v=.agg #[vB neg,vS A n.length c,vS D d.length e]∧Bools w A n∧Bools w D d∧NormB n∧NormB d∧n.length≤m∧d.length≤m∧n.length≤c∧d.length≤e:=by
 obtain⟨neg,vn,vd,n,d,rfl,h1,h2,h3,h4,h5,h6⟩:=h;obtain⟨A,c,rfl,hc,_⟩:=h1.form;obtain⟨D,e,rfl,he,_⟩:=h2.form;exact⟨neg,A,D,n,d,c,e,rfl,h1.list,h2.list,h3,h4,h5,h6,hc,he⟩
set_option maxHeartbeats 2000000
set_option maxRecDepth 100000
theorem word64_any {n:Int}{w:World} :
  Calls pG 140 #[.int .u64 n] w fun e w'=>∃ v l,e=.returned v∧OwnB w.heap.size w' v l∧NormB l∧l.length≤64∧Below w.heap.size w w':=by
 have HF:Hid (∀ x y:Int,Calls pG 84 #[vS (some ⟨w.heap.size,0,none⟩) 2 2] (w.alloc (.cells #[.int .u32 x,.int .u32 y] 100)) fun e w'=>∃ v l,e=.returned v∧OwnB (w.alloc (.cells #[.int .u32 x,.int .u32 y] 100)).heap.size w' v l∧NormB l∧l.length≤64∧Below (w.alloc (.cells #[.int .u32 x,.int .u32 y] 100)).heap.size (w.alloc (.cells #[.int .u32 x,.int .u32 y] 100)) w'):=fun x y=>by refine fromB_any (a:=[x,y]) (c:=2) (fun hp=>⟨w.heap.size,0,rfl,by simp[All],fun k hk=>?_⟩) (by simp);rw[(Box.new w _ _).cell];rcases (show k=0∨k=1 by simp at hk;omega) with rfl|rfl <;> rfl
 go_enter Tryz.func140,Tryz.ntmps140;go_wp2_with fail;refine(HF.out _ _).mono ?_;rintro e w1 ⟨v,l,rfl,hO,hn,hl,hb⟩;have HO:=hide (hO.lower (C:=w.heap.size) (by simp));have HN:=hide hn;have HL:=hide hl;have HB:=hide (below_box hb);clear hO hn hl hb;go_wp2_with fail;go_ret;exact⟨_,l,rfl,HO.out,HN.out,HL.out,HB.out⟩
set_option maxHeartbeats 4000000
theorem of_any {n:Nat}{w:World} :
  Calls pG 126 #[vI kI n] w fun e w'=>∃ v,e=.returned v∧RV 64 w.heap.size w' v∧Below w.heap.size w w':=by
 have hb1:Below w.heap.size w (w.alloc (.cells #[vB false,vS none 0 0,vS none 0 0] 96)):=(bR _ _).alloc (lR _) _;have hx1:=Box.new w 96 #[vB false,vS none 0 0,vS none 0 0];have hs1:(w.alloc (.cells #[vB false,vS none 0 0,vS none 0 0] 96)).heap.size=w.heap.size+1:=by simp
 obtain⟨w1,hw1⟩:∃ q,w.alloc (.cells #[vB false,vS none 0 0,vS none 0 0] 96)=q:=⟨_,rfl⟩;rw[hw1]at hb1 hx1 hs1;have HB1:=hide hb1;have HX1:=hide hx1;have HS1:=hide hs1;have HW1:=hide hw1;clear hb1 hx1 hs1 hw1;have hn0:¬ (n:Int) < 0:=by omega
 have HWd:=hide (fun (x:Int)=>word64_any (n:=x) (w:=w1));have HSm:=hide (fun wq=>small_any (n:=1) (w:=wq) (by decide));go_enter Tryz.func126,Tryz.ntmps126;go_upto_region 1 with (fail);rw[HW1.out];go_wp2_with fail;refine(HWd.out _).mono ?_;rintro e w2 ⟨v2,l2,rfl,hO2,hn2,hl2,hb2⟩;have HO2:=hide hO2;have HN2:=hide hn2;have HL2:=hide hl2;have HB2:=hide hb2;clear hO2 hn2 hl2 hb2;go_wp2_with fail;refine(HSm.out _).mono ?_;rintro e w3 ⟨v3,l3,rfl,hO3,_,hn3,hl3,hb3⟩;have HO2':=hide (HO2.out.kept hb3);obtain⟨A2,c2,rfl,hc2,_,_⟩:=HO2.out.form;obtain⟨A3,c3,rfl,hc3,_,_⟩:=hO3.form;have HNo:=hide (norm_any (neg:=false) (m:=64) (c:=c2) (e:=c3) HO2'.out.list hO3.list (by have:=HL2.out;omega) (by omega) (by decide) (by decide) hc2 hc3 HN2.out hn3);have HB3:=hide (below_then HB2.out hb3);clear hO3 hn3 hl3 hb3 hc2 hc3;go_wp2_with fail;refine HNo.out.mono ?_;rintro e w4 ⟨v4,rfl,hr4,hb4⟩;have hbl:=below_then HB3.out hb4;have hs:=HB1.out.size;have hs3:=HB3.out.size;obtain⟨w5,a1,a2,a3,a4⟩:=storeRV (B:=w.heap.size) (HX1.out.kept hbl) rfl (lR _) (hr4.lower (by have:=HS1.out;omega)) (by have:=hbl.size;omega);have HSt:=hide a1;have HLd:=hide a2;have HRv:=hide a3;have HBl5:=hide ((below_then HB1.out hbl).trans a4);clear a1 a2 a3 a4 hr4 hb4 hbl hs hs3;obtain⟨neg,A9,D9,n9,d9,c9,e9,rfl,_⟩:=HRv.out.open;go_wp2_with ((with_reducible refine dS w5 ?_ ?_ ?_);rfl;exact does_store rfl rfl rfl HSt.out);refine bodyPost_ret (v:=.agg #[vB neg,vS A9 n9.length c9,vS D9 d9.length e9]) (by refine results_cell (p:=2) ?_ ?_ HLd.out <;> rfl) rfl ?_;exact⟨_,rfl,HRv.out,HBl5.out⟩
set_option maxHeartbeats 200000
set_option maxRecDepth 512
theorem aggRatio:AggT 28 3:=by
 refine⟨?_,fun w=>?_⟩
 ·have h:(pG.info? 28).map (fun i=>i.size)=some 3:=by kernel_rfl
  obtain⟨i0,h1,h2⟩:=Option.map_eq_some_iff.1 h;exact⟨i0,h1,h2⟩
 ·unfold isAgg;rw[Sem.run_bind,run_underlying Tryz.underlying28 w];rfl
set_option maxHeartbeats 2000000
set_option maxRecDepth 100000
theorem eqR_any {p q:Bool}{A B C D:Option Addr}{a b c d:List Int}{ca cb cc cd:Nat}{w:World}(hA:Nats w A a) (hB:Nats w B b) (hC:Nats w C c) (hD:Nats w D d) (ma:a.length≤1000) (mb:b.length≤1000) (mc:c.length≤1000) (md:d.length≤1000) :
  Calls pG 46 #[.agg #[vB p,vS A a.length ca,vS B b.length cb],.agg #[vB q,vS C c.length cc,vS D d.length cd]] w fun e w'=>∃ r:Bool,e=.returned (vB r)∧Below w.heap.size w w':=by
 obtain⟨w1,hw1⟩:∃ x,(w.alloc (.cells #[vB p,vS A a.length ca,vS B b.length cb] 28)).alloc (.cells #[vB q,vS C c.length cc,vS D d.length cd] 28)=x:=⟨_,rfl⟩;have hb1:Below w.heap.size w w1:=by rw[← hw1];exact((bR _ _).alloc (lR _) _).alloc (by simp) _
 have hx0:Box w1 w.heap.size 28 #[vB p,vS A a.length ca,vS B b.length cb]:=by rw[← hw1];exact(Box.new _ _ _).alloc _
 have hx1:Box w1 (w.heap.size+1) 28 #[vB q,vS C c.length cc,vS D d.length cd]:=by rw[← hw1];have:=Box.new (w.alloc (.cells #[vB p,vS A a.length ca,vS B b.length cb] 28)) 28 #[vB q,vS C c.length cc,vS D d.length cd];rwa [World.size_alloc]at this
 have HE1:=hide (fun wq (h:Drew w1 wq)=>eqNat_any (c:=ca) (d:=cc) (w:=wq) (ListIn.below hA (hb1.trans (h.below.mono hb1.size))) (ListIn.below hC (hb1.trans (h.below.mono hb1.size))) (by omega) (by omega));have HE2:=hide (fun wq (h:Drew w1 wq)=>eqNat_any (c:=cb) (d:=cd) (w:=wq) (ListIn.below hB (hb1.trans (h.below.mono hb1.size))) (ListIn.below hD (hb1.trans (h.below.mono hb1.size))) (by omega) (by omega));have HX0:=hide hx0;have HX1:=hide hx1;have HB1:=hide hb1;have HW1:=hide hw1;clear hA hB hC hD hx0 hx1 hb1 hw1;have c00:=HX0.out.cell 0;have c01:=HX0.out.cell 1;have c02:=HX0.out.cell 2;have c10:=HX1.out.cell 0;have c11:=HX1.out.cell 1;have c12:=HX1.out.cell 2;simp at c00 c01 c02 c10 c11 c12;cases hpq:(p==q) with
 |false=>go_enter Tryz.func46,Tryz.ntmps46;go_upto_region 1 with (fail);rw[HW1.out];go_wp2_with fail;go_ret;exact⟨_,rfl,HB1.out⟩
 |true=>
  go_enter Tryz.func46,Tryz.ntmps46;go_upto_region 1 with (fail);rw[HW1.out];go_wp2_with fail;refine(HE1.out _ (Drew.refl _)).mono ?_;rintro e w2 ⟨r,rfl,hd2⟩;have HD2:=hide hd2;have c02:=(hd2.below.cell (p:=⟨w.heap.size,2,none⟩) HX0.out.lt).trans c02;have c12:=(hd2.below.cell (p:=⟨w.heap.size+1,2,none⟩) HX1.out.lt).trans c12;clear hd2;cases r with
  |false=>go_wp2_with fail;go_ret;exact⟨_,rfl,below_then HB1.out HD2.out.below⟩
  |true=>have hlt0:w.heap.size < w2.heap.size:=lL HX0.out.lt HD2.out.below.size;have hlt1:w.heap.size+1 < w2.heap.size:=lL HX1.out.lt HD2.out.below.size;go_wp2_with fail;refine(HE2.out _ HD2.out).mono ?_;rintro e w3 ⟨r,rfl,hd3⟩;have HD3:=hide (HD2.out.trans hd3);clear hd3;go_wp2_with fail;go_ret;exact⟨_,rfl,below_then HB1.out HD3.out.below⟩
end
section
theorem RV.agg {m B:Nat}{w:World}{neg:Bool}{x y:Value}(h:RV m B w (.agg #[vB neg,x,y])):∃ n d,OwnB B w x n∧OwnB B w y d∧NormB n∧NormB d∧n.length≤m∧d.length≤m:=by
 obtain⟨neg',vn,vd,n,d,e,q⟩:=h;injection e with e;have e1:x=vn:=by have:=congrArg (fun a=>a[1]?) e;simpa using this
 have e2:y=vd:=by have:=congrArg (fun a=>a[2]?) e;simpa using this
 subst e1 e2;exact⟨n,d,q⟩
theorem storedRV {m B g:Nat}{w:World}{c0 c1 c2 x y:Value}{neg:Bool}(hx:Box w g 96 #[c0,c1,c2]) (hg:B≤g) (h:RV m (g+1) w (.agg #[vB neg,x,y])) (hBs:B≤w.heap.size) :
  (loadVar 96 ⟨g,0,none⟩).run pG (((w.setCell ⟨g,0,none⟩ (vB neg)).setCell ⟨g,1,none⟩ x).setCell ⟨g,2,none⟩ y)=.ok (.agg #[vB neg,x,y]) (((w.setCell ⟨g,0,none⟩ (vB neg)).setCell ⟨g,1,none⟩ x).setCell ⟨g,2,none⟩ y)∧
  RV m B (((w.setCell ⟨g,0,none⟩ (vB neg)).setCell ⟨g,1,none⟩ x).setCell ⟨g,2,none⟩ y) (.agg #[vB neg,x,y])∧Below B w (((w.setCell ⟨g,0,none⟩ (vB neg)).setCell ⟨g,1,none⟩ x).setCell ⟨g,2,none⟩ y):=by
 have hx':Box (((w.setCell ⟨g,0,none⟩ (vB neg)).setCell ⟨g,1,none⟩ x).setCell ⟨g,2,none⟩ y) g 96 #[vB neg,x,y]:=((hx.set 0 _).set 1 _).set 2 _;have hfar:∀ i,i≠g→(((w.setCell ⟨g,0,none⟩ (vB neg)).setCell ⟨g,1,none⟩ x).setCell ⟨g,2,none⟩ y).heap[i]? = w.heap[i]? := fun i hi=>by rw[Below.heap_setCell _ ⟨g,2,none⟩ _ i hi,Below.heap_setCell _ ⟨g,1,none⟩ _ i hi,Below.heap_setCell _ ⟨g,0,none⟩ _ i hi]
 obtain⟨n,d,h1,h2,h3,h4,h5,h6⟩:=h.agg;have keep:∀ (v:Value) (l:List Bool),OwnB (g+1) w v l→OwnB B (((w.setCell ⟨g,0,none⟩ (vB neg)).setCell ⟨g,1,none⟩ x).setCell ⟨g,2,none⟩ y) v l:=fun v l h=>by have h':OwnB (g+1) (((w.setCell ⟨g,0,none⟩ (vB neg)).setCell ⟨g,1,none⟩ x).setCell ⟨g,2,none⟩ y) v l:=ownsRow_of h fun k hk hl=>hfar k (fun e=>by have:=h.lo k hk;omega);exact OwnE.lower h' (by omega)
 exact⟨box_load aggR hx' rfl,⟨neg,x,y,n,d,rfl,keep _ _ h1,keep _ _ h2,h3,h4,h5,h6⟩,(((bR _ _).setCell hg _).setCell hg _).setCell hg _⟩
theorem rcells {x:World}{g:Nat}{t:TypeId}{p q:Value}{A B C D:Value}(h0:Box x g t #[p,A,B]) (h1:Box x (g+1) t #[q,C,D]):x.cell? ⟨g,0,none⟩=some p∧x.cell? ⟨g,1,none⟩=some A∧x.cell? ⟨g,2,none⟩=some B∧x.cell? ⟨g+1,0,none⟩=some q∧x.cell? ⟨g+1,1,none⟩=some C∧x.cell? ⟨g+1,2,none⟩=some D:=
 ⟨h0.cell 0,h0.cell 1,h0.cell 2,h1.cell 0,h1.cell 1,h1.cell 2⟩
set_option maxHeartbeats 8000000
set_option maxRecDepth 100000
theorem div_any {u v:Value}{w:World}(hu:RV 64 0 w u) (hv:RV 64 0 w v) :
  Calls pG 125 #[u,v] w fun e w'=>∃ r,e=.returned r∧RV 1000 w.heap.size w' r∧Below w.heap.size w w':=by
 obtain⟨p,A,B,a,b,ca,cb,rfl,hA,hB,na,nb,ma,mb,la,lb⟩:=hu.open;obtain⟨q,C,D,c,d,cc,cd,rfl,hC,hD,nc,nd,mc,md,lc,ld⟩:=hv.open;obtain⟨w1,hw1⟩:∃ x,((w.alloc (.cells #[vB p,vS A a.length ca,vS B b.length cb] 96)).alloc (.cells #[vB q,vS C c.length cc,vS D d.length cd] 96)).alloc (.cells #[vB false,vS none 0 0,vS none 0 0] 96)=x:=⟨_,rfl⟩;have hb1:Below w.heap.size w w1:=by rw[← hw1];exact(((bR _ _).alloc (lR _) _).alloc (by simp) _).alloc (by simp;omega) _
 have hx0:Box w1 w.heap.size 96 #[vB p,vS A a.length ca,vS B b.length cb]:=by rw[← hw1];exact((Box.new _ _ _).alloc _).alloc _
 have hx1:Box w1 (w.heap.size+1) 96 #[vB q,vS C c.length cc,vS D d.length cd]:=by rw[← hw1];have:=(Box.new (w.alloc (.cells #[vB p,vS A a.length ca,vS B b.length cb] 96)) 96 #[vB q,vS C c.length cc,vS D d.length cd]).alloc (.cells #[vB false,vS none 0 0,vS none 0 0] 96);rwa [World.size_alloc]at this
 have hx2:Box w1 (w.heap.size+1+1) 96 #[vB false,vS none 0 0,vS none 0 0]:=by rw[← hw1];have:=Box.new ((w.alloc (.cells #[vB p,vS A a.length ca,vS B b.length cb] 96)).alloc (.cells #[vB q,vS C c.length cc,vS D d.length cd] 96)) 96 #[vB false,vS none 0 0,vS none 0 0];rwa [World.size_alloc,World.size_alloc]at this
 have hs1:w1.heap.size=w.heap.size+3:=by rw[← hw1];simp
 have HM1:=hide (fun wq (h:Below w1.heap.size w1 wq)=>mulB_any (c:=ca) (d:=cd) (w:=wq) (ListIn.below hA (below_then hb1 h)) (ListIn.below hD (below_then hb1 h)) (by omega) (by omega));have HM2:=hide (fun wq (h:Below w1.heap.size w1 wq)=>mulB_any (c:=cb) (d:=cc) (w:=wq) (ListIn.below hB (below_then hb1 h)) (ListIn.below hC (below_then hb1 h)) (by omega) (by omega));have HX0:=hide hx0;have HX1:=hide hx1;have HX2:=hide hx2;have HB1:=hide hb1;have HW1:=hide hw1;have HS1:=hide hs1;have HMM:Hid (a.length≤64∧b.length≤64∧c.length≤64∧d.length≤64):=⟨ma,mb,mc,md⟩;clear hu hv hA hB hC hD na nb nc nd la lb lc ld ma mb mc md hx0 hx1 hx2 hb1 hw1 hs1;have c00:=HX0.out.cell 0;have c01:=HX0.out.cell 1;have c02:=HX0.out.cell 2;have c10:=HX1.out.cell 0;have c11:=HX1.out.cell 1;have c12:=HX1.out.cell 2;simp at c00 c01 c02 c10 c11 c12;go_enter Tryz.func125,Tryz.ntmps125;go_upto_region 1 with (fail);rw[HW1.out];go_region_held3 (fun x=>x.cell? ⟨w.heap.size,0,none⟩=some (vB p)∧x.cell? ⟨w.heap.size,1,none⟩=some (vS A a.length ca)∧x.cell? ⟨w.heap.size,2,none⟩=some (vS B b.length cb)∧x.cell? ⟨w.heap.size+1,0,none⟩=some (vB q)∧x.cell? ⟨w.heap.size+1,1,none⟩=some (vS C c.length cc)∧x.cell? ⟨w.heap.size+1,2,none⟩=some (vS D d.length cd))
  (first|exact rcells ((((HX0.out.kept HBl4.out).far (by show w.heap.size≠w.heap.size+1+1;omega) _).far (by show w.heap.size≠w.heap.size+1+1;omega) _).far (by show w.heap.size≠w.heap.size+1+1;omega) _) ((((HX1.out.kept HBl4.out).far (by show w.heap.size+1≠w.heap.size+1+1;omega) _).far (by show w.heap.size+1≠w.heap.size+1+1;omega) _).far (by show w.heap.size+1≠w.heap.size+1+1;omega) _)|exact rcells (HX0.out.kept HBl4.out) (HX1.out.kept HBl4.out)|exact rcells (HX0.out.kept HB3.out) (HX1.out.kept HB3.out)|exact rcells (HX0.out.kept HB2.out) (HX1.out.kept HB2.out)|exact rcells HX0.out HX1.out|exact rcells (HX0.out.drewN 1) (HX1.out.drewN 1))
  (first
   |(go_at_call 83;refine(HNo.out _).mono ?_;rintro e w4 ⟨v4,rfl,hr4,hb4⟩;have HBl4:Hid (Below w1.heap.size w1 w4):=below_then HB3.out hb4;have HR4:=hide (hr4.lower (C:=w.heap.size+1+1+1) (by have:=HS1.out;have:=HB3.out.size;omega));clear hr4 hb4;obtain⟨neg,A9,D9,n9,d9,c9,e9,rfl,_⟩:=HR4.out.open;have k0:=(HX2.out.kept HBl4.out).cell 0;have k1:=(HX2.out.kept HBl4.out).cell 1;have k2:=(HX2.out.kept HBl4.out).cell 2;simp at k0 k1 k2;have f0:=(HX2.out.kept HBl4.out).frozen 0;have f1:=(HX2.out.kept HBl4.out).frozen 1;have f2:=(HX2.out.kept HBl4.out).frozen 2)
   |(go_at_call 139;refine(HM2.out _ HB2.out).mono ?_;rintro e w3 ⟨v3,l3,rfl,hO3,hn3,hl3,hb3⟩;have HO2':=hide (HO2.out.kept hb3);have HO3:=hide hO3;have HN3:=hide hn3;have HL3:=hide hl3;have HB3:=hide (below_then HB2.out hb3);have HSw:=hide HB2.out.size;clear hO3 hn3 hl3 hb3;obtain⟨A2,c2,rfl,hc2,_,_⟩:=HO2.out.form;obtain⟨A3,c3,rfl,hc3,_,_⟩:=HO3.out.form;have HNo:=hide (fun g=>norm_any (neg:=g) (m:=1000) (c:=c2) (e:=c3) HO2'.out.list HO3.out.list (by have:=HL2.out;have:=HMM.out;omega) (by have:=HL3.out;have:=HMM.out;omega) (by decide) (by decide) hc2 hc3 HN2.out HN3.out);clear hc2 hc3)
   |(go_at_call 139;refine(HM1.out _ (below_drew (bR _ _) 1)).mono ?_;rintro e w2 ⟨v2,l2,rfl,hO2,hn2,hl2,hb2⟩;have HO2:=hide hO2;have HN2:=hide hn2;have HL2:=hide hl2;have HB2:Hid (Below w1.heap.size w1 w2):=(below_drew (bR _ _) 1).trans hb2;clear hO2 hn2 hl2 hb2))
 all_goals
  obtain⟨a1,a2,a3⟩:=storedRV (B:=w.heap.size) (HX2.out.kept HBl4.out) (by omega) HR4.out (lT HB1.out.size HBl4.out.size)
  have HLd:=hide a1
  have HRv:=hide a2
  have HBl5:=hide ((below_then HB1.out HBl4.out).trans a3)
  clear a1 a2 a3
  go_wp2_with fail
  refine bodyPost_ret (v:=.agg #[vB neg,vS A9 n9.length c9,vS D9 d9.length e9]) (by refine results_cell (p:=4) ?_ ?_ HLd.out <;> rfl) rfl ?_
  exact⟨_,rfl,HRv.out,HBl5.out⟩
end
section
theorem rcells1 {x:World}{g:Nat}{t:TypeId}{p A B:Value}(h0:Box x g t #[p,A,B]):x.cell? ⟨g,0,none⟩=some p∧x.cell? ⟨g,1,none⟩=some A∧x.cell? ⟨g,2,none⟩=some B:=
 ⟨h0.cell 0,h0.cell 1,h0.cell 2⟩
theorem NatBox.far {w:World}{b n:Nat}(h:NatBox w b n) {p:Addr}(hp:b≠p.block) (u:Value):NatBox (w.setCell p u) b n:=by
 obtain⟨cs,hx,q⟩:=h;exact⟨cs,hx.far hp u,q⟩
set_option maxHeartbeats 8000000
set_option maxRecDepth 100000
theorem toR_any {u:Value}{w:World}(hu:RV 1000 0 w u) :
  Calls pG 124 #[u] w fun e w'=>∃ (neg:Bool) (b1 n1 b2 n2:Nat),e=.returned (.agg #[vB neg,vS (some ⟨b1,0,none⟩) n1 n1,vS (some ⟨b2,0,none⟩) n2 n2])∧w.heap.size≤b1∧b1 < b2∧n1≤100∧n2≤100∧NatBox w' b1 n1∧NatBox w' b2 n2∧Below w.heap.size w w':=by
 obtain⟨p,A,B,a,b,ca,cb,rfl,hA,hB,na,nb,la,lb,ha,hb⟩:=hu.open;obtain⟨w1,hw1⟩:∃ x,(w.alloc (.cells #[vB p,vS A a.length ca,vS B b.length cb] 96)).alloc (.cells #[vB false,vS none 0 0,vS none 0 0] 28)=x:=⟨_,rfl⟩;have hb1:Below w.heap.size w w1:=by rw[← hw1];exact((bR _ _).alloc (lR _) _).alloc (by simp) _
 have hx0:Box w1 w.heap.size 96 #[vB p,vS A a.length ca,vS B b.length cb]:=by rw[← hw1];exact(Box.new _ _ _).alloc _
 have hx1:Box w1 (w.heap.size+1) 28 #[vB false,vS none 0 0,vS none 0 0]:=by rw[← hw1];have:=Box.new (w.alloc (.cells #[vB p,vS A a.length ca,vS B b.length cb] 96)) 28 #[vB false,vS none 0 0,vS none 0 0];rwa [World.size_alloc]at this
 have hs1:w1.heap.size=w.heap.size+2:=by rw[← hw1];simp
 have HM1:=hide (fun wq (h:Below w1.heap.size w1 wq)=>toB_any (c:=ca) (w:=wq) (ListIn.below hA (below_then hb1 h)) (by omega) ha);have HM2:=hide (fun wq (h:Below w1.heap.size w1 wq)=>toB_any (c:=cb) (w:=wq) (ListIn.below hB (below_then hb1 h)) (by omega) hb);have HX0:=hide hx0;have HX1:=hide hx1;have HB1:=hide hb1;have HW1:=hide hw1;have HS1:=hide hs1;clear hu hA hB na nb la lb ha hb hx0 hx1 hb1 hw1 hs1;have c00:=HX0.out.cell 0;have c01:=HX0.out.cell 1;have c02:=HX0.out.cell 2;simp at c00 c01 c02;go_enter Tryz.func124,Tryz.ntmps124;go_upto_region 1 with (fail);rw[HW1.out];go_region_held3 (fun x=>x.cell? ⟨w.heap.size,0,none⟩=some (vB p)∧x.cell? ⟨w.heap.size,1,none⟩=some (vS A a.length ca)∧x.cell? ⟨w.heap.size,2,none⟩=some (vS B b.length cb))
  (first|exact rcells1 ((((HX0.out.kept HB3.out).far (by show w.heap.size≠w.heap.size+1;omega) _).far (by show w.heap.size≠w.heap.size+1;omega) _).far (by show w.heap.size≠w.heap.size+1;omega) _)|exact rcells1 (HX0.out.kept HB3.out)|exact rcells1 (HX0.out.kept HB2.out)|exact rcells1 HX0.out|exact rcells1 (HX0.out.drewN 1))
  (first
   |(go_at_call 138;refine(HM2.out _ HB2.out).mono ?_;rintro e w3 ⟨g2,n2,rfl,hg2,hn2,hx3,hb3⟩;have HB3:Hid (Below w1.heap.size w1 w3):=below_then HB2.out hb3;have HN2:=hide (HN1.out.kept hb3);have HN3:=hide hx3;have HG2:Hid (g1 < g2):=lL HN1.out.lt hg2;have hn2':=hide hn2;clear hb3 hx3 hg2 hn2;have k0:=(HX1.out.kept HB3.out).cell 0;have k1:=(HX1.out.kept HB3.out).cell 1;have k2:=(HX1.out.kept HB3.out).cell 2;simp at k0 k1 k2;have f0:=(HX1.out.kept HB3.out).frozen 0;have f1:=(HX1.out.kept HB3.out).frozen 1;have f2:=(HX1.out.kept HB3.out).frozen 2)
   |(go_at_call 138;refine(HM1.out _ (below_drew (bR _ _) 1)).mono ?_;rintro e w2 ⟨g1,n1,rfl,hg1,hn1,hx2,hb2⟩;have HB2:Hid (Below w1.heap.size w1 w2):=(below_drew (bR _ _) 1).trans hb2;have HN1:=hide hx2;have HG1:Hid (w1.heap.size≤g1):=hg1;have hn1':=hide hn1;clear hb2 hx2 hg1 hn1))
 all_goals
  have hx5:=(((HX1.out.kept HB3.out).set 0 (vB p)).set 1 (vS (some ⟨g1,0,none⟩) n1 n1)).set 2 (vS (some ⟨g2,0,none⟩) n2 n2)
  have HLd:=hide (box_load aggRatio hx5 rfl)
  have hgs:=HS1.out
  have hg1s:=HG1.out
  have hg2s:=HG2.out
  have HF1:=hide (((HN2.out.far (p:=⟨w.heap.size+1,0,none⟩) (by show g1≠w.heap.size+1;omega) (vB p)).far (p:=⟨w.heap.size+1,1,none⟩) (by show g1≠w.heap.size+1;omega) (vS (some ⟨g1,0,none⟩) n1 n1)).far (p:=⟨w.heap.size+1,2,none⟩) (by show g1≠w.heap.size+1;omega) (vS (some ⟨g2,0,none⟩) n2 n2))
  have HF2:=hide (((HN3.out.far (p:=⟨w.heap.size+1,0,none⟩) (by show g2≠w.heap.size+1;omega) (vB p)).far (p:=⟨w.heap.size+1,1,none⟩) (by show g2≠w.heap.size+1;omega) (vS (some ⟨g1,0,none⟩) n1 n1)).far (p:=⟨w.heap.size+1,2,none⟩) (by show g2≠w.heap.size+1;omega) (vS (some ⟨g2,0,none⟩) n2 n2))
  have HBl5:=hide (((below_then HB1.out HB3.out).setCell (p:=⟨w.heap.size+1,0,none⟩) (by show w.heap.size≤w.heap.size+1;omega) (vB p)).setCell (p:=⟨w.heap.size+1,1,none⟩) (by show w.heap.size≤w.heap.size+1;omega) (vS (some ⟨g1,0,none⟩) n1 n1) |>.setCell (p:=⟨w.heap.size+1,2,none⟩) (by show w.heap.size≤w.heap.size+1;omega) (vS (some ⟨g2,0,none⟩) n2 n2))
  clear hx5 hgs hg1s hg2s
  go_wp2_with fail
  refine bodyPost_ret (v:=.agg #[vB p,vS (some ⟨g1,0,none⟩) n1 n1,vS (some ⟨g2,0,none⟩) n2 n2]) (by refine results_cell (p:=2) ?_ ?_ HLd.out <;> rfl) rfl ?_
  exact⟨_,g1,n1,g2,n2,rfl,by have:=HS1.out;have:=HG1.out;omega,HG2.out,hn1'.out,hn2'.out,HF1.out,HF2.out,HBl5.out⟩
theorem fromR_any {p:Bool}{A B:Option Addr}{a b:List Int}{ca cb:Nat}{w:World}(hA:Nats w A a) (hB:Nats w B b) (ma:a.length≤20) (mb:b.length≤20) :
  Calls pG 45 #[.agg #[vB p,vS A a.length ca,vS B b.length cb]] w fun e w'=>∃ r,e=.returned r∧RV 640 w.heap.size w' r∧Below w.heap.size w w':=by
 obtain⟨w1,hw1⟩:∃ x,(w.alloc (.cells #[vB p,vS A a.length ca,vS B b.length cb] 28)).alloc (.cells #[vB false,vS none 0 0,vS none 0 0] 96)=x:=⟨_,rfl⟩;have hb1:Below w.heap.size w w1:=by rw[← hw1];exact((bR _ _).alloc (lR _) _).alloc (by simp) _
 have hx0:Box w1 w.heap.size 28 #[vB p,vS A a.length ca,vS B b.length cb]:=by rw[← hw1];exact(Box.new _ _ _).alloc _
 have hx1:Box w1 (w.heap.size+1) 96 #[vB false,vS none 0 0,vS none 0 0]:=by rw[← hw1];have:=Box.new (w.alloc (.cells #[vB p,vS A a.length ca,vS B b.length cb] 28)) 96 #[vB false,vS none 0 0,vS none 0 0];rwa [World.size_alloc]at this
 have hs1:w1.heap.size=w.heap.size+2:=by rw[← hw1];simp
 have HM1:=hide (fun wq (h:Below w1.heap.size w1 wq)=>fromB_any (c:=ca) (w:=wq) (ListIn.below hA (below_then hb1 h)) ma);have HM2:=hide (fun wq (h:Below w1.heap.size w1 wq)=>fromB_any (c:=cb) (w:=wq) (ListIn.below hB (below_then hb1 h)) mb);have HX0:=hide hx0;have HX1:=hide hx1;have HB1:=hide hb1;have HW1:=hide hw1;have HS1:=hide hs1;have HMM:Hid (a.length≤20∧b.length≤20):=⟨ma,mb⟩;clear hA hB ma mb hx0 hx1 hb1 hw1 hs1;have c00:=HX0.out.cell 0;have c01:=HX0.out.cell 1;have c02:=HX0.out.cell 2;simp at c00 c01 c02;go_enter Tryz.func45,Tryz.ntmps45;go_upto_region 1 with (fail);rw[HW1.out];go_region_held3 (fun x=>x.cell? ⟨w.heap.size,0,none⟩=some (vB p)∧x.cell? ⟨w.heap.size,1,none⟩=some (vS A a.length ca)∧x.cell? ⟨w.heap.size,2,none⟩=some (vS B b.length cb))
  (first|exact rcells1 ((((HX0.out.kept HBl4.out).far (by show w.heap.size≠w.heap.size+1;omega) _).far (by show w.heap.size≠w.heap.size+1;omega) _).far (by show w.heap.size≠w.heap.size+1;omega) _)|exact rcells1 (HX0.out.kept HBl4.out)|exact rcells1 (HX0.out.kept HB3.out)|exact rcells1 (HX0.out.kept HB2.out)|exact rcells1 HX0.out|exact rcells1 (HX0.out.drewN 1))
  (first
   |(go_at_call 83;refine(HNo.out _).mono ?_;rintro e w4 ⟨v4,rfl,hr4,hb4⟩;have HBl4:Hid (Below w1.heap.size w1 w4):=below_then HB3.out hb4;have HR4:=hide (hr4.lower (C:=w.heap.size+1+1) (by have:=HS1.out;have:=HB3.out.size;omega));clear hr4 hb4;obtain⟨neg,A9,D9,n9,d9,c9,e9,rfl,_⟩:=HR4.out.open;have k0:=(HX1.out.kept HBl4.out).cell 0;have k1:=(HX1.out.kept HBl4.out).cell 1;have k2:=(HX1.out.kept HBl4.out).cell 2;simp at k0 k1 k2;have f0:=(HX1.out.kept HBl4.out).frozen 0;have f1:=(HX1.out.kept HBl4.out).frozen 1;have f2:=(HX1.out.kept HBl4.out).frozen 2)
   |(go_at_call 84;refine(HM2.out _ HB2.out).mono ?_;rintro e w3 ⟨v3,l3,rfl,hO3,hn3,hl3,hb3⟩;have HO2':=hide (HO2.out.kept hb3);have HO3:=hide hO3;have HN3:=hide hn3;have HL3:=hide hl3;have HB3:Hid (Below w1.heap.size w1 w3):=below_then HB2.out hb3;clear hO3 hn3 hl3 hb3;obtain⟨A2,c2,rfl,hc2,_,_⟩:=HO2.out.form;obtain⟨A3,c3,rfl,hc3,_,_⟩:=HO3.out.form;have HNo:=hide (fun g=>norm_any (neg:=g) (m:=640) (c:=c2) (e:=c3) HO2'.out.list HO3.out.list (by have:=HL2.out;have:=HMM.out;omega) (by have:=HL3.out;have:=HMM.out;omega) (by decide) (by decide) hc2 hc3 HN2.out HN3.out);clear hc2 hc3)
   |(go_at_call 84;refine(HM1.out _ (below_drew (bR _ _) 1)).mono ?_;rintro e w2 ⟨v2,l2,rfl,hO2,hn2,hl2,hb2⟩;have HO2:=hide hO2;have HN2:=hide hn2;have HL2:=hide hl2;have HB2:Hid (Below w1.heap.size w1 w2):=(below_drew (bR _ _) 1).trans hb2;clear hO2 hn2 hl2 hb2))
 all_goals
  obtain⟨a1,a2,a3⟩:=storedRV (B:=w.heap.size) (HX1.out.kept HBl4.out) (by omega) HR4.out (lT HB1.out.size HBl4.out.size)
  have HLd:=hide a1
  have HRv:=hide a2
  have HBl5:=hide ((below_then HB1.out HBl4.out).trans a3)
  clear a1 a2 a3
  go_wp2_with fail
  refine bodyPost_ret (v:=.agg #[vB neg,vS A9 n9.length c9,vS D9 d9.length e9]) (by refine results_cell (p:=2) ?_ ?_ HLd.out <;> rfl) rfl ?_
  exact⟨_,rfl,HRv.out,HBl5.out⟩
end
section
theorem decDigits_len:∀ (k n:Nat),n < 2 ^ k→(Lib.decDigits n).length≤k+1:=fun k=>by
 induction k using Nat.strongRecOn with
 |ind k ih=>
  intro n hn;by_cases h10:n < 10
  ·rw[Lib.decDigits_one h10];simp
  ·rw[Lib.decDigits,dif_neg h10];have hk:4≤k:=by
    rcases Nat.lt_or_ge k 4 with h|h
    ·have:(2:Nat) ^ k≤2 ^ 3:=Nat.pow_le_pow_right (by decide) (by omega);omega
    ·exact h
   have h2:n / 10 < 2 ^ (k - 3):=by
    have e:2 ^ k=2 ^ (k - 3) * 8:=by rw[show k=(k - 3)+3 by omega,Nat.pow_add];simp
    omega
   have:=ih (k - 3) (by omega) (n / 10) h2;simp;omega
theorem digits_len (l:List Bool) (h:l.length≤900):(Lib.decDigits (valB l)).length≤1000:=by
 have:=decDigits_len l.length (valB l) (valB_lt l);omega
set_option maxHeartbeats 8000000
set_option maxRecDepth 100000
theorem text_any {u:Value}{w:World}(hu:RV 640 0 w u) :
    Calls pG 44 #[u] w fun e w'=>∃ s:ByteArray,e=.returned (vT s)∧s.size≤4000∧Below w.heap.size w w':=by
  obtain⟨p,A,B,a,b,ca,cb,rfl,hA,hB,na,nb,ma,mb,ha,hb⟩:=hu.open
  obtain⟨w1,hw1⟩:∃ x,w.alloc (.cells #[vB p,vS A a.length ca,vS B b.length cb] 96)=x:=⟨_,rfl⟩
  have hb1:Below w.heap.size w w1:=by rw[← hw1];exact(bR _ _).alloc (lR _) _
  have hx0:Box w1 w.heap.size 96 #[vB p,vS A a.length ca,vS B b.length cb]:=by rw[← hw1];exact Box.new _ _ _
  have HD1:=hide (fun wq (h:Below w1.heap.size w1 wq)=>digits_any (c:=ca) (w:=wq) (ListIn.below hA (below_then hb1 h)) (by omega) ha na (digits_len _ (by omega)))
  have HD2:=hide (fun wq (h:Below w1.heap.size w1 wq)=>digits_any (c:=cb) (w:=wq) (ListIn.below hB (below_then hb1 h)) (by omega) hb nb (digits_len _ (by omega)))
  have HCm:=hide (fun (l:List Bool) (D:Option Addr) (d:Nat) wq (h:Below w1.heap.size w1 wq) (hl:Bools wq D l) (hm:l.length≤64)=>cmp_any (c:=cb) (d:=d) (w:=wq) (ListIn.below hB (below_then hb1 h)) hl (by omega) (by omega))
  have HSm:=hide (fun wq=>small_any (n:=1) (w:=wq) (by decide))
  have hz1:(⟨(Lib.decDigits (valB a)).toArray⟩:ByteArray).size≤1000:=by rw[Lib.size_eq];exact digits_len _ (by omega)
  have hz2:(⟨(Lib.decDigits (valB b)).toArray⟩:ByteArray).size≤1000:=by rw[Lib.size_eq];exact digits_len _ (by omega)
  have HX0:=hide hx0
  have HB1:=hide hb1
  have HW1:=hide hw1
  clear hu hA hB na nb ha hb hx0 hb1 hw1
  generalize (⟨(Lib.decDigits (valB a)).toArray⟩:ByteArray)=s1 at *
  generalize (⟨(Lib.decDigits (valB b)).toArray⟩:ByteArray)=s2 at *
  have c00:=HX0.out.cell 0
  have c01:=HX0.out.cell 1
  have c02:=HX0.out.cell 2
  simp at c00 c01 c02
  go_enter Tryz.func44,Tryz.ntmps44
  go_upto_region 1 with (fail)
  rw[HW1.out]
  go_wp2_with fail
  refine(HD1.out _ (bR _ _)).mono ?_
  rintro e w2 ⟨rfl,hb2⟩
  have HB2:=hide hb2
  have c00:=(HX0.out.kept hb2).cell 0
  have c02:=(HX0.out.kept hb2).cell 2
  simp at c00 c02
  have hlt2:=(HX0.out.kept hb2).lt
  clear hb2
  have hm1:(⟨#[45]⟩:ByteArray).size=1:=rfl
  have hm2:(⟨#[47]⟩:ByteArray).size=1:=rfl
  go_upto_if 8 with fail
  go_cut [3] (fun v wx=>∃ s:ByteArray,v=vT s∧s.size≤2000∧wx=w2)
  case first=>
    cases p with
    |true=>
      go_wp2_with fail
      go_meet
      exact⟨_,rfl,by rw[ByteArray.size_append];omega,rfl⟩
    |false=>
      go_wp2_with fail
      go_meet
      exact⟨_,rfl,by omega,rfl⟩
  case rest=>
    obtain⟨s,rfl,hs,rfl⟩:=hcut
    go_wp2_with fail
    go_region_held3 (fun x=>x.cell? ⟨w.heap.size,2,none⟩=some (vS B b.length cb))
      (first|exact((HX0.out.kept HB3.out).cell 2)|exact((HX0.out.kept (below_drew HB2.out 1)).cell 2)|exact((HX0.out.kept HB2.out).cell 2)|exact(HX0.out.kept HB4.out).cell 2)
      (first
       |(go_at_call 76;refine(HSm.out _).mono ?_;rintro e w3 ⟨v3,l3,rfl,hO3,_,_,hl3,hb3⟩;have HB3:Hid (Below w1.heap.size w1 w3):=below_then (below_drew HB2.out 1) hb3;have HO3:=hide hO3;have HL3:=hide hl3;clear hO3 hl3 hb3;obtain⟨A3,c3,rfl,_,_,_⟩:=HO3.out.form)
       |(go_at_call 82;refine(HCm.out l3 A3 c3 _ HB3.out HO3.out.list HL3.out).mono ?_;rintro e w4 ⟨rfl,hw4⟩;have HB4:Hid (Below w1.heap.size w1 w4):=by rw[hw4];exact HB3.out))
    all_goals
      have c02:=(HX0.out.kept HB3.out).cell 2
      simp at c02
      have hlt4:=(HX0.out.kept HB3.out).lt
      generalize cmpB (valB b) 1=r
      by_cases h0:r=0
      · have h0':(r != 0)=false:=by simp[h0]
        clear h0
        go_wp2_with fail
        go_ret
        exact⟨_,rfl,by omega,below_then HB1.out HB3.out⟩
      · have h0':(r != 0)=true:=by simp[h0]
        clear h0
        go_wp2_with fail
        refine(HD2.out _ HB3.out).mono ?_
        rintro e w5 ⟨rfl,hb5⟩
        have HB5:=hide (below_then HB1.out (below_then HB3.out hb5))
        have hq1:(⟨#[47]⟩ ++ s2:ByteArray).size≤1001:=by rw[ByteArray.size_append];omega
        clear hb5
        go_wp2_with fail
        go_ret
        exact⟨_,rfl,by rw[ByteArray.size_append];omega,HB5.out⟩
end
end Go.Proofs.YtnndaemmgbkjbaaGreatDoor
