/-
  parts of the proof: Opn.
-/
import Derived.ProofKit
import Derived.Lib.SmallJoins
import Derived.Deep.Slices
import Derived.Deep.Strs
import Derived.Deep.Fields
import Derived.ChangeSame
import Derived.SliceStrings
import Derived.Test.YtnndaemmgbkjbaaGreatDoorPE
namespace Go.Proofs.YtnndaemmgbkjbaaGreatDoor
open Go.RowKit
open Nat renaming le_trans → lT, le_refl → lR, zero_le → zL
open _root_.Go.Proofs.Tryz renaming prog → pG
set_option linter.unusedVariables false
set_option linter.unusedSimpArgs false
section
open Go.ChangeShapes Go.WideShapes Go.ChangeAt
set_option maxRecDepth 100000
theorem maxLen_big:maxLen≤big:=by unfold maxLen big;omega
theorem cInt:pG.cellsOf 3=1:=by kernel_rfl
theorem cBool:pG.cellsOf 4=1:=by kernel_rfl
theorem cStr:pG.cellsOf 9=1:=by kernel_rfl
theorem cU32:pG.cellsOf 100=1:=by kernel_rfl
theorem cInts:pG.cellsOf 33=1:=by kernel_rfl
theorem cBools:pG.cellsOf 34=1:=by kernel_rfl
theorem cStrs:pG.cellsOf 22=1:=by kernel_rfl
theorem cNat:pG.cellsOf 26=1:=by kernel_rfl
theorem cCons:pG.cellsOf 23=1:=by kernel_rfl
theorem cStys:pG.cellsOf 24=1:=by kernel_rfl
theorem cCon:pG.cellsOf 74=9:=by kernel_rfl
theorem cSty:pG.cellsOf 76=3:=by kernel_rfl
theorem cRat:pG.cellsOf 28=3:=by kernel_rfl
theorem cEle:pG.cellsOf 30=14:=by kernel_rfl
theorem cOp:pG.cellsOf 36=12:=by kernel_rfl
section
variable {H:Type}{enc:TypeId × Value→H}
theorem i64_in {a:Int}(h:(Lit.int .i64 a).wf=true):InI a:=by
 have hmin:IntKind.i64.min=-9223372036854775808:=rfl;have hmax:IntKind.i64.max=9223372036854775807:=rfl;unfold InI;simp only[Lit.wf,Bool.and_eq_true,decide_eq_true_eq]at h;omega
theorem addr_plain {W:World}{a:Addr}{n:Nat}{V:Nat→Value}(h:∀ i,i < n→W.cell? (a.add i)=some (V i)) (hp:0 < n):∃ b off,a=⟨b,off,none⟩∧∀ i,i < n→W.cell? ⟨b,off+i,none⟩=some (V i):=by
 obtain⟨b,off,spot⟩:=a;have hspot:spot=none:=by simpa [Addr.add] using World.cell?_spot (h 0 hp)
 subst hspot;exact⟨b,off,rfl,fun j hj=>by rw[← Go.WideShapes.add_plain];exact h j hj⟩
theorem open_ones {α:Type} [Inhabited α] {en:α→Value}{Q:α→Prop}{ts te:TypeId}{W:World}(hs:pG.underlying ts=some (.slice te)) (hc:pG.cellsOf te=1)
  (hel:∀ {n:Nat}{v:Value}{y:DataW H × List MemPlace},DataW.trod enc pG W 0 (fun _=>true) true n te [v]=some y→∃ x,v=en x∧Q x)
  {fuel:Nat}{v:Value}{x:DataW H × List MemPlace}(h:DataW.trod enc pG W 0 (fun _=>true) true fuel ts [v]=some x) :
  ∃ (A:Option Addr) (c:Nat) (l:List α),v=.slice A l.length c∧ListIn en (All W) W A l∧l.length≤maxLen∧l.length≤c∧∀ y ∈ l,Q y:=by
 rcases Go.Deep.open_slice1 hs hc h with ⟨e,_⟩|⟨a,len,cap,m,n,V,D,Pl,e,_,hlc,hcm,hm,_,hi⟩
 ·cases e;exact⟨none,0,[],rfl,ListIn.nil _ _ _ _,zL _,lR _,fun y hy=>by cases hy⟩
 ·cases e;have hm':m=cap:=hm;have key:∀ i,∃ y:α,i < len→V i=en y∧Q y:=fun i=>by
   by_cases hlt:i < len
   ·obtain⟨y,h1,h2⟩:=hel (hi i (by omega)).2;exact⟨y,fun _=>⟨h1,h2⟩⟩
   ·exact⟨default,fun h=>absurd h hlt⟩
  obtain⟨f,hf2⟩:=Classical.axiomOfChoice key;have hlen:((List.range len).map f).length=len:=by simp
  have hget:∀ k,k < len→((List.range len).map f).getD k default=f k:=fun k hk=>by simp[List.getD_eq_getElem?_getD,hk]
  refine⟨some a,cap,(List.range len).map f,by rw[hlen],fun hp=>?_,by omega,by omega,fun y hy=>?_⟩
  ·rw[hlen]at hp;obtain⟨b,off,rfl,hc⟩:=addr_plain (fun i hil=>(hi i (by omega)).1) hp;refine⟨b,off,rfl,World.block_lt_of_cell? W ⟨b,off+0,none⟩ (hc 0 hp),fun k hk=>?_⟩;rw[hlen]at hk;rw[hget k hk,hc k hk,(hf2 k hk).1]
  ·obtain⟨k,hk,rfl⟩:=List.mem_map.1 hy;exact(hf2 k (by simpa using hk)).2
theorem open_intsA {W:World}{fuel:Nat}{v:Value}{x:DataW H × List MemPlace}(h:DataW.trod enc pG W 0 (fun _=>true) true fuel 33 [v]=some x) :
  ∃ A c l,v=.slice A l.length c∧Ints W A l∧l.length≤maxLen∧l.length≤c∧∀ y ∈ l,InI y:=
 open_ones (en:=iv) Tryz.underlying33 cInt (fun h=>by
  obtain⟨n,e,_,hw⟩:=DataW.trod_int Tryz.underlying3 h;cases e;exact⟨n,rfl,i64_in hw⟩) h
theorem open_boolsA {W:World}{fuel:Nat}{v:Value}{x:DataW H × List MemPlace}(h:DataW.trod enc pG W 0 (fun _=>true) true fuel 34 [v]=some x) :
  ∃ A c l,v=.slice A l.length c∧Bools W A l∧l.length≤maxLen∧l.length≤c∧∀ y ∈ l,True:=
 open_ones (en:=Value.bool) Tryz.underlying34 cBool (fun h=>by
  obtain⟨n,e,_⟩:=DataW.trod_bool Tryz.underlying4 h;cases e;exact⟨n,rfl,trivial⟩) h
theorem open_strsA {W:World}{fuel:Nat}{v:Value}{x:DataW H × List MemPlace}(h:DataW.trod enc pG W 0 (fun _=>true) true fuel 22 [v]=some x) :
  ∃ A c l,v=.slice A l.length c∧Strs W A l∧l.length≤maxLen∧l.length≤c∧∀ y ∈ l,y.size≤big:=
 open_ones (en:=Value.string) Tryz.underlying22 cStr (fun h=>by
  obtain⟨n,e,_,hw⟩:=DataW.trod_string Tryz.underlying9 h;cases e;exact⟨n,rfl,lT hw maxLen_big⟩) h
theorem open_natsA {W:World}{fuel:Nat}{v:Value}{x:DataW H × List MemPlace}(h:DataW.trod enc pG W 0 (fun _=>true) true fuel 26 [v]=some x) :
  ∃ A c l,v=.slice A l.length c∧Nats W A l∧l.length≤maxLen∧l.length≤c∧∀ y ∈ l,True:=
 open_ones (en:=natv) Tryz.underlying26 cU32 (fun h=>by
  obtain⟨n,e,_,hw⟩:=DataW.trod_int Tryz.underlying100 h;cases e;exact⟨n,rfl,trivial⟩) h
theorem open_elems {α:Type} [Inhabited α] {E:List Value→α→Prop}{ts te:TypeId}{m0:Nat}{W:World}(hs:pG.underlying ts=some (.slice te)) (hc:pG.cellsOf te=m0) (hm0:0 < m0)
  (hel:∀ {n:Nat}{cs:List Value}{y:DataW H × List MemPlace},DataW.trod enc pG W 0 (fun _=>true) true n te cs=some y→∃ x,E cs x∧cs.length=m0)
  {fuel:Nat}{v:Value}{x:DataW H × List MemPlace}(h:DataW.trod enc pG W 0 (fun _=>true) true fuel ts [v]=some x) :
  ∃ (A:Option Addr) (c:Nat) (xs:List α),v=.slice A xs.length c∧xs.length≤maxLen∧xs.length≤c∧(0 < xs.length→∃ b off,A=some ⟨b,off,none⟩∧b < W.heap.size∧∀ k,k < xs.length→∃ cs:List Value,E cs (xs.getD k default)∧∀ j u,cs[j]? = some u→W.cell? ⟨b,off+k * m0+j,none⟩=some u):=by
 rcases Go.Deep.open_slice hs h with ⟨e,_⟩|⟨a,len,cap,m,n,D,Pl,e,_,hlc,hcm,hm,_,hi⟩
 ·cases e;exact⟨none,0,[],rfl,zL _,lR _,fun hp=>absurd hp (by simp)⟩
 ·cases e;have hm':m=cap:=hm;rw[hc]at hi;have key:∀ i,∃ x:α,i < len→∃ cs:List Value,E cs x∧cs.length=m0∧∀ j,j < m0→W.cell? ((a.add (i * m0)).add j)=cs[j]? := fun i=>by
   by_cases hlt:i < len
   ·obtain⟨cs',hcs,ht⟩:=hi i (by omega);obtain⟨x,g,gl⟩:=hel ht;obtain⟨_,_,hat⟩:=World.cells?_some hcs;exact⟨x,fun _=>⟨cs',g,gl,fun j hj=>hat j hj⟩⟩
   ·exact⟨default,fun h=>absurd h hlt⟩
  obtain⟨f,hf2⟩:=Classical.axiomOfChoice key;have hlen:((List.range len).map f).length=len:=by simp
  have hget:∀ k,k < len→((List.range len).map f).getD k default=f k:=fun k hk=>by simp[List.getD_eq_getElem?_getD,hk]
  refine⟨some a,cap,(List.range len).map f,by rw[hlen],by omega,by omega,fun hp=>?_⟩;rw[hlen]at hp;obtain⟨b,off,spot⟩:=a;have hspot:spot=none:=by obtain⟨cs,_,gl,hat⟩:=hf2 0 hp;have:=hat 0 hm0;rw[Go.Deep.add_add,List.getElem?_eq_getElem (by omega)]at this;simpa [Addr.add] using World.cell?_spot this
  subst hspot;have hcell:∀ k,k < len→∃ cs:List Value,E cs (f k)∧cs.length=m0∧∀ j u,cs[j]? = some u→W.cell? ⟨b,off+k * m0+j,none⟩=some u:=fun k hk=>by
   obtain⟨cs,g,gl,hat⟩:=hf2 k hk;refine⟨cs,g,gl,fun j u hu=>?_⟩;have hj:j < m0:=by have:=(List.getElem?_eq_some_iff.1 hu).1;omega
   have:=hat j hj;rw[hu,Go.Deep.add_add,Go.WideShapes.add_plain]at this;rw[Nat.add_assoc];exact this
  refine⟨b,off,rfl,?_,fun k hk=>?_⟩
  ·obtain⟨cs,_,gl,hat⟩:=hcell 0 hp;exact World.block_lt_of_cell? W _ (hat 0 (cs[0]'(by omega)) (List.getElem?_eq_getElem (by omega)))
  ·rw[hlen]at hk;obtain⟨cs,g,gl,hat⟩:=hcell k hk;rw[hget k hk];exact⟨cs,g,hat⟩
theorem take_at {cs:List Value}{j n:Nat}(h:cs.length=n) (hj:j < n):(cs.drop j).take 1=[cs[j]'(by omega)]:=by
 rw[List.drop_eq_getElem_cons (by omega)];rfl
def ConE (W:World) (cs:List Value) (nm:ByteArray):Prop:=∃ (D:Option Addr) (l:List ByteArray) (d:Nat) (x2 x3 x4 x5 x6 x7 x8:Int),cs=[.string nm,.slice D l.length d,.int .i64 x2,.int .i64 x3,.int .i64 x4,.int .i64 x5,.int .i64 x6,.int .i64 x7,.int .i64 x8]∧nm.size≤big∧Strs W D l∧l.length≤d∧∀ s ∈ l,s.size≤big
theorem open_con {W:World}{fuel:Nat}{cs:List Value}{x:DataW H × List MemPlace}(h:DataW.trod enc pG W 0 (fun _=>true) true fuel 74 cs=some x):∃ nm,ConE W cs nm∧cs.length=9:=by
 obtain⟨xs,n,_,_,hl,hlen,hf⟩:=DataW.trod_struct Tryz.underlying74 h;rw[cCon]at hl;obtain⟨y0,y1,y2,y3,y4,y5,y6,y7,y8,hxs⟩:∃ y0 y1 y2 y3 y4 y5 y6 y7 y8,xs=[y0,y1,y2,y3,y4,y5,y6,y7,y8]:=by
  match xs,hlen with
  | [y0,y1,y2,y3,y4,y5,y6,y7,y8],_=>exact⟨_,_,_,_,_,_,_,_,_,rfl⟩
 subst hxs;have h0:DataW.trod enc pG W 0 (fun _=>true) true n 9 ((cs.drop 0).take (pG.cellsOf 9))=some y0:=hf 0 _ rfl;rw[cStr,take_at hl (by omega)]at h0;have h1:DataW.trod enc pG W 0 (fun _=>true) true n 22 ((cs.drop 1).take (pG.cellsOf 22))=some y1:=hf 1 _ rfl;rw[cStrs,take_at hl (by omega)]at h1;have h2:DataW.trod enc pG W 0 (fun _=>true) true n 3 ((cs.drop 2).take (pG.cellsOf 3))=some y2:=hf 2 _ rfl;rw[cInt,take_at hl (by omega)]at h2;have h3:DataW.trod enc pG W 0 (fun _=>true) true n 3 ((cs.drop 3).take (pG.cellsOf 3))=some y3:=hf 3 _ rfl;rw[cInt,take_at hl (by omega)]at h3;have h4:DataW.trod enc pG W 0 (fun _=>true) true n 3 ((cs.drop 4).take (pG.cellsOf 3))=some y4:=hf 4 _ rfl;rw[cInt,take_at hl (by omega)]at h4;have h5:DataW.trod enc pG W 0 (fun _=>true) true n 3 ((cs.drop 5).take (pG.cellsOf 3))=some y5:=hf 5 _ rfl;rw[cInt,take_at hl (by omega)]at h5;have h6:DataW.trod enc pG W 0 (fun _=>true) true n 3 ((cs.drop 6).take (pG.cellsOf 3))=some y6:=hf 6 _ rfl;rw[cInt,take_at hl (by omega)]at h6;have h7:DataW.trod enc pG W 0 (fun _=>true) true n 3 ((cs.drop 7).take (pG.cellsOf 3))=some y7:=hf 7 _ rfl;rw[cInt,take_at hl (by omega)]at h7;have h8:DataW.trod enc pG W 0 (fun _=>true) true n 3 ((cs.drop 8).take (pG.cellsOf 3))=some y8:=hf 8 _ rfl;rw[cInt,take_at hl (by omega)]at h8;obtain⟨s0,e0,_,z0⟩:=DataW.trod_string Tryz.underlying9 h0;injection e0 with e0;obtain⟨A1,c1,l1,e1,L1,m1,d1,q1⟩:=open_strsA h1;obtain⟨a2,e2,_,z2⟩:=DataW.trod_int Tryz.underlying3 h2;injection e2 with e2;obtain⟨a3,e3,_,z3⟩:=DataW.trod_int Tryz.underlying3 h3;injection e3 with e3;obtain⟨a4,e4,_,z4⟩:=DataW.trod_int Tryz.underlying3 h4;injection e4 with e4;obtain⟨a5,e5,_,z5⟩:=DataW.trod_int Tryz.underlying3 h5;injection e5 with e5;obtain⟨a6,e6,_,z6⟩:=DataW.trod_int Tryz.underlying3 h6;injection e6 with e6;obtain⟨a7,e7,_,z7⟩:=DataW.trod_int Tryz.underlying3 h7;injection e7 with e7;obtain⟨a8,e8,_,z8⟩:=DataW.trod_int Tryz.underlying3 h8;injection e8 with e8;refine⟨s0,⟨A1,l1,c1,a2,a3,a4,a5,a6,a7,a8,?_,lT z0 maxLen_big,L1,d1,q1⟩,hl⟩;refine List.ext_getElem (by simp[hl]) fun j g1 g2=>?_;have hj:j < 9:=by omega
 rcases (show j=0∨j=1∨j=2∨j=3∨j=4∨j=5∨j=6∨j=7∨j=8 by omega) with rfl|rfl|rfl|rfl|rfl|rfl|rfl|rfl|rfl
 ·exact e0
 ·exact e1
 ·exact e2
 ·exact e3
 ·exact e4
 ·exact e5
 ·exact e6
 ·exact e7
 ·exact e8
def StyE (W:World) (cs:List Value) (_:Nat):Prop:=∃ (s:ByteArray) (D E:Option Addr) (l m:List Int) (d e:Nat),cs=[.string s,.slice D l.length d,.slice E m.length e]∧s.size≤big∧Ints W D l∧l.length≤d∧Ints W E m∧m.length≤e
theorem open_sty {W:World}{fuel:Nat}{cs:List Value}{x:DataW H × List MemPlace}(h:DataW.trod enc pG W 0 (fun _=>true) true fuel 76 cs=some x):∃ k,StyE W cs k∧cs.length=3:=by
 obtain⟨xs,n,_,_,hl,hlen,hf⟩:=DataW.trod_struct Tryz.underlying76 h;rw[cSty]at hl;obtain⟨y0,y1,y2,hxs⟩:∃ y0 y1 y2,xs=[y0,y1,y2]:=by
  match xs,hlen with
  | [y0,y1,y2],_=>exact⟨_,_,_,rfl⟩
 subst hxs;have h0:DataW.trod enc pG W 0 (fun _=>true) true n 9 ((cs.drop 0).take (pG.cellsOf 9))=some y0:=hf 0 _ rfl;rw[cStr,take_at hl (by omega)]at h0;have h1:DataW.trod enc pG W 0 (fun _=>true) true n 33 ((cs.drop 1).take (pG.cellsOf 33))=some y1:=hf 1 _ rfl;rw[cInts,take_at hl (by omega)]at h1;have h2:DataW.trod enc pG W 0 (fun _=>true) true n 33 ((cs.drop 2).take (pG.cellsOf 33))=some y2:=hf 2 _ rfl;rw[cInts,take_at hl (by omega)]at h2;obtain⟨s0,e0,_,z0⟩:=DataW.trod_string Tryz.underlying9 h0;injection e0 with e0;obtain⟨A1,c1,l1,e1,L1,m1,d1,q1⟩:=open_intsA h1;obtain⟨A2,c2,l2,e2,L2,m2,d2,q2⟩:=open_intsA h2;refine⟨0,⟨s0,A1,A2,l1,l2,c1,c2,?_,lT z0 maxLen_big,L1,d1,L2,d2⟩,hl⟩;refine List.ext_getElem (by simp[hl]) fun j g1 g2=>?_;have hj:j < 3:=by omega
 rcases (show j=0∨j=1∨j=2 by omega) with rfl|rfl|rfl
 ·exact e0
 ·exact e1
 ·exact e2
theorem open_rat {W:World}{fuel:Nat}{cs:List Value}{x:DataW H × List MemPlace}(h:DataW.trod enc pG W 0 (fun _=>true) true fuel 28 cs=some x) :
  ∃ (neg:Bool) (A B:Option Addr) (l m:List Int) (c d:Nat),cs=[.bool neg,.slice A l.length c,.slice B m.length d]∧Nats W A l∧Nats W B m:=by
 obtain⟨xs,n,_,_,hl,hlen,hf⟩:=DataW.trod_struct Tryz.underlying28 h;rw[cRat]at hl;obtain⟨y0,y1,y2,hxs⟩:∃ y0 y1 y2,xs=[y0,y1,y2]:=by
  match xs,hlen with
  | [y0,y1,y2],_=>exact⟨_,_,_,rfl⟩
 subst hxs;have h0:DataW.trod enc pG W 0 (fun _=>true) true n 4 ((cs.drop 0).take (pG.cellsOf 4))=some y0:=hf 0 _ rfl;rw[cBool,take_at hl (by omega)]at h0;have h1:DataW.trod enc pG W 0 (fun _=>true) true n 26 ((cs.drop 1).take (pG.cellsOf 26))=some y1:=hf 1 _ rfl;rw[cNat,take_at hl (by omega)]at h1;have h2:DataW.trod enc pG W 0 (fun _=>true) true n 26 ((cs.drop 2).take (pG.cellsOf 26))=some y2:=hf 2 _ rfl;rw[cNat,take_at hl (by omega)]at h2;obtain⟨a0,e0,_⟩:=DataW.trod_bool Tryz.underlying4 h0;injection e0 with e0;obtain⟨A1,c1,l1,e1,L1,m1,d1,q1⟩:=open_natsA h1;obtain⟨A2,c2,l2,e2,L2,m2,d2,q2⟩:=open_natsA h2;refine⟨a0,A1,A2,l1,l2,c1,c2,?_,L1,L2⟩;refine List.ext_getElem (by simp[hl]) fun j g1 g2=>?_;have hj:j < 3:=by omega
 rcases (show j=0∨j=1∨j=2 by omega) with rfl|rfl|rfl
 ·exact e0
 ·exact e1
 ·exact e2
theorem open_op {r:Reach}{b0:Nat}{W:World}{v:Value}{d:DataW H}{p:List MemPlace}(hv:Value.okWide pG W r b0 36 v) (h:DataW.Trod enc pG W 0 (fun _=>true) true 36 v d p) :
  ∃ o:Opn,OpV (All W) W v o∧InI o.scan∧InI o.n∧(∀ m ∈ o.marks,InI m)∧o.text.size≤big∧o.marks.length≤big∧o.keep.length≤big:=by
 obtain⟨ca,rfl,hsz⟩:=okWide_struct Tryz.underlying36 hv;obtain⟨fuel,hf0⟩:=h;have h:DataW.trod enc pG W 0 (fun _=>true) true fuel 36 ca.toList=some (d,p):=by simpa [Value.cells] using hf0
 obtain⟨cs,hcs⟩:∃ cs,ca.toList=cs:=⟨_,rfl⟩;rw[hcs]at h;obtain⟨xs,n,_,_,hl,hlen,hf⟩:=DataW.trod_struct Tryz.underlying36 h;rw[cOp]at hl;obtain⟨y0,y1,y2,y3,y4,y5,y6,y7,y8,y9,y10,y11,hxs⟩:∃ y0 y1 y2 y3 y4 y5 y6 y7 y8 y9 y10 y11,xs=[y0,y1,y2,y3,y4,y5,y6,y7,y8,y9,y10,y11]:=by
  match xs,hlen with
  | [y0,y1,y2,y3,y4,y5,y6,y7,y8,y9,y10,y11],_=>exact⟨_,_,_,_,_,_,_,_,_,_,_,_,rfl⟩
 subst hxs;have h0:DataW.trod enc pG W 0 (fun _=>true) true n 3 ((cs.drop 0).take (pG.cellsOf 3))=some y0:=hf 0 _ rfl;rw[cInt,take_at hl (by omega)]at h0;have h1:DataW.trod enc pG W 0 (fun _=>true) true n 3 ((cs.drop 1).take (pG.cellsOf 3))=some y1:=hf 1 _ rfl;rw[cInt,take_at hl (by omega)]at h1;have h2:DataW.trod enc pG W 0 (fun _=>true) true n 3 ((cs.drop 2).take (pG.cellsOf 3))=some y2:=hf 2 _ rfl;rw[cInt,take_at hl (by omega)]at h2;have h3:DataW.trod enc pG W 0 (fun _=>true) true n 3 ((cs.drop 3).take (pG.cellsOf 3))=some y3:=hf 3 _ rfl;rw[cInt,take_at hl (by omega)]at h3;have h4:DataW.trod enc pG W 0 (fun _=>true) true n 3 ((cs.drop 4).take (pG.cellsOf 3))=some y4:=hf 4 _ rfl;rw[cInt,take_at hl (by omega)]at h4;have h5:DataW.trod enc pG W 0 (fun _=>true) true n 3 ((cs.drop 5).take (pG.cellsOf 3))=some y5:=hf 5 _ rfl;rw[cInt,take_at hl (by omega)]at h5;have h6:DataW.trod enc pG W 0 (fun _=>true) true n 33 ((cs.drop 6).take (pG.cellsOf 33))=some y6:=hf 6 _ rfl;rw[cInts,take_at hl (by omega)]at h6;have h7:DataW.trod enc pG W 0 (fun _=>true) true n 34 ((cs.drop 7).take (pG.cellsOf 34))=some y7:=hf 7 _ rfl;rw[cBools,take_at hl (by omega)]at h7;have h8:DataW.trod enc pG W 0 (fun _=>true) true n 4 ((cs.drop 8).take (pG.cellsOf 4))=some y8:=hf 8 _ rfl;rw[cBool,take_at hl (by omega)]at h8;have h9:DataW.trod enc pG W 0 (fun _=>true) true n 4 ((cs.drop 9).take (pG.cellsOf 4))=some y9:=hf 9 _ rfl;rw[cBool,take_at hl (by omega)]at h9;have h10:DataW.trod enc pG W 0 (fun _=>true) true n 4 ((cs.drop 10).take (pG.cellsOf 4))=some y10:=hf 10 _ rfl;rw[cBool,take_at hl (by omega)]at h10;have h11:DataW.trod enc pG W 0 (fun _=>true) true n 9 ((cs.drop 11).take (pG.cellsOf 9))=some y11:=hf 11 _ rfl;rw[cStr,take_at hl (by omega)]at h11;obtain⟨a0,e0,_,z0⟩:=DataW.trod_int Tryz.underlying3 h0;injection e0 with e0;obtain⟨a1,e1,_,z1⟩:=DataW.trod_int Tryz.underlying3 h1;injection e1 with e1;obtain⟨a2,e2,_,z2⟩:=DataW.trod_int Tryz.underlying3 h2;injection e2 with e2;obtain⟨a3,e3,_,z3⟩:=DataW.trod_int Tryz.underlying3 h3;injection e3 with e3;obtain⟨a4,e4,_,z4⟩:=DataW.trod_int Tryz.underlying3 h4;injection e4 with e4;obtain⟨a5,e5,_,z5⟩:=DataW.trod_int Tryz.underlying3 h5;injection e5 with e5;obtain⟨A6,c6,l6,e6,L6,m6,d6,q6⟩:=open_intsA h6;obtain⟨A7,c7,l7,e7,L7,m7,d7,q7⟩:=open_boolsA h7;obtain⟨a8,e8,_⟩:=DataW.trod_bool Tryz.underlying4 h8;injection e8 with e8;obtain⟨a9,e9,_⟩:=DataW.trod_bool Tryz.underlying4 h9;injection e9 with e9;obtain⟨a10,e10,_⟩:=DataW.trod_bool Tryz.underlying4 h10;injection e10 with e10;obtain⟨s11,e11,_,z11⟩:=DataW.trod_string Tryz.underlying9 h11;injection e11 with e11;refine⟨⟨a0,a1,a2,a3,a4,a5,l6,l7,a8,a9,a10,s11⟩,⟨A6,c6,A7,c7,?_,L6,d6,L7,d7⟩,i64_in z3,i64_in z4,q6,lT z11 maxLen_big,lT m6 maxLen_big,lT m7 maxLen_big⟩;congr 1;apply Array.toList_inj.1;rw[hcs];refine List.ext_getElem (by simp[hl,Opn.cells]) fun j g1 g2=>?_;have hj:j < 12:=by omega
 rcases (show j=0∨j=1∨j=2∨j=3∨j=4∨j=5∨j=6∨j=7∨j=8∨j=9∨j=10∨j=11 by omega) with rfl|rfl|rfl|rfl|rfl|rfl|rfl|rfl|rfl|rfl|rfl|rfl
 ·exact e0
 ·exact e1
 ·exact e2
 ·exact e3
 ·exact e4
 ·exact e5
 ·exact e6
 ·exact e7
 ·exact e8
 ·exact e9
 ·exact e10
 ·exact e11
theorem open_ele {r:Reach}{b0:Nat}{W:World}{v:Value}{d:DataW H}{p:List MemPlace}(hv:Value.okWide pG W r b0 30 v) (h:DataW.Trod enc pG W 0 (fun _=>true) true 30 v d p) :
  ∃ (e:EV) (P C:List ByteArray),v=.agg (e.cells P.length C.length)∧ElF W e P C:=by
 obtain⟨ca,rfl,hsz⟩:=okWide_struct Tryz.underlying30 hv;obtain⟨fuel,hf0⟩:=h;have h:DataW.trod enc pG W 0 (fun _=>true) true fuel 30 ca.toList=some (d,p):=by simpa [Value.cells] using hf0
 obtain⟨cs,hcs⟩:∃ cs,ca.toList=cs:=⟨_,rfl⟩;rw[hcs]at h;obtain⟨xs,n,_,_,hl,hlen,hf⟩:=DataW.trod_struct Tryz.underlying30 h;rw[cEle]at hl;obtain⟨y0,y1,y2,y3,y4,y5,y6,y7,y8,y9,y10,y11,hxs⟩:∃ y0 y1 y2 y3 y4 y5 y6 y7 y8 y9 y10 y11,xs=[y0,y1,y2,y3,y4,y5,y6,y7,y8,y9,y10,y11]:=by
  match xs,hlen with
  | [y0,y1,y2,y3,y4,y5,y6,y7,y8,y9,y10,y11],_=>exact⟨_,_,_,_,_,_,_,_,_,_,_,_,rfl⟩
 subst hxs;have h0:DataW.trod enc pG W 0 (fun _=>true) true n 9 ((cs.drop 0).take (pG.cellsOf 9))=some y0:=hf 0 _ rfl;rw[cStr,take_at hl (by omega)]at h0;have h1:DataW.trod enc pG W 0 (fun _=>true) true n 3 ((cs.drop 1).take (pG.cellsOf 3))=some y1:=hf 1 _ rfl;rw[cInt,take_at hl (by omega)]at h1;have h2:DataW.trod enc pG W 0 (fun _=>true) true n 3 ((cs.drop 2).take (pG.cellsOf 3))=some y2:=hf 2 _ rfl;rw[cInt,take_at hl (by omega)]at h2;have h3:DataW.trod enc pG W 0 (fun _=>true) true n 3 ((cs.drop 3).take (pG.cellsOf 3))=some y3:=hf 3 _ rfl;rw[cInt,take_at hl (by omega)]at h3;have h4:DataW.trod enc pG W 0 (fun _=>true) true n 22 ((cs.drop 4).take (pG.cellsOf 22))=some y4:=hf 4 _ rfl;rw[cStrs,take_at hl (by omega)]at h4;have h5:DataW.trod enc pG W 0 (fun _=>true) true n 23 ((cs.drop 5).take (pG.cellsOf 23))=some y5:=hf 5 _ rfl;rw[cCons,take_at hl (by omega)]at h5;have h6:DataW.trod enc pG W 0 (fun _=>true) true n 24 ((cs.drop 6).take (pG.cellsOf 24))=some y6:=hf 6 _ rfl;rw[cStys,take_at hl (by omega)]at h6;have h7:DataW.trod enc pG W 0 (fun _=>true) true n 3 ((cs.drop 7).take (pG.cellsOf 3))=some y7:=hf 7 _ rfl;rw[cInt,take_at hl (by omega)]at h7;have h8:DataW.trod enc pG W 0 (fun _=>true) true n 3 ((cs.drop 8).take (pG.cellsOf 3))=some y8:=hf 8 _ rfl;rw[cInt,take_at hl (by omega)]at h8;have h9:DataW.trod enc pG W 0 (fun _=>true) true n 28 ((cs.drop 9).take (pG.cellsOf 28))=some y9:=hf 9 _ rfl;have h10:DataW.trod enc pG W 0 (fun _=>true) true n 3 ((cs.drop 12).take (pG.cellsOf 3))=some y10:=hf 10 _ rfl;rw[cInt,take_at hl (by omega)]at h10;have h11:DataW.trod enc pG W 0 (fun _=>true) true n 9 ((cs.drop 13).take (pG.cellsOf 9))=some y11:=hf 11 _ rfl;rw[cStr,take_at hl (by omega)]at h11;obtain⟨s0,e0,_,z0⟩:=DataW.trod_string Tryz.underlying9 h0;injection e0 with e0;obtain⟨a1,e1,_,z1⟩:=DataW.trod_int Tryz.underlying3 h1;injection e1 with e1;obtain⟨a2,e2,_,z2⟩:=DataW.trod_int Tryz.underlying3 h2;injection e2 with e2;obtain⟨a3,e3,_,z3⟩:=DataW.trod_int Tryz.underlying3 h3;injection e3 with e3;obtain⟨A4,c4,l4,e4,L4,m4,d4,q4⟩:=open_strsA h4;obtain⟨a7,e7,_,z7⟩:=DataW.trod_int Tryz.underlying3 h7;injection e7 with e7;obtain⟨a8,e8,_,z8⟩:=DataW.trod_int Tryz.underlying3 h8;injection e8 with e8;obtain⟨a10,e10,_,z10⟩:=DataW.trod_int Tryz.underlying3 h10;injection e10 with e10;obtain⟨s11,e11,_,z11⟩:=DataW.trod_string Tryz.underlying9 h11;injection e11 with e11;obtain⟨A5,c5,C,e5,m5,d5,F5⟩:=open_elems (E:=ConE W) Tryz.underlying23 cCon (by omega) open_con h5;obtain⟨A6,c6,S,e6,m6,d6,F6⟩:=open_elems (E:=StyE W) Tryz.underlying24 cSty (by omega) open_sty h6;obtain⟨neg,A9,B9,l9,k9,c9,b9,e9,N9,M9⟩:=open_rat h9;rw[cRat]at e9;have e9a:cs[9]'(by omega)=.bool neg∧cs[10]'(by omega)=.slice A9 l9.length c9∧cs[11]'(by omega)=.slice B9 k9.length b9:=by have g0:=congrArg (fun l:List Value=>l[0]?) e9;have g1:=congrArg (fun l:List Value=>l[1]?) e9;have g2:=congrArg (fun l:List Value=>l[2]?) e9;simp[List.getElem?_take,List.getElem?_drop,List.getElem?_eq_getElem,hl]at g0 g1 g2;exact⟨g0,g1,g2⟩
 obtain⟨g9,g10,g11⟩:=e9a;refine⟨⟨s0,a1,a2,a3,A4,c4,A5,c5,A6,S.length,c6,a7,a8,neg,A9,l9.length,c9,B9,k9.length,b9,a10,s11⟩,l4,C,?_,⟨L4,q4,?_,?_,⟨l9,rfl,N9⟩,⟨k9,rfl,M9⟩,lT z0 maxLen_big,lT z11 maxLen_big⟩⟩
 ·congr 1;apply Array.toList_inj.1;rw[hcs];refine List.ext_getElem (by simp[hl,EV.cells]) fun j g1 g2=>?_;have hj:j < 14:=by omega
  rcases (show j=0∨j=1∨j=2∨j=3∨j=4∨j=5∨j=6∨j=7∨j=8∨j=9∨j=10∨j=11∨j=12∨j=13 by omega) with rfl|rfl|rfl|rfl|rfl|rfl|rfl|rfl|rfl|rfl|rfl|rfl|rfl|rfl
  ·exact e0
  ·exact e1
  ·exact e2
  ·exact e3
  ·exact e4
  ·exact e5
  ·exact e6
  ·exact e7
  ·exact e8
  ·exact g9
  ·exact g10
  ·exact g11
  ·exact e10
  ·exact e11
 ·intro hp;obtain⟨b,off,e,hb,hk⟩:=F5 hp;refine⟨b,off,e,hb,fun k hlt=>?_⟩;obtain⟨qs,⟨D,l,dd,x2,x3,x4,x5,x6,x7,x8,rfl,hz,hS,hd,hq⟩,hat⟩:=hk k hlt;exact⟨D,l,dd,x2,x3,x4,x5,x6,x7,x8,hz,hS,hd,hq,hat 0 _ rfl,hat 1 _ rfl,hat 2 _ rfl,hat 3 _ rfl,hat 4 _ rfl,hat 5 _ rfl,hat 6 _ rfl,hat 7 _ rfl,hat 8 _ rfl⟩
 ·intro hp;obtain⟨b,off,e,hb,hk⟩:=F6 hp;refine⟨b,off,e,hb,fun k hlt=>?_⟩;obtain⟨qs,⟨s,D,E,l,m,dd,ee,rfl,hz,h1,h2,h3,h4⟩,hat⟩:=hk k hlt;exact⟨s,D,E,l,m,dd,ee,hz,h1,h2,h3,h4,hat 0 _ rfl,hat 1 _ rfl,hat 2 _ rfl⟩
end
theorem ElF.elec {w:World}{e:EV}{P C:List ByteArray}(h:ElF w e P C):Elec w e P C:=by
 refine⟨h.pre,fun hp=>?_⟩;obtain⟨b,off,e,hF,hc⟩:=h.con hp;refine⟨b,off,e,hF,fun k hk=>?_⟩;obtain⟨D,l,d,x2,x3,x4,x5,x6,x7,x8,_,_,_,_,h0,h1,h2,h3,h4,h5,h6,h7,h8⟩:=hc k hk;exact⟨D,l.length,d,x2,x3,x4,x5,x6,x7,x8,h0,h1,h2,h3,h4,h5,h6,h7,h8⟩
end
end Go.Proofs.YtnndaemmgbkjbaaGreatDoor
