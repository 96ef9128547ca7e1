/-
  parts of the proof: CompT EqT CompP CompB CompC EqA EqB EqC Eq8.
-/
import Derived.Deep.CutBlock
import Derived.Test.YtnndaemmgbkjbaaGreatDoorPG
import Derived.Test.YtnndaemmgbkjbaaGreatDoorPE
import Derived.Test.YtnndaemmgbkjbaaGreatDoorPB
import Derived.Test.YtnndaemmgbkjbaaGreatDoorPD
import Derived.Test.YtnndaemmgbkjbaaGreatDoorPF
namespace Go.Proofs.YtnndaemmgbkjbaaGreatDoor
open Go.RowKit
open Go.Act renaming put → aP
open List renaming setIfInBounds_toArray → aS, set_cons_zero → aZ, set_cons_succ → aU
open Go.World renaming cell?_of_block → cB
open Nat renaming lt_of_lt_of_le → lL, le_trans → lT, le_refl → lR, zero_le → zL
open Go.RowKit.Below renaming refl → bR
open _root_.Go.Proofs.Tryz renaming prog → pG
open Go.Value renaming int → vI, slice → vS, string → vT, bool → vB, pointer → vP
open Go.IntKind renaming i64 → kI
set_option linter.unusedVariables false
set_option linter.unusedSimpArgs false
section
theorem box_load_at {t t':TypeId}{n g off:Nat}{cs:Array Value}{w:World}(hT:AggT t n) (h:Box w g t' cs) (hs:off+n≤cs.size):(loadVar t ⟨g,off,none⟩).run pG w=.ok (.agg ((cs.toList.drop off).take n).toArray) w:=by
 have hc:∀ j v,((cs.toList.drop off).take n)[j]? = some v→w.cell? ((⟨g,off,none⟩:Addr).add j)=some v:=fun j v hv=>by
  rw[add_off,h.cell];rw[List.getElem?_take]at hv;split at hv
  ·rw[List.getElem?_drop]at hv;simpa using hv
  ·cases hv
 have h1:=run_loadCells_list (P:=pG) w ⟨g,off,none⟩ _ hc;have hl:((cs.toList.drop off).take n).length=n:=by rw[List.length_take,List.length_drop,Array.length_toList];omega
 rw[hl]at h1;obtain⟨⟨i0,h2,h3⟩,h4⟩:=hT;simp[loadVar,Sem.run_bind,h4,sizeOf,typeInfo,h2,h3,h1]
theorem aggE8:AggT 30 14:=by
 refine⟨?_,fun w=>?_⟩
 ·have h:(pG.info? 30).map (fun i=>i.size)=some 14:=by kernel_rfl
  obtain⟨i0,h1,h2⟩:=Option.map_eq_some_iff.1 h;exact⟨i0,h1,h2⟩
 ·unfold isAgg;rw[Sem.run_bind,run_underlying Tryz.underlying30 w];rfl
theorem EV.one8 (e:EV) (p c:Nat):OneC (e.cells p c):=by
 intro v hv;simp only[EV.cells,List.mem_cons,List.not_mem_nil,or_false]at hv;rcases hv with rfl|rfl|rfl|rfl|rfl|rfl|rfl|rfl|rfl|rfl|rfl|rfl|rfl|rfl <;> rfl
theorem aggFault:AggT 48 2:=by
 refine⟨?_,fun w=>?_⟩
 ·have h:(pG.info? 48).map (fun i=>i.size)=some 2:=by kernel_rfl
  obtain⟨i0,h1,h2⟩:=Option.map_eq_some_iff.1 h;exact⟨i0,h1,h2⟩
 ·unfold isAgg;rw[Sem.run_bind,run_underlying Tryz.underlying48 w];rfl
theorem results_cc {fn:Func}{p q:Tmp}{ty ty':TypeId}{tmps:Array Value}{w:World}{a a':Addr}{v v':Value}(h:fn.results=#[.cell p ty,.cell q ty']) (hp:tmps.getD p undef=vP (some a)) (hq:tmps.getD q undef=vP (some a'))
  (hl:(loadVar ty a).run pG w=.ok v w) (hl':(loadVar ty' a').run pG w=.ok v' w):(results fn tmps).run pG w=.ok (.tuple #[v,v']) w:=by
 have hp':tmps[p]?.getD undef=vP (some a):=by simpa using hp
 have hq':tmps[q]?.getD undef=vP (some a'):=by simpa using hq
 simp[results,h,hp',hq',asAddr,hl,hl']
theorem list_of {α:Type} [Inhabited α] {P:Nat→α→Prop}:∀ (n:Nat),(∀ k,k < n→∃ x,P k x)→∃ l:List α,l.length=n∧∀ k,k < n→P k (l.getD k default)
 |0,_=>⟨[],rfl,fun k hk=>by omega⟩
 |n+1,h=>by
  obtain⟨l,h1,h2⟩:=list_of n fun k hk=>h k (by omega);obtain⟨x,hx⟩:=h n (by omega);refine⟨l ++ [x],by simp[h1],fun k hk=>?_⟩;by_cases hkn:k < n
  ·rw[List.getD_eq_getElem?_getD,List.getElem?_append_left (by omega),← List.getD_eq_getElem?_getD];exact h2 k hkn
  ·obtain rfl:k=n:=by omega
   rw[List.getD_eq_getElem?_getD,List.getElem?_append_right (by omega),h1,Nat.sub_self];exact hx
def ConK (w:World) (A:Option Addr) (C:List ByteArray):Prop:=∀ k,k < C.length→∃ (b off:Nat) (D:Option Addr) (l:List ByteArray) (d:Nat) (x2 x3 x4 x5 x6 x7 x8:Int),A=some ⟨b,off,none⟩∧b < w.heap.size∧Strs w D l∧l.length≤1000∧
 w.cell? ⟨b,off+k * 9,none⟩=some (vT (C.getD k default))∧w.cell? ⟨b,off+k * 9+1,none⟩=some (vS D l.length d)∧w.cell? ⟨b,off+k * 9+2,none⟩=some (vI kI x2)∧w.cell? ⟨b,off+k * 9+3,none⟩=some (vI kI x3)∧
 w.cell? ⟨b,off+k * 9+4,none⟩=some (vI kI x4)∧w.cell? ⟨b,off+k * 9+5,none⟩=some (vI kI x5)∧w.cell? ⟨b,off+k * 9+6,none⟩=some (vI kI x6)∧w.cell? ⟨b,off+k * 9+7,none⟩=some (vI kI x7)∧w.cell? ⟨b,off+k * 9+8,none⟩=some (vI kI x8)
def StyK (w:World) (A:Option Addr) (n:Nat):Prop:=∀ k,k < n→∃ (b off:Nat) (s:ByteArray) (D E:Option Addr) (l m:List Int) (d e:Nat),A=some ⟨b,off,none⟩∧b < w.heap.size∧Ints w D l∧l.length≤1000∧Ints w E m∧m.length≤1000∧
 w.cell? ⟨b,off+k * 3,none⟩=some (vT s)∧w.cell? ⟨b,off+k * 3+1,none⟩=some (vS D l.length d)∧w.cell? ⟨b,off+k * 3+2,none⟩=some (vS E m.length e)
structure ElK (w:World) (e:EV) (P C:List ByteArray):Prop where
 pre:Strs w e.pa P
 hp:P.length≤1000
 con:ConK w e.ca C
 hc:C.length≤1000
 sty:StyK w e.sa e.sn
 hs:e.sn≤1000
 num:∃ l,l.length=e.nn∧Nats w e.na l∧l.length≤1000
 den:∃ l,l.length=e.dn∧Nats w e.da l∧l.length≤1000
section
variable {w w':World}{A:Option Addr}{C P:List ByteArray}{n:Nat}{e:EV}
theorem ConK.below (h:ConK w A C) (hb:Below w.heap.size w w'):ConK w' A C:=fun k hk=>by
 obtain⟨b,off,D,l,d,x2,x3,x4,x5,x6,x7,x8,e,hF,hs,hl,h0,h1,h2,h3,h4,h5,h6,h7,h8⟩:=h k hk;have hg:=hb.block b hF;exact⟨b,off,D,l,d,x2,x3,x4,x5,x6,x7,x8,e,lL hF hb.size,ListIn.below hs hb,hl,(cB hg).trans h0,(cB hg).trans h1,(cB hg).trans h2,(cB hg).trans h3,(cB hg).trans h4,(cB hg).trans h5,(cB hg).trans h6,(cB hg).trans h7,(cB hg).trans h8⟩
theorem StyK.below (h:StyK w A n) (hb:Below w.heap.size w w'):StyK w' A n:=fun k hk=>by
 obtain⟨b,off,s,D,E,l,m,d,e,hA,hF,hl,hl2,hm,hm2,h0,h1,h2⟩:=h k hk;have hg:=hb.block b hF;exact⟨b,off,s,D,E,l,m,d,e,hA,lL hF hb.size,ListIn.below hl hb,hl2,ListIn.below hm hb,hm2,(cB hg).trans h0,(cB hg).trans h1,(cB hg).trans h2⟩
theorem ElK.below (h:ElK w e P C) (hb:Below w.heap.size w w'):ElK w' e P C:=by
 obtain⟨l,l1,l2,l3⟩:=h.num;obtain⟨m,m1,m2,m3⟩:=h.den;exact⟨ListIn.below h.pre hb,h.hp,h.con.below hb,h.hc,h.sty.below hb,h.hs,⟨l,l1,ListIn.below l2 hb,l3⟩,⟨m,m1,ListIn.below m2 hb,m3⟩⟩
theorem ElF.elk (h:ElF w e P C) (s:SmallE w e P.length C.length):ElK w e P C:=by
 obtain⟨l,l1,l2⟩:=h.num;obtain⟨m,m1,m2⟩:=h.den;have s1:=s.hn;have s2:=s.hd;have s3:=s.hs;have s4:=s.hp;have s5:=s.hc;refine⟨h.pre,by omega,fun k hk=>?_,by omega,fun k hk=>?_,by omega,⟨l,l1,l2,by omega⟩,⟨m,m1,m2,by omega⟩⟩
 ·obtain⟨b,off,e,hF,hc⟩:=h.con (by omega);obtain⟨D,l,d,x2,x3,x4,x5,x6,x7,x8,hs,hl,hd,hz,h0,h1,h2⟩:=hc k hk;have:=s.cl b off e k hk D l.length d h1;exact⟨b,off,D,l,d,x2,x3,x4,x5,x6,x7,x8,e,hF,hl,by omega,h0,h1,h2⟩
 ·obtain⟨b,off,e,hF,hc⟩:=h.sty (by omega);obtain⟨t,D,E,l,m,d,e',hs,h1,h2,h3,h4,h5,h6,h7⟩:=hc k hk;have k1:=(s.sl b off e k hk).1 D l.length d h6;have k2:=(s.sl b off e k hk).2 E m.length e' h7;exact⟨b,off,t,D,E,l,m,d,e',e,hF,h1,by omega,h3,by omega,h5,h6,h7⟩
end
theorem con_conK {B n c:Nat}{T:Ty}{w:World}{A:Option Addr}(hs:Sl T .con n (vS A n c)) (hw:TW B T w):∃ C:List ByteArray,C.length=n∧ConK w A C∧∀ s ∈ C,s.size≤24:=by
 obtain⟨C,h1,h2⟩:=list_of (P:=fun k (s:ByteArray)=>s.size≤24∧∃ b,A=some ⟨b,0,none⟩∧b < w.heap.size∧∃ (D:Option Addr) (l:List ByteArray) (d:Nat) (x2 x3 x4 x5 x6 x7 x8:Int),Strs w D l∧l.length≤1000∧
   w.cell? ⟨b,k * 9,none⟩=some (vT s)∧w.cell? ⟨b,k * 9+1,none⟩=some (vS D l.length d)∧w.cell? ⟨b,k * 9+2,none⟩=some (vI kI x2)∧w.cell? ⟨b,k * 9+3,none⟩=some (vI kI x3)∧
   w.cell? ⟨b,k * 9+4,none⟩=some (vI kI x4)∧w.cell? ⟨b,k * 9+5,none⟩=some (vI kI x5)∧w.cell? ⟨b,k * 9+6,none⟩=some (vI kI x6)∧w.cell? ⟨b,k * 9+7,none⟩=some (vI kI x7)∧w.cell? ⟨b,k * 9+8,none⟩=some (vI kI x8)) n fun k hk=>by
  obtain⟨b,s,D,m,d,x2,x3,x4,x5,x6,x7,x8,e,hb,_,_,hz,hl,a0,a1,a2,a3,a4,a5,a6,a7,a8⟩:=hs.con hw hk
  obtain⟨l,l1,l2,l3⟩:=hl.strs hw
  obtain⟨_,_,e2,l4,l5⟩:=hl.form
  injection e2 with _ _ e2
  refine⟨s,hz,b,e,hb,D,l,d,x2,x3,x4,x5,x6,x7,x8,l2.mono fun i hi=>hi.1,by omega,a0,?_,a2,a3,a4,a5,a6,a7,a8⟩
  rw[l1];exact a1
 refine⟨C,h1,fun k hk=>?_,fun s hs=>?_⟩
 ·obtain⟨hz,b,e,hb,D,l,d,x2,x3,x4,x5,x6,x7,x8,q1,q2,q⟩:=h2 k (by omega);refine⟨b,0,D,l,d,x2,x3,x4,x5,x6,x7,x8,e,hb,q1,q2,?_⟩;rw[Nat.zero_add];exact q
 ·obtain⟨k,hk,rfl⟩:=List.mem_iff_getElem.1 hs;have:=(h2 k (by omega)).1;rwa [List.getD_eq_getElem?_getD,List.getElem?_eq_getElem hk]at this
theorem sty_styK {B n c:Nat}{T:Ty}{w:World}{A:Option Addr}(hs:Sl T .sty n (vS A n c)) (hw:TW B T w):StyK w A n:=fun k hk=>by
 obtain⟨b,s,D,m,d,E,q,e',h1,hb,_,_,hz,hd,he,a0,a1,a2⟩:=hs.sty hw hk;obtain⟨l,l1,l2⟩:=hd.ints hw;obtain⟨r,r1,r2⟩:=he.ints hw;obtain⟨_,_,e2,l4,l5⟩:=hd.form;injection e2 with _ _ e2;obtain⟨_,_,e3,r4,r5⟩:=he.form;injection e3 with _ _ e3;refine⟨b,0,s,D,E,l,r,d,e',h1,hb,l2.mono fun i hi=>hi.1,by omega,r2.mono fun i hi=>hi.1,by omega,?_,?_,?_⟩
 ·rw[Nat.zero_add];exact a0
 ·rw[Nat.zero_add,l1];exact a1
 ·rw[Nat.zero_add,r1];exact a2
theorem fin_elf {B n:Nat}{T:Ty}{w:World}{cs:Array Value}(hw:TW B T w) (h:FinT T cs) (h6:Sl T .sty n (cs.getD 6 undef)) (hz:cs.size=19) :
  ∃ ev P C,((cs.toList.drop 0).take 14).toArray=EV.cells ev P.length C.length∧ElK w ev P C∧(∀ s ∈ P,s.size≤24)∧∀ s ∈ C,s.size≤24:=by
 obtain⟨⟨t,e0,ht⟩,⟨x1,e1⟩,⟨x2,e2⟩,⟨x3,e3⟩,⟨n4,h4⟩,⟨n5,h5⟩,⟨x7,e7⟩,⟨x8,e8⟩,⟨b9,e9⟩,⟨n10,h10⟩,⟨n11,h11⟩,⟨x12,e12⟩,⟨s13,e13,hs13⟩⟩:=h;obtain⟨A4,c4,e4,h4⟩:=sl_val h4;obtain⟨A5,c5,e5,h5⟩:=sl_val h5;obtain⟨A6,c6,e6,h6⟩:=sl_val h6;obtain⟨A10,c10,e10,h10⟩:=sl_val h10;obtain⟨A11,c11,e11,h11⟩:=sl_val h11;obtain⟨P,p1,p2,p3⟩:=h4.shorts hw;obtain⟨C,q1,q2,q3⟩:=con_conK h5 hw;obtain⟨_,_,g4,_,b4'⟩:=h4.form;obtain⟨_,_,g5,_,b5'⟩:=h5.form;obtain⟨_,_,g6,_,b6'⟩:=h6.form;obtain⟨_,_,g10,_,b10'⟩:=h10.form;obtain⟨_,_,g11,_,b11'⟩:=h11.form;obtain⟨l10,r1,r2⟩:=h10.nats hw;obtain⟨l11,s1,s2⟩:=h11.nats hw;refine⟨⟨t,x1,x2,x3,A4,c4,A5,c5,A6,n,c6,x7,x8,b9,A10,n10,c10,A11,n11,c11,x12,s13⟩,P,C,?_,⟨p2.mono fun i hi=>hi.1,by omega,q2,by omega,sty_styK h6 hw,b6',⟨l10,r1,r2.mono fun i hi=>hi.1,by omega⟩,⟨l11,s1,s2.mono fun i hi=>hi.1,by omega⟩⟩,p3,q3⟩;have hg:∀ j,j < 19→cs[j]? = some (cs.getD j undef):=fun j hj=>by rw[Array.getD_eq_getD_getElem?,Array.getElem?_eq_getElem (by omega)];rfl
 unfold EV.cells;simp only[];rw[p1,q1];apply Array.ext_getElem?;intro j;rw[List.drop_zero];by_cases hj:j < 14
 ·have e:((cs.toList.take 14).toArray)[j]? = cs[j]? := by rw[List.getElem?_toArray,List.getElem?_take,if_pos hj,Array.getElem?_toList]
  rw[e,hg j (by omega)];rcases (show j=0∨j=1∨j=2∨j=3∨j=4∨j=5∨j=6∨j=7∨j=8∨j=9∨j=10∨j=11∨j=12∨j=13 by omega) with rfl|rfl|rfl|rfl|rfl|rfl|rfl|rfl|rfl|rfl|rfl|rfl|rfl|rfl
  ·rw[e0];rfl
  ·rw[e1];rfl
  ·rw[e2];rfl
  ·rw[e3];rfl
  ·rw[e4];rfl
  ·rw[e5];rfl
  ·rw[e6];rfl
  ·rw[e7];rfl
  ·rw[e8];rfl
  ·rw[e9];rfl
  ·rw[e10];rfl
  ·rw[e11];rfl
  ·rw[e12];rfl
  ·rw[e13];rfl
 ·rw[Array.getElem?_eq_none (by simp;omega),Array.getElem?_eq_none (by simp;omega)]
end
section
structure EqW (q2 q3:Nat) (e1 e2:EV) (P1 C1 P2 C2:List ByteArray) (w:World):Prop where
 x2:Box w q2 30 (e1.cells P1.length C1.length)
 x3:Box w q3 30 (e2.cells P2.length C2.length)
 f1:ElK w e1 P1 C1
 f2:ElK w e2 P2 C2
section
variable {q2 q3:Nat}{e1 e2:EV}{P1 C1 P2 C2:List ByteArray}{w w':World}
theorem EqW.below (h:EqW q2 q3 e1 e2 P1 C1 P2 C2 w) (hb:Below w.heap.size w w'):EqW q2 q3 e1 e2 P1 C1 P2 C2 w':=⟨h.x2.kept hb,h.x3.kept hb,h.f1.below hb,h.f2.below hb⟩
theorem EqW.cells (h:EqW q2 q3 e1 e2 P1 C1 P2 C2 w):w.cell? ⟨q2,5,none⟩=some (vS e1.ca C1.length e1.cc)∧w.cell? ⟨q3,5,none⟩=some (vS e2.ca C2.length e2.cc)∧w.cell? ⟨q2,6,none⟩=some (vS e1.sa e1.sn e1.sc)∧w.cell? ⟨q3,6,none⟩=some (vS e2.sa e2.sn e2.sc)∧q2 < w.heap.size∧q3 < w.heap.size:=
 ⟨h.x2.cell 5,h.x3.cell 5,h.x2.cell 6,h.x3.cell 6,h.x2.lt,h.x3.lt⟩
end
theorem below_grow {g:Nat}{w a b:World}(h:Below w.heap.size w a) (k:a.grownBy b (some g)) (hg:w.heap.size≤g):Below w.heap.size w b:=
 ⟨k.os.trans h.os,k.tape.trans h.tape,k.output.trans h.output,lT h.size k.size,fun i hi=>(k.block i (lL hi h.size) (fun e=>by have:=Option.some.inj e;omega)).trans (h.block i hi)⟩
theorem aggSty:AggT 76 3:=by
 refine⟨?_,fun w=>?_⟩
 ·have h:(pG.info? 76).map (fun i=>i.size)=some 3:=by kernel_rfl
  obtain⟨i0,h1,h2⟩:=Option.map_eq_some_iff.1 h;exact⟨i0,h1,h2⟩
 ·unfold isAgg;rw[Sem.run_bind,run_underlying Tryz.underlying76 w];rfl
end
section
structure CB where
 q1:Nat
 q2:Nat
 q3:Nat
 g:Nat
 B:Nat
 w:World
 title:ByteArray
 A:Option Addr
 n:Nat
 c:Nat
structure CP (b:CB) (T:Ty) (w:World) (N:Nat) (e:Int):Prop where
 sta:Sta b.g b.B T w N e
 x1:Box w b.q1 53 #[vT b.title,vS b.A b.n b.c]
 x2:∃ cs,Box w b.q2 30 cs∧cs.size=14
 x3:∃ cs,Box w b.q3 48 cs∧cs.size=2
 u:T b.q1=none∧T b.q2=none∧T b.q3=none
 d:b.q1≠b.g∧b.q2≠b.g∧b.q3≠b.g∧b.q2≠b.q3
 lo:b.B≤b.q2∧b.B≤b.q3
 bl:Sl T .blk b.n (vS b.A b.n b.c)
 be:Below b.B b.w w
section
variable {b:CB}{T T2:Ty}{w w2:World}{N N2:Nat}{e e2:Int}
theorem CP.next (h:CP b T w N e) (hs:Stp (fun i=>i=b.g) b.B T w T2 w2) (ht:Sta b.g b.B T2 w2 N2 e2):CP b T2 w2 N2 e2:=by
 obtain⟨c2,x2,z2⟩:=h.x2;obtain⟨c3,x3,z3⟩:=h.x3;obtain⟨u1,u2,u3⟩:=h.u;obtain⟨d1,d2,d3,d4⟩:=h.d;have lo:=h.sta.lo;exact⟨ht,hs.box h.x1 u1 d1,⟨c2,hs.box x2 u2 d2,z2⟩,⟨c3,hs.box x3 u3 d3,z3⟩,⟨hs.none h.x1.lt u1,hs.none x2.lt u2,hs.none x3.lt u3⟩,h.d,h.lo,h.bl.mono hs.le,h.be.trans (hs.below h.sta.tw h.sta.size fun i hi e=>by omega)⟩
theorem CP.aft (h:CP b T w N e) {cs:Array Value}(hs:St w b.g cs e) (hA:Aft w b.g cs e w2):∃ e2,CP b T w2 N e2:=by
 obtain⟨e2,k1,k2,_⟩:=h.sta.aft hs hA;exact⟨e2,h.next k1 k2⟩
theorem CP.below (h:CP b T w N e) (hb:Below w.heap.size w w2):CP b T w2 N e:=h.next (Stp.of_below h.sta.tw hb) (h.sta.below hb)
theorem CP.st (h:CP b T w N e):∃ cs,St w b.g cs e:=by
 obtain⟨cs,h1,_⟩:=h.sta.ex;exact⟨cs,h1⟩
theorem CP.cells (h:CP b T w N e):w.cell? ⟨b.g,17,none⟩=some (vI kI e)∧w.cell? ⟨b.q1,0,none⟩=some (vT b.title)∧w.cell? ⟨b.q1,1,none⟩=some (vS b.A b.n b.c)∧b.g < w.heap.size∧b.q1 < w.heap.size:=by
 obtain⟨cs,h1⟩:=h.st;exact⟨h1.cell17,h.x1.cell 0,h.x1.cell 1,h.sta.lt,h.x1.lt⟩
theorem CP.fail (h:CP b T w N e) (k l:Int) (hk:k≠0):Calls pG 36 #[vP (some ⟨b.g,0,none⟩),vI kI k,vI kI l] w fun en w'=>en=.returned (.tuple #[])∧(∃ e2,CP b T w' N e2)∧w.grownBy w' (some b.g):=by
 obtain⟨cs,hs⟩:=h.st;refine(failA_any (n:=k) (l:=l) hs hk).mono ?_;rintro en w' ⟨h1,h2,_⟩;exact⟨h1,h.aft hs h2,h2.grown⟩
theorem CP.find (h:CP b T w N e) (s:ByteArray):∃ A c m,∃ r:Int,w.cell? ⟨b.g,14,none⟩=some (vS A m c)∧Calls pG 38 #[vS A m c,vT s] w fun en w'=>en=.returned (vI kI r)∧w'=w:=by
 obtain⟨m,A,c,_,h2,h3⟩:=h.sta.seen;obtain⟨_,_,e,_,h5⟩:=h3.form;obtain⟨l,l1,l2,_⟩:=h3.strs h.sta.tw;have:=find_any (c:=c) (s:=s) (l2.mono fun i hi=>hi.1) (by omega);rw[l1]at this;exact⟨A,c,m,_,h2,this⟩
end
def stZ (title:ByteArray):Array Value:=#[vT title,vI kI 0,vI kI 0,vI kI 0,vS none 0 0,vS none 0 0,vS none 0 0,vI kI 0,vI kI 0,vB false,vS none 0 0,vS none 0 0,vI kI 0,vT ⟨#[]⟩,vS none 0 0,vS none 0 0,vS none 0 0,vI kI 0,vI kI 0]
def elZ:Array Value:=#[vT ⟨#[]⟩,vI kI 0,vI kI 0,vI kI 0,vS none 0 0,vS none 0 0,vS none 0 0,vI kI 0,vI kI 0,vB false,vS none 0 0,vS none 0 0,vI kI 0,vT ⟨#[]⟩]
theorem elZ_one:OneC elZ:=by
 intro v hv;simp only[elZ,List.mem_cons,List.not_mem_nil,or_false]at hv;rcases hv with rfl|rfl|rfl|rfl|rfl|rfl|rfl|rfl|rfl|rfl|rfl|rfl|rfl|rfl <;> rfl
theorem comp_start {B n c:Nat}{S:Ty}{w:World}{title:ByteArray}{A:Option Addr}(hw:TW B S w) (hB:B≤w.heap.size) (ht:title.size≤big) (hb:Sl S .blk n (vS A n c)) :
  CP ⟨w.heap.size,w.heap.size+1,w.heap.size+1+1,w.heap.size+1+1+1,B,w,title,A,n,c⟩ S ((((w.alloc (.cells #[vT title,vS A n c] 53)).alloc (.cells elZ 30)).alloc (.cells #[vI kI 0,vI kI 0] 48)).alloc (.cells (stZ title) 81)) 0 0:=by
 have b1:=(((Box.new w 53 #[vT title,vS A n c]).alloc (.cells elZ 30)).alloc (.cells #[vI kI 0,vI kI 0] 48)).alloc (.cells (stZ title) 81);have b2:=((Box.new (w.alloc (.cells #[vT title,vS A n c] 53)) 30 elZ).alloc (.cells #[vI kI 0,vI kI 0] 48)).alloc (.cells (stZ title) 81);have b3:=(Box.new ((w.alloc (.cells #[vT title,vS A n c] 53)).alloc (.cells elZ 30)) 48 #[vI kI 0,vI kI 0]).alloc (.cells (stZ title) 81);have b4:=Box.new (((w.alloc (.cells #[vT title,vS A n c] 53)).alloc (.cells elZ 30)).alloc (.cells #[vI kI 0,vI kI 0] 48)) 81 (stZ title);have s4:Below w.heap.size w ((((w.alloc (.cells #[vT title,vS A n c] 53)).alloc (.cells elZ 30)).alloc (.cells #[vI kI 0,vI kI 0] 48)).alloc (.cells (stZ title) 81)):=((((bR _ _).alloc (lR _) _).alloc (by simp) _).alloc (by simp;omega) _).alloc (by simp;omega) _;simp only[World.size_alloc]at b2 b3 b4;generalize ((((w.alloc (.cells #[vT title,vS A n c] 53)).alloc (.cells elZ 30)).alloc (.cells #[vI kI 0,vI kI 0] 48)).alloc (.cells (stZ title) 81))=w4 at *;have hg:S (w.heap.size+1+1+1)=none:=hw.none_ge (by omega);have t4:TW B S w4:=hw.below s4;have u1:S w.heap.size=none:=hw.none_ge (lR _);have u2:S (w.heap.size+1)=none:=hw.none_ge (by omega);have u3:S (w.heap.size+1+1)=none:=hw.none_ge (by omega);have hx:=b4;have z:∀ k,Sl S k 0 (vS none 0 0):=fun k=>Sl.nil _ _;refine⟨⟨⟨stZ title,⟨hx,rfl,rfl,0,rfl⟩,⟨⟨title,rfl,ht⟩,⟨0,rfl⟩,⟨0,rfl⟩,⟨0,rfl⟩,fun _=>⟨0,z _⟩,⟨0,lR _,z _⟩,⟨0,lR _,z _,z _,z _⟩,⟨0,rfl⟩,⟨0,rfl⟩,⟨false,rfl⟩,⟨0,z _⟩,⟨0,z _⟩,⟨0,rfl⟩,⟨⟨#[]⟩,rfl,by decide⟩,⟨0,lR _,z _⟩⟩⟩,t4,hg,by show B≤w.heap.size+1+1+1;omega⟩,?_,?_,?_,⟨u1,u2,u3⟩,?_,?_,hb,?_⟩
 ·exact b1
 ·exact⟨_,b2,rfl⟩
 ·exact⟨_,b3,rfl⟩
 ·exact⟨by show w.heap.size≠w.heap.size+1+1+1;omega,by show w.heap.size+1≠w.heap.size+1+1+1;omega,by show w.heap.size+1+1≠w.heap.size+1+1+1;omega,by show w.heap.size+1≠w.heap.size+1+1;omega⟩
 ·exact⟨by show B≤w.heap.size+1;omega,by show B≤w.heap.size+1+1;omega⟩
 ·exact s4.mono hB
end
section
variable {u0 u5 u6 u7 u8 u9 jA qA yA zA fA nA rA mA lA oA pA vA sA tA uA aA bA cA dA eA hA iA kA jB qB yB zB fB gB nB rB mB lB oB pB sB tB uB aB bB dB eB hB iB kB jC qC yC zC fC gC nC rC mC lC oC pC vC sC tC uC aC bC cC dC eC hC iC kC jD qD yD zD fD gD nD rD:Value}
set_option maxHeartbeats 16000000
set_option maxRecDepth 1000000
theorem cmp2 {b:CB}{T:Ty}{wc:World}{e:Int}{N qk:Nat}{ks:Array Value}
   (h:CP b T wc N e) (hx:Box wc qk 9 ks) (hz:ks.size=7) (hk:∀ v ∈ ks,∃ s:ByteArray,v=vT s) (hq:qk≠b.g)
 {K:Act→World→Prop}{post:Ending→World→Prop}
   (hK:∀ (x0 x5 x6 x7 x8 x9 mD lD oD pD vD sD tD uD aD bD cD dD eD hD iD kD jE qE yE zE fE gE nE rE mE lE oE pE vE sE tE uE aE bE cE dE eE hE iE kE jF qF yF zF fF gF nF rF mF lF oF pF vF sF tF uF aF bF cF dF eF hF iF kF jG qG yG zG fG gG nG rG mG lG oG vG sG tG uG aG:Value)  (wx:World),(∃ e',Hid (CP b T wx N e'))→K ⟨#[x0,vP (some ⟨b.q1,0,none⟩),vP (some ⟨b.q2,0,none⟩),vP (some ⟨b.q3,0,none⟩),vP (some ⟨b.g,0,none⟩),x5,x6,x7,x8,x9,mD,lD,oD,pD,vD,sD,tD,uD,aD,bD,cD,dD,eD,hD,iD,kD,jE,qE,yE,zE,fE,gE,nE,rE,mE,lE,oE,pE,vE,sE,tE,uE,aE,bE,cE,dE,eE,hE,iE,kE,jF,qF,yF,zF,fF,gF,nF,rF,mF,lF,oF,pF,vF,sF,tF,uF,aF,bF,cF,dF,eF,hF,iF,kF,jG,qG,yG,zG,fG,gG,nG,rG,mG,lG,oG,vG,sG,tG,uG,aG],[]⟩ wx) :
   Code.wp pG ((Tryz.f15.body.bind (findBlk 2)).getD .skip) (Exit.then K (bodyPost pG Tryz.f15 post)) ⟨#[u0,vP (some ⟨b.q1,0,none⟩),vP (some ⟨b.q2,0,none⟩),vP (some ⟨b.q3,0,none⟩),vP (some ⟨b.g,0,none⟩),u5,u6,u7,u8,u9,jA,qA,yA,zA,fA,nA,rA,mA,lA,oA,pA,vA,sA,tA,uA,aA,bA,cA,dA,eA,hA,iA,kA,jB,qB,yB,zB,fB,gB,nB,rB,mB,lB,oB,pB,sB,tB,uB,aB,bB,vS (some ⟨qk,0,none⟩) 7 7,vI kI 7,vI kI 0,dB,eB,hB,iB,kB,jC,qC,yC,zC,fC,gC,nC,rC,mC,lC,oC,pC,vC,sC,tC,uC,aC,bC,cC,dC,eC,hC,iC,kC,jD,qD,yD,zD,fD,gD,nD,rD],[]⟩ wc:=by
  have H:=hide h;have HX:=hide hx;clear h hx;conv=>arg 2;whnf
  dsimp only;go_wp2_with fail;go_loopw [52] (fun i wr=>∃ k:Nat,k≤7∧i=vI kI k∧(∃ e',Hid (CP b T wr N e'))∧Hid (Box wr qk 9 ks)) (fun i _=>7 - (iOf i).toNat);case atStart=>exact⟨0,by omega,rfl,⟨e,H.out⟩,HX.out⟩
  case round=>
   obtain⟨k,hk7,rfl,⟨e',HC⟩,HX⟩:=hrel;obtain⟨c17,c10,c11,hlg,hlq⟩:=HC.out.cells;by_cases hlt:k < 7
   ·have hki:(k:Int) < 7:=by omega
    obtain⟨s,hs⟩:=hk _ (Array.getElem_mem (show k < ks.size by omega));have cs:wr.cell? ⟨qk,k,none⟩=some (vT s):=by rw[HX.out.cell k,← hs];exact Array.getElem?_eq_getElem (by omega)
    have hlk:=HX.out.lt;obtain⟨A,c,m,r,c14,hf⟩:=HC.out.find s;have HF:=hide hf;clear hf;go_wp2_with fail;refine HF.out.mono ?_;rintro en w5 ⟨rfl,hw5⟩;have hw5:=hw5.symm;subst hw5;try dsimp only
    by_cases hr:r < 0
    ·go_wp2_with fail;refine(HC.out.fail _ _ (by decide)).mono ?_;rintro en w6 ⟨rfl,⟨e6,h6⟩,hg6⟩;try dsimp only
     have H6:=hide h6;have HX6:Hid (Box w6 qk 9 ks):=(hg6.block qk hlk (fun e=>hq (by injection e))).trans HX.out;clear h6 hg6;go_wp2_with fail;go_roundw;case rel=>exact⟨k+1,by omega,by go_num,⟨e6,H6.out⟩,HX6.out⟩
     case measure=>simp[iOf];omega
    ·go_wp2_with fail;go_roundw;case rel=>exact⟨k+1,by omega,by go_num,⟨e',HC.out⟩,HX.out⟩
     case measure=>simp[iOf];omega
   ·obtain rfl:k=7:=by omega
    go_wp2_with fail;exact⟨e',HC⟩
end
section
variable {u0 u1 u5 u6 u7 u8 u9 jA qA yA zA fA nA rA mA lA oA pA vA sA tA uA aA bA cA dA eA hA iA kA jB qB yB zB fB gB nB rB mB lB oB pB sB tB uB aB bB dB eB iB kB jC qC yC zC fC gC nC rC mC lC oC pC vC sC tC uC aC bC cC dC eC hC iC kC jD qD yD zD fD gD nD rD mD lD oD pD:Value}
theorem below_grownB {B g:Nat}{a b:World}(k:a.grownBy b (some g)) (hg:B≤g) (hB:B≤a.heap.size):Below B a b:=
 ⟨k.os,k.tape,k.output,k.size,fun i hi=>k.block i (lL hi hB) fun e=>by injection e with e;omega⟩
set_option maxHeartbeats 16000000
set_option maxRecDepth 1000000
theorem cmp18 {g q2 q3 B:Nat}{cs z2 z3:Array Value}{wc:World}{e:Int}
   (h:St wc g cs e) (h2:Box wc q2 30 z2) (s2:z2.size=14) (h3:Box wc q3 48 z3) (s3:z3.size=2) (d:q2≠g∧q3≠g∧q2≠q3) (lo:B≤q2∧B≤q3∧B≤wc.heap.size)
 {K:Act→World→Prop}{post:Ending→World→Prop}
   (hP:∀ l w',Below B wc w'→post (.returned (.tuple #[.agg elZ,.agg #[vI kI e,vI kI l]])) w')
 :
   Code.wp pG (seqL ((Tryz.f15.body.bind (findAt 18)).getD .skip)) (Exit.then (Code.wp pG (seqR ((Tryz.f15.body.bind (findAt 18)).getD .skip)) (Exit.then K (bodyPost pG Tryz.f15 post))) (Exit.then K (bodyPost pG Tryz.f15 post))) ⟨#[u0,u1,vP (some ⟨q2,0,none⟩),vP (some ⟨q3,0,none⟩),vP (some ⟨g,0,none⟩),u5,u6,u7,u8,u9,jA,qA,yA,zA,fA,nA,rA,mA,lA,oA,pA,vA,sA,tA,uA,aA,bA,cA,dA,eA,hA,iA,kA,jB,qB,yB,zB,fB,gB,nB,rB,mB,lB,oB,pB,sB,tB,uB,aB,bB,dB,eB,iB,kB,jC,qC,yC,zC,fC,gC,nC,rC,mC,lC,oC,pC,vC,sC,tC,uC,aC,bC,cC,dC,eC,hC,iC,kC,jD,qD,yD,zD,fD,gD,nD,rD,mD,lD,oD,pD],[]⟩ wc:=by
  obtain⟨l,c18⟩:=h.cell18;have c17:=h.cell17;have hlg:=h.lt;have hl2:=h2.lt;have hl3:=h3.lt;obtain⟨w8,hs8,hx8,hg8⟩:=box_store (w:=wc.drewN 1) (cs':=elZ) aggE8 (h2.kept (below_drew (bR _ _) 1)) s2 rfl elZ_one;have hy8:Box w8 q3 48 z3:=(hg8.block q3 hl3 (fun q=>d.2.2 (by injection q with q;exact q.symm))).trans (h3.kept (below_drew (bR _ _) 1));obtain⟨w9,hs9,hy9,hg9⟩:=box_store (cs':=#[vI kI e,vI kI l]) aggFault hy8 s3 rfl (by intro v hv;simp at hv;rcases hv with rfl|rfl <;> rfl);have hx9:Box w9 q2 30 elZ:=(hg9.block q2 hx8.lt (fun q=>d.2.2 (by injection q))).trans hx8;have st8:St w8 g cs e:=⟨(hg8.block g hlg (fun q=>d.1 (by injection q with q;exact q.symm))).trans (h.box.kept (below_drew (bR _ _) 1)),h.size,h.c17,h.c18⟩;have e17:=st8.cell17;have e18:w8.cell? ⟨g,18,none⟩=some (vI kI l):=by have q1:=(h.box.cell 18).symm.trans c18;rw[st8.box.cell 18];exact q1
  have hlg8:=st8.lt;have hB:Below B wc w9:=(((below_drew (bR wc.heap.size wc) 1).mono lo.2.2).trans (below_grownB hg8 lo.1 lo.2.2)).trans (below_grownB hg9 lo.2.1 (lT lo.2.2 hg8.size));have st9:St w9 g cs e:=⟨(hg9.block g hlg8 (fun q=>d.2.1 (by injection q with q;exact q.symm))).trans st8.box,h.size,h.c17,h.c18⟩;have f18:w9.cell? ⟨g,18,none⟩=some (vI kI l):=by have q1:=(h.box.cell 18).symm.trans c18;rw[st9.box.cell 18];exact q1
  have HN8:=hide (And.intro e17 (And.intro e18 hlg8));have HN9:=hide (And.intro st9.cell17 (And.intro f18 st9.lt));unfold elZ at hs8;have HS8:=hide hs8;have HS9:=hide hs9;have HX9:=hide hx9;have HY9:=hide hy9;have HB9:=hide hB;clear hs8 hs9 hx9 hy9 hB hx8 hy8 hg8 hg9 st8 st9 h h2 h3 e17 e18 f18 hlg8;conv=>pattern (seqL _);whnf
  conv=>pattern (seqR _);whnf
  refine wp_open (fun K0 hK0=>?_);dsimp only;refine wp_region_held_drew (S:=fun v=>v.cell? ⟨g,17,none⟩=some (vI kI e)∧v.cell? ⟨g,18,none⟩=some (vI kI l)∧g < v.heap.size) (by kernel_rfl) (⟨c17,c18,hlg⟩) (fun hH=>?_);refine wT 0 ?xv0 ?xy0 hH ?xr0;case xy0=>intro v hv;go_simp;rfl
  try simp only[aP,aS,aZ,aU]
  refine wT 1 ?xv1 ?xy1 hH ?xr1;case xy1=>intro v hv;go_simp;rfl
  try simp only[aP,aS,aZ,aU]
  refine wT 2 ?xv2 ?xy2 hH ?xr2;case xy2=>intro v hv;go_simp;rfl
  try simp only[aP,aS,aZ,aU]
  refine wT 3 ?xv3 ?xy3 hH ?xr3;case xy3=>intro v hv;go_simp;rfl
  try simp only[aP,aS,aZ,aU]
  refine wT 4 ?xv4 ?xy4 hH ?xr4;case xy4=>intro v hv;obtain⟨q17,q18,ql⟩:=hv;go_simp;rfl
  try simp only[aP,aS,aZ,aU]
  refine wR 5 fun K hK=>?_;refine step_does rfl (does_store rfl rfl rfl HS8.out) ?_;have hN:=HN8.out;refine hK.out _ _ hN fun hZ=>?_;clear hK hH hN K;have hH:=hZ;clear hZ;try simp only[aP,aS,aZ,aU]
  refine wR 6 fun K hK=>?_;refine step_does rfl (does_store rfl rfl rfl HS9.out) ?_;have hN:=HN9.out;refine hK.out _ _ hN fun hZ=>?_;clear hK hH hN K;have hH:=hZ;clear hZ;try simp only[aP,aS,aZ,aU]
  refine wpAnyH_done (by kernel_rfl) ?_ _;go_wp2_with fail;refine bodyPost_ret (v:=.tuple #[.agg elZ,.agg #[vI kI e,vI kI l]]) (by refine results_cc (p:=2) (q:=3) ?_ ?_ ?_ (box_load aggE8 HX9.out rfl) (box_load aggFault HY9.out rfl) <;> rfl) rfl ?_;exact hP _ _ HB9.out
end
section
variable {u0 u1 u2 u4 u5 u6 u7 u8 u9 oI uA aA bA cA dA eA hA iA kA jB qB yB zB fB gB nB rB mB lB oB pB sB tB uB aB bB dB eB hB iB kB jC qC yC zC fC gC nC rC mC lC oC pC vC sC tC uC aC bC cC dC eC hC iC kC jD qD yD zD fD gD nD rD mD lD oD pD vD sD tD uD aD bD cD dD eD hD iD kD jE qE yE zE fE gE nE rE mE lE oE pE vE sE pI sI tI uI aI bI cI dI eI hI tE uE aE bE cE dE eE hE iE kE jF qF yF zF fF gF nF rF mF lF oF pF vF sF tF uF aF bF cF dF eF hF iF kF jG qG yG zG fG gG nG rG mG lG oG vG sG tG uG aG bG cG dG eG hG iG kG jH qH yH zH fH gH nH rH mH lH oH pH iI jJ qJ yJ zJ fJ gJ nJ rJ mJ vH sH tH uH aH bH cH dH eH iH kH jI qI yI zI fI gI nI rI mI lI:Value}
set_option maxHeartbeats 16000000
set_option maxRecDepth 1000000
theorem eq8 {q2 q3 b1 o1 b2 o2 t1 t2 g1c u2 k:Nat}{D1:Option Addr}{s1:ByteArray}{m1 d1:Nat}{jA qA yA zA fA nA rA:Int}{D2:Option Addr}{s2:ByteArray}{m2 d2:Nat}{mA lA oA pA vA sA tA:Int}{wc:World}
   (hq2:q2 < wc.heap.size) (hq3:q3 < wc.heap.size) (hb1:b1 < wc.heap.size) (hb2:b2 < wc.heap.size) (hk1:k < t1) (hk2:k < t2) (c2:wc.cell? ⟨q2,5,none⟩=some (vS (some ⟨b1,o1,none⟩) t1 g1c)) (c3:wc.cell? ⟨q3,5,none⟩=some (vS (some ⟨b2,o2,none⟩) t2 u2)) (a0:wc.cell? ⟨b1,o1+k * 9,none⟩=some (vT s1)) (a1:wc.cell? ⟨b1,o1+k * 9+1,none⟩=some (vS D1 m1 d1)) (a2:wc.cell? ⟨b1,o1+k * 9+2,none⟩=some (vI kI jA)) (a3:wc.cell? ⟨b1,o1+k * 9+3,none⟩=some (vI kI qA)) (a4:wc.cell? ⟨b1,o1+k * 9+4,none⟩=some (vI kI yA)) (a5:wc.cell? ⟨b1,o1+k * 9+5,none⟩=some (vI kI zA)) (a6:wc.cell? ⟨b1,o1+k * 9+6,none⟩=some (vI kI fA)) (a7:wc.cell? ⟨b1,o1+k * 9+7,none⟩=some (vI kI nA)) (a8:wc.cell? ⟨b1,o1+k * 9+8,none⟩=some (vI kI rA)) (e0:wc.cell? ⟨b2,o2+k * 9,none⟩=some (vT s2)) (e1:wc.cell? ⟨b2,o2+k * 9+1,none⟩=some (vS D2 m2 d2)) (e2:wc.cell? ⟨b2,o2+k * 9+2,none⟩=some (vI kI mA)) (e3:wc.cell? ⟨b2,o2+k * 9+3,none⟩=some (vI kI lA)) (e4:wc.cell? ⟨b2,o2+k * 9+4,none⟩=some (vI kI oA)) (e5:wc.cell? ⟨b2,o2+k * 9+5,none⟩=some (vI kI pA)) (e6:wc.cell? ⟨b2,o2+k * 9+6,none⟩=some (vI kI vA)) (e7:wc.cell? ⟨b2,o2+k * 9+7,none⟩=some (vI kI sA)) (e8:wc.cell? ⟨b2,o2+k * 9+8,none⟩=some (vI kI tA))
 {K K2 K3 K4:Act→World→Prop}{post:Ending→World→Prop}
   (hK:∀ (lJ oJ pJ vJ sJ tJ uJ aJ bJ cJ:Value) (b6 b7:Nat) (wx:World),(Box wx b6 74 #[vT s1,vS D1 m1 d1,vI kI jA,vI kI qA,vI kI yA,vI kI zA,vI kI fA,vI kI nA,vI kI rA]∧Box wx b7 74 #[vT s2,vS D2 m2 d2,vI kI mA,vI kI lA,vI kI oA,vI kI pA,vI kI vA,vI kI sA,vI kI tA]∧Below wc.heap.size wc wx)→K ⟨#[u0,u1,vP (some ⟨q2,0,none⟩),vP (some ⟨q3,0,none⟩),u4,vI kI k,vP (some ⟨b6,0,none⟩),vP (some ⟨b7,0,none⟩),u8,u9,oI,uA,aA,bA,cA,dA,eA,hA,iA,kA,jB,qB,yB,zB,fB,gB,nB,rB,mB,lB,oB,pB,sB,tB,uB,aB,bB,dB,eB,hB,iB,kB,jC,qC,yC,zC,fC,gC,nC,rC,mC,lC,oC,pC,vC,sC,tC,uC,aC,bC,cC,dC,eC,hC,iC,kC,jD,qD,yD,zD,fD,gD,nD,rD,mD,lD,oD,pD,vD,sD,tD,uD,aD,bD,cD,dD,eD,hD,iD,kD,jE,qE,yE,zE,fE,gE,nE,rE,mE,lE,oE,pE,vE,sE,lJ,oJ,pJ,vJ,sJ,tJ,uJ,aJ,bJ,cJ,tE,uE,aE,bE,cE,dE,eE,hE,iE,kE,jF,qF,yF,zF,fF,gF,nF,rF,mF,lF,oF,pF,vF,sF,tF,uF,aF,bF,cF,dF,eF,hF,iF,kF,jG,qG,yG,zG,fG,gG,nG,rG,mG,lG,oG,vG,sG,tG,uG,aG,bG,cG,dG,eG,hG,iG,kG,jH,qH,yH,zH,fH,gH,nH,rH,mH,lH,oH,pH,iI,jJ,qJ,yJ,zJ,fJ,gJ,nJ,rJ,mJ,vH,sH,tH,uH,aH,bH,cH,dH,eH,iH,kH,jI,qI,yI,zI,fI,gI,nI,rI,mI,lI],[]⟩ wx) :
   Code.wp pG (seqL ((Tryz.f17.body.bind (findAt 8)).getD .skip)) (Exit.then K (Exit.inBlock 1 (Exit.then K2 (Exit.then K3 (Exit.inBlock 0 (Exit.then K4 (bodyPost pG Tryz.f17 post))))))) ⟨#[u0,u1,vP (some ⟨q2,0,none⟩),vP (some ⟨q3,0,none⟩),u4,vI kI k,u6,u7,u8,u9,oI,uA,aA,bA,cA,dA,eA,hA,iA,kA,jB,qB,yB,zB,fB,gB,nB,rB,mB,lB,oB,pB,sB,tB,uB,aB,bB,dB,eB,hB,iB,kB,jC,qC,yC,zC,fC,gC,nC,rC,mC,lC,oC,pC,vC,sC,tC,uC,aC,bC,cC,dC,eC,hC,iC,kC,jD,qD,yD,zD,fD,gD,nD,rD,mD,lD,oD,pD,vD,sD,tD,uD,aD,bD,cD,dD,eD,hD,iD,kD,jE,qE,yE,zE,fE,gE,nE,rE,mE,lE,oE,pE,vE,sE,pI,sI,tI,uI,aI,bI,cI,dI,eI,hI,tE,uE,aE,bE,cE,dE,eE,hE,iE,kE,jF,qF,yF,zF,fF,gF,nF,rF,mF,lF,oF,pF,vF,sF,tF,uF,aF,bF,cF,dF,eF,hF,iF,kF,jG,qG,yG,zG,fG,gG,nG,rG,mG,lG,oG,vG,sG,tG,uG,aG,bG,cG,dG,eG,hG,iG,kG,jH,qH,yH,zH,fH,gH,nH,rH,mH,lH,oH,pH,iI,jJ,qJ,yJ,zJ,fJ,gJ,nJ,rJ,mJ,vH,sH,tH,uH,aH,bH,cH,dH,eH,iH,kH,jI,qI,yI,zI,fI,gI,nI,rI,mI,lI],[]⟩ wc:=by
  have hki1:(k:Int) < (t1:Int):=by omega
  have hki2:(k:Int) < (t2:Int):=by omega
  have h1c:OneC #[vT s1,vS D1 m1 d1,vI kI jA,vI kI qA,vI kI yA,vI kI zA,vI kI fA,vI kI nA,vI kI rA]:=by intro v hv;simp only[List.mem_cons,List.not_mem_nil,or_false]at hv;rcases hv with rfl|rfl|rfl|rfl|rfl|rfl|rfl|rfl|rfl <;> rfl
  have h2c:OneC #[vT s2,vS D2 m2 d2,vI kI mA,vI kI lA,vI kI oA,vI kI pA,vI kI vA,vI kI sA,vI kI tA]:=by intro v hv;simp only[List.mem_cons,List.not_mem_nil,or_false]at hv;rcases hv with rfl|rfl|rfl|rfl|rfl|rfl|rfl|rfl|rfl <;> rfl
  conv=>pattern (seqL _);whnf
  dsimp only;refine wp_region_held_drew (S:=fun v=>Below wc.heap.size wc v) (by kernel_rfl) (below_drew (bR _ _) 1) (fun hH=>?_);refine wT 0 ?xv0 ?xy0 hH ?xr0;case xy0=>intro v hv;go_simp;rfl
  try simp only[aP,aS,aZ,aU]
  refine wT 1 ?xv1 ?xy1 hH ?xr1;case xy1=>intro v hv;have vc2:=(cB (hv.block _ hq2)).trans c2;have vc3:=(cB (hv.block _ hq3)).trans c3;have va0:=(cB (hv.block _ hb1)).trans a0;have va1:=(cB (hv.block _ hb1)).trans a1;have va2:=(cB (hv.block _ hb1)).trans a2;have va3:=(cB (hv.block _ hb1)).trans a3;have va4:=(cB (hv.block _ hb1)).trans a4;have va5:=(cB (hv.block _ hb1)).trans a5;have va6:=(cB (hv.block _ hb1)).trans a6;have va7:=(cB (hv.block _ hb1)).trans a7;have va8:=(cB (hv.block _ hb1)).trans a8;have ve0:=(cB (hv.block _ hb2)).trans e0;have ve1:=(cB (hv.block _ hb2)).trans e1;have ve2:=(cB (hv.block _ hb2)).trans e2;have ve3:=(cB (hv.block _ hb2)).trans e3;have ve4:=(cB (hv.block _ hb2)).trans e4;have ve5:=(cB (hv.block _ hb2)).trans e5;have ve6:=(cB (hv.block _ hb2)).trans e6;have ve7:=(cB (hv.block _ hb2)).trans e7;have ve8:=(cB (hv.block _ hb2)).trans e8;have vq2:=lL hq2 hv.size;have vq3:=lL hq3 hv.size;have vb1:=lL hb1 hv.size;have vb2:=lL hb2 hv.size;go_simp;rfl
  try simp only[aP,aS,aZ,aU]
  refine wT 2 ?xv2 ?xy2 hH ?xr2;case xy2=>intro v hv;go_simp;rfl
  try simp only[aP,aS,aZ,aU]
  refine wT 3 ?xv3 ?xy3 hH ?xr3;case xy3=>intro v hv;go_simp;rfl
  try simp only[aP,aS,aZ,aU]
  refine wT 4 ?xv4 ?xy4 hH ?xr4;case xy4=>intro v hv;have vc2:=(cB (hv.block _ hq2)).trans c2;have vc3:=(cB (hv.block _ hq3)).trans c3;have va0:=(cB (hv.block _ hb1)).trans a0;have va1:=(cB (hv.block _ hb1)).trans a1;have va2:=(cB (hv.block _ hb1)).trans a2;have va3:=(cB (hv.block _ hb1)).trans a3;have va4:=(cB (hv.block _ hb1)).trans a4;have va5:=(cB (hv.block _ hb1)).trans a5;have va6:=(cB (hv.block _ hb1)).trans a6;have va7:=(cB (hv.block _ hb1)).trans a7;have va8:=(cB (hv.block _ hb1)).trans a8;have ve0:=(cB (hv.block _ hb2)).trans e0;have ve1:=(cB (hv.block _ hb2)).trans e1;have ve2:=(cB (hv.block _ hb2)).trans e2;have ve3:=(cB (hv.block _ hb2)).trans e3;have ve4:=(cB (hv.block _ hb2)).trans e4;have ve5:=(cB (hv.block _ hb2)).trans e5;have ve6:=(cB (hv.block _ hb2)).trans e6;have ve7:=(cB (hv.block _ hb2)).trans e7;have ve8:=(cB (hv.block _ hb2)).trans e8;have vq2:=lL hq2 hv.size;have vq3:=lL hq3 hv.size;have vb1:=lL hb1 hv.size;have vb2:=lL hb2 hv.size;go_simp;rfl
  try simp only[aP,aS,aZ,aU]
  refine wT 5 ?xv5 ?xy5 hH ?xr5;case xy5=>intro v hv;go_simp;rfl
  try simp only[aP,aS,aZ,aU]
  refine wT 6 ?xv6 ?xy6 hH ?xr6;case xy6=>intro v hv;have vc2:=(cB (hv.block _ hq2)).trans c2;have vc3:=(cB (hv.block _ hq3)).trans c3;have va0:=(cB (hv.block _ hb1)).trans a0;have va1:=(cB (hv.block _ hb1)).trans a1;have va2:=(cB (hv.block _ hb1)).trans a2;have va3:=(cB (hv.block _ hb1)).trans a3;have va4:=(cB (hv.block _ hb1)).trans a4;have va5:=(cB (hv.block _ hb1)).trans a5;have va6:=(cB (hv.block _ hb1)).trans a6;have va7:=(cB (hv.block _ hb1)).trans a7;have va8:=(cB (hv.block _ hb1)).trans a8;have ve0:=(cB (hv.block _ hb2)).trans e0;have ve1:=(cB (hv.block _ hb2)).trans e1;have ve2:=(cB (hv.block _ hb2)).trans e2;have ve3:=(cB (hv.block _ hb2)).trans e3;have ve4:=(cB (hv.block _ hb2)).trans e4;have ve5:=(cB (hv.block _ hb2)).trans e5;have ve6:=(cB (hv.block _ hb2)).trans e6;have ve7:=(cB (hv.block _ hb2)).trans e7;have ve8:=(cB (hv.block _ hb2)).trans e8;have vq2:=lL hq2 hv.size;have vq3:=lL hq3 hv.size;have vb1:=lL hb1 hv.size;have vb2:=lL hb2 hv.size;go_simp;rfl
  try simp only[aP,aS,aZ,aU]
  refine wT 7 ?xv7 ?xy7 hH ?xr7;case xy7=>intro v hv;go_simp;rfl
  try simp only[aP,aS,aZ,aU]
  refine wT 8 ?xv8 ?xy8 hH ?xr8;case xy8=>intro v hv;go_simp;rfl
  try simp only[aP,aS,aZ,aU]
  refine wT 9 ?xv9 ?xy9 hH ?xr9;case xy9=>intro v hv;have vc2:=(cB (hv.block _ hq2)).trans c2;have vc3:=(cB (hv.block _ hq3)).trans c3;have va0:=(cB (hv.block _ hb1)).trans a0;have va1:=(cB (hv.block _ hb1)).trans a1;have va2:=(cB (hv.block _ hb1)).trans a2;have va3:=(cB (hv.block _ hb1)).trans a3;have va4:=(cB (hv.block _ hb1)).trans a4;have va5:=(cB (hv.block _ hb1)).trans a5;have va6:=(cB (hv.block _ hb1)).trans a6;have va7:=(cB (hv.block _ hb1)).trans a7;have va8:=(cB (hv.block _ hb1)).trans a8;have ve0:=(cB (hv.block _ hb2)).trans e0;have ve1:=(cB (hv.block _ hb2)).trans e1;have ve2:=(cB (hv.block _ hb2)).trans e2;have ve3:=(cB (hv.block _ hb2)).trans e3;have ve4:=(cB (hv.block _ hb2)).trans e4;have ve5:=(cB (hv.block _ hb2)).trans e5;have ve6:=(cB (hv.block _ hb2)).trans e6;have ve7:=(cB (hv.block _ hb2)).trans e7;have ve8:=(cB (hv.block _ hb2)).trans e8;have vq2:=lL hq2 hv.size;have vq3:=lL hq3 hv.size;have vb1:=lL hb1 hv.size;have vb2:=lL hb2 hv.size;go_simp;rfl
  try simp only[aP,aS,aZ,aU]
  refine wS [10,11] (wC (fun K hK=>?xb10) (wC (fun K hK=>?xb11) (wN)));case xb10=>
   go_simp;obtain⟨v1,hwv1⟩:∃ r,World.alloc (wc.drewN 1) (.cells #[vT ⟨#[]⟩,vS none 0 0,vI kI 0,vI kI 0,vI kI 0,vI kI 0,vI kI 0,vI kI 0,vI kI 0] 74)=r:=⟨_,rfl⟩;first|rw[hwv1]|(change K _ (World.alloc (wc.drewN 1) (.cells #[vT ⟨#[]⟩,vS none 0 0,vI kI 0,vI kI 0,vI kI 0,vI kI 0,vI kI 0,vI kI 0,vI kI 0] 74));rw[hwv1])|skip
   have hN:Below wc.heap.size wc v1:=by rw[← hwv1];exact(below_drew (bR _ _) 1).alloc (lR _) _
   have hbx1:Box v1 wc.heap.size 74 #[vT ⟨#[]⟩,vS none 0 0,vI kI 0,vI kI 0,vI kI 0,vI kI 0,vI kI 0,vI kI 0,vI kI 0]:=by rw[← hwv1];exact Box.new _ _ _
   have hsv1:v1.heap.size=wc.heap.size+1:=by rw[← hwv1];simp
   have HB1:=hide hN;refine hK.out _ _ hN fun hZ=>?_;clear hK hH hN K;have hH:=hZ;clear hZ;try simp only[aP,aS,aZ,aU]
   refine wR 11 fun K hK=>?_;go_simp;obtain⟨v2,hwv2⟩:∃ r,World.alloc v1 (.cells #[vT ⟨#[]⟩,vS none 0 0,vI kI 0,vI kI 0,vI kI 0,vI kI 0,vI kI 0,vI kI 0,vI kI 0] 74)=r:=⟨_,rfl⟩;first|rw[hwv2]|(change K _ (World.alloc v1 (.cells #[vT ⟨#[]⟩,vS none 0 0,vI kI 0,vI kI 0,vI kI 0,vI kI 0,vI kI 0,vI kI 0,vI kI 0] 74));rw[hwv2])|skip
   have hN:Below wc.heap.size wc v2:=by rw[← hwv2];exact HB1.out.alloc (by omega) _
   have hby1:Box v2 wc.heap.size 74 #[vT ⟨#[]⟩,vS none 0 0,vI kI 0,vI kI 0,vI kI 0,vI kI 0,vI kI 0,vI kI 0,vI kI 0]:=by rw[← hwv2];exact hbx1.alloc _
   have hby2:Box v2 (wc.heap.size+1) 74 #[vT ⟨#[]⟩,vS none 0 0,vI kI 0,vI kI 0,vI kI 0,vI kI 0,vI kI 0,vI kI 0,vI kI 0]:=by rw[← hwv2,← hsv1];exact Box.new _ _ _
   have HB2:=hide hN;refine hK.out _ _ hN fun hZ=>?_;clear hK hH hN K;have hH:=hZ;clear hZ;try simp only[aP,aS,aZ,aU]
   refine wR 12 fun K hK=>?_;obtain⟨v3,hs3,hx3,hg3⟩:=box_store (cs':=#[vT s1,vS D1 m1 d1,vI kI jA,vI kI qA,vI kI yA,vI kI zA,vI kI fA,vI kI nA,vI kI rA]) aggCon hby1 rfl rfl h1c;have hy3:Box v3 (wc.heap.size+1) 74 #[vT ⟨#[]⟩,vS none 0 0,vI kI 0,vI kI 0,vI kI 0,vI kI 0,vI kI 0,vI kI 0,vI kI 0]:=(hg3.block _ hby2.lt (fun q=>by injection q;omega)).trans hby2;have HB3:=hide (below_grow HB2.out hg3 (by omega));have HS3:=hide hs3;refine step_does rfl (does_store rfl rfl rfl HS3.out) ?_;have hN:=HB3.out;refine hK.out _ _ hN fun hZ=>?_;clear hK hH hN K;have hH:=hZ;clear hZ;try simp only[aP,aS,aZ,aU]
   refine wR 13 fun K hK=>?_;obtain⟨v4,hs4,hx4,hg4⟩:=box_store (cs':=#[vT s2,vS D2 m2 d2,vI kI mA,vI kI lA,vI kI oA,vI kI pA,vI kI vA,vI kI sA,vI kI tA]) aggCon hy3 rfl rfl h2c;have hy4:Box v4 (wc.heap.size) 74 #[vT s1,vS D1 m1 d1,vI kI jA,vI kI qA,vI kI yA,vI kI zA,vI kI fA,vI kI nA,vI kI rA]:=(hg4.block _ hx3.lt (fun q=>by injection q;omega)).trans hx3;have HB4:=hide (below_grow HB3.out hg4 (by omega));have HS4:=hide hs4;refine step_does rfl (does_store rfl rfl rfl HS4.out) ?_;have hN:=HB4.out;refine hK.out _ _ hN fun hZ=>?_;clear hK hH hN K;have hH:=hZ;clear hZ;try simp only[aP,aS,aZ,aU]
   refine wpAnyH_done (by kernel_rfl) ?_ _;go_wp2_with fail;exact⟨hy4,hx4,HB4.out⟩
  case xb11=>
   go_simp;obtain⟨v1,hwv1⟩:∃ r,World.alloc (wc.drewN 1) (.cells #[vT ⟨#[]⟩,vS none 0 0,vI kI 0,vI kI 0,vI kI 0,vI kI 0,vI kI 0,vI kI 0,vI kI 0] 74)=r:=⟨_,rfl⟩;first|rw[hwv1]|(change K _ (World.alloc (wc.drewN 1) (.cells #[vT ⟨#[]⟩,vS none 0 0,vI kI 0,vI kI 0,vI kI 0,vI kI 0,vI kI 0,vI kI 0,vI kI 0] 74));rw[hwv1])|skip
   have hN:Below wc.heap.size wc v1:=by rw[← hwv1];exact(below_drew (bR _ _) 1).alloc (lR _) _
   have hbx1:Box v1 wc.heap.size 74 #[vT ⟨#[]⟩,vS none 0 0,vI kI 0,vI kI 0,vI kI 0,vI kI 0,vI kI 0,vI kI 0,vI kI 0]:=by rw[← hwv1];exact Box.new _ _ _
   have hsv1:v1.heap.size=wc.heap.size+1:=by rw[← hwv1];simp
   have HB1:=hide hN;refine hK.out _ _ hN fun hZ=>?_;clear hK hH hN K;have hH:=hZ;clear hZ;try simp only[aP,aS,aZ,aU]
   refine wR 10 fun K hK=>?_;go_simp;obtain⟨v2,hwv2⟩:∃ r,World.alloc v1 (.cells #[vT ⟨#[]⟩,vS none 0 0,vI kI 0,vI kI 0,vI kI 0,vI kI 0,vI kI 0,vI kI 0,vI kI 0] 74)=r:=⟨_,rfl⟩;first|rw[hwv2]|(change K _ (World.alloc v1 (.cells #[vT ⟨#[]⟩,vS none 0 0,vI kI 0,vI kI 0,vI kI 0,vI kI 0,vI kI 0,vI kI 0,vI kI 0] 74));rw[hwv2])|skip
   have hN:Below wc.heap.size wc v2:=by rw[← hwv2];exact HB1.out.alloc (by omega) _
   have hby1:Box v2 wc.heap.size 74 #[vT ⟨#[]⟩,vS none 0 0,vI kI 0,vI kI 0,vI kI 0,vI kI 0,vI kI 0,vI kI 0,vI kI 0]:=by rw[← hwv2];exact hbx1.alloc _
   have hby2:Box v2 (wc.heap.size+1) 74 #[vT ⟨#[]⟩,vS none 0 0,vI kI 0,vI kI 0,vI kI 0,vI kI 0,vI kI 0,vI kI 0,vI kI 0]:=by rw[← hwv2,← hsv1];exact Box.new _ _ _
   have HB2:=hide hN;refine hK.out _ _ hN fun hZ=>?_;clear hK hH hN K;have hH:=hZ;clear hZ;try simp only[aP,aS,aZ,aU]
   refine wR 12 fun K hK=>?_;obtain⟨v3,hs3,hx3,hg3⟩:=box_store (cs':=#[vT s1,vS D1 m1 d1,vI kI jA,vI kI qA,vI kI yA,vI kI zA,vI kI fA,vI kI nA,vI kI rA]) aggCon hby2 rfl rfl h1c;have hy3:Box v3 (wc.heap.size) 74 #[vT ⟨#[]⟩,vS none 0 0,vI kI 0,vI kI 0,vI kI 0,vI kI 0,vI kI 0,vI kI 0,vI kI 0]:=(hg3.block _ hby1.lt (fun q=>by injection q;omega)).trans hby1;have HB3:=hide (below_grow HB2.out hg3 (by omega));have HS3:=hide hs3;refine step_does rfl (does_store rfl rfl rfl HS3.out) ?_;have hN:=HB3.out;refine hK.out _ _ hN fun hZ=>?_;clear hK hH hN K;have hH:=hZ;clear hZ;try simp only[aP,aS,aZ,aU]
   refine wR 13 fun K hK=>?_;obtain⟨v4,hs4,hx4,hg4⟩:=box_store (cs':=#[vT s2,vS D2 m2 d2,vI kI mA,vI kI lA,vI kI oA,vI kI pA,vI kI vA,vI kI sA,vI kI tA]) aggCon hy3 rfl rfl h2c;have hy4:Box v4 (wc.heap.size+1) 74 #[vT s1,vS D1 m1 d1,vI kI jA,vI kI qA,vI kI yA,vI kI zA,vI kI fA,vI kI nA,vI kI rA]:=(hg4.block _ hx3.lt (fun q=>by injection q;omega)).trans hx3;have HB4:=hide (below_grow HB3.out hg4 (by omega));have HS4:=hide hs4;refine step_does rfl (does_store rfl rfl rfl HS4.out) ?_;have hN:=HB4.out;refine hK.out _ _ hN fun hZ=>?_;clear hK hH hN K;have hH:=hZ;clear hZ;try simp only[aP,aS,aZ,aU]
   refine wpAnyH_done (by kernel_rfl) ?_ _;go_wp2_with fail;exact⟨hy4,hx4,HB4.out⟩
theorem eq14 {q2 q3 b1 o1 b2 o2 t1 t2 g1c u2 k:Nat}{D1 E1:Option Addr}{s1:ByteArray}{m1 d1 n1 f1:Nat}{D2 E2:Option Addr}{s2:ByteArray}{m2 d2 n2 f2:Nat}{wc:World}
   (hq2:q2 < wc.heap.size) (hq3:q3 < wc.heap.size) (hb1:b1 < wc.heap.size) (hb2:b2 < wc.heap.size) (hk1:k < t1) (hk2:k < t2) (c2:wc.cell? ⟨q2,6,none⟩=some (vS (some ⟨b1,o1,none⟩) t1 g1c)) (c3:wc.cell? ⟨q3,6,none⟩=some (vS (some ⟨b2,o2,none⟩) t2 u2)) (a0:wc.cell? ⟨b1,o1+k * 3,none⟩=some (vT s1)) (a1:wc.cell? ⟨b1,o1+k * 3+1,none⟩=some (vS D1 m1 d1)) (a2:wc.cell? ⟨b1,o1+k * 3+2,none⟩=some (vS E1 n1 f1)) (e0:wc.cell? ⟨b2,o2+k * 3,none⟩=some (vT s2)) (e1:wc.cell? ⟨b2,o2+k * 3+1,none⟩=some (vS D2 m2 d2)) (e2:wc.cell? ⟨b2,o2+k * 3+2,none⟩=some (vS E2 n2 f2))
 {K K2 K3 K4:Act→World→Prop}{post:Ending→World→Prop}
   (hK:∀ (dJ eJ hJ iJ kJ jK qK yK zK fK:Value) (b6 b7:Nat) (wx:World),(Box wx b6 76 #[vT s1,vS D1 m1 d1,vS E1 n1 f1]∧Box wx b7 76 #[vT s2,vS D2 m2 d2,vS E2 n2 f2]∧Below wc.heap.size wc wx)→K ⟨#[u0,u1,vP (some ⟨q2,0,none⟩),vP (some ⟨q3,0,none⟩),u4,u5,u6,u7,vI kI k,vP (some ⟨b6,0,none⟩),vP (some ⟨b7,0,none⟩),uA,aA,bA,cA,dA,eA,hA,iA,kA,jB,qB,yB,zB,fB,gB,nB,rB,mB,lB,oB,pB,sB,tB,uB,aB,bB,dB,eB,hB,iB,kB,jC,qC,yC,zC,fC,gC,nC,rC,mC,lC,oC,pC,vC,sC,tC,uC,aC,bC,cC,dC,eC,hC,iC,kC,jD,qD,yD,zD,fD,gD,nD,rD,mD,lD,oD,pD,vD,sD,tD,uD,aD,bD,cD,dD,eD,hD,iD,kD,jE,qE,yE,zE,fE,gE,nE,rE,mE,lE,oE,pE,vE,sE,pI,sI,tI,uI,aI,bI,cI,dI,eI,hI,tE,uE,aE,bE,cE,dE,eE,hE,iE,kE,jF,qF,yF,zF,fF,gF,nF,rF,mF,lF,oF,pF,vF,sF,tF,uF,aF,bF,cF,dF,eF,hF,iF,kF,jG,qG,yG,zG,fG,gG,nG,rG,mG,lG,oG,vG,sG,tG,uG,aG,bG,cG,dG,eG,hG,iG,kG,jH,qH,yH,zH,fH,gH,nH,rH,mH,lH,oH,pH,dJ,eJ,hJ,iJ,kJ,jK,qK,yK,zK,fK,vH,sH,tH,uH,aH,bH,cH,dH,eH,iH,kH,jI,qI,yI,zI,fI,gI,nI,rI,mI,lI],[]⟩ wx) :
   Code.wp pG (seqL ((Tryz.f17.body.bind (findAt 14)).getD .skip)) (Exit.then K (Exit.inBlock 3 (Exit.then K2 (Exit.then K3 (Exit.inBlock 2 (Exit.then K4 (bodyPost pG Tryz.f17 post))))))) ⟨#[u0,u1,vP (some ⟨q2,0,none⟩),vP (some ⟨q3,0,none⟩),u4,u5,u6,u7,vI kI k,u9,oI,uA,aA,bA,cA,dA,eA,hA,iA,kA,jB,qB,yB,zB,fB,gB,nB,rB,mB,lB,oB,pB,sB,tB,uB,aB,bB,dB,eB,hB,iB,kB,jC,qC,yC,zC,fC,gC,nC,rC,mC,lC,oC,pC,vC,sC,tC,uC,aC,bC,cC,dC,eC,hC,iC,kC,jD,qD,yD,zD,fD,gD,nD,rD,mD,lD,oD,pD,vD,sD,tD,uD,aD,bD,cD,dD,eD,hD,iD,kD,jE,qE,yE,zE,fE,gE,nE,rE,mE,lE,oE,pE,vE,sE,pI,sI,tI,uI,aI,bI,cI,dI,eI,hI,tE,uE,aE,bE,cE,dE,eE,hE,iE,kE,jF,qF,yF,zF,fF,gF,nF,rF,mF,lF,oF,pF,vF,sF,tF,uF,aF,bF,cF,dF,eF,hF,iF,kF,jG,qG,yG,zG,fG,gG,nG,rG,mG,lG,oG,vG,sG,tG,uG,aG,bG,cG,dG,eG,hG,iG,kG,jH,qH,yH,zH,fH,gH,nH,rH,mH,lH,oH,pH,iI,jJ,qJ,yJ,zJ,fJ,gJ,nJ,rJ,mJ,vH,sH,tH,uH,aH,bH,cH,dH,eH,iH,kH,jI,qI,yI,zI,fI,gI,nI,rI,mI,lI],[]⟩ wc:=by
  have hki1:(k:Int) < (t1:Int):=by omega
  have hki2:(k:Int) < (t2:Int):=by omega
  have h1c:OneC #[vT s1,vS D1 m1 d1,vS E1 n1 f1]:=by intro v hv;simp only[List.mem_cons,List.not_mem_nil,or_false]at hv;rcases hv with rfl|rfl|rfl <;> rfl
  have h2c:OneC #[vT s2,vS D2 m2 d2,vS E2 n2 f2]:=by intro v hv;simp only[List.mem_cons,List.not_mem_nil,or_false]at hv;rcases hv with rfl|rfl|rfl <;> rfl
  conv=>pattern (seqL _);whnf
  dsimp only;refine wp_region_held_drew (S:=fun v=>Below wc.heap.size wc v) (by kernel_rfl) (below_drew (bR _ _) 1) (fun hH=>?_);refine wT 0 ?xv0 ?xy0 hH ?xr0;case xy0=>intro v hv;go_simp;rfl
  try simp only[aP,aS,aZ,aU]
  refine wT 1 ?xv1 ?xy1 hH ?xr1;case xy1=>intro v hv;have vc2:=(cB (hv.block _ hq2)).trans c2;have vc3:=(cB (hv.block _ hq3)).trans c3;have va0:=(cB (hv.block _ hb1)).trans a0;have va1:=(cB (hv.block _ hb1)).trans a1;have va2:=(cB (hv.block _ hb1)).trans a2;have ve0:=(cB (hv.block _ hb2)).trans e0;have ve1:=(cB (hv.block _ hb2)).trans e1;have ve2:=(cB (hv.block _ hb2)).trans e2;have vq2:=lL hq2 hv.size;have vq3:=lL hq3 hv.size;have vb1:=lL hb1 hv.size;have vb2:=lL hb2 hv.size;go_simp;rfl
  try simp only[aP,aS,aZ,aU]
  refine wT 2 ?xv2 ?xy2 hH ?xr2;case xy2=>intro v hv;go_simp;rfl
  try simp only[aP,aS,aZ,aU]
  refine wT 3 ?xv3 ?xy3 hH ?xr3;case xy3=>intro v hv;go_simp;rfl
  try simp only[aP,aS,aZ,aU]
  refine wT 4 ?xv4 ?xy4 hH ?xr4;case xy4=>intro v hv;have vc2:=(cB (hv.block _ hq2)).trans c2;have vc3:=(cB (hv.block _ hq3)).trans c3;have va0:=(cB (hv.block _ hb1)).trans a0;have va1:=(cB (hv.block _ hb1)).trans a1;have va2:=(cB (hv.block _ hb1)).trans a2;have ve0:=(cB (hv.block _ hb2)).trans e0;have ve1:=(cB (hv.block _ hb2)).trans e1;have ve2:=(cB (hv.block _ hb2)).trans e2;have vq2:=lL hq2 hv.size;have vq3:=lL hq3 hv.size;have vb1:=lL hb1 hv.size;have vb2:=lL hb2 hv.size;go_simp;rfl
  try simp only[aP,aS,aZ,aU]
  refine wT 5 ?xv5 ?xy5 hH ?xr5;case xy5=>intro v hv;go_simp;rfl
  try simp only[aP,aS,aZ,aU]
  refine wT 6 ?xv6 ?xy6 hH ?xr6;case xy6=>intro v hv;have vc2:=(cB (hv.block _ hq2)).trans c2;have vc3:=(cB (hv.block _ hq3)).trans c3;have va0:=(cB (hv.block _ hb1)).trans a0;have va1:=(cB (hv.block _ hb1)).trans a1;have va2:=(cB (hv.block _ hb1)).trans a2;have ve0:=(cB (hv.block _ hb2)).trans e0;have ve1:=(cB (hv.block _ hb2)).trans e1;have ve2:=(cB (hv.block _ hb2)).trans e2;have vq2:=lL hq2 hv.size;have vq3:=lL hq3 hv.size;have vb1:=lL hb1 hv.size;have vb2:=lL hb2 hv.size;go_simp;rfl
  try simp only[aP,aS,aZ,aU]
  refine wT 7 ?xv7 ?xy7 hH ?xr7;case xy7=>intro v hv;go_simp;rfl
  try simp only[aP,aS,aZ,aU]
  refine wT 8 ?xv8 ?xy8 hH ?xr8;case xy8=>intro v hv;go_simp;rfl
  try simp only[aP,aS,aZ,aU]
  refine wT 9 ?xv9 ?xy9 hH ?xr9;case xy9=>intro v hv;have vc2:=(cB (hv.block _ hq2)).trans c2;have vc3:=(cB (hv.block _ hq3)).trans c3;have va0:=(cB (hv.block _ hb1)).trans a0;have va1:=(cB (hv.block _ hb1)).trans a1;have va2:=(cB (hv.block _ hb1)).trans a2;have ve0:=(cB (hv.block _ hb2)).trans e0;have ve1:=(cB (hv.block _ hb2)).trans e1;have ve2:=(cB (hv.block _ hb2)).trans e2;have vq2:=lL hq2 hv.size;have vq3:=lL hq3 hv.size;have vb1:=lL hb1 hv.size;have vb2:=lL hb2 hv.size;go_simp;rfl
  try simp only[aP,aS,aZ,aU]
  refine wS [10,11] (wC (fun K hK=>?xb10) (wC (fun K hK=>?xb11) (wN)));case xb10=>
   go_simp;obtain⟨v1,hwv1⟩:∃ r,World.alloc (wc.drewN 1) (.cells #[vT ⟨#[]⟩,vS none 0 0,vS none 0 0] 76)=r:=⟨_,rfl⟩;first|rw[hwv1]|(change K _ (World.alloc (wc.drewN 1) (.cells #[vT ⟨#[]⟩,vS none 0 0,vS none 0 0] 76));rw[hwv1])|skip
   have hN:Below wc.heap.size wc v1:=by rw[← hwv1];exact(below_drew (bR _ _) 1).alloc (lR _) _
   have hbx1:Box v1 wc.heap.size 76 #[vT ⟨#[]⟩,vS none 0 0,vS none 0 0]:=by rw[← hwv1];exact Box.new _ _ _
   have hsv1:v1.heap.size=wc.heap.size+1:=by rw[← hwv1];simp
   have HB1:=hide hN;refine hK.out _ _ hN fun hZ=>?_;clear hK hH hN K;have hH:=hZ;clear hZ;try simp only[aP,aS,aZ,aU]
   refine wR 11 fun K hK=>?_;go_simp;obtain⟨v2,hwv2⟩:∃ r,World.alloc v1 (.cells #[vT ⟨#[]⟩,vS none 0 0,vS none 0 0] 76)=r:=⟨_,rfl⟩;first|rw[hwv2]|(change K _ (World.alloc v1 (.cells #[vT ⟨#[]⟩,vS none 0 0,vS none 0 0] 76));rw[hwv2])|skip
   have hN:Below wc.heap.size wc v2:=by rw[← hwv2];exact HB1.out.alloc (by omega) _
   have hby1:Box v2 wc.heap.size 76 #[vT ⟨#[]⟩,vS none 0 0,vS none 0 0]:=by rw[← hwv2];exact hbx1.alloc _
   have hby2:Box v2 (wc.heap.size+1) 76 #[vT ⟨#[]⟩,vS none 0 0,vS none 0 0]:=by rw[← hwv2,← hsv1];exact Box.new _ _ _
   have HB2:=hide hN;refine hK.out _ _ hN fun hZ=>?_;clear hK hH hN K;have hH:=hZ;clear hZ;try simp only[aP,aS,aZ,aU]
   refine wR 12 fun K hK=>?_;obtain⟨v3,hs3,hx3,hg3⟩:=box_store (cs':=#[vT s1,vS D1 m1 d1,vS E1 n1 f1]) aggSty hby1 rfl rfl h1c;have hy3:Box v3 (wc.heap.size+1) 76 #[vT ⟨#[]⟩,vS none 0 0,vS none 0 0]:=(hg3.block _ hby2.lt (fun q=>by injection q;omega)).trans hby2;have HB3:=hide (below_grow HB2.out hg3 (by omega));have HS3:=hide hs3;refine step_does rfl (does_store rfl rfl rfl HS3.out) ?_;have hN:=HB3.out;refine hK.out _ _ hN fun hZ=>?_;clear hK hH hN K;have hH:=hZ;clear hZ;try simp only[aP,aS,aZ,aU]
   refine wR 13 fun K hK=>?_;obtain⟨v4,hs4,hx4,hg4⟩:=box_store (cs':=#[vT s2,vS D2 m2 d2,vS E2 n2 f2]) aggSty hy3 rfl rfl h2c;have hy4:Box v4 (wc.heap.size) 76 #[vT s1,vS D1 m1 d1,vS E1 n1 f1]:=(hg4.block _ hx3.lt (fun q=>by injection q;omega)).trans hx3;have HB4:=hide (below_grow HB3.out hg4 (by omega));have HS4:=hide hs4;refine step_does rfl (does_store rfl rfl rfl HS4.out) ?_;have hN:=HB4.out;refine hK.out _ _ hN fun hZ=>?_;clear hK hH hN K;have hH:=hZ;clear hZ;try simp only[aP,aS,aZ,aU]
   refine wpAnyH_done (by kernel_rfl) ?_ _;go_wp2_with fail;exact⟨hy4,hx4,HB4.out⟩
  case xb11=>
   go_simp;obtain⟨v1,hwv1⟩:∃ r,World.alloc (wc.drewN 1) (.cells #[vT ⟨#[]⟩,vS none 0 0,vS none 0 0] 76)=r:=⟨_,rfl⟩;first|rw[hwv1]|(change K _ (World.alloc (wc.drewN 1) (.cells #[vT ⟨#[]⟩,vS none 0 0,vS none 0 0] 76));rw[hwv1])|skip
   have hN:Below wc.heap.size wc v1:=by rw[← hwv1];exact(below_drew (bR _ _) 1).alloc (lR _) _
   have hbx1:Box v1 wc.heap.size 76 #[vT ⟨#[]⟩,vS none 0 0,vS none 0 0]:=by rw[← hwv1];exact Box.new _ _ _
   have hsv1:v1.heap.size=wc.heap.size+1:=by rw[← hwv1];simp
   have HB1:=hide hN;refine hK.out _ _ hN fun hZ=>?_;clear hK hH hN K;have hH:=hZ;clear hZ;try simp only[aP,aS,aZ,aU]
   refine wR 10 fun K hK=>?_;go_simp;obtain⟨v2,hwv2⟩:∃ r,World.alloc v1 (.cells #[vT ⟨#[]⟩,vS none 0 0,vS none 0 0] 76)=r:=⟨_,rfl⟩;first|rw[hwv2]|(change K _ (World.alloc v1 (.cells #[vT ⟨#[]⟩,vS none 0 0,vS none 0 0] 76));rw[hwv2])|skip
   have hN:Below wc.heap.size wc v2:=by rw[← hwv2];exact HB1.out.alloc (by omega) _
   have hby1:Box v2 wc.heap.size 76 #[vT ⟨#[]⟩,vS none 0 0,vS none 0 0]:=by rw[← hwv2];exact hbx1.alloc _
   have hby2:Box v2 (wc.heap.size+1) 76 #[vT ⟨#[]⟩,vS none 0 0,vS none 0 0]:=by rw[← hwv2,← hsv1];exact Box.new _ _ _
   have HB2:=hide hN;refine hK.out _ _ hN fun hZ=>?_;clear hK hH hN K;have hH:=hZ;clear hZ;try simp only[aP,aS,aZ,aU]
   refine wR 12 fun K hK=>?_;obtain⟨v3,hs3,hx3,hg3⟩:=box_store (cs':=#[vT s1,vS D1 m1 d1,vS E1 n1 f1]) aggSty hby2 rfl rfl h1c;have hy3:Box v3 (wc.heap.size) 76 #[vT ⟨#[]⟩,vS none 0 0,vS none 0 0]:=(hg3.block _ hby1.lt (fun q=>by injection q;omega)).trans hby1;have HB3:=hide (below_grow HB2.out hg3 (by omega));have HS3:=hide hs3;refine step_does rfl (does_store rfl rfl rfl HS3.out) ?_;have hN:=HB3.out;refine hK.out _ _ hN fun hZ=>?_;clear hK hH hN K;have hH:=hZ;clear hZ;try simp only[aP,aS,aZ,aU]
   refine wR 13 fun K hK=>?_;obtain⟨v4,hs4,hx4,hg4⟩:=box_store (cs':=#[vT s2,vS D2 m2 d2,vS E2 n2 f2]) aggSty hy3 rfl rfl h2c;have hy4:Box v4 (wc.heap.size+1) 76 #[vT s1,vS D1 m1 d1,vS E1 n1 f1]:=(hg4.block _ hx3.lt (fun q=>by injection q;omega)).trans hx3;have HB4:=hide (below_grow HB3.out hg4 (by omega));have HS4:=hide hs4;refine step_does rfl (does_store rfl rfl rfl HS4.out) ?_;have hN:=HB4.out;refine hK.out _ _ hN fun hZ=>?_;clear hK hH hN K;have hH:=hZ;clear hZ;try simp only[aP,aS,aZ,aU]
   refine wpAnyH_done (by kernel_rfl) ?_ _;go_wp2_with fail;exact⟨hy4,hx4,HB4.out⟩
end
section
variable {u0 u1 u6 u7 u8 u9 qB yB zB fB gB nB rB mB lB oB pB sB tB uB aB bB dB eB hB iB kB jC qC yC zC fC gC nC rC mC lC oC pC vC sC tC uC aC bC cC dC eC hC iC kC jD qD yD zD fD gD nD rD mD lD oD pD vD sD tD uD aD bD cD dD eD hD iD kD jE qE yE zE fE gE nE rE mE lE oE pE vE sE tE uE aE bE cE dE eE hE iE kE jF qF yF zF fF gF nF rF mF lF oF pF vF sF tF uF aF bF cF dF eF hF iF kF jG qG yG zG fG gG nG rG mG lG oG vG sG tG uG aG bG cG dG eG hG iG kG jH qH yH zH fH gH nH rH mH lH oH pH vH sH tH uH aH bH cH dH eH hH iH kH jI qI yI zI fI gI nI rI mI lI oI pI sI tI uI aI bI cI dI eI hI iI jJ qJ yJ zJ fJ gJ nJ rJ mJ lJ oJ pJ vJ sJ tJ uJ aJ bJ:Value}
set_option maxHeartbeats 16000000
set_option maxRecDepth 1000000
theorem eq0 {q2 q3:Nat}{e1 e2:EV}{P1 C1 P2 C2:List ByteArray}{wc:World}
   (h:EqW q2 q3 e1 e2 P1 C1 P2 C2 wc) (hl:C1.length=C2.length)
 {K:Act→World→Prop}{post:Ending→World→Prop}
   (hP:∀ w',Below wc.heap.size wc w'→post (.returned (vB false)) w')
   (hK:∀ (x0 x1 x5 x6 x7 x8 x9 cJ dJ jA qA yA zA fA nA rA eJ hJ iJ mA lA oA pA vA sA tA kJ jK qK yK zK fK gK nK rK mK lK oK pK vK sK tK uK aK bK cK dK eK iK kK jL qL yL fL gL nL rL mL oL pL vL sL tL uL aL bL cL dL eL hL iL kL jM qM yM zM fM gM nM rM mM lM oM pM vM sM tM uM aM bM cM dM eM hM iM kM jN qN yN zN fN uA aA bA cA dA eA hA iA kA jB gN nN rN mN lN oN pN vN sN tN uN aN cN dN eN hN iN kN jO qO yO zO fO gO nO rO mO lO oO pO vO sO tO uO aO bO cO dO eO hO iO kO jP qP yP zP fP gP nP rP mP lP oP pP sP tP uP bP cP dP eP iP kP jQ qQ yQ zQ fQ gQ nQ rQ mQ lQ oQ pQ vQ sQ tQ uQ aQ bQ cQ dQ eQ hQ iQ kQ jR qR yR zR fR gR nR rR mR oR pR vR sR:Value)  (wx:World),(C1=C2∧Hid (EqW q2 q3 e1 e2 P1 C1 P2 C2 wx)∧Hid (Below wc.heap.size wc wx))→K ⟨#[x0,x1,vP (some ⟨q2,0,none⟩),vP (some ⟨q3,0,none⟩),vB false,x5,x6,x7,x8,x9,cJ,dJ,jA,qA,yA,zA,fA,nA,rA,eJ,hJ,iJ,mA,lA,oA,pA,vA,sA,tA,kJ,jK,qK,yK,zK,fK,gK,nK,rK,mK,lK,oK,pK,vK,sK,tK,uK,aK,bK,cK,dK,eK,iK,kK,jL,qL,yL,fL,gL,nL,rL,mL,oL,pL,vL,sL,tL,uL,aL,bL,cL,dL,eL,hL,iL,kL,jM,qM,yM,zM,fM,gM,nM,rM,mM,lM,oM,pM,vM,sM,tM,uM,aM,bM,cM,dM,eM,hM,iM,kM,jN,qN,yN,zN,fN,uA,aA,bA,cA,dA,eA,hA,iA,kA,jB,gN,nN,rN,mN,lN,oN,pN,vN,sN,tN,uN,aN,cN,dN,eN,hN,iN,kN,jO,qO,yO,zO,fO,gO,nO,rO,mO,lO,oO,pO,vO,sO,tO,uO,aO,bO,cO,dO,eO,hO,iO,kO,jP,qP,yP,zP,fP,gP,nP,rP,mP,lP,oP,pP,sP,tP,uP,bP,cP,dP,eP,iP,kP,jQ,qQ,yQ,zQ,fQ,gQ,nQ,rQ,mQ,lQ,oQ,pQ,vQ,sQ,tQ,uQ,aQ,bQ,cQ,dQ,eQ,hQ,iQ,kQ,jR,qR,yR,zR,fR,gR,nR,rR,mR,oR,pR,vR,sR],[]⟩ wx) :
   Code.wp pG ((Tryz.f17.body.bind (findBlk 0)).getD .skip) (Exit.then K (bodyPost pG Tryz.f17 post)) ⟨#[u0,u1,vP (some ⟨q2,0,none⟩),vP (some ⟨q3,0,none⟩),vB false,vI kI 0,u6,u7,u8,u9,qB,yB,zB,fB,gB,nB,rB,mB,lB,oB,pB,sB,tB,uB,aB,bB,dB,eB,hB,iB,kB,jC,qC,yC,zC,fC,gC,nC,rC,mC,lC,oC,pC,vC,sC,tC,uC,aC,bC,cC,dC,eC,hC,iC,kC,jD,qD,yD,zD,fD,gD,nD,rD,mD,lD,oD,pD,vD,sD,tD,uD,aD,bD,cD,dD,eD,hD,iD,kD,jE,qE,yE,zE,fE,gE,nE,rE,mE,lE,oE,pE,vE,sE,tE,uE,aE,bE,cE,dE,eE,hE,iE,kE,jF,qF,yF,zF,fF,gF,nF,rF,mF,lF,oF,pF,vF,sF,tF,uF,aF,bF,cF,dF,eF,hF,iF,kF,jG,qG,yG,zG,fG,gG,nG,rG,mG,lG,oG,vG,sG,tG,uG,aG,bG,cG,dG,eG,hG,iG,kG,jH,qH,yH,zH,fH,gH,nH,rH,mH,lH,oH,pH,vH,sH,tH,uH,aH,bH,cH,dH,eH,hH,iH,kH,jI,qI,yI,zI,fI,gI,nI,rI,mI,lI,oI,pI,sI,tI,uI,aI,bI,cI,dI,eI,hI,iI,jJ,qJ,yJ,zJ,fJ,gJ,nJ,rJ,mJ,lJ,oJ,pJ,vJ,sJ,tJ,uJ,aJ,bJ],[]⟩ wc:=by
  have H:=hide h;have hc1:=h.f1.hc;have HPP:=hide hP;clear h hP;conv=>arg 2;whnf
  dsimp only;go_wp2_with fail;go_loopw [4,5] (fun r4 i wr=>r4=vB false∧∃ k:Nat,k≤C1.length∧i=vI kI k∧Hid (∀ j,j < k→C1.getD j default=C2.getD j default)∧Hid (EqW q2 q3 e1 e2 P1 C1 P2 C2 wr)∧Hid (Below wc.heap.size wc wr)) (fun _ i _=>C1.length - (iOf i).toNat);case atStart=>exact⟨rfl,0,zL _,rfl,fun j hj=>by omega,H.out,bR _ _⟩
  case round=>
   obtain⟨rfl,k,hk,rfl,HE,HW,HB⟩:=hrel;obtain⟨c2,c3,c4,c5,hq2,hq3⟩:=HW.out.cells;by_cases hlt:k < C1.length
   ·have hki:(k:Int) < (C1.length:Int):=by omega
    have hlt2:k < C2.length:=by omega
    obtain⟨b1,o1,D1,l1,d1,jA,qA,yA,zA,fA,nA,rA,hA1,hb1,hs1,hm1,a0,a1,a2,a3,a4,a5,a6,a7,a8⟩:=HW.out.f1.con k hlt;obtain⟨b2,o2,D2,l2,d2,mA,lA,oA,pA,vA,sA,tA,hA2,hb2,hs2,hm2,e0,e1,e2,e3,e4,e5,e6,e7,e8⟩:=HW.out.f2.con k hlt2;rw[hA1]at c2;rw[hA2]at c3;obtain⟨n1,hn1⟩:∃ s,C1.getD k default=s:=⟨_,rfl⟩;obtain⟨n2,hn2⟩:∃ s,C2.getD k default=s:=⟨_,rfl⟩;rw[hn1]at a0;rw[hn2]at e0;go_upto_region 8 with fail;refine eq8 hq2 hq3 hb1 hb2 hlt hlt2 c2 c3 a0 a1 a2 a3 a4 a5 a6 a7 a8 e0 e1 e2 e3 e4 e5 e6 e7 e8 ?_;intro uA aA bA cA dA eA hA iA kA jB b6 b7 wx ⟨X6,X7,hbx⟩;try dsimp only
    clear a0 a1 a2 a3 a4 a5 a6 a7 a8 e0 e1 e2 e3 e4 e5 e6 e7 e8;obtain⟨qb,hqb⟩:∃ q,decide (l1=l2)=q:=⟨_,rfl⟩;have HS:Hid (Calls pG 47 #[vS D1 l1.length d1,vS D2 l2.length d2] wx fun e w'=>e=.returned (.bool qb)∧Drew wx w'):=by have:=eqStrs_any (c:=d1) (d:=d2) (ListIn.below hs1 hbx) (ListIn.below hs2 hbx) (by omega) (by omega);rw[hqb]at this;exact this
    have HW2:=hide (HW.out.below hbx);have HB2:=hide (below_then HB.out hbx);have X6:=hide X6;have X7:=hide X7;have p0:=X6.out.cell 0;have p1:=X6.out.cell 1;have p2:=X6.out.cell 2;have p3:=X6.out.cell 3;have p4:=X6.out.cell 4;have p5:=X6.out.cell 5;have p6:=X6.out.cell 6;have p7:=X6.out.cell 7;have p8:=X6.out.cell 8;simp at p0 p1 p2 p3 p4 p5 p6 p7 p8;have r0:=X7.out.cell 0;have r1:=X7.out.cell 1;have r2:=X7.out.cell 2;have r3:=X7.out.cell 3;have r4:=X7.out.cell 4;have r5:=X7.out.cell 5;have r6:=X7.out.cell 6;have r7:=X7.out.cell 7;have r8:=X7.out.cell 8;simp at r0 r1 r2 r3 r4 r5 r6 r7 r8;have hlx6:=X6.out.lt;have hlx7:=X7.out.lt;clear hbx c2 c3 c4 c5 hq2 hq3;go_upto_region 9 with fail;go_cut [175] (fun r wy=>(∃ q:Bool,r=.bool q∧(q=false→n1=n2))∧Hid (Below wx.heap.size wx wy));case first=>
     go_wp2_with fail;all_goals first
      |(go_meet;exact⟨⟨_,rfl,fun h=>by cases h⟩,bR _ _⟩)
      |(
        refine HS.out.mono ?_
        rintro en w5 ⟨rfl,hd5⟩
        try dsimp only
        have hb5:=hd5.below
        have HB5:=hide hb5
        have Y6:=X6.out.kept hb5
        have Y7:=X7.out.kept hb5
        clear p0 r0 p1 r1 p2 r2 p3 r3 p4 r4 p5 r5 p6 r6 p7 r7 p8 r8 hlx6 hlx7
        have p0:=Y6.cell 0
        have p1:=Y6.cell 1
        have p2:=Y6.cell 2
        have p3:=Y6.cell 3
        have p4:=Y6.cell 4
        have p5:=Y6.cell 5
        have p6:=Y6.cell 6
        have p7:=Y6.cell 7
        have p8:=Y6.cell 8
        simp at p0 p1 p2 p3 p4 p5 p6 p7 p8
        have r0:=Y7.cell 0
        have r1:=Y7.cell 1
        have r2:=Y7.cell 2
        have r3:=Y7.cell 3
        have r4:=Y7.cell 4
        have r5:=Y7.cell 5
        have r6:=Y7.cell 6
        have r7:=Y7.cell 7
        have r8:=Y7.cell 8
        simp at r0 r1 r2 r3 r4 r5 r6 r7 r8
        have hlx6:=Y6.lt
        have hlx7:=Y7.lt
        clear Y6 Y7 hd5 hb5
        cases qb with
        |false=>go_wp2_with fail;go_meet;exact⟨⟨_,rfl,fun h=>by cases h⟩,HB5.out⟩
        |true=>
         go_wp2_with fail;all_goals
          go_meet
          exact⟨⟨_,rfl,fun _=>bytes_eq (by assumption)⟩,HB5.out⟩)
    case rest=>
     obtain⟨⟨q,rfl,hq⟩,HBy⟩:=hcut;have HW3:=hide (HW2.out.below HBy.out);have HB3:=hide (below_then HB2.out HBy.out);clear p0 r0 p1 r1 p2 r2 p3 r3 p4 r4 p5 r5 p6 r6 p7 r7 p8 r8 hlx6 hlx7;cases q with
     |true=>
      go_wp2_with fail;first|go_end0|go_ret|skip
      exact HPP.out _ HB3.out
     |false=>
      go_wp2_with fail;go_roundw;case rel=>exact⟨rfl,k+1,by omega,by go_num,(fun j hj=>by
       by_cases hjk:j=k
       ·rw[hjk,hn1,hn2];exact hq rfl
       ·exact HE.out j (by omega)),HW3.out,HB3.out⟩
      case measure=>simp[iOf];omega
   ·obtain rfl:k=C1.length:=by omega
    go_wp2_with fail;exact⟨list_eq hl HE.out,HW,HB⟩
end
section
variable {u0 u1 u5 u6 u7 u9 pA vA sA tA uA aA bA cA dA eA hA iA kA jB qB yB zB fB gB nB rB mB lB oB pB sB tB uB aB bB dB eB hB iB kB jC qC yC zC fC gC nC rC mC lC oC pC vC sC tC uC aC bC cC dC eC hC iC kC jD qD yD zD fD gD nD rD mD lD oD pD vD sD tD uD aD bD cD dD eD hD iD kD jE qE yE zE fE gE nE rE mE lE oE pE vE sE tE uE aE bE cE dE eE hE iE kE jF qF yF zF fF gF nF rF mF lF oF pF vF sF tF uF aF bF cF dF eF hF iF kF jG qG yG zG fG gG nG rG mG lG oG vG sG tG uG aG bG cG dG eG hG iG kG jH qH yH zH fH gH nH rH mH lH oH pH vH sH tH uH aH bH cH dH eH hH iH kH jI qI yI zI fI gI nI rI mI lI oI pI sI tI uI aI bI cI dI eI hI iI jJ qJ yJ zJ:Value}
set_option maxHeartbeats 16000000
set_option maxRecDepth 1000000
theorem eq2 {q2 q3:Nat}{e1 e2:EV}{P1 C1 P2 C2:List ByteArray}{wc:World}
   (h:EqW q2 q3 e1 e2 P1 C1 P2 C2 wc) (hl:e1.sn=e2.sn)
 {K:Act→World→Prop}{post:Ending→World→Prop}
   (hP:∀ w',Below wc.heap.size wc w'→post (.returned (vB false)) w')
   (hK:∀ (x0 x1 x5 x6 x7 x8 x9 fJ gJ nJ rJ mJ lJ oJ pJ vJ sJ tJ uJ aJ bJ cJ dJ eJ hJ iJ kJ jK qK yK zK fK gK nK rK mK lK oK pK vK sK tK uK aK bK cK dK eK iK kK jL qL yL fL gL nL rL mL oL pL vL sL tL uL aL bL cL dL eL hL iL kL jM qM yM zM fM gM nM rM mM lM oM pM vM sM tM uM aM bM cM dM eM hM iM kM jN qN yN zN fN gN nN rN mN lN oN pN vN sN tN uN aN cN dN eN hN iN kN jO qO yO zO fO gO nO rO mO lO oO pO vO sO tO uO aO bO cO dO eO hO iO kO jP qP yP zP fP gP nP rP mP lP oP pP sP tP uP bP cP dP eP iP kP jQ qQ yQ zQ fQ gQ nQ rQ mQ lQ oQ pQ vQ sQ tQ uQ jA qA yA zA fA nA rA mA lA oA aQ bQ cQ dQ eQ hQ iQ kQ jR qR yR zR fR gR nR rR mR oR pR vR sR:Value)  (wx:World),(Hid (EqW q2 q3 e1 e2 P1 C1 P2 C2 wx)∧Hid (Below wc.heap.size wc wx))→K ⟨#[x0,x1,vP (some ⟨q2,0,none⟩),vP (some ⟨q3,0,none⟩),vB false,x5,x6,x7,x8,x9,fJ,gJ,nJ,rJ,mJ,lJ,oJ,pJ,vJ,sJ,tJ,uJ,aJ,bJ,cJ,dJ,eJ,hJ,iJ,kJ,jK,qK,yK,zK,fK,gK,nK,rK,mK,lK,oK,pK,vK,sK,tK,uK,aK,bK,cK,dK,eK,iK,kK,jL,qL,yL,fL,gL,nL,rL,mL,oL,pL,vL,sL,tL,uL,aL,bL,cL,dL,eL,hL,iL,kL,jM,qM,yM,zM,fM,gM,nM,rM,mM,lM,oM,pM,vM,sM,tM,uM,aM,bM,cM,dM,eM,hM,iM,kM,jN,qN,yN,zN,fN,gN,nN,rN,mN,lN,oN,pN,vN,sN,tN,uN,aN,cN,dN,eN,hN,iN,kN,jO,qO,yO,zO,fO,gO,nO,rO,mO,lO,oO,pO,vO,sO,tO,uO,aO,bO,cO,dO,eO,hO,iO,kO,jP,qP,yP,zP,fP,gP,nP,rP,mP,lP,oP,pP,sP,tP,uP,bP,cP,dP,eP,iP,kP,jQ,qQ,yQ,zQ,fQ,gQ,nQ,rQ,mQ,lQ,oQ,pQ,vQ,sQ,tQ,uQ,jA,qA,yA,zA,fA,nA,rA,mA,lA,oA,aQ,bQ,cQ,dQ,eQ,hQ,iQ,kQ,jR,qR,yR,zR,fR,gR,nR,rR,mR,oR,pR,vR,sR],[]⟩ wx) :
   Code.wp pG ((Tryz.f17.body.bind (findBlk 2)).getD .skip) (Exit.then K (bodyPost pG Tryz.f17 post)) ⟨#[u0,u1,vP (some ⟨q2,0,none⟩),vP (some ⟨q3,0,none⟩),vB false,u5,u6,u7,vI kI 0,u9,pA,vA,sA,tA,uA,aA,bA,cA,dA,eA,hA,iA,kA,jB,qB,yB,zB,fB,gB,nB,rB,mB,lB,oB,pB,sB,tB,uB,aB,bB,dB,eB,hB,iB,kB,jC,qC,yC,zC,fC,gC,nC,rC,mC,lC,oC,pC,vC,sC,tC,uC,aC,bC,cC,dC,eC,hC,iC,kC,jD,qD,yD,zD,fD,gD,nD,rD,mD,lD,oD,pD,vD,sD,tD,uD,aD,bD,cD,dD,eD,hD,iD,kD,jE,qE,yE,zE,fE,gE,nE,rE,mE,lE,oE,pE,vE,sE,tE,uE,aE,bE,cE,dE,eE,hE,iE,kE,jF,qF,yF,zF,fF,gF,nF,rF,mF,lF,oF,pF,vF,sF,tF,uF,aF,bF,cF,dF,eF,hF,iF,kF,jG,qG,yG,zG,fG,gG,nG,rG,mG,lG,oG,vG,sG,tG,uG,aG,bG,cG,dG,eG,hG,iG,kG,jH,qH,yH,zH,fH,gH,nH,rH,mH,lH,oH,pH,vH,sH,tH,uH,aH,bH,cH,dH,eH,hH,iH,kH,jI,qI,yI,zI,fI,gI,nI,rI,mI,lI,oI,pI,sI,tI,uI,aI,bI,cI,dI,eI,hI,iI,jJ,qJ,yJ,zJ],[]⟩ wc:=by
  have H:=hide h;have hc1:=h.f1.hs;have HPP:=hide hP;clear h hP;conv=>arg 2;whnf
  dsimp only;go_wp2_with fail;go_loopw [4,8] (fun r4 i wr=>r4=vB false∧∃ k:Nat,k≤e1.sn∧i=vI kI k∧Hid (EqW q2 q3 e1 e2 P1 C1 P2 C2 wr)∧Hid (Below wc.heap.size wc wr)) (fun _ i _=>e1.sn - (iOf i).toNat);case atStart=>exact⟨rfl,0,zL _,rfl,H.out,bR _ _⟩
  case round=>
   obtain⟨rfl,k,hk,rfl,HW,HB⟩:=hrel;obtain⟨c2,c3,c4,c5,hq2,hq3⟩:=HW.out.cells;by_cases hlt:k < e1.sn
   ·have hki:(k:Int) < (e1.sn:Int):=by omega
    have hlt2:k < e2.sn:=by omega
    obtain⟨b1,o1,s1,D1,E1,l1,m1,d1,f1,hA1,hb1,hs1,hz1,ht1,hy1,a0,a1,a2⟩:=HW.out.f1.sty k hlt;obtain⟨b2,o2,s2,D2,E2,l2,m2,d2,f2,hA2,hb2,hs2,hz2,ht2,hy2,e0,e1',e2'⟩:=HW.out.f2.sty k hlt2;rw[hA1]at c4;rw[hA2]at c5;go_upto_region 14 with fail;refine eq14 hq2 hq3 hb1 hb2 hlt hlt2 c4 c5 a0 a1 a2 e0 e1' e2' ?_;intro jA qA yA zA fA nA rA mA lA oA b6 b7 wx ⟨X6,X7,hbx⟩;try dsimp only
    clear a0 a1 a2 e0 e1' e2';obtain⟨qb,hqb⟩:∃ q,decide (l1=l2)=q:=⟨_,rfl⟩;obtain⟨qc,hqc⟩:∃ q,decide (m1=m2)=q:=⟨_,rfl⟩;have HS:Hid (Calls pG 28 #[vS D1 l1.length d1,vS D2 l2.length d2] wx fun e w'=>e=.returned (.bool qb)∧Drew wx w'):=by have:=eqInts_any (c:=d1) (d:=d2) (ListIn.below hs1 hbx) (ListIn.below hs2 hbx) (by omega) (by omega);rw[hqb]at this;exact this
    have HS2:Hid (∀ wq,Below wx.heap.size wx wq→Calls pG 28 #[vS E1 m1.length f1,vS E2 m2.length f2] wq fun e w'=>e=.returned (.bool qc)∧Drew wq w'):=fun wq hbq=>by have:=eqInts_any (c:=f1) (d:=f2) (ListIn.below (ListIn.below ht1 hbx) hbq) (ListIn.below (ListIn.below ht2 hbx) hbq) (by omega) (by omega);rw[hqc]at this;exact this
    have HW2:=hide (HW.out.below hbx);have HB2:=hide (below_then HB.out hbx);have X6:=hide X6;have X7:=hide X7;have p0:=X6.out.cell 0;have p1:=X6.out.cell 1;have p2:=X6.out.cell 2;simp at p0 p1 p2;have r0:=X7.out.cell 0;have r1:=X7.out.cell 1;have r2:=X7.out.cell 2;simp at r0 r1 r2;have hlx6:=X6.out.lt;have hlx7:=X7.out.lt;clear hbx c2 c3 c4 c5 hq2 hq3;go_upto_region 15 with fail;go_cut [213] (fun r wy=>(∃ q:Bool,r=.bool q∧True)∧Hid (Below wx.heap.size wx wy));case first=>
     go_wp2_with fail;all_goals first
      |(go_meet;exact⟨⟨_,rfl,trivial⟩,bR _ _⟩)
      |(
       refine HS.out.mono ?_
       rintro en w5 ⟨rfl,hd5⟩
       try dsimp only
       have hb5:=hd5.below
       have HB5:=hide hb5
       have Y6:=X6.out.kept hb5
       have Y7:=X7.out.kept hb5
       clear p0 r0 p1 r1 p2 r2 hlx6 hlx7
       have p0:=Y6.cell 0
       have p1:=Y6.cell 1
       have p2:=Y6.cell 2
       simp at p0 p1 p2
       have r0:=Y7.cell 0
       have r1:=Y7.cell 1
       have r2:=Y7.cell 2
       simp at r0 r1 r2
       have hlx6:=Y6.lt
       have hlx7:=Y7.lt
       clear Y6 Y7 hd5 hb5
       cases qb with
       |false=>go_wp2_with fail;go_meet;exact⟨⟨_,rfl,trivial⟩,HB5.out⟩
       |true=>
        go_wp2_with fail;refine(HS2.out _ HB5.out).mono ?_;rintro en w6 ⟨rfl,hd6⟩;try dsimp only
        have HB6:=hide (below_then HB5.out hd6.below);clear hd6;go_wp2_with fail;go_meet;exact⟨⟨_,rfl,trivial⟩,HB6.out⟩)
    case rest=>
     obtain⟨⟨q,rfl,hq⟩,HBy⟩:=hcut;have HW3:=hide (HW2.out.below HBy.out);have HB3:=hide (below_then HB2.out HBy.out);clear p0 r0 p1 r1 p2 r2 hlx6 hlx7;cases q with
     |true=>
      go_wp2_with fail;first|go_end0|go_ret|skip
      exact HPP.out _ HB3.out
     |false=>
      go_wp2_with fail;go_roundw;case rel=>exact⟨rfl,k+1,by omega,by go_num,HW3.out,HB3.out⟩
      case measure=>simp[iOf];omega
   ·obtain rfl:k=e1.sn:=by omega
    go_wp2_with fail;exact⟨HW,HB⟩
end
section
set_option maxHeartbeats 16000000
set_option maxRecDepth 1000000
theorem eq8_any {e1 e2:EV}{P1 C1 P2 C2:List ByteArray}{w:World}(h1:ElK w e1 P1 C1) (h2:ElK w e2 P2 C2) :
  Calls pG 17 #[.agg (e1.cells P1.length C1.length),.agg (e2.cells P2.length C2.length)] w fun en w'=>∃ q:Bool,en=.returned (.bool q)∧(q=true→P1=P2∧C1=C2)∧Below w.heap.size w w':=by
 obtain⟨w1,hw1⟩:∃ x,(w.alloc (.cells (e1.cells P1.length C1.length) 30)).alloc (.cells (e2.cells P2.length C2.length) 30)=x:=⟨_,rfl⟩;have hb1:Below w.heap.size w w1:=by rw[← hw1];exact((bR _ _).alloc (lR _) _).alloc (by simp) _
 have hW:EqW w.heap.size (w.heap.size+1) e1 e2 P1 C1 P2 C2 w1:=by
  refine⟨?_,?_,h1.below hb1,h2.below hb1⟩
  ·rw[← hw1];exact(Box.new w _ _).alloc _
  ·rw[← hw1];have:=Box.new (w.alloc (.cells (e1.cells P1.length C1.length) 30)) 30 (e2.cells P2.length C2.length);rwa [World.size_alloc]at this
 obtain⟨na1,na1l,na1n,na1m⟩:=hW.f1.num;obtain⟨da1,da1l,da1n,da1m⟩:=hW.f1.den;obtain⟨na2,na2l,na2n,na2m⟩:=hW.f2.num;obtain⟨da2,da2l,da2n,da2m⟩:=hW.f2.den;have hR:=eqR_any (p:=e1.neg) (q:=e2.neg) (ca:=e1.nc) (cb:=e1.dc) (cc:=e2.nc) (cd:=e2.dc) na1n da1n na2n da2n (by omega) (by omega) (by omega) (by omega);rw[na1l,da1l,na2l,da2l]at hR;have hp1:=hW.f1.hp;have hp2:=hW.f2.hp;obtain⟨qb,hqb⟩:∃ q,decide (P1=P2)=q:=⟨_,rfl⟩;have hS:∀ wq,Below w1.heap.size w1 wq→Calls pG 47 #[vS e1.pa P1.length e1.pc,vS e2.pa P2.length e2.pc] wq fun e w'=>e=.returned (.bool qb)∧Drew wq w':=fun wq hbq=>by have:=eqStrs_any (c:=e1.pc) (d:=e2.pc) (ListIn.below hW.f1.pre hbq) (ListIn.below hW.f2.pre hbq) (by omega) (by omega);rw[hqb]at this;exact this
 have HS:=hide hS;have HR:=hide hR;have HW:=hide hW;have HB1:=hide hb1;have HQ:=hide hqb;obtain⟨ecs1,hec1⟩:∃ q,e1.cells P1.length C1.length=q:=⟨_,rfl⟩;obtain⟨ecs2,hec2⟩:∃ q,e2.cells P2.length C2.length=q:=⟨_,rfl⟩;rw[hec1,hec2]at hw1 ⊢;have x2:Box w1 w.heap.size 30 (e1.cells P1.length C1.length):=hW.x2;have x3:Box w1 (w.heap.size+1) 30 (e2.cells P2.length C2.length):=hW.x3;have a0:w1.cell? ⟨w.heap.size,0,none⟩=some (vT e1.title):=x2.cell 0;have a1:w1.cell? ⟨w.heap.size,1,none⟩=some (vI kI e1.dots):=x2.cell 1;have a2:w1.cell? ⟨w.heap.size,2,none⟩=some (vI kI e1.blank):=x2.cell 2;have a3:w1.cell? ⟨w.heap.size,3,none⟩=some (vI kI e1.marked):=x2.cell 3;have a7:w1.cell? ⟨w.heap.size,7,none⟩=some (vI kI e1.scanners):=x2.cell 7;have a8:w1.cell? ⟨w.heap.size,8,none⟩=some (vI kI e1.batch):=x2.cell 8;have a9:w1.cell? ⟨w.heap.size,9,none⟩=some (.bool e1.neg):=x2.cell 9;have a10:w1.cell? ⟨w.heap.size,10,none⟩=some (vS e1.na e1.nn e1.nc):=x2.cell 10;have a11:w1.cell? ⟨w.heap.size,11,none⟩=some (vS e1.da e1.dn e1.dc):=x2.cell 11;have a12:w1.cell? ⟨w.heap.size,12,none⟩=some (vI kI e1.cell):=x2.cell 12;have a13:w1.cell? ⟨w.heap.size,13,none⟩=some (vT e1.seed):=x2.cell 13;have b0:w1.cell? ⟨w.heap.size+1,0,none⟩=some (vT e2.title):=x3.cell 0;have b1:w1.cell? ⟨w.heap.size+1,1,none⟩=some (vI kI e2.dots):=x3.cell 1;have b2:w1.cell? ⟨w.heap.size+1,2,none⟩=some (vI kI e2.blank):=x3.cell 2;have b3:w1.cell? ⟨w.heap.size+1,3,none⟩=some (vI kI e2.marked):=x3.cell 3;have b7:w1.cell? ⟨w.heap.size+1,7,none⟩=some (vI kI e2.scanners):=x3.cell 7;have b8:w1.cell? ⟨w.heap.size+1,8,none⟩=some (vI kI e2.batch):=x3.cell 8;have b9:w1.cell? ⟨w.heap.size+1,9,none⟩=some (.bool e2.neg):=x3.cell 9;have b10:w1.cell? ⟨w.heap.size+1,10,none⟩=some (vS e2.na e2.nn e2.nc):=x3.cell 10;have b11:w1.cell? ⟨w.heap.size+1,11,none⟩=some (vS e2.da e2.dn e2.dc):=x3.cell 11;have b12:w1.cell? ⟨w.heap.size+1,12,none⟩=some (vI kI e2.cell):=x3.cell 12;have b13:w1.cell? ⟨w.heap.size+1,13,none⟩=some (vT e2.seed):=x3.cell 13;have l2:=x2.lt;have l3:=x3.lt;have HW1:=hide hw1;clear hw1 hb1 hW hR hp1 hp2 hS x2 x3 h1 h2 na1n da1n na2n da2n hec1 hec2 hqb na1l da1l na2l da2l na1m da1m na2m da2m;go_enter Tryz.func17,Tryz.ntmps17;go_upto_region 1 with (fail);rw[HW1.out];go_cut [72] (fun r wx=>(∃ q:Bool,r=.bool q)∧Hid (Below w1.heap.size w1 wx));case first=>
  go_wp2_with fail;all_goals first
   |(go_meet;exact⟨⟨_,rfl⟩,bR _ _⟩)
   |(
     refine HR.out.mono ?_
     rintro en w5 ⟨r,rfl,hb5⟩
     try dsimp only
     have HB5:=hide hb5
     clear hb5
     go_wp2_with fail
     go_meet
     exact⟨⟨_,rfl⟩,HB5.out⟩)
 case rest=>
  clear a0 a1 a2 a3 a7 a8 a9 a10 a11 a12 a13 b0 b1 b2 b3 b7 b8 b9 b10 b11 b12 b13 l2 l3 HR;obtain⟨⟨q,rfl⟩,HB2⟩:=hcut;have HW2:=hide (HW.out.below HB2.out);cases q with
  |true=>go_wp2_with fail;go_ret;exact⟨false,rfl,fun h=>(by cases h),below_then HB1.out HB2.out⟩
  |false=>
   have x2:=HW2.out.x2;have x3:=HW2.out.x3;have a4:wc.cell? ⟨w.heap.size,4,none⟩=some (vS e1.pa P1.length e1.pc):=x2.cell 4;have a5:wc.cell? ⟨w.heap.size,5,none⟩=some (vS e1.ca C1.length e1.cc):=x2.cell 5;have a6:wc.cell? ⟨w.heap.size,6,none⟩=some (vS e1.sa e1.sn e1.sc):=x2.cell 6;have b4:wc.cell? ⟨w.heap.size+1,4,none⟩=some (vS e2.pa P2.length e2.pc):=x3.cell 4;have b5:wc.cell? ⟨w.heap.size+1,5,none⟩=some (vS e2.ca C2.length e2.cc):=x3.cell 5;have b6:wc.cell? ⟨w.heap.size+1,6,none⟩=some (vS e2.sa e2.sn e2.sc):=x3.cell 6;have l2:=x2.lt;have l3:=x3.lt;clear x2 x3;go_upto_region 3 with fail;obtain⟨wd,hwd⟩:∃ q,wc=q:=⟨_,rfl⟩;rw[hwd]at HW2 HB2 a4 a5 a6 b4 b5 b6 l2 l3 ⊢;go_cut [96] (fun r wx=>(∃ q:Bool,r=.bool q∧(q=false→qb=true∧C1.length=C2.length∧e1.sn=e2.sn))∧Hid (Below wd.heap.size wd wx));case first=>
    go_wp2_with fail;refine(HS.out _ HB2.out).mono ?_;rintro en w5 ⟨rfl,hd5⟩;try dsimp only
    have hb5:=hd5.below;have HB5:=hide hb5;have W5:=HW2.out.below hb5;have x2:=W5.x2;have x3:=W5.x3;clear a4 a5 a6 b4 b5 b6 l2 l3;have a5:w5.cell? ⟨w.heap.size,5,none⟩=some (vS e1.ca C1.length e1.cc):=x2.cell 5;have a6:w5.cell? ⟨w.heap.size,6,none⟩=some (vS e1.sa e1.sn e1.sc):=x2.cell 6;have b5:w5.cell? ⟨w.heap.size+1,5,none⟩=some (vS e2.ca C2.length e2.cc):=x3.cell 5;have b6:w5.cell? ⟨w.heap.size+1,6,none⟩=some (vS e2.sa e2.sn e2.sc):=x3.cell 6;have l2:=x2.lt;have l3:=x3.lt;clear W5 x2 x3 hd5 hb5;cases qb with
    |false=>go_wp2_with fail;go_meet;exact⟨⟨_,rfl,fun h=>(by cases h)⟩,HB5.out⟩
    |true=>
      by_cases hl:C1.length=C2.length
      ·by_cases hs:e1.sn=e2.sn
       ·go_wp2_with fail;all_goals
         go_meet
         exact⟨⟨_,rfl,fun _=>⟨rfl,hl,hs⟩⟩,HB5.out⟩
       ·have hs':¬ (e1.sn:Int)=(e2.sn:Int):=by omega
        have hs2:((e1.sn:Int) != (e2.sn:Int))=true:=bne_iff_ne.2 hs';go_wp2_with fail;all_goals
         go_meet
         first|exact⟨⟨_,rfl,fun h=>(by cases h)⟩,HB5.out⟩|exact⟨⟨_,rfl,fun h=>(by simp_all)⟩,HB5.out⟩
      ·have hl':¬ (C1.length:Int)=(C2.length:Int):=by omega
       have hl2:((C1.length:Int) != (C2.length:Int))=true:=bne_iff_ne.2 hl';go_wp2_with fail;all_goals
        go_meet
        first|exact⟨⟨_,rfl,fun h=>(by cases h)⟩,HB5.out⟩|exact⟨⟨_,rfl,fun h=>(by simp_all)⟩,HB5.out⟩
   case rest=>
    clear a4 a5 a6 b4 b5 b6 l2 l3;obtain⟨⟨q,rfl,hq⟩,HB3⟩:=hcut;have HW3:=hide (HW2.out.below HB3.out);have HB4:=hide (below_then (below_then HB1.out HB2.out) HB3.out);cases q with
    |true=>go_wp2_with fail;go_ret;exact⟨false,rfl,fun h=>(by cases h),HB4.out⟩
    |false=>
      obtain⟨hq1,hq2,hq3⟩:=hq rfl;have HL:=hide hq3;have HP:Hid (P1=P2):=by have:=HQ.out;rw[hq1]at this;show P1=P2;exact of_decide_eq_true this
      go_upto_block 0 with fail;refine eq0 HW3.out hq2 (fun w' hb=>⟨false,rfl,fun h=>(by cases h),below_then HB4.out hb⟩) ?_;intros;rename_i wx hrel;obtain⟨hC,HW5,HB5⟩:=hrel;have HC:=hide hC;clear hC hq hq2 hq3;try dsimp only
      go_upto_block 2 with fail;refine eq2 HW5.out HL.out (fun w' hb=>⟨false,rfl,fun h=>(by cases h),below_then (below_then HB4.out HB5.out) hb⟩) ?_;intros;rename_i wy hrel;obtain⟨HW6,HB6⟩:=hrel;have HB7:=hide (below_then (below_then HB4.out HB5.out) HB6.out);try dsimp only
      go_wp2_with fail;go_ret;exact⟨true,rfl,fun _=>⟨HP.out,HC.out⟩,HB7.out⟩
end
end Go.Proofs.YtnndaemmgbkjbaaGreatDoor
