/-
  parts of the proof: State Typed TypedOps TypedL ListT Risk StTy Contest StPut Field Pick Small8 Up.
-/
import Derived.Test.YtnndaemmgbkjbaaGreatDoorPC
import Derived.Test.YtnndaemmgbkjbaaGreatDoorPD
namespace Go.Proofs.YtnndaemmgbkjbaaGreatDoor
open Go.RowKit
open Go.World renaming cell?_of_block → cB
open Nat renaming lt_of_lt_of_le → lL, le_trans → lT, le_refl → lR, zero_le → zL
open Go.RowKit.Below renaming refl → bR
open _root_.Go.Proofs.Tryz renaming prog → pG
open Go.Value renaming int → vI, slice → vS, string → vT, bool → vB, pointer → vP
open Go.IntKind renaming i64 → kI
set_option linter.unusedVariables false
set_option linter.unusedSimpArgs false
section
structure St (w:World) (g:Nat) (cs:Array Value) (e:Int):Prop where
 box:Box w g 81 cs
 size:cs.size=19
 c17:cs[17]? = some (vI kI e)
 c18:∃ l:Int,cs[18]? = some (vI kI l)
def Sm (cs cs':Array Value):Prop:=∀ j,j < 17→cs'[j]? = cs[j]?
theorem Sm.refl (cs:Array Value):Sm cs cs:=fun _ _=>rfl
theorem Sm.trans {a b c:Array Value}(h:Sm a b) (k:Sm b c):Sm a c:=fun j hj=>(k j hj).trans (h j hj)
section
variable {w w':World}{g:Nat}{cs:Array Value}{e:Int}
theorem St.lt (h:St w g cs e):g < w.heap.size:=h.box.lt
theorem St.below (h:St w g cs e) (hb:Below w.heap.size w w'):St w' g cs e:=⟨h.box.kept hb,h.size,h.c17,h.c18⟩
theorem St.cell17 (h:St w g cs e):w.cell? ⟨g,17,none⟩=some (vI kI e):=(h.box.cell 17).trans h.c17
theorem St.cell18 (h:St w g cs e):∃ l:Int,w.cell? ⟨g,18,none⟩=some (vI kI l):=by
 obtain⟨l,hl⟩:=h.c18;exact⟨l,(h.box.cell 18).trans hl⟩
theorem St.fail (h:St w g cs e) (n l:Int):St ((w.setCell ⟨g,17,none⟩ (vI kI n)).setCell ⟨g,18,none⟩ (vI kI l)) g ((cs.setIfInBounds 17 (vI kI n)).setIfInBounds 18 (vI kI l)) n:=by
 refine⟨(h.box.set 17 _).set 18 _,by simpa using h.size,?_,l,?_⟩
 ·have:=h.size;simp[Array.getElem?_setIfInBounds,this]
 ·have:=h.size;simp[Array.getElem?_setIfInBounds,this]
theorem Sm.fail (cs:Array Value) (n l:Int):Sm cs ((cs.setIfInBounds 17 (vI kI n)).setIfInBounds 18 (vI kI l)):=fun j hj=>by
 rw[Array.getElem?_setIfInBounds,if_neg (by omega),Array.getElem?_setIfInBounds,if_neg (by omega)]
theorem grown_set2 (w:World) (g:Nat) (i j:Nat) (u v:Value):w.grownBy ((w.setCell ⟨g,i,none⟩ u).setCell ⟨g,j,none⟩ v) (some g):=by
 refine⟨rfl,rfl,rfl,by simp,fun k hk hne=>?_⟩;have hg:k≠g:=fun e=>hne (by rw[e]);rw[Below.heap_setCell _ ⟨g,j,none⟩ _ k hg,Below.heap_setCell _ ⟨g,i,none⟩ _ k hg]
end
def Lst (g:Nat) (w:World) (A:Option Addr) (l:List ByteArray):Prop:=ListIn Value.string (fun b=>b < w.heap.size∧b≠g) w A l
section
variable {w w':World}{g:Nat}{A:Option Addr}{l:List ByteArray}
theorem Lst.grown (h:Lst g w A l) (hb:w.grownBy w' (some g)):Lst g w' A l:=
 (ListIn.agree h (fun i hi=>hb.block i hi.1 (fun e=>hi.2 (by injection e with e)))).mono fun i hi=>⟨lL hi.1 hb.size,hi.2⟩
theorem Lst.below (h:Lst g w A l) (hb:Below w.heap.size w w'):Lst g w' A l:=h.grown (grown_of_below hb _)
theorem Lst.strs (h:Lst g w A l):Strs w A l:=ListIn.mono h fun i hi=>hi.1
end
def big:Nat:=9223372036854775807
set_option maxHeartbeats 1000000
set_option maxRecDepth 100000
theorem fail_any {w:World}{g:Nat}{cs:Array Value}{e n l:Int}(h:St w g cs e) (hn:n≠0) :
  Calls pG 36 #[vP (some ⟨g,0,none⟩),vI kI n,vI kI l] w fun en w'=>en=.returned (.tuple #[])∧∃ cs' e',St w' g cs' e'∧Sm cs cs'∧e'≠0∧w.grownBy w' (some g):=by
 have c17:=h.cell17;obtain⟨l0,c18⟩:=h.cell18;have f17:=h.box.frozen 17;have f18:=h.box.frozen 18;have H:=hide h;have HF:=hide (h.fail n l);have HSm:=hide (Sm.fail cs n l);clear h;by_cases h0:e=0
 ·subst h0;have hne:=hide hn;clear hn;go_enter Tryz.func36,Tryz.ntmps36;go_wp2_with fail;go_end0;exact⟨rfl,_,n,HF.out,HSm.out,hne.out,grown_set2 _ _ _ _ _ _⟩
 ·have h0':((e:Int)==0)=false:=bN h0;have hne:=hide h0;clear hn h0;go_enter Tryz.func36,Tryz.ntmps36;go_wp2_with fail;go_end0;exact⟨rfl,cs,e,H.out,Sm.refl _,hne.out,grown_refl _ _⟩
set_option maxHeartbeats 200000
set_option maxRecDepth 512
theorem aggField:AggT 89 3:=by
 refine⟨?_,fun w=>?_⟩
 ·have h:(pG.info? 89).map (fun i=>i.size)=some 3:=by kernel_rfl
  obtain⟨i0,h1,h2⟩:=Option.map_eq_some_iff.1 h;exact⟨i0,h1,h2⟩
 ·unfold isAgg;rw[Sem.run_bind,run_underlying Tryz.underlying89 w];rfl
def Aft (w:World) (g:Nat) (cs:Array Value) (e:Int) (w':World):Prop:=∃ cs' e',St w' g cs' e'∧Sm cs cs'∧(e'=0→e=0)∧w.grownBy w' (some g)
section
variable {w w1 w':World}{g:Nat}{cs:Array Value}{e:Int}
theorem Aft.refl (h:St w g cs e):Aft w g cs e w:=⟨cs,e,h,Sm.refl _,id,grown_refl _ _⟩
theorem Aft.of_below (h:St w g cs e) (hb:Below w.heap.size w w'):Aft w g cs e w':=⟨cs,e,h.below hb,Sm.refl _,id,grown_of_below hb _⟩
theorem Aft.trans (h:Aft w g cs e w1) (k:∀ cs' e',St w1 g cs' e'→Aft w1 g cs' e' w'):Aft w g cs e w':=by
 obtain⟨cs',e',h1,h2,h3,h4⟩:=h;obtain⟨cs2,e2,k1,k2,k3,k4⟩:=k cs' e' h1;exact⟨cs2,e2,k1,h2.trans k2,fun h=>h3 (k3 h),grown_trans h4 k4⟩
theorem St.uniq {c1 c2:Array Value}{e1 e2:Int}(h:St w g c1 e1) (k:St w g c2 e2):c1=c2∧e1=e2:=by
 have e:c1=c2:=by have h1:w.heap[g]? = some (.cells c1 _ (0,0)):=h.box;have h2:w.heap[g]? = some (.cells c2 _ (0,0)):=k.box;rw[h1]at h2;injection h2 with h2;injection h2 with h2
 subst e;have h1:=h.c17;rw[k.c17]at h1;injection h1 with h1;injection h1 with _ h1;exact⟨rfl,h1.symm⟩
theorem Aft.next {c1:Array Value}{e1:Int}(h:Aft w g cs e w1) (hs:St w1 g c1 e1) (k:Aft w1 g c1 e1 w'):Aft w g cs e w':=h.trans fun cs' e' q=>by
 obtain⟨rfl,rfl⟩:=hs.uniq q;exact k
theorem Aft.st (h:Aft w g cs e w'):∃ cs' e',St w' g cs' e':=by
 obtain⟨cs',e',h1,_⟩:=h;exact⟨cs',e',h1⟩
theorem Aft.ok {c1:Array Value}(h:Aft w g cs e w') (hs:St w' g c1 0):e=0∧Sm cs c1:=by
 obtain⟨cs',e',h1,h2,h3,_⟩:=h;obtain⟨rfl,rfl⟩:=hs.uniq h1;exact⟨h3 rfl,h2⟩
theorem Aft.grown (h:Aft w g cs e w'):w.grownBy w' (some g):=by
 obtain⟨_,_,_,_,_,h4⟩:=h;exact h4
theorem Aft.then (h:Aft w g cs e w1) (hb:Below w1.heap.size w1 w'):Aft w g cs e w':=h.trans fun cs' e' h1=>Aft.of_below h1 hb
end
set_option maxHeartbeats 2000000
set_option maxRecDepth 100000
theorem value_any {w:World}{g:Nat}{cs:Array Value}{e x:Int}{key:ByteArray}{A:Option Addr}{l:List ByteArray}{c:Nat}(h:St w g cs e) (hl:Lst g w A l) (hz:∀ s ∈ l,s.size≤big) :
  Calls pG 122 #[vP (some ⟨g,0,none⟩),.agg #[vT key,vS A l.length c,vI kI x]] w fun en w'=>∃ s:ByteArray,en=.returned (vT s)∧s.size≤big∧Aft w g cs e w':=by
 obtain⟨w1,hw1⟩:∃ q,w.alloc (.cells #[vT key,vS A l.length c,vI kI x] 89)=q:=⟨_,rfl⟩;have hb1:Below w.heap.size w w1:=by rw[← hw1];exact(bR _ _).alloc (lR _) _
 have hx1:Box w1 w.heap.size 89 #[vT key,vS A l.length c,vI kI x]:=by rw[← hw1];exact Box.new _ _ _
 have HS:=hide (h.below hb1);have HA:=hide (Aft.of_below h hb1);have HL:=hide (hl.below hb1);have HX1:=hide hx1;have HW1:=hide hw1;have HZ:=hide hz;clear h hl hz hb1 hx1 hw1;have c1:=HX1.out.cell 1;have c2:=HX1.out.cell 2;simp at c1 c2;by_cases h1:l.length=1
 ·have h1':((l.length:Int) != 1)=false:=by simp;omega
  obtain⟨b,off,rfl,hb,h3⟩:=HL.out.at_ (k:=0) (by omega);have hb:=hb.1;rw[Nat.add_zero]at h3;have HZ0:=hide (HZ.out _ (getD_memD (l:=l) (k:=0) (by omega)));have h1z:(0:Int) < (l.length:Int):=by omega
  generalize l.getD 0 default=s at *;clear h1;go_enter Tryz.func122,Tryz.ntmps122;go_upto_region 1 with (fail);rw[HW1.out];go_wp2_with fail;go_ret;exact⟨s,rfl,HZ0.out,HA.out⟩
 ·have h1':((l.length:Int) != 1)=true:=by simp;omega
  have HF:=hide (fun n=>fail_any (n:=7) (l:=n) HS.out (by decide));clear h1;go_enter Tryz.func122,Tryz.ntmps122;go_upto_region 1 with (fail);rw[HW1.out];go_wp2_with fail;refine(HF.out _).mono ?_;rintro en w2 ⟨rfl,cs',e',h2,h3,h4,h5⟩;have HA2:Hid (Aft w g cs e w2):=HA.out.trans fun cs2 e2 q=>⟨cs',e',h2,fun j hj=>by
   rw[h3 j hj,← HS.out.box.cell j,← q.box.cell j],fun h=>absurd h h4,h5⟩
  clear h2 h3 h4 h5;go_wp2_with fail;go_ret;exact⟨_,rfl,by decide,HA2.out⟩
set_option maxHeartbeats 200000
set_option maxRecDepth 512
theorem failA_any {w:World}{g:Nat}{cs:Array Value}{e n l:Int}(h:St w g cs e) (hn:n≠0) :
  Calls pG 36 #[vP (some ⟨g,0,none⟩),vI kI n,vI kI l] w fun en w'=>en=.returned (.tuple #[])∧Aft w g cs e w'∧∀ c1,¬ St w' g c1 0:=
 (fail_any h hn).mono fun en w' ⟨h1,cs',e',h2,h3,h4,h5⟩=>⟨h1,⟨cs',e',h2,h3,fun q=>absurd q h4,h5⟩,fun c1 q=>h4 (h2.uniq q).2⟩
set_option maxHeartbeats 2000000
set_option maxRecDepth 100000
theorem in_any {w:World}{g:Nat}{cs:Array Value}{e x low high:Int}{key:ByteArray}{A:Option Addr}{l:List ByteArray}{c:Nat}(h:St w g cs e) (hl:Lst g w A l) (hz:∀ s ∈ l,s.size≤big) :
  Calls pG 101 #[vP (some ⟨g,0,none⟩),.agg #[vT key,vS A l.length c,vI kI x],vI kI low,vI kI high] w fun en w'=>∃ n:Int,en=.returned (vI kI n)∧Aft w g cs e w':=by
 obtain⟨w1,hw1⟩:∃ q,w.alloc (.cells #[vT key,vS A l.length c,vI kI x] 89)=q:=⟨_,rfl⟩;have hb1:Below w.heap.size w w1:=by rw[← hw1];exact(bR _ _).alloc (lR _) _
 have hx1:Box w1 w.heap.size 89 #[vT key,vS A l.length c,vI kI x]:=by rw[← hw1];exact Box.new _ _ _
 have HV:=hide (value_any (key:=key) (x:=x) (c:=c) (h.below hb1) (hl.below hb1) hz);have HA:=hide (Aft.of_below h hb1);have HS:=hide (h.below hb1);have HX1:=hide hx1;have HLd:=hide (box_load aggField hx1 rfl);have HW1:=hide hw1;have hgq:g≠w.heap.size:=by have:=h.lt;omega
 clear h hl hz hb1 hx1 hw1;go_enter Tryz.func101,Tryz.ntmps101;go_upto_region 1 with (fail);rw[HW1.out];go_wp2_with ((with_reducible refine gV 13 (.agg #[vT key,vS A l.length c,vI kI x]) w1 ?_ ?_ ?_);rfl;exact gives_load rfl rfl HLd.out);refine HV.out.mono ?_;rintro en w2 ⟨s,rfl,hs,hA2⟩;have HN:=hide (fun wq=>number8_any (s:=s) (w:=wq) hs);have hx2:=HX1.out.grown hA2.grown (by simp;exact Ne.symm hgq);have c2:=hx2.cell 2;simp at c2;have hlt2:=hx2.lt;have HA2:=hide (HA.out.next HS.out hA2);generalize (numV s).2=ok at *;clear hA2 hx2 hs;obtain⟨cs2,e2,hS2⟩:=HA2.out.st;have HF:=hide (fun (n l:Int) (hn:n≠0)=>failA_any (n:=n) (l:=l) hS2 hn);have HS2:=hide hS2;clear hS2;cases ok with
 |false=>go_wp2_with fail;refine(HN.out _).mono ?_;rintro en w3 ⟨n,rfl,_,rfl⟩;go_wp2_with fail;refine(HF.out _ _ (by decide)).mono ?_;rintro en w4 ⟨rfl,hA4,_⟩;have HA4:=hide (HA2.out.next HS2.out hA4);clear hA4;go_wp2_with fail;go_ret;exact⟨n,rfl,HA4.out⟩
 |true=>
  go_wp2_with fail;refine(HN.out _).mono ?_;rintro en w3 ⟨n,rfl,_,rfl⟩;by_cases h1:n < low
  ·go_wp2_with fail;refine(HF.out _ _ (by decide)).mono ?_;rintro en w4 ⟨rfl,hA4,_⟩;have HA4:=hide (HA2.out.next HS2.out hA4);clear hA4;go_wp2_with fail;go_ret;exact⟨n,rfl,HA4.out⟩
  ·by_cases h2:high < n
   ·go_wp2_with fail;refine(HF.out _ _ (by decide)).mono ?_;rintro en w4 ⟨rfl,hA4,_⟩;have HA4:=hide (HA2.out.next HS2.out hA4);clear hA4;go_wp2_with fail;go_ret;exact⟨n,rfl,HA4.out⟩
   ·go_wp2_with fail;go_ret;exact⟨n,rfl,HA2.out⟩
theorem choice_any {w:World}{g:Nat}{cs:Array Value}{e x:Int}{key:ByteArray}{A D:Option Addr}{l ws:List ByteArray}{c d:Nat}(h:St w g cs e) (hl:Lst g w A l) (hz:∀ s ∈ l,s.size≤big) (hd:Lst g w D ws) (hm:ws.length≤1000) :
  Calls pG 100 #[vP (some ⟨g,0,none⟩),.agg #[vT key,vS A l.length c,vI kI x],vS D ws.length d] w fun en w'=>∃ n:Int,en=.returned (vI kI n)∧Aft w g cs e w':=by
 obtain⟨w1,hw1⟩:∃ q,w.alloc (.cells #[vT key,vS A l.length c,vI kI x] 89)=q:=⟨_,rfl⟩;have hb1:Below w.heap.size w w1:=by rw[← hw1];exact(bR _ _).alloc (lR _) _
 have hx1:Box w1 w.heap.size 89 #[vT key,vS A l.length c,vI kI x]:=by rw[← hw1];exact Box.new _ _ _
 have HV:=hide (value_any (key:=key) (x:=x) (c:=c) (h.below hb1) (hl.below hb1) hz);have HA:=hide (Aft.of_below h hb1);have HS:=hide (h.below hb1);have HD:=hide (hd.below hb1);have HX1:=hide hx1;have HLd:=hide (box_load aggField hx1 rfl);have HW1:=hide hw1;have hgq:g≠w.heap.size:=by have:=h.lt;omega
 clear h hl hz hb1 hx1 hw1 hd;go_enter Tryz.func100,Tryz.ntmps100;go_upto_region 1 with (fail);rw[HW1.out];go_wp2_with ((with_reducible refine gV 10 (.agg #[vT key,vS A l.length c,vI kI x]) w1 ?_ ?_ ?_);rfl;exact gives_load rfl rfl HLd.out);refine HV.out.mono ?_;rintro en w2 ⟨s,rfl,hs,hA2⟩;have HP:=hide (find_any (c:=d) (s:=s) (HD.out.grown hA2.grown).strs (by omega));have hbd:=posS_bd ws s;have hx2:=HX1.out.grown hA2.grown (by simp;exact Ne.symm hgq);have c2:=hx2.cell 2;simp at c2;have hlt2:=hx2.lt;have HA2:=hide (HA.out.next HS.out hA2);clear hA2 hx2 hs;obtain⟨cs2,e2,hS2⟩:=HA2.out.st;have HF:=hide (fun (n l:Int) (hn:n≠0)=>failA_any (n:=n) (l:=l) hS2 hn);have HS2:=hide hS2;clear hS2;generalize posS ws s=k at *;go_wp2_with fail;refine HP.out.mono ?_;rintro en w3 ⟨rfl,rfl⟩;by_cases h1:k < 0
 ·go_wp2_with fail;refine(HF.out _ _ (by decide)).mono ?_;rintro en w4 ⟨rfl,hA4,_⟩;have HA4:=hide (HA2.out.next HS2.out hA4);clear hA4;go_wp2_with fail;go_ret;exact⟨_,rfl,HA4.out⟩
 ·go_wp2_with fail;go_ret;exact⟨_,rfl,HA2.out⟩
theorem seed_any {w:World}{g:Nat}{cs:Array Value}{e x:Int}{key:ByteArray}{A:Option Addr}{l:List ByteArray}{c:Nat}(h:St w g cs e) (hl:Lst g w A l) (hz:∀ s ∈ l,s.size≤big) :
  Calls pG 104 #[vP (some ⟨g,0,none⟩),.agg #[vT key,vS A l.length c,vI kI x]] w fun en w'=>∃ s:ByteArray,en=.returned (vT s)∧s.size≤big∧Aft w g cs e w':=by
 obtain⟨w1,hw1⟩:∃ q,w.alloc (.cells #[vT key,vS A l.length c,vI kI x] 89)=q:=⟨_,rfl⟩;have hb1:Below w.heap.size w w1:=by rw[← hw1];exact(bR _ _).alloc (lR _) _
 have hx1:Box w1 w.heap.size 89 #[vT key,vS A l.length c,vI kI x]:=by rw[← hw1];exact Box.new _ _ _
 have HV:=hide (value_any (key:=key) (x:=x) (c:=c) (h.below hb1) (hl.below hb1) hz);have HA:=hide (Aft.of_below h hb1);have HS:=hide (h.below hb1);have HX1:=hide hx1;have HLd:=hide (box_load aggField hx1 rfl);have HW1:=hide hw1;have hgq:g≠w.heap.size:=by have:=h.lt;omega
 clear h hl hz hb1 hx1 hw1;go_enter Tryz.func104,Tryz.ntmps104;go_upto_region 1 with (fail);rw[HW1.out];go_wp2_with ((with_reducible refine gV 7 (.agg #[vT key,vS A l.length c,vI kI x]) w1 ?_ ?_ ?_);rfl;exact gives_load rfl rfl HLd.out);refine HV.out.mono ?_;rintro en w2 ⟨s,rfl,hs,hA2⟩;have HN:=hide (fun wq=>name8_any (s:=s) (w:=wq));have hx2:=HX1.out.grown hA2.grown (by simp;exact Ne.symm hgq);have c2:=hx2.cell 2;simp at c2;have hlt2:=hx2.lt;have HA2:=hide (HA.out.next HS.out hA2);have HZ:=hide hs;clear hA2 hx2 hs;obtain⟨cs2,e2,hS2⟩:=HA2.out.st;have HF:=hide (fun (n l:Int) (hn:n≠0)=>failA_any (n:=n) (l:=l) hS2 hn);have HS2:=hide hS2;clear hS2;by_cases h0:s.size=0
 ·have e0:=isEmpty_true h0;clear h0;go_wp2_with fail;go_ret;exact⟨s,rfl,HZ.out,HA2.out⟩
 ·have e0:=isEmpty_false (s:=s) (by omega);clear h0;go_wp2_with fail;refine(HN.out _).mono ?_;rintro en w3 ⟨v,rfl,⟨b,rfl,_⟩,rfl⟩;cases b with
  |true=>go_wp2_with fail;go_ret;exact⟨s,rfl,HZ.out,HA2.out⟩
  |false=>go_wp2_with fail;refine(HF.out _ _ (by decide)).mono ?_;rintro en w4 ⟨rfl,hA4,_⟩;have HA4:=hide (HA2.out.next HS2.out hA4);clear hA4;go_wp2_with fail;go_ret;exact⟨s,rfl,HZ.out,HA4.out⟩
end
section
inductive Kd where
 |str|short|int|bool|nat|con|sty|sty0|lin|nam|fld|blk
inductive FT where
 |int|nat|bool|str|short|nul|sl (k:Kd)
def Kd.tag:Kd→TypeId
 |.str=>9
 |.short=>9
 |.int=>3
 |.bool=>4
 |.nat=>100
 |.con=>74
 |.sty=>76
 |.sty0=>76
 |.lin=>132
 |.nam=>131
 |.fld=>89
 |.blk=>86
def Kd.fts:Kd→List FT
 |.str=>[.str]
 |.short=>[.short]
 |.int=>[.int]
 |.bool=>[.bool]
 |.nat=>[.nat]
 |.con=>[.short,.sl .str,.int,.int,.int,.int,.int,.int,.int]
 |.sty=>[.str,.sl .int,.sl .int]
 |.sty0=>[.str,.nul,.nul]
 |.lin=>[.int,.int]
 |.nam=>[.sl .str,.sl .str]
 |.fld=>[.short,.sl .str,.int]
 |.blk=>[.short,.str,.sl .fld,.int]
def Kd.len (k:Kd):Nat:=k.fts.length
theorem Kd.len_pos (k:Kd):0 < k.len:=by cases k <;> decide
def Ty:Type:=Nat→Option (Kd × Nat)
def Ty.le (S T:Ty):Prop:=∀ b x,S b=some x→T b=some x
theorem Ty.le_refl (S:Ty):Ty.le S S:=fun _ _ h=>h
theorem Ty.le_trans {S T U:Ty}(h:Ty.le S T) (k:Ty.le T U):Ty.le S U:=fun b x e=>k b x (h b x e)
def Ty.add (S:Ty) (g:Nat) (k:Kd) (c:Nat):Ty:=fun b=>if b=g then some (k,c) else S b
theorem Ty.add_new (S:Ty) (g:Nat) (k:Kd) (c:Nat):S.add g k c g=some (k,c):=by simp[Ty.add]
theorem Ty.le_add {S:Ty}{g:Nat}(h:S g=none) (k:Kd) (c:Nat):Ty.le S (S.add g k c):=fun b x e=>by
 unfold Ty.add;split
 ·rename_i hb;subst hb;rw[h]at e;cases e
 ·exact e
def Sl (S:Ty) (k:Kd) (n:Nat) (v:Value):Prop:=∃ A c,v=vS A n c∧n≤1000∧n≤c∧c≤maxLen∧((A=none∧c=0)∨∃ b,A=some ⟨b,0,none⟩∧S b=some (k,c))
def FTok (S:Ty):FT→Value→Prop
 |.int,v=>∃ n,v=vI kI n
 |.nat,v=>∃ n,v=.int .u32 n
 |.bool,v=>∃ b,v=.bool b
 |.str,v=>∃ s:ByteArray,v=vT s∧s.size≤9223372036854775807
 |.short,v=>∃ s:ByteArray,v=vT s∧s.size≤24
 |.nul,v=>v=vS none 0 0
 |.sl k,v=>∃ n,Sl S k n v
theorem Sl.mono {S T:Ty}{k:Kd}{n:Nat}{v:Value}(h:Sl S k n v) (hl:Ty.le S T):Sl T k n v:=by
 obtain⟨A,c,e,h1,h2,h3,h4⟩:=h;refine⟨A,c,e,h1,h2,h3,?_⟩;rcases h4 with h4|⟨b,e1,e2⟩
 ·exact .inl h4
 ·exact .inr ⟨b,e1,hl _ _ e2⟩
theorem Sl.nil (S:Ty) (k:Kd):Sl S k 0 (vS none 0 0):=⟨none,0,rfl,by omega,by omega,by omega,.inl ⟨rfl,rfl⟩⟩
theorem Sl.form {S:Ty}{k:Kd}{n:Nat}{v:Value}(h:Sl S k n v):∃ A c,v=vS A n c∧n≤c∧n≤1000:=by
 obtain⟨A,c,e,h1,h2,_⟩:=h;exact⟨A,c,e,h2,h1⟩
theorem FTok.mono {S T:Ty}(hl:Ty.le S T):∀ {f:FT}{v:Value},FTok S f v→FTok T f v
 |.int,_,h=>h
 |.nat,_,h=>h
 |.bool,_,h=>h
 |.str,_,h=>h
 |.short,_,h=>h
 |.nul,_,h=>h
 |.sl _,_,⟨n,h⟩=>⟨n,h.mono hl⟩
theorem FTok.one {S:Ty}:∀ {f:FT}{v:Value},FTok S f v→v.oneCell'=true
 |.int,_,⟨_,h⟩=>by rw[h];rfl
 |.nat,_,⟨_,h⟩=>by rw[h];rfl
 |.bool,_,⟨_,h⟩=>by rw[h];rfl
 |.str,_,⟨_,h,_⟩=>by rw[h];rfl
 |.short,_,⟨_,h,_⟩=>by rw[h];rfl
 |.nul,_,h=>by rw[h];rfl
 |.sl _,_,⟨_,_,_,h,_⟩=>by rw[h];rfl
def TC (S:Ty) (k:Kd) (cs:List Value):Prop:=∀ i v,cs[i]? = some v→FTok S (k.fts.getD (i % k.len) .int) v
theorem TC.mono {S T:Ty}{k:Kd}{cs:List Value}(h:TC S k cs) (hl:Ty.le S T):TC T k cs:=fun i v e=>(h i v e).mono hl
theorem TC.one {S:Ty}{k:Kd}{cs:List Value}(h:TC S k cs):∀ u ∈ cs,u.oneCell'=true:=fun u hu=>by
 obtain⟨i,hi⟩:=List.mem_iff_getElem?.1 hu;exact(h i u hi).one
theorem TC.nil (S:Ty) (k:Kd):TC S k []:=fun i v e=>by simp at e
theorem TC.append {S:Ty}{k:Kd}{n:Nat}{a b:List Value}(ha:TC S k a) (hn:a.length=n * k.len) (hb:TC S k b):TC S k (a ++ b):=fun i v e=>by
 rcases Nat.lt_or_ge i a.length with h|h
 ·rw[List.getElem?_append_left h]at e;exact ha i v e
 ·rw[List.getElem?_append_right h]at e;have:=hb _ v e;have e2:(i - a.length) % k.len=i % k.len:=by obtain⟨j,rfl⟩:∃ j,i=a.length+j:=⟨i - a.length,by omega⟩;rw[Nat.add_sub_cancel_left,hn,Nat.add_comm,Nat.add_mul_mod_self_right]
  rwa [e2]at this
theorem TC.take {S:Ty}{k:Kd}{a:List Value}(ha:TC S k a) (m:Nat):TC S k (a.take m):=fun i v e=>by
 rw[List.getElem?_take]at e;split at e
 ·exact ha i v e
 ·cases e
theorem TC.drop {S:Ty}{k:Kd}{n:Nat}{a:List Value}(ha:TC S k a):TC S k (a.drop (n * k.len)):=fun i v e=>by
 rw[List.getElem?_drop]at e;have:=ha _ v e;rwa [Nat.add_comm,Nat.add_mul_mod_self_right]at this
theorem TC.set {S:Ty}{k:Kd}{a:List Value}(ha:TC S k a) {j:Nat}{v:Value}(hv:FTok S (k.fts.getD (j % k.len) .int) v):TC S k (a.set j v):=fun i u e=>by
 rw[List.getElem?_set]at e;split at e
 ·rename_i h;subst h;split at e
  ·injection e with e;subst e;exact hv
  ·cases e
 ·exact ha i u e
def TW (B:Nat) (S:Ty) (w:World):Prop:=∀ b k c,S b=some (k,c)→B≤b∧∃ cs,w.heap[b]? = some (.cells cs k.tag (0,0))∧cs.size=c * k.len∧TC S k cs.toList
section
variable {B:Nat}{S T:Ty}{w w':World}
theorem TW.lt (h:TW B S w) {b:Nat}{x:Kd × Nat}(e:S b=some x):b < w.heap.size:=by
 obtain⟨k,c⟩:=x;obtain⟨_,cs,h1,_⟩:=h b k c e;exact(Array.getElem?_eq_some_iff.1 h1).1
theorem TW.none_ge (h:TW B S w) {b:Nat}(hb:w.heap.size≤b):S b=none:=by
 cases e:S b with
 |none=>rfl
 |some x=>have:=h.lt e;omega
theorem TW.frame (h:TW B S w) (hf:∀ b x,S b=some x→w'.heap[b]? = w.heap[b]?):TW B S w':=fun b k c e=>by
 obtain⟨h1,cs,h2,h3⟩:=h b k c e;exact⟨h1,cs,(hf b _ e).trans h2,h3⟩
theorem TW.below (h:TW B S w) (hb:Below w.heap.size w w'):TW B S w':=h.frame fun b x e=>hb.block b (h.lt e)
theorem TW.grown {r:Option Nat}(h:TW B S w) (hb:w.grownBy w' r) (hr:∀ b,r=some b→S b=none):TW B S w':=h.frame fun b x e=>hb.block b (h.lt e) fun e2=>by
 rw[hr b e2.symm]at e;cases e
theorem TW.empty (B:Nat) (w:World):TW B (fun _=>none) w:=fun b k c e=>by cases e
theorem TW.add (h:TW B S w) {g:Nat}{k:Kd}{c:Nat}{cs:Array Value}(hg:S g=none) (hB:B≤g) (hx:Box w g k.tag cs) (hs:cs.size=c * k.len) (ht:TC S k cs.toList):TW B (S.add g k c) w:=fun b k2 c2 e=>by
 have hle:=Ty.le_add hg k c;unfold Ty.add at e;split at e
 ·rename_i hb;subst hb;injection e with e;injection e with e1 e2;subst e1 e2;exact⟨hB,cs,hx,hs,ht.mono hle⟩
 ·obtain⟨h1,cs2,h2,h3,h4⟩:=h b k2 c2 e;exact⟨h1,cs2,h2,h3,h4.mono hle⟩
theorem TW.alloc (h:TW B S w) (hB:B≤w.heap.size) {k:Kd}{c:Nat}{cs:Array Value}(hs:cs.size=c * k.len) (ht:TC S k cs.toList):TW B (S.add w.heap.size k c) (w.alloc (.cells cs k.tag)):=
 TW.add (h.below ((bR _ _).alloc (lR _) _)) (h.none_ge (lR _)) hB (Box.new _ _ _) hs ht
theorem TW.setRow (h:TW B S w) {g:Nat}{k:Kd}{c:Nat}{cs:Array Value}(hg:S g=some (k,c)) (hs:cs.size=c * k.len) (ht:TC S k cs.toList):TW B S (w.setRow g cs):=fun b k2 c2 e=>by
 obtain⟨h1,cs2,h2,h3,h4⟩:=h b k2 c2 e;by_cases hb:b=g
 ·subst hb;rw[hg]at e;injection e with e;injection e with e1 e2;subst e1 e2;exact⟨h1,cs,setRow_heap w _ _ _ _ _ h2,hs,ht⟩
 ·exact⟨h1,cs2,(setRow_other w g b cs hb).trans h2,h3,h4⟩
theorem TW.set (h:TW B S w) {g j:Nat}{k:Kd}{c:Nat}{v:Value}(hg:S g=some (k,c)) (hv:FTok S (k.fts.getD (j % k.len) .int) v):TW B S (w.setCell ⟨g,j,none⟩ v):=fun b k2 c2 e=>by
 obtain⟨h1,cs2,h2,h3,h4⟩:=h b k2 c2 e;by_cases hb:b=g
 ·subst hb;rw[hg]at e;injection e with e;injection e with e1 e2;subst e1 e2;refine⟨h1,cs2.setIfInBounds j v,Box.set h2 j v,by simpa using h3,?_⟩;rw[Array.toList_setIfInBounds];exact h4.set hv
 ·exact⟨h1,cs2,(Below.heap_setCell w ⟨g,j,none⟩ v b hb).trans h2,h3,h4⟩
theorem TW.cell (h:TW B S w) {b:Nat}{k:Kd}{c:Nat}(e:S b=some (k,c)) {i j:Nat}(hi:i < c) (hj:j < k.len):∃ v,w.cell? ⟨b,i * k.len+j,none⟩=some v∧FTok S (k.fts.getD j .int) v:=by
 obtain⟨_,cs,h1,h2,h3⟩:=h b k c e;have hlt:i * k.len+j < cs.size:=by rw[h2];exact lL (Nat.add_lt_add_left hj _) (by rw[← Nat.succ_mul];exact Nat.mul_le_mul_right _ hi)
 have e1:cs[i * k.len+j]? = some cs[i * k.len+j]:=Array.getElem?_eq_getElem hlt;refine⟨cs[i * k.len+j],by rw[Box.cell h1];exact e1,?_⟩;have:=h3 (i * k.len+j) _ (by rw[Array.getElem?_toList];exact e1);have em:(i * k.len+j) % k.len=j:=by rw[Nat.add_comm,Nat.add_mul_mod_self_right,Nat.mod_eq_of_lt hj]
 rwa [em]at this
theorem Sl.at_ {k:Kd}{n c:Nat}{A:Option Addr}(hs:Sl S k n (vS A n c)) (h:TW B S w) {i:Nat}(hi:i < n):∃ b,A=some ⟨b,0,none⟩∧b < w.heap.size∧B≤b∧S b=some (k,c)∧∀ j,j < k.len→∃ v,w.cell? ⟨b,i * k.len+j,none⟩=some v∧FTok S (k.fts.getD j .int) v:=by
 obtain⟨A',c',e,h1,h2,h3,h4⟩:=hs;injection e with e1 _ e3;subst e1 e3;rcases h4 with ⟨rfl,rfl⟩|⟨b,rfl,hb⟩
 ·omega
 ·exact⟨b,rfl,h.lt hb,(h b k c hb).1,hb,fun j hj=>h.cell hb (by omega) hj⟩
end
end
section
structure Stp (M:Nat→Prop) (B:Nat) (S:Ty) (w:World) (T:Ty) (w':World):Prop where
 le:Ty.le S T
 tw:TW B T w'
 os:w'.os=w.os
 tape:w'.tape=w.tape
 output:w'.output=w.output
 size:w.heap.size≤w'.heap.size
 old:∀ i,i < w.heap.size→T i=S i
 far:∀ i,i < w.heap.size→S i=none→¬ M i→w'.heap[i]? = w.heap[i]?
def No (_:Nat):Prop:=False
section
variable {M N:Nat→Prop}{B:Nat}{S T U:Ty}{w w' w2:World}
theorem Stp.refl (h:TW B S w):Stp M B S w S w:=⟨Ty.le_refl _,h,rfl,rfl,rfl,lR _,fun _ _=>rfl,fun _ _ _ _=>rfl⟩
theorem Stp.trans (h:Stp M B S w T w') (k:Stp M B T w' U w2):Stp M B S w U w2:=
 ⟨Ty.le_trans h.le k.le,k.tw,k.os.trans h.os,k.tape.trans h.tape,k.output.trans h.output,lT h.size k.size,fun i hi=>(k.old i (lL hi h.size)).trans (h.old i hi),
  fun i hi hn hm=>(k.far i (lL hi h.size) ((h.old i hi).trans hn) hm).trans (h.far i hi hn hm)⟩
theorem Stp.mono (h:Stp M B S w T w') (hs:∀ i,i < w.heap.size→M i→N i):Stp N B S w T w':=⟨h.le,h.tw,h.os,h.tape,h.output,h.size,h.old,fun i hi hn hm=>h.far i hi hn fun e=>hm (hs i hi e)⟩
theorem Stp.no (h:Stp No B S w T w'):Stp N B S w T w':=h.mono fun _ _ e=>e.elim
theorem Stp.of_below (h:TW B S w) (hb:Below w.heap.size w w'):Stp M B S w S w':=
 ⟨Ty.le_refl _,h.below hb,hb.os,hb.tape,hb.output,hb.size,fun _ _=>rfl,fun i hi _ _=>hb.block i hi⟩
theorem Stp.below (h:Stp M B S w T w') (h0:TW B S w) (hB:B≤w.heap.size) (hM:∀ i,i < B→¬ M i):Below B w w':=
 ⟨h.os,h.tape,h.output,h.size,fun i hi=>h.far i (by omega) (by
  cases e:S i with
  |none=>rfl
  |some x=>obtain⟨k,c⟩:=x;have:=(h0 i k c e).1;omega) (hM i hi)⟩
theorem Stp.box (h:Stp M B S w T w') {g:Nat}{t:TypeId}{cs:Array Value}(hx:Box w g t cs) (hn:S g=none) (hm:¬ M g):Box w' g t cs:=(h.far g hx.lt hn hm).trans hx
theorem Stp.none (h:Stp M B S w T w') {g:Nat}(hg:g < w.heap.size) (hn:S g=none):T g=none:=(h.old g hg).trans hn
theorem Stp.wrote (h:TW B S w) {g:Nat}(hn:S g=Option.none) (hm:M g) (hb:w.grownBy w' (some g)):Stp M B S w S w':=
 ⟨Ty.le_refl _,h.grown hb (fun b e=>by injection e with e;rw[← e];exact hn),hb.os,hb.tape,hb.output,hb.size,fun _ _=>rfl,fun i hi _ hmi=>hb.block i hi fun e=>hmi (by injection e with e;rw[e];exact hm)⟩
theorem Stp.add (h:Stp M B S w T w') {g:Nat}{k:Kd}{c:Nat}{cs:Array Value}(hw:w.heap.size≤g) (hB:B≤g) (hg:T g=Option.none) (hx:Box w' g k.tag cs) (hs:cs.size=c * k.len) (ht:TC T k cs.toList):Stp M B S w (T.add g k c) w':=
 ⟨Ty.le_trans h.le (Ty.le_add hg k c),h.tw.add hg hB hx hs ht,h.os,h.tape,h.output,h.size,fun i hi=>by
  rw[← h.old i hi];unfold Ty.add;rw[if_neg (by omega)],h.far⟩
theorem Stp.alloc (h:TW B S w) (hB:B≤w.heap.size) {k:Kd}{c:Nat}{cs:Array Value}(hs:cs.size=c * k.len) (ht:TC S k cs.toList):Stp M B S w (S.add w.heap.size k c) (w.alloc (.cells cs k.tag)):=
 Stp.add (Stp.of_below h ((bR _ _).alloc (lR _) _)) (lR _) hB (h.none_ge (lR _)) (Box.new _ _ _) hs ht
end
def FT.zero:FT→Value
 |.int=>vI kI 0
 |.nat=>.int .u32 0
 |.bool=>vB false
 |.str=>vT ⟨#[]⟩
 |.short=>vT ⟨#[]⟩
 |.nul=>vS none 0 0
 |.sl _=>vS none 0 0
theorem FT.zero_ok (S:Ty) (f:FT):FTok S f f.zero:=by
 cases f with
 |int=>exact⟨_,rfl⟩
 |nat=>exact⟨_,rfl⟩
 |bool=>exact⟨_,rfl⟩
 |str=>exact⟨_,rfl,by decide⟩
 |short=>exact⟨_,rfl,by decide⟩
 |nul=>rfl
 |sl k=>exact⟨0,Sl.nil _ _⟩
theorem TC.ofList {S:Ty}{k:Kd}{l:List Value}(hl:l.length=k.len) (h:∀ j,j < k.len→∀ v,l[j]? = some v→FTok S (k.fts.getD j .int) v):TC S k l:=fun i v e=>by
 have hi:i < l.length:=(List.getElem?_eq_some_iff.1 e).1;rw[Nat.mod_eq_of_lt (by omega)];exact h i (by omega) v e
theorem TC.zero (S:Ty) (k:Kd):TC S k (k.fts.map FT.zero):=TC.ofList (by rw[List.length_map];rfl) fun j hj v e=>by
 rw[List.getElem?_map]at e;obtain⟨f,h1,h2⟩:=Option.map_eq_some_iff.1 e;rw[List.getD_eq_getElem?_getD,h1,Option.getD_some,← h2];exact FT.zero_ok S f
theorem kinfo (k:Kd):∃ i z,pG.info? k.tag=some i∧i.zero=some z∧i.size=k.len∧i.bytes≤200∧z.cells.size=k.len∧∀ S,TC S k z.cells.toList:=by
 have key:∀ (k:Kd) (z:Value) (n b:Nat),(pG.info? k.tag).map (fun i=>(i.zero,i.size,i.bytes))=some (some z,n,b)→n=k.len→b≤200→z.cells.toList=k.fts.map FT.zero→∃ i z,pG.info? k.tag=some i∧i.zero=some z∧i.size=k.len∧i.bytes≤200∧z.cells.size=k.len∧∀ S,TC S k z.cells.toList:=fun k z n b h e hb hz=>by obtain⟨i,h1,h2,h3,h4⟩:=info_parts h;exact⟨i,z,h1,h2,by rw[h3,e],by rw[h4];exact hb,by rw[← Array.length_toList,hz,List.length_map];rfl,fun S=>by rw[hz];exact TC.zero S k⟩
 cases k with
 |str=>exact key .str (vT ⟨#[]⟩) 1 16 (by kernel_rfl) rfl (by decide) rfl
 |short=>exact key .short (vT ⟨#[]⟩) 1 16 (by kernel_rfl) rfl (by decide) rfl
 |int=>exact key .int (vI kI 0) 1 8 (by kernel_rfl) rfl (by decide) rfl
 |bool=>exact key .bool (vB false) 1 1 (by kernel_rfl) rfl (by decide) rfl
 |nat=>exact key .nat (.int .u32 0) 1 4 (by kernel_rfl) rfl (by decide) rfl
 |con=>exact key .con (.agg #[vT ⟨#[]⟩,vS none 0 0,vI kI 0,vI kI 0,vI kI 0,vI kI 0,vI kI 0,vI kI 0,vI kI 0]) 9 96 (by kernel_rfl) rfl (by decide) rfl
 |sty=>exact key .sty (.agg #[vT ⟨#[]⟩,vS none 0 0,vS none 0 0]) 3 64 (by kernel_rfl) rfl (by decide) rfl
 |sty0=>exact key .sty0 (.agg #[vT ⟨#[]⟩,vS none 0 0,vS none 0 0]) 3 64 (by kernel_rfl) rfl (by decide) rfl
 |lin=>exact key .lin (.agg #[vI kI 0,vI kI 0]) 2 16 (by kernel_rfl) rfl (by decide) rfl
 |nam=>exact key .nam (.agg #[vS none 0 0,vS none 0 0]) 2 48 (by kernel_rfl) rfl (by decide) rfl
 |fld=>exact key .fld (.agg #[vT ⟨#[]⟩,vS none 0 0,vI kI 0]) 3 48 (by kernel_rfl) rfl (by decide) rfl
 |blk=>exact key .blk (.agg #[vT ⟨#[]⟩,vT ⟨#[]⟩,vS none 0 0,vI kI 0]) 4 64 (by kernel_rfl) rfl (by decide) rfl
theorem zeroCells_get {z:Array Value}{m i:Nat}{v:Value}(h:(Builtin.zeroCells z m).toList[i]? = some v) (hz:0 < z.size):z.toList[i % z.size]? = some v:=by
 unfold Builtin.zeroCells at h;rw[Array.getElem?_toList,Array.getElem?_map]at h;obtain⟨j,h1,h2⟩:=Option.map_eq_some_iff.1 h;rw[Array.getElem?_range]at h1;split at h1
 ·injection h1 with h1;subst h1;have:=Nat.mod_lt i hz;rw[Array.getElem?_toList,Array.getElem?_eq_getElem this,← h2,getElem!_pos z _ this]
 ·cases h1
theorem TC.zeros {S:Ty}{k:Kd}{z:Array Value}(hz:z.size=k.len) (h:TC S k z.toList) (m:Nat):TC S k (Builtin.zeroCells z m).toList:=fun i v e=>by
 have hp:=k.len_pos;have:=h _ v (zeroCells_get e (by omega));rwa [hz,Nat.mod_mod]at this
section
variable {M:Nat→Prop}{B:Nat}{S T U:Ty}{w w' w2:World}
theorem Sl.row {k:Kd}{n:Nat}{v:Value}(hs:Sl S k n v) (h:TW B S w):(v=vS none 0 0∧n=0)∨∃ g c cs,v=vS (some ⟨g,0,none⟩) n c∧S g=some (k,c)∧n≤c∧c≤maxLen∧w.heap[g]? = some (.cells cs k.tag (0,0))∧cs.size=c * k.len∧TC S k cs.toList:=by
 obtain⟨A,c,rfl,h1,h2,h3,⟨rfl,rfl⟩|⟨b,rfl,hb⟩⟩:=hs
 ·left;obtain rfl:n=0:=by omega
  exact⟨rfl,rfl⟩
 ·right;obtain⟨_,cs,a1,a2,a3⟩:=h b k c hb;exact⟨b,c,cs,rfl,hb,h2,h3,a1,a2,a3⟩
theorem TC.list_take {k:Kd}{cs:List Value}{n c:Nat}(h:cs.length=c * k.len) (hn:n≤c):(cs.take (n * k.len)).length=n * k.len:=by
 rw[List.length_take,h];exact Nat.min_eq_left (Nat.mul_le_mul_right _ hn)
set_option maxRecDepth 100000
theorem Sl.append {k:Kd}{n:Nat}{v:Value}{t:TypeId}(ht:pG.underlying t=some (.slice k.tag)) (h:TW B S w) (hB:B≤w.heap.size) (hs:Sl S k n v) (ot:TypeId) (a:Addr) (m c:Nat) (news:List Value)
  (hl:news.length=m * k.len) (hnews:∀ j u,news[j]? = some u→w.cell? (a.add j)=some u) (hT:TC S k news) (hm:n+m≤1000) (h0:0 < m) :
  ∃ A c' w' T,(Builtin.append_ #[t,t] ot #[v,vS (some a) m c]).run pG w=.ok (vS A (n+m) c') w'∧Stp M B S w T w'∧Sl T k (n+m) (vS A (n+m) c'):=by
 obtain⟨i,z,hi,hz,hsz,hby,hzs,htz⟩:=kinfo k;have hfit:∀ old,old < n+m→Builtin.nextslicecap (n+m) old * i.bytes≤281474976710656:=fun old ho=>growslice_fits ho (lT (Nat.mul_le_mul hm hby) (by decide));have hml:n+m≤maxLen:=by unfold maxLen;omega
 have hlk:news.length=m * i.size:=by rw[hsz];exact hl
 have hrest:∀ (S:Ty) (q:Nat),TC S k (Builtin.zeroCells z.cells q).toList:=fun S q=>TC.zeros hzs (htz S) q;have fresh:∀ (old:Nat) (xs:List Value),old < n+m→xs.length=n * k.len→TC S k xs→∃ A c' w' T,(.ok (vS (some ⟨w.heap.size,0,none⟩) (n+m) (grownCap w (n+m) old k.tag)) (w.drew.alloc (.cells (xs.toArray ++ news.toArray ++ Builtin.zeroCells z.cells (grownCap w (n+m) old k.tag - (n+m))) k.tag)):Result Value)=.ok (vS A (n+m) c') w'∧Stp M B S w T w'∧Sl T k (n+m) (vS A (n+m) c'):=fun old xs ho hx hxt=>by
  have hge:=grownCap_ge w (n+m) old k.tag;have hcm:=grownCap_le_maxLen w (n+m) old k.tag hml;have hd:TW B S w.drew:=h.below (below_drew (bR _ _) 1);have hst:Stp M B S w S w.drew:=Stp.of_below h (below_drew (bR _ _) 1);have hcs:(xs.toArray ++ news.toArray ++ Builtin.zeroCells z.cells (grownCap w (n+m) old k.tag - (n+m))).size=grownCap w (n+m) old k.tag * k.len:=by simp only[Array.size_append,List.size_toArray,size_zeroCells,hzs,hx,hl,← Nat.add_mul];congr 1;omega
  have htc:TC S k (xs.toArray ++ news.toArray ++ Builtin.zeroCells z.cells (grownCap w (n+m) old k.tag - (n+m))).toList:=by simp only[Array.toList_append];exact TC.append (n:=n+m) (TC.append hxt hx hT) (by rw[List.length_append,hx,hl,Nat.add_mul]) (hrest S _)
  refine⟨_,_,_,_,rfl,hst.trans (Stp.alloc hd hB hcs htc),⟨_,_,rfl,hm,hge,hcm,.inr ⟨_,rfl,Ty.add_new _ _ _ _⟩⟩⟩
 rcases hs.row h with ⟨rfl,rfl⟩|⟨g,cap,cs,rfl,hg,hnc,hcm,hx,hcs,hct⟩
 ·have hr:=run_append_nil (P:=pG) w t ot k.tag i z ht hi hz a m c news hlk hnews h0 (by unfold maxLen at hml;omega) (lT (Nat.mul_le_mul (show m≤1000 by omega) hby) (by decide));obtain⟨A,c',w',T,e,q⟩:=fresh 0 [] (by omega) (by simp) (TC.nil _ _);refine⟨A,c',w',T,?_,q⟩;rw[hr,← e];simp
 ·have hxs:=TC.list_take (k:=k) (cs:=cs.toList) (n:=n) (c:=cap) (by rw[Array.length_toList];exact hcs) hnc;by_cases hroom:n+m≤cap
  ·have hr:=run_append_room (P:=pG) w t ot k.tag i ht hi g n cap cs hx a m c news hlk hnews hT.one hroom (by rw[hl,hsz,hcs,← Nat.add_mul];exact Nat.mul_le_mul_right _ hroom);rw[hsz]at hr;have hk:n * k.len+news.length=(n+m) * k.len:=by rw[hl,Nat.add_mul]
   have hdl:(cs.toList.drop ((n+m) * k.len)).length=(cap - (n+m)) * k.len:=by rw[List.length_drop,Array.length_toList,hcs,Nat.sub_mul]
   have hsz2:(cs.toList.take (n * k.len) ++ news ++ cs.toList.drop (n * k.len+news.length)).toArray.size=cap * k.len:=by rw[List.size_toArray,List.length_append,List.length_append,hxs,hk,hdl,← Nat.add_mul];congr 1;omega
   have htc:TC S k (cs.toList.take (n * k.len) ++ news ++ cs.toList.drop (n * k.len+news.length)).toArray.toList:=by rw[hk];exact TC.append (n:=n+m) (TC.append (hct.take _) hxs hT) (by rw[List.length_append,hxs,hl,Nat.add_mul]) hct.drop
   have hgr:=setRow_grown w g (cs.toList.take (n * k.len) ++ news ++ cs.toList.drop (n * k.len+news.length)).toArray;exact⟨_,_,_,S,hr,⟨Ty.le_refl _,h.setRow hg hsz2 htc,hgr.os,hgr.tape,hgr.output,hgr.size,fun _ _=>rfl,fun b hb hn _=>hgr.block b hb fun e=>by injection e with e;subst e;rw[hg]at hn;cases hn⟩,⟨_,_,rfl,hm,hroom,hcm,.inr ⟨_,rfl,hg⟩⟩⟩
  ·have holds:∀ j u,(cs.toList.take (n * k.len))[j]? = some u→w.cell? ((⟨g,0,none⟩:Addr).add j)=some u:=fun j u e=>by
    rw[List.getElem?_take]at e;split at e
    ·rw[add_off,Nat.zero_add,Box.cell hx];simpa using e
    ·cases e
   have hr:=run_append_grow (P:=pG) w t ot k.tag i z ht hi hz ⟨g,0,none⟩ n cap (cs.toList.take (n * k.len)) (by rw[hsz];exact hxs) holds a m c news hlk hnews (by omega) (by unfold maxLen at hml;omega) (hfit cap (by omega));obtain⟨A,c',w',T,e,q⟩:=fresh cap _ (by omega) hxs (hct.take _);exact⟨A,c',w',T,by rw[hr,← e],q⟩
end
end
section
section
variable {B n c i:Nat}{S:Ty}{w:World}{A:Option Addr}
theorem Sl.list {α:Type} [Inhabited α] {enc:α→Value}{P:α→Prop}{k:Kd}(hl:k.len=1) (h0:∀ v,FTok S (k.fts.getD 0 .int) v→∃ x,v=enc x∧P x) (hs:Sl S k n (vS A n c)) (h:TW B S w) :
  ∃ l:List α,l.length=n∧ListIn enc (fun b=>b < w.heap.size∧B≤b∧S b≠none) w A l∧∀ x ∈ l,P x:=by
 have key:∀ m,m≤n→∃ l:List α,l.length=m∧(∀ x ∈ l,P x)∧∀ j,j < m→∃ b,A=some ⟨b,0,none⟩∧(b < w.heap.size∧B≤b∧S b≠none)∧w.cell? ⟨b,j,none⟩=some (enc (l.getD j default)):=fun m=>by
  induction m with
  |zero=>exact fun _=>⟨[],rfl,by simp,fun j hj=>by omega⟩
  |succ m ih=>
   intro hm;obtain⟨l,h1,h2,h3⟩:=ih (by omega);obtain⟨b,e,hb,hB,hS,hc⟩:=hs.at_ h (i:=m) (by omega);obtain⟨v,hv,hf⟩:=hc 0 (by omega);obtain⟨x,rfl,hx⟩:=h0 v hf;rw[hl,Nat.mul_one,Nat.add_zero]at hv;refine⟨l ++ [x],by simp[h1],?_,fun j hj=>?_⟩
   ·intro y hy;rcases List.mem_append.1 hy with hy|hy
    ·exact h2 y hy
    ·rw[List.mem_singleton.1 hy];exact hx
   ·by_cases hjm:j < m
    ·obtain⟨b',e',hb',hc'⟩:=h3 j hjm;refine⟨b',e',hb',?_⟩;rw[hc',List.getD_eq_getElem?_getD,List.getD_eq_getElem?_getD,List.getElem?_append_left (by omega)]
    ·obtain rfl:j=m:=by omega
     refine⟨b,e,⟨hb,hB,by rw[hS];simp⟩,?_⟩;rw[hv,List.getD_eq_getElem?_getD,List.getElem?_append_right (by omega),h1,Nat.sub_self];rfl
 obtain⟨l,h1,h2,h3⟩:=key n (lR _);refine⟨l,h1,fun hp=>?_,h2⟩;obtain⟨b,e,hb,_⟩:=h3 0 (by omega);refine⟨b,0,e,hb,fun j hj=>?_⟩;obtain⟨b',e',_,hc⟩:=h3 j (by omega);rw[e]at e';injection e' with e';injection e' with e';subst e';rw[Nat.zero_add];exact hc
theorem Sl.strs (hs:Sl S .str n (vS A n c)) (h:TW B S w):∃ l:List ByteArray,l.length=n∧ListIn Value.string (fun b=>b < w.heap.size∧B≤b∧S b≠none) w A l∧∀ s ∈ l,s.size≤9223372036854775807:=
 Sl.list (enc:=Value.string) (P:=fun s=>s.size≤9223372036854775807) (k:=.str) rfl (fun v hv=>hv) hs h
theorem Sl.shorts (hs:Sl S .short n (vS A n c)) (h:TW B S w):∃ l:List ByteArray,l.length=n∧ListIn Value.string (fun b=>b < w.heap.size∧B≤b∧S b≠none) w A l∧∀ s ∈ l,s.size≤24:=
 Sl.list (enc:=Value.string) (P:=fun s=>s.size≤24) (k:=.short) rfl (fun v hv=>hv) hs h
theorem Sl.ints (hs:Sl S .int n (vS A n c)) (h:TW B S w):∃ l:List Int,l.length=n∧ListIn iv (fun b=>b < w.heap.size∧B≤b∧S b≠none) w A l:=by
 obtain⟨l,h1,h2,_⟩:=Sl.list (enc:=iv) (P:=fun _=>True) (k:=.int) rfl (fun v hv=>by obtain⟨s,e⟩:=hv;exact⟨s,e,trivial⟩) hs h;exact⟨l,h1,h2⟩
theorem Sl.nats (hs:Sl S .nat n (vS A n c)) (h:TW B S w):∃ l:List Int,l.length=n∧ListIn natv (fun b=>b < w.heap.size∧B≤b∧S b≠none) w A l:=by
 obtain⟨l,h1,h2,_⟩:=Sl.list (enc:=natv) (P:=fun _=>True) (k:=.nat) rfl (fun v hv=>by obtain⟨s,e⟩:=hv;exact⟨s,e,trivial⟩) hs h;exact⟨l,h1,h2⟩
theorem Sl.bools (hs:Sl S .bool n (vS A n c)) (h:TW B S w):∃ l:List Bool,l.length=n∧ListIn Value.bool (fun b=>b < w.heap.size∧B≤b∧S b≠none) w A l:=by
 obtain⟨l,h1,h2,_⟩:=Sl.list (enc:=Value.bool) (P:=fun _=>True) (k:=.bool) rfl (fun v hv=>by obtain⟨s,e⟩:=hv;exact⟨s,e,trivial⟩) hs h;exact⟨l,h1,h2⟩
theorem Sl.con (hs:Sl S .con n (vS A n c)) (h:TW B S w) (hi:i < n):∃ (b:Nat) (s:ByteArray) (D:Option Addr) (m d:Nat) (x2 x3 x4 x5 x6 x7 x8:Int),A=some ⟨b,0,none⟩∧b < w.heap.size∧B≤b∧S b≠none∧s.size≤24∧Sl S .str m (vS D m d)∧
  w.cell? ⟨b,i * 9,none⟩=some (vT s)∧w.cell? ⟨b,i * 9+1,none⟩=some (vS D m d)∧w.cell? ⟨b,i * 9+2,none⟩=some (vI kI x2)∧w.cell? ⟨b,i * 9+3,none⟩=some (vI kI x3)∧w.cell? ⟨b,i * 9+4,none⟩=some (vI kI x4)∧
  w.cell? ⟨b,i * 9+5,none⟩=some (vI kI x5)∧w.cell? ⟨b,i * 9+6,none⟩=some (vI kI x6)∧w.cell? ⟨b,i * 9+7,none⟩=some (vI kI x7)∧w.cell? ⟨b,i * 9+8,none⟩=some (vI kI x8):=by
 obtain⟨b,e,hb,hB,hS,hc⟩:=hs.at_ h hi;obtain⟨_,a0,s,rfl,hsz⟩:=hc 0 (by decide);obtain⟨_,a1,m,D,d,rfl,q⟩:=hc 1 (by decide);obtain⟨_,a2,x2,rfl⟩:=hc 2 (by decide);obtain⟨_,a3,x3,rfl⟩:=hc 3 (by decide);obtain⟨_,a4,x4,rfl⟩:=hc 4 (by decide);obtain⟨_,a5,x5,rfl⟩:=hc 5 (by decide);obtain⟨_,a6,x6,rfl⟩:=hc 6 (by decide);obtain⟨_,a7,x7,rfl⟩:=hc 7 (by decide);obtain⟨_,a8,x8,rfl⟩:=hc 8 (by decide);exact⟨b,s,D,m,d,x2,x3,x4,x5,x6,x7,x8,e,hb,hB,by rw[hS];simp,hsz,⟨D,d,rfl,q⟩,a0,a1,a2,a3,a4,a5,a6,a7,a8⟩
theorem Sl.sty (hs:Sl S .sty n (vS A n c)) (h:TW B S w) (hi:i < n):∃ (b:Nat) (s:ByteArray) (D:Option Addr) (m d:Nat) (E:Option Addr) (q e:Nat),A=some ⟨b,0,none⟩∧b < w.heap.size∧B≤b∧S b=some (.sty,c)∧s.size≤9223372036854775807∧Sl S .int m (vS D m d)∧Sl S .int q (vS E q e)∧
  w.cell? ⟨b,i * 3,none⟩=some (vT s)∧w.cell? ⟨b,i * 3+1,none⟩=some (vS D m d)∧w.cell? ⟨b,i * 3+2,none⟩=some (vS E q e):=by
 obtain⟨b,e,hb,hB,hS,hc⟩:=hs.at_ h hi;obtain⟨_,a0,s,rfl,hsz⟩:=hc 0 (by decide);obtain⟨_,a1,m,D,d,rfl,q⟩:=hc 1 (by decide);obtain⟨_,a2,m2,D2,d2,rfl,q2⟩:=hc 2 (by decide);exact⟨b,s,D,m,d,D2,m2,d2,e,hb,hB,hS,hsz,⟨D,d,rfl,q⟩,⟨D2,d2,rfl,q2⟩,a0,a1,a2⟩
theorem Sl.fld (hs:Sl S .fld n (vS A n c)) (h:TW B S w) (hi:i < n):∃ (b:Nat) (s:ByteArray) (D:Option Addr) (m d:Nat) (x:Int),A=some ⟨b,0,none⟩∧b < w.heap.size∧B≤b∧S b≠none∧s.size≤24∧Sl S .str m (vS D m d)∧
  w.cell? ⟨b,i * 3,none⟩=some (vT s)∧w.cell? ⟨b,i * 3+1,none⟩=some (vS D m d)∧w.cell? ⟨b,i * 3+2,none⟩=some (vI kI x):=by
 obtain⟨b,e,hb,hB,hS,hc⟩:=hs.at_ h hi;obtain⟨_,a0,s,rfl,hsz⟩:=hc 0 (by decide);obtain⟨_,a1,m,D,d,rfl,q⟩:=hc 1 (by decide);obtain⟨_,a2,x,rfl⟩:=hc 2 (by decide);exact⟨b,s,D,m,d,x,e,hb,hB,by rw[hS];simp,hsz,⟨D,d,rfl,q⟩,a0,a1,a2⟩
theorem Sl.blk (hs:Sl S .blk n (vS A n c)) (h:TW B S w) (hi:i < n):∃ (b:Nat) (s t:ByteArray) (D:Option Addr) (m d:Nat) (x:Int),A=some ⟨b,0,none⟩∧b < w.heap.size∧B≤b∧S b≠none∧s.size≤24∧t.size≤9223372036854775807∧Sl S .fld m (vS D m d)∧
  w.cell? ⟨b,i * 4,none⟩=some (vT s)∧w.cell? ⟨b,i * 4+1,none⟩=some (vT t)∧w.cell? ⟨b,i * 4+2,none⟩=some (vS D m d)∧w.cell? ⟨b,i * 4+3,none⟩=some (vI kI x):=by
 obtain⟨b,e,hb,hB,hS,hc⟩:=hs.at_ h hi;obtain⟨_,a0,s,rfl,hsz⟩:=hc 0 (by decide);obtain⟨_,a1,t,rfl,htz⟩:=hc 1 (by decide);obtain⟨_,a2,m,D,d,rfl,q⟩:=hc 2 (by decide);obtain⟨_,a3,x,rfl⟩:=hc 3 (by decide);exact⟨b,s,t,D,m,d,x,e,hb,hB,by rw[hS];simp,hsz,htz,⟨D,d,rfl,q⟩,a0,a1,a2,a3⟩
theorem Sl.lin (hs:Sl S .lin n (vS A n c)) (h:TW B S w) (hi:i < n):∃ (b:Nat) (x y:Int),A=some ⟨b,0,none⟩∧b < w.heap.size∧B≤b∧S b≠none∧w.cell? ⟨b,i * 2,none⟩=some (vI kI x)∧w.cell? ⟨b,i * 2+1,none⟩=some (vI kI y):=by
 obtain⟨b,e,hb,hB,hS,hc⟩:=hs.at_ h hi;obtain⟨_,a0,x,rfl⟩:=hc 0 (by decide);obtain⟨_,a1,y,rfl⟩:=hc 1 (by decide);exact⟨b,x,y,e,hb,hB,by rw[hS];simp,a0,a1⟩
theorem Sl.nam (hs:Sl S .nam n (vS A n c)) (h:TW B S w) (hi:i < n):∃ (b:Nat) (D:Option Addr) (m d:Nat) (E:Option Addr) (q e:Nat),A=some ⟨b,0,none⟩∧b < w.heap.size∧B≤b∧S b≠none∧Sl S .str m (vS D m d)∧Sl S .str q (vS E q e)∧w.cell? ⟨b,i * 2,none⟩=some (vS D m d)∧w.cell? ⟨b,i * 2+1,none⟩=some (vS E q e):=by
 obtain⟨b,e,hb,hB,hS,hc⟩:=hs.at_ h hi;obtain⟨_,a0,m,D,d,rfl,q⟩:=hc 0 (by decide);obtain⟨_,a1,m2,D2,d2,rfl,q2⟩:=hc 1 (by decide);exact⟨b,D,m,d,D2,m2,d2,e,hb,hB,by rw[hS];simp,⟨D,d,rfl,q⟩,⟨D2,d2,rfl,q2⟩,a0,a1⟩
end
end
section
theorem run_append_none0 (w:World) (t ty e:TypeId) (i:TypeInfo) (ht:pG.underlying t=some (.slice e)) (hi:pG.info? e=some i) (A:Option Addr) (c:Nat) :
  (Builtin.append_ #[t,t] ty #[vS none 0 0,vS A 0 c]).run pG w=.ok (vS none 0 0) w:=by
 cases A with
 |none=>simp[Builtin.append_,run_underlying ht,sizeOf,typeInfo,hi,Builtin.lenOf,Builtin.firstCells]
 |some a=>simp[Builtin.append_,run_underlying ht,sizeOf,typeInfo,hi,Builtin.lenOf,Builtin.firstCells,loadCells,loadCellsFrom]
set_option maxRecDepth 100000
theorem copy_strs {w:World}{l:List ByteArray}{A:Option Addr}{c:Nat}(h:Strs w A l) (hm:l.length≤1000) (ot:TypeId) :
  ∃ A' c' w',(Builtin.append_ #[22,22] ot #[vS none 0 0,vS A l.length c]).run pG w=.ok (vS A' l.length c') w'∧Below w.heap.size w w'∧ListIn Value.string (fun b=>w.heap.size≤b∧b < w'.heap.size) w' A' l∧
   ∀ (M:Nat→Prop) (B:Nat) (S:Ty) (k:Kd),k.tag=9→k.len=1→TC S k (l.map Value.string)→TW B S w→B≤w.heap.size→∃ T,Stp M B S w T w'∧Sl T k l.length (vS A' l.length c'):=by
 obtain⟨i,z,hi,hz,hsz,hby,hzs,htz⟩:=kinfo .str;have hi':pG.info? 9=some i:=hi;rcases Nat.eq_zero_or_pos l.length with h0|h0
 ·obtain rfl:l=[]:=List.length_eq_zero_iff.1 h0;exact⟨none,0,w,run_append_none0 w 22 ot 9 i Tryz.underlying22 hi' A c,bR _ _,ListIn.nil _ _ _ _,fun M B S k _ _ _ hTW _=>⟨S,Stp.refl hTW,Sl.nil _ _⟩⟩
 ·obtain⟨b,off,rfl,hb,hc⟩:=h h0;have hnews:∀ j v,(l.map Value.string)[j]? = some v→w.cell? ((⟨b,off,none⟩:Addr).add j)=some v:=fun j v e=>by rw[List.getElem?_map]at e;obtain⟨s,h1,h2⟩:=Option.map_eq_some_iff.1 e;have hj:j < l.length:=(List.getElem?_eq_some_iff.1 h1).1;rw[add_off,hc j hj,List.getD_eq_getElem?_getD,h1,← h2];rfl
  have hr:=run_append_nil (P:=pG) w 22 ot 9 i z Tryz.underlying22 hi' hz ⟨b,off,none⟩ l.length c (l.map Value.string) (by rw[List.length_map,hsz];exact(Nat.mul_one _).symm) hnews h0 (by omega) (lT (Nat.mul_le_mul hm hby) (by decide));obtain⟨C,hC⟩:∃ C,grownCap w l.length 0 9=C:=⟨_,rfl⟩;have hge:=grownCap_ge w l.length 0 9;have hcm:=grownCap_le_maxLen w l.length 0 9 (by unfold maxLen;omega);rw[hC]at hr hge hcm;have hd1:Below w.heap.size w w.drew:=below_drew (bR _ _) 1;have hbl:Below w.heap.size w (w.drew.alloc (.cells ((l.map Value.string).toArray ++ Builtin.zeroCells z.cells (C - l.length)) 9)):=hd1.alloc (lR _) _;have hbx:Box (w.drew.alloc (.cells ((l.map Value.string).toArray ++ Builtin.zeroCells z.cells (C - l.length)) 9)) w.heap.size 9 ((l.map Value.string).toArray ++ Builtin.zeroCells z.cells (C - l.length)):=Box.new _ _ _;refine⟨_,_,_,hr,hbl,fun _=>⟨w.heap.size,0,rfl,⟨lR _,by simp⟩,fun j hj=>?_⟩,fun M B S k hk hk1 hT hTW hB=>?_⟩
  ·rw[hbx.cell,Nat.zero_add,Array.getElem?_append_left (by simpa using hj),List.getElem?_toArray,List.getElem?_map,List.getElem?_eq_getElem hj,List.getD_eq_getElem?_getD,List.getElem?_eq_getElem hj];rfl
  ·obtain⟨i2,z2,hi2,hz2,_,_,hzs2,htz2⟩:=kinfo k;rw[hk,hi']at hi2;injection hi2 with hi2;subst hi2;rw[hz]at hz2;injection hz2 with hz2;subst hz2;have hcs:((l.map Value.string).toArray ++ Builtin.zeroCells z.cells (C - l.length)).size=C * k.len:=by rw[Array.size_append,List.size_toArray,List.length_map,size_zeroCells,hzs2,hk1];omega
   have htc:TC S k ((l.map Value.string).toArray ++ Builtin.zeroCells z.cells (C - l.length)).toList:=by rw[Array.toList_append];exact TC.append (n:=l.length) hT (by rw[hk1,Nat.mul_one];exact List.length_map ..) (TC.zeros hzs2 (htz2 S) _)
   have hst:Stp M B S w S w.drew:=Stp.of_below hTW hd1;have hx2:Stp M B S w.drew (S.add w.heap.size k C) (w.drew.alloc (.cells ((l.map Value.string).toArray ++ Builtin.zeroCells z.cells (C - l.length)) k.tag)):=Stp.alloc (hTW.below hd1) hB hcs htc;rw[hk]at hx2;exact⟨_,hst.trans hx2,⟨_,_,rfl,hm,hge,hcm,.inr ⟨_,rfl,Ty.add_new _ _ _ _⟩⟩⟩
set_option maxRecDepth 512
theorem TC.strs {S:Ty}{l:List ByteArray}(h:∀ s ∈ l,s.size≤big):TC S .str (l.map Value.string):=fun i v e=>by
 rw[List.getElem?_map]at e;obtain⟨s,h1,h2⟩:=Option.map_eq_some_iff.1 e;rw[show i % Kd.len .str=0 from Nat.mod_one i];exact⟨s,h2.symm,h s (List.mem_of_getElem? h1)⟩
theorem TC.shorts {S:Ty}{l:List ByteArray}(h:∀ s ∈ l,s.size≤24):TC S .short (l.map Value.string):=fun i v e=>by
 rw[List.getElem?_map]at e;obtain⟨s,h1,h2⟩:=Option.map_eq_some_iff.1 e;rw[show i % Kd.len .short=0 from Nat.mod_one i];exact⟨s,h2.symm,h s (List.mem_of_getElem? h1)⟩
def Names (g B:Nat) (S:Ty) (w w':World) (n:Nat) (v:Value):Prop:=(∃ T,Stp (fun i=>i=g) B S w T w'∧Sl T .str n v)∧((∃ c1,St w' g c1 0)→∃ T,Stp (fun i=>i=g) B S w T w'∧Sl T .short n v)
set_option maxHeartbeats 4000000
set_option maxRecDepth 100000
theorem list_any {w:World}{g B:Nat}{S:Ty}{cs:Array Value}{e x most:Int}{key:ByteArray}{A:Option Addr}{l:List ByteArray}{c:Nat}(h:St w g cs e) (hl:Lst g w A l) (hz:∀ s ∈ l,s.size≤big) (hm:l.length≤1000) (hc:l.length≤c) (hT:TW B S w) (hB:B≤w.heap.size) (hg:S g=none) :
  Calls pG 80 #[vP (some ⟨g,0,none⟩),.agg #[vT key,vS A l.length c,vI kI x],vI kI most] w fun en w'=>∃ A' c',en=.returned (vS A' l.length c')∧Aft w g cs e w'∧Names g B S w w' l.length (vS A' l.length c'):=by
 obtain⟨w1,hw1⟩:∃ q,w.alloc (.cells #[vT key,vS A l.length c,vI kI x] 89)=q:=⟨_,rfl⟩;have hb1:Below w.heap.size w w1:=by rw[← hw1];exact(bR _ _).alloc (lR _) _
 have hx1:Box w1 w.heap.size 89 #[vT key,vS A l.length c,vI kI x]:=by rw[← hw1];exact Box.new _ _ _
 have HA:=hide (Aft.of_below h hb1);have HS:=hide (h.below hb1);have HL:=hide (hl.below hb1);have HX1:=hide hx1;have HW1:=hide hw1;have HZ:=hide hz;have HG:=hide h.lt;have fin:∀ wr,Aft w g cs e wr→((∃ c1,St wr g c1 0)→∀ s ∈ l,s.size≤24)→∃ A' c' w',(Builtin.append_ #[22,22] 22 #[vS none 0 0,vS A l.length c]).run pG wr=.ok (vS A' l.length c') w'∧Aft w g cs e w'∧Names g B S w w' l.length (vS A' l.length c'):=fun wr hA hsh=>by
  obtain⟨A',c',w',hr,hb,hli,hk⟩:=copy_strs (c:=c) (hl.grown hA.grown).strs hm 22;have hTr:TW B S wr:=hT.grown hA.grown (fun b e=>by injection e with e;rw[← e];exact hg);have hst:Stp (fun i=>i=g) B S w S wr:=Stp.wrote hT hg rfl hA.grown;have hBr:B≤wr.heap.size:=lT hB hA.grown.size;refine⟨A',c',w',hr,hA.then hb,?_,fun hq=>?_⟩
  ·obtain⟨T,h1,h2⟩:=hk (fun i=>i=g) B S .str rfl rfl (TC.strs hz) hTr hBr;exact⟨T,hst.trans h1,h2⟩
  ·obtain⟨c1,hc1⟩:=hq;have hs:∃ c1,St wr g c1 0:=by obtain⟨cs',e',k1,_⟩:=hA;obtain⟨_,rfl⟩:=hc1.uniq (k1.below hb);exact⟨cs',k1⟩
   obtain⟨T,h1,h2⟩:=hk (fun i=>i=g) B S .short rfl rfl (TC.shorts (hsh hs)) hTr hBr;exact⟨T,hst.trans h1,h2⟩
 have HFin:=hide fin;clear h hl hz hb1 hx1 hw1 hT hB hg fin;have c1:=HX1.out.cell 1;have c2:=HX1.out.cell 2;simp at c1 c2;go_enter Tryz.func80,Tryz.ntmps80;go_upto_region 1 with (fail);rw[HW1.out];go_upto_if 11 with fail;go_cut [] (fun wx=>Hid (Aft w1 g cs e wx));case first=>
  by_cases h0:l.length=0
  ·have h0':((l.length:Int)==0)=true:=beq_iff_eq.2 (by omega);have HF:=hide (fun n=>failA_any (n:=7) (l:=n) HS.out (by decide));clear h0;go_wp2_with fail;refine(HF.out _).mono ?_;rintro en w2 ⟨rfl,hA2,_⟩;have HA2:=hide hA2;clear hA2;go_wp2_with fail;go_meet;exact HA2.out
  ·have h0':((l.length:Int)==0)=false:=bN (by omega);clear h0;go_wp2_with fail;go_meet;exact Aft.refl HS.out
 case rest=>
  have HA2:Hid (Aft w1 g cs e wc):=hcut;clear hcut c1 c2;have hgq:g≠w.heap.size:=by have:=HG.out;omega
  go_wp2_with fail;go_loopw [7,31,39,51] (fun i _ _ _ wr=>∃ k:Nat,k≤l.length∧i=vI kI k∧Hid (Aft w1 g cs e wr)∧Hid ((∃ c1,St wr g c1 0)→∀ j,j < k→(l.getD j default).size≤24)) (fun i _ _ _ _=>l.length - (iOf i).toNat);case atStart=>exact⟨0,zL _,rfl,HA2.out,fun _ j hj=>by omega⟩
  case round=>
   obtain⟨k,hk,rfl,HAr,HSh⟩:=hrel;have hxr:=HX1.out.grown HAr.out.grown (by simp;exact Ne.symm hgq);have HXr:=hide hxr;have c1:=hxr.cell 1;have c2:=hxr.cell 2;simp at c1 c2;have hltr:=hxr.lt;obtain⟨cr,er,hSr⟩:=HAr.out.st;have HSr:=hide hSr;have c17:=hSr.cell17;have hgr:=hSr.lt;have HF:=hide (fun (n l:Int) (hn:n≠0)=>failA_any (n:=n) (l:=l) hSr hn);have HLr:=hide (HL.out.grown HAr.out.grown);clear hxr hSr;have out:(er≠0∨k=l.length)→∃ A' c' w',(Builtin.append_ #[22,22] 22 #[vS none 0 0,vS A l.length c]).run pG wr=.ok (vS A' l.length c') w'∧Aft w g cs e w'∧Names g B S w w' l.length (vS A' l.length c'):=fun hq=>HFin.out wr (HA.out.next HS.out HAr.out) fun hok s hs=>by
    rcases hq with hq|hq
    ·obtain⟨c1,hc1⟩:=hok;exact absurd (HSr.out.uniq hc1).2 hq
    ·obtain⟨j,hj,rfl⟩:=List.getElem_of_mem hs;have:=HSh.out hok j (by omega);rwa [List.getD_eq_getElem?_getD,List.getElem?_eq_getElem hj]at this
   have HOut:=hide out;clear out;by_cases hlt:k < l.length
   ·have hlti:(k:Int) < (l.length:Int):=by omega
    by_cases h0:er=0
    ·subst h0;by_cases hmo:most≤(k:Int)
     ·go_wp2_with fail;refine(HF.out _ _ (by decide)).mono ?_;rintro en w2 ⟨rfl,hA2,hno⟩;have HA3:=hide (HAr.out.next HSr.out hA2);have HN3:Hid (¬ ∃ c1,St w2 g c1 0):=fun ⟨c1,q⟩=>hno c1 q;clear hA2 hno;go_wp2_with fail;go_roundw;case rel=>exact⟨k+1,by omega,by go_num,HA3.out,fun q=>absurd q HN3.out⟩
      case measure=>simp[iOf];omega
     ·obtain⟨b,off,hA0,hb,h3⟩:=HLr.out.at_ hlt;subst hA0;have hb:=hb.1;have HFi:=hide (fun wq s (hq:Drew wr wq)=>find_any (c:=c) (s:=s) (l:=l.take k) (w:=wq) ((HLr.out.strs.take k).below hq.below) (by rw[List.length_take];omega));have hlen:(l.take k).length=k:=by rw[List.length_take];omega
      rw[hlen]at HFi;have HNx:Hid ((l.getD k default).size≤24→(∃ c1,St wr g c1 0)→∀ j,j < k+1→(l.getD j default).size≤24):=fun h1 h2 j hj=>by
       by_cases ej:j=k
       ·rw[ej];exact h1
       ·exact HSh.out h2 j (by omega)
      generalize l.getD k default=s at *;have HNm:=hide (fun wq=>name8_any (s:=s) (w:=wq));clear hlen;go_wp2_with fail;refine(HNm.out _).mono ?_;rintro en w2 ⟨v,rfl,⟨bb,rfl,hbb⟩,rfl⟩;cases bb with
      |false=>
       go_wp2_with fail;refine(HF.out _ _ (by decide)).mono ?_;rintro en w2 ⟨rfl,hA2,hno⟩;have HA3:=hide (HAr.out.next HSr.out hA2);have HN3:Hid (¬ ∃ c1,St w2 g c1 0):=fun ⟨c1,q⟩=>hno c1 q;clear hA2 hno;go_wp2_with fail;go_roundw;case rel=>exact⟨k+1,by omega,by go_num,HA3.out,fun q=>absurd q HN3.out⟩
       case measure=>simp[iOf];omega
      |true=>
       have HN4:=hide (HNx.out (hbb rfl));clear hbb;have hki:(k:Int)≤(c:Int):=by omega
       go_wp2_with fail;go_region_held3 (fun v=>v.cell? ⟨w.heap.size,1,none⟩=some (vS (some ⟨b,off,none⟩) l.length c)∧v.cell? ⟨b,off+k,none⟩=some (vT s))
        (go_keep)
        ((go_at_call 38;refine(HFi.out _ s ((Drew.refl _).drew 1)).mono ?_;rintro en w5 ⟨rfl,hw5⟩))
       all_goals
        generalize posS (l.take k) s=r at *
        have HSd:=hide (HSr.out.below (below_drew (bR _ _) 1))
        have HAd:=hide (HAr.out.then (below_drew (bR _ _) 1))
        have HFd:=hide (fun (n l:Int) (hn:n≠0)=>failA_any (n:=n) (l:=l) HSd.out hn)
        have HN5:Hid ((∃ c1,St (w2.drewN 1) g c1 0)→∀ j,j < k+1→(l.getD j default).size≤24):=fun ⟨c1,q⟩=>HN4.out ⟨c1,⟨q.box,q.size,q.c17,q.c18⟩⟩
        have c1:=(HXr.out.drewN 1).cell 1
        have c2:=(HXr.out.drewN 1).cell 2
        simp at c1 c2
        by_cases hr0:0≤r
        ·go_wp2_with fail;refine(HFd.out _ _ (by decide)).mono ?_;rintro en w6 ⟨rfl,hA6,hno⟩;have HA6:=hide (HAd.out.next HSd.out hA6);have HN6:Hid (¬ ∃ c1,St w6 g c1 0):=fun ⟨c1,q⟩=>hno c1 q;clear hA6 hno;go_wp2_with fail;go_roundw;case rel=>exact⟨k+1,by omega,by go_num,HA6.out,fun q=>absurd q HN6.out⟩
         case measure=>simp[iOf];omega
        ·go_wp2_with fail;go_roundw;case rel=>exact⟨k+1,by omega,by go_num,HAd.out,HN5.out⟩
         case measure=>simp[iOf];omega
    ·have h0':(er==0)=false:=bN h0;obtain⟨A4,c4,w4,hr4,hA4,hN4⟩:=HOut.out (.inl h0);have HR4:=hide hr4;have HA4:=hide hA4;have HN4:=hide hN4;clear hr4 hA4 hN4 h0;go_wp2_with ((with_reducible refine gV 69 (Value.slice A4 l.length c4) w4 ?_ ?_ ?_);rfl;exact gives_append rfl rfl rfl HR4.out);go_ret;exact⟨A4,c4,rfl,HA4.out,HN4.out⟩
   ·obtain rfl:k=l.length:=by omega
    obtain⟨A4,c4,w4,hr4,hA4,hN4⟩:=HOut.out (.inr rfl);have HR4:=hide hr4;have HA4:=hide hA4;have HN4:=hide hN4;clear hr4 hA4 hN4;go_wp2_with ((with_reducible refine gV 69 (Value.slice A4 l.length c4) w4 ?_ ?_ ?_);rfl;exact gives_append rfl rfl rfl HR4.out);go_ret;exact⟨A4,c4,rfl,HA4.out,HN4.out⟩
end
section
def RatV (lo:Nat) (w:World) (v:Value):Prop:=v=.agg #[vB false,vS none 0 0,vS none 0 0]∨∃ (neg:Bool) (b1 n1 b2 n2:Nat),v=.agg #[.bool neg,vS (some ⟨b1,0,none⟩) n1 n1,vS (some ⟨b2,0,none⟩) n2 n2]∧lo≤b1∧b1 < b2∧n1≤100∧n2≤100∧NatBox w b1 n1∧NatBox w b2 n2
theorem RatV.lower {lo lo':Nat}{w:World}{v:Value}(h:RatV lo w v) (hl:lo'≤lo):RatV lo' w v:=by
 rcases h with h|⟨neg,b1,n1,b2,n2,h1,h2,h3⟩
 ·exact .inl h
 ·exact .inr ⟨neg,b1,n1,b2,n2,h1,by omega,h3⟩
theorem oneRat {v0 v1 v2:Value}(h0:v0.oneCell'=true) (h1:v1.oneCell'=true) (h2:v2.oneCell'=true):OneC #[v0,v1,v2]:=oneR h0 h1 h2
theorem NatBox.grown {w w':World}{b n:Nat}{r:Option Nat}(h:NatBox w b n) (hb:w.grownBy w' r) (hr:some b≠r):NatBox w' b n:=by
 obtain⟨cs,hx,q⟩:=h;exact⟨cs,hx.grown hb hr,q⟩
theorem storeRat {lo g q:Nat}{cs cs0:Array Value}{e:Int}{w0 w:World}{v:Value}(hA:Aft w0 g cs0 e w) (hx:Box w q 28 cs) (hs:cs.size=3) (hgq:g≠q) (hq:w0.heap.size≤q) (hlo:q < lo) (h:RatV lo w v) :
  ∃ w',(storeVar 28 ⟨q,0,none⟩ v).run pG w=.ok () w'∧(loadVar 28 ⟨q,0,none⟩).run pG w'=.ok v w'∧RatV lo w' v∧Aft w0 g cs0 e w':=by
 have key:∀ (neg:Bool) (x y:Value),v=.agg #[.bool neg,x,y]→x.oneCell'=true→y.oneCell'=true→∃ w',(storeVar 28 ⟨q,0,none⟩ v).run pG w=.ok () w'∧(loadVar 28 ⟨q,0,none⟩).run pG w'=.ok v w'∧w.grownBy w' (some q):=fun neg x y hv h1 h2=>by subst hv;obtain⟨w',hst,hx',hgr⟩:=box_store (cs':=#[.bool neg,x,y]) aggRatio hx hs rfl (oneRat rfl h1 h2);exact⟨w',hst,box_load aggRatio hx' rfl,hgr⟩
 have aft:∀ w',w.grownBy w' (some q)→Aft w0 g cs0 e w':=fun w' hgr=>by obtain⟨cs',e',h1,h2,h3,h4⟩:=hA;refine⟨cs',e',⟨h1.box.grown hgr (by simp[hgq]),h1.size,h1.c17,h1.c18⟩,h2,h3,⟨hgr.os.trans h4.os,hgr.tape.trans h4.tape,hgr.output.trans h4.output,lT h4.size hgr.size,fun k hk hne=>?_⟩⟩;exact(hgr.block k (lL hk h4.size) (fun e=>by injection e with e;omega)).trans (h4.block k hk hne)
 rcases h with hv|⟨neg,b1,n1,b2,n2,hv,h1,h2,h3,h4,h5,h6⟩
 ·obtain⟨w',a1,a2,a3⟩:=key _ _ _ hv rfl rfl;exact⟨w',a1,a2,.inl hv,aft w' a3⟩
 ·obtain⟨w',a1,a2,a3⟩:=key _ _ _ hv rfl rfl;exact⟨w',a1,a2,.inr ⟨neg,b1,n1,b2,n2,hv,h1,h2,h3,h4,h5.grown a3 (by simp;omega),h6.grown a3 (by simp;omega)⟩,aft w' a3⟩
set_option maxHeartbeats 4000000
set_option maxRecDepth 100000
theorem risk_any {w:World}{g:Nat}{cs:Array Value}{e x:Int}{key:ByteArray}{A:Option Addr}{l:List ByteArray}{c:Nat}(h:St w g cs e) (hl:Lst g w A l) (hz:∀ s ∈ l,s.size≤big) :
  Calls pG 103 #[vP (some ⟨g,0,none⟩),.agg #[vT key,vS A l.length c,vI kI x]] w fun en w'=>∃ v,en=.returned v∧RatV w.heap.size w' v∧Aft w g cs e w':=by
 obtain⟨w1,hw1⟩:∃ q,(w.alloc (.cells #[vT key,vS A l.length c,vI kI x] 89)).alloc (.cells #[vB false,vS none 0 0,vS none 0 0] 28)=q:=⟨_,rfl⟩;have hb1:Below w.heap.size w w1:=by rw[← hw1];exact((bR _ _).alloc (lR _) _).alloc (by simp) _
 have hx1:Box w1 w.heap.size 89 #[vT key,vS A l.length c,vI kI x]:=by rw[← hw1];exact(Box.new _ _ _).alloc _
 have hr1:Box w1 (w.heap.size+1) 28 #[vB false,vS none 0 0,vS none 0 0]:=by rw[← hw1];have:=Box.new (w.alloc (.cells #[vT key,vS A l.length c,vI kI x] 89)) 28 #[vB false,vS none 0 0,vS none 0 0];rwa [World.size_alloc]at this
 have hs1:w1.heap.size=w.heap.size+2:=by rw[← hw1];simp
 have HV:=hide (value_any (key:=key) (x:=x) (c:=c) (h.below hb1) (hl.below hb1) hz);have HA:=hide (Aft.of_below h hb1);have HS:=hide (h.below hb1);have HX1:=hide hx1;have HR1:=hide hr1;have HS1:=hide hs1;have HLd:=hide (box_load aggField hx1 rfl);have HW1:=hide hw1;have HG:=hide h.lt;clear h hl hz hb1 hx1 hr1 hs1 hw1;go_enter Tryz.func103,Tryz.ntmps103;go_upto_region 1 with (fail);rw[HW1.out];go_wp2_with ((with_reducible refine gV 12 (.agg #[vT key,vS A l.length c,vI kI x]) w1 ?_ ?_ ?_);rfl;exact gives_load rfl rfl HLd.out);refine HV.out.mono ?_;rintro en w2 ⟨s,rfl,hs,hA2⟩;have HX2:=hide (HX1.out.grown hA2.grown (by simp;have:=HG.out;omega));have HR2:=hide (HR1.out.grown hA2.grown (by simp;have:=HG.out;omega));have c2:=HX2.out.cell 2;simp at c2;have hlt2:=HX2.out.lt;have HA2:=hide (HA.out.next HS.out hA2);have HZ:=hide hs;have HSz:Hid (w.heap.size+2≤w2.heap.size):=by rw[Hid,← HS1.out];exact hA2.grown.size
 clear hA2;obtain⟨cs2,e2,hS2⟩:=HA2.out.st;have HF:=hide (fun (n l:Int) (hn:n≠0)=>failA_any (n:=n) (l:=l) hS2 hn);have HS2:=hide hS2;clear hS2;unfold big at hs;have zero:∀ w3,Aft w2 g cs2 e2 w3→∃ w',(storeVar 28 ⟨w.heap.size+1,0,none⟩ (.agg #[vB false,vS none 0 0,vS none 0 0])).run pG w3=.ok () w'∧(loadVar 28 ⟨w.heap.size+1,0,none⟩).run pG w'=.ok (.agg #[vB false,vS none 0 0,vS none 0 0]) w'∧Aft w g cs e w':=fun w3 h3=>by obtain⟨w',a1,a2,_,a4⟩:=storeRat (lo:=w.heap.size+2) (HA2.out.next HS2.out h3) (HR2.out.grown h3.grown (by simp;have:=HG.out;omega)) rfl (by have:=HG.out;omega) (by omega) (by omega) (.inl rfl);exact⟨w',a1,a2,a4⟩
 have HZe:=hide zero;clear zero;go_wp2_with fail;go_loopw [6,7,8,9,10] (fun i _ _ _ _ wr=>∃ k:Nat,k≤s.size∧i=vI kI k∧wr=w2) (fun i _ _ _ _ _=>s.size - (iOf i).toNat);case atStart=>exact⟨0,zL _,rfl,rfl⟩
 case round=>
  obtain⟨k,hk,rfl,rfl⟩:=hrel;by_cases hlt:k < s.size
  ·by_cases h47:(s[k]'hlt).toNat=47
   ·have h47':((s[k]'hlt).toNat:Int)=47:=by omega
    clear h47;have HN1:=hide (fun wq=>number8_any (s:=s.extract 0 k) (w:=wq) (by rw[ByteArray.size_extract];omega));have HN2:=hide (fun (t:ByteArray) (ht:t.size≤9223372036854775807) wq=>number8_any (s:=t) (w:=wq) ht);generalize (numV (s.extract 0 k)).2=ok1 at *;go_wp2_with fail;refine(HN1.out _).mono ?_;rintro en w3 ⟨a,rfl,ha,rfl⟩;have HAa:=hide ha;clear ha HN1;go_wp2_with fail;refine(HN2.out _ (by rw[ByteArray.size_extract];omega) _).mono ?_;rintro en w3 ⟨b,rfl,hb,rfl⟩;have HBb:=hide hb;clear hb HN2;generalize (numV _).2=ok2 at *;cases ok1 with
    |false=>go_wp2_with fail;refine(HF.out _ _ (by decide)).mono ?_;rintro en w3 ⟨rfl,hA3,_⟩;obtain⟨w4,a1,a2,a3⟩:=HZe.out w3 hA3;have HSt:=hide a1;have HLd4:=hide a2;have HA4:=hide a3;clear a1 a2 a3 hA3;go_wp2_with ((with_reducible refine dS w4 ?_ ?_ ?_);rfl;exact does_store rfl rfl rfl HSt.out);refine bodyPost_ret (v:=.agg #[vB false,vS none 0 0,vS none 0 0]) (by refine results_cell (p:=4) ?_ ?_ HLd4.out <;> rfl) rfl ?_;exact⟨_,rfl,.inl rfl,HA4.out⟩
    |true=>
     cases ok2 with
     |false=>go_wp2_with fail;refine(HF.out _ _ (by decide)).mono ?_;rintro en w3 ⟨rfl,hA3,_⟩;obtain⟨w4,a1,a2,a3⟩:=HZe.out w3 hA3;have HSt:=hide a1;have HLd4:=hide a2;have HA4:=hide a3;clear a1 a2 a3 hA3;go_wp2_with ((with_reducible refine dS w4 ?_ ?_ ?_);rfl;exact does_store rfl rfl rfl HSt.out);refine bodyPost_ret (v:=.agg #[vB false,vS none 0 0,vS none 0 0]) (by refine results_cell (p:=4) ?_ ?_ HLd4.out <;> rfl) rfl ?_;exact⟨_,rfl,.inl rfl,HA4.out⟩
     |true=>
      obtain⟨ha0,ha1⟩:=HAa.out rfl;obtain⟨hb0,hb1⟩:=HBb.out rfl;by_cases q0:b=0
      ·have q0':(b==0)=true:=beq_iff_eq.2 q0;go_wp2_with fail;refine(HF.out _ _ (by decide)).mono ?_;rintro en w3 ⟨rfl,hA3,_⟩;obtain⟨w4,a1,a2,a3⟩:=HZe.out w3 hA3;have HSt:=hide a1;have HLd4:=hide a2;have HA4:=hide a3;clear a1 a2 a3 hA3;go_wp2_with ((with_reducible refine dS w4 ?_ ?_ ?_);rfl;exact does_store rfl rfl rfl HSt.out);refine bodyPost_ret (v:=.agg #[vB false,vS none 0 0,vS none 0 0]) (by refine results_cell (p:=4) ?_ ?_ HLd4.out <;> rfl) rfl ?_;exact⟨_,rfl,.inl rfl,HA4.out⟩
      ·have q0':(b==0)=false:=bN q0;by_cases q1:1000 * a < b
       ·go_wp2_with fail;refine(HF.out _ _ (by decide)).mono ?_;rintro en w3 ⟨rfl,hA3,_⟩;obtain⟨w4,a1,a2,a3⟩:=HZe.out w3 hA3;have HSt:=hide a1;have HLd4:=hide a2;have HA4:=hide a3;clear a1 a2 a3 hA3;go_wp2_with ((with_reducible refine dS w4 ?_ ?_ ?_);rfl;exact does_store rfl rfl rfl HSt.out);refine bodyPost_ret (v:=.agg #[vB false,vS none 0 0,vS none 0 0]) (by refine results_cell (p:=4) ?_ ?_ HLd4.out <;> rfl) rfl ?_;exact⟨_,rfl,.inl rfl,HA4.out⟩
       ·by_cases q2:b < 2 * a
        ·go_wp2_with fail;refine(HF.out _ _ (by decide)).mono ?_;rintro en w3 ⟨rfl,hA3,_⟩;obtain⟨w4,a1,a2,a3⟩:=HZe.out w3 hA3;have HSt:=hide a1;have HLd4:=hide a2;have HA4:=hide a3;clear a1 a2 a3 hA3;go_wp2_with ((with_reducible refine dS w4 ?_ ?_ ?_);rfl;exact does_store rfl rfl rfl HSt.out);refine bodyPost_ret (v:=.agg #[vB false,vS none 0 0,vS none 0 0]) (by refine results_cell (p:=4) ?_ ?_ HLd4.out <;> rfl) rfl ?_;exact⟨_,rfl,.inl rfl,HA4.out⟩
        ·have HO:Hid (∀ (i:Int) (hi:0≤i) (wq:World),Calls pG 126 #[vI kI i] wq fun e w'=>∃ v,e=.returned v∧RV 64 wq.heap.size w' v∧Below wq.heap.size wq w'):=fun i hi wq=>by obtain⟨m,rfl⟩:∃ m:Nat,i=(m:Int):=⟨i.toNat,by omega⟩;exact of_any
         have HA0:=hide ha0;have HB0:=hide hb0;go_wp2_with fail;refine(HO.out a HA0.out _).mono ?_;rintro en w3 ⟨r3,rfl,hr3,hb3⟩;have HR3:=hide hr3;have HB3:=hide hb3;clear hr3 hb3;go_wp2_with fail;refine(HO.out b HB0.out _).mono ?_;rintro en w4 ⟨r4,rfl,hr4,hb4⟩;have HD:=hide (div_any ((HR3.out.kept hb4).lower (zL _)) (hr4.lower (zL _)));have HB4:=hide (below_then HB3.out hb4);clear hr4 hb4;go_wp2_with fail;refine HD.out.mono ?_;rintro en w5 ⟨r5,rfl,hr5,hb5⟩;have HT:=hide (toR_any (hr5.lower (zL _)));have HB5:=hide (below_then HB4.out hb5);clear hr5 hb5;go_wp2_with fail;refine HT.out.mono ?_;rintro en w6 ⟨neg,b1,n1,b2,n2,rfl,hb1,hb2,hn1,hn2,hx1,hx2,hb6⟩;have hB6:=below_then HB5.out hb6;have hs5:=HB5.out.size;obtain⟨w7,a1,a2,a3,a4⟩:=storeRat (lo:=w.heap.size+2) (HA2.out.next HS2.out (Aft.of_below HS2.out hB6)) (HR2.out.kept hB6) rfl (by have:=HG.out;omega) (by omega) (by omega) (.inr ⟨neg,b1,n1,b2,n2,rfl,by have:=HSz.out;omega,hb2,hn1,hn2,hx1,hx2⟩);have HSt:=hide a1;have HLd4:=hide a2;have HRv:=hide a3;have HA4:=hide a4;clear a1 a2 a3 a4 hb1 hb2 hn1 hn2 hx1 hx2 hb6 hB6 hs5;go_wp2_with ((with_reducible refine dS w7 ?_ ?_ ?_);rfl;exact does_store rfl rfl rfl HSt.out);refine bodyPost_ret (v:=.agg #[.bool neg,vS (some ⟨b1,0,none⟩) n1 n1,vS (some ⟨b2,0,none⟩) n2 n2]) (by refine results_cell (p:=4) ?_ ?_ HLd4.out <;> rfl) rfl ?_;exact⟨_,rfl,HRv.out.lower (by omega),HA4.out⟩
   ·have h47':(((s[k]'hlt).toNat:Int) != 47)=true:=by simp;omega
    clear h47;go_wp2_with fail;go_roundw;case rel=>exact⟨k+1,by omega,by go_num,by first|rfl|trivial⟩
    case measure=>simp[iOf];omega
  ·obtain rfl:k=s.size:=by omega
   go_wp2_with fail;refine(HF.out _ _ (by decide)).mono ?_;rintro en w3 ⟨rfl,hA3,_⟩;obtain⟨w4,a1,a2,a3⟩:=HZe.out w3 hA3;have HSt:=hide a1;have HLd4:=hide a2;have HA4:=hide a3;clear a1 a2 a3 hA3;go_wp2_with ((with_reducible refine dS w4 ?_ ?_ ?_);rfl;exact does_store rfl rfl rfl HSt.out);refine bodyPost_ret (v:=.agg #[vB false,vS none 0 0,vS none 0 0]) (by refine results_cell (p:=4) ?_ ?_ HLd4.out <;> rfl) rfl ?_;exact⟨_,rfl,.inl rfl,HA4.out⟩
end
section
structure STy (S:Ty) (cs:Array Value) (e:Int) (N:Nat):Prop where
 t0:FTok S .str (cs.getD 0 undef)
 i1:FTok S .int (cs.getD 1 undef)
 i2:FTok S .int (cs.getD 2 undef)
 i3:FTok S .int (cs.getD 3 undef)
 p4:e=0→∃ n,Sl S .short n (cs.getD 4 undef)
 c5:∃ n,n≤N∧Sl S .con n (cs.getD 5 undef)
 s6:∃ n,n≤N∧Sl S .sty0 n (cs.getD 6 undef)∧Sl S .lin n (cs.getD 15 undef)∧Sl S .nam n (cs.getD 16 undef)
 i7:FTok S .int (cs.getD 7 undef)
 i8:FTok S .int (cs.getD 8 undef)
 b9:FTok S .bool (cs.getD 9 undef)
 n10:FTok S (.sl .nat) (cs.getD 10 undef)
 n11:FTok S (.sl .nat) (cs.getD 11 undef)
 i12:FTok S .int (cs.getD 12 undef)
 s13:FTok S .str (cs.getD 13 undef)
 l14:∃ n,n≤N∧Sl S .str n (cs.getD 14 undef)
theorem getD_of {cs cs':Array Value}{j:Nat}(h:cs'[j]? = cs[j]?):cs'.getD j undef=cs.getD j undef:=by
 rw[Array.getD_eq_getD_getElem?,Array.getD_eq_getD_getElem?,h]
theorem STy.mono {S T:Ty}{cs cs':Array Value}{e e':Int}{N N':Nat}(h:STy S cs e N) (hl:Ty.le S T) (hs:Sm cs cs') (he:e'=0→e=0) (hN:N≤N'):STy T cs' e' N':=by
 obtain⟨t0,i1,i2,i3,p4,⟨n5,k5,c5⟩,⟨n6,k6,s6,l15,a16⟩,i7,i8,b9,n10,n11,i12,s13,⟨n14,k14,l14⟩⟩:=h;constructor
 ·rw[getD_of (hs 0 (by decide))];exact t0.mono hl
 ·rw[getD_of (hs 1 (by decide))];exact i1.mono hl
 ·rw[getD_of (hs 2 (by decide))];exact i2.mono hl
 ·rw[getD_of (hs 3 (by decide))];exact i3.mono hl
 ·intro h0;obtain⟨n,h⟩:=p4 (he h0);rw[getD_of (hs 4 (by decide))];exact⟨n,h.mono hl⟩
 ·rw[getD_of (hs 5 (by decide))];exact⟨n5,by omega,c5.mono hl⟩
 ·rw[getD_of (hs 6 (by decide)),getD_of (hs 15 (by decide)),getD_of (hs 16 (by decide))];exact⟨n6,by omega,s6.mono hl,l15.mono hl,a16.mono hl⟩
 ·rw[getD_of (hs 7 (by decide))];exact i7.mono hl
 ·rw[getD_of (hs 8 (by decide))];exact i8.mono hl
 ·rw[getD_of (hs 9 (by decide))];exact b9.mono hl
 ·rw[getD_of (hs 10 (by decide))];exact n10.mono hl
 ·rw[getD_of (hs 11 (by decide))];exact n11.mono hl
 ·rw[getD_of (hs 12 (by decide))];exact i12.mono hl
 ·rw[getD_of (hs 13 (by decide))];exact s13.mono hl
 ·rw[getD_of (hs 14 (by decide))];exact⟨n14,by omega,l14.mono hl⟩
structure Sta (g B:Nat) (S:Ty) (w:World) (N:Nat) (e:Int):Prop where
 ex:∃ cs,St w g cs e∧STy S cs e N
 tw:TW B S w
 no:S g=none
 lo:B≤g
section
variable {g B N:Nat}{S T:Ty}{w w':World}{e e':Int}{M:Nat→Prop}
theorem Sta.lt (h:Sta g B S w N e):g < w.heap.size:=by
 obtain⟨cs,h1,_⟩:=h.ex;exact h1.lt
theorem Sta.size (h:Sta g B S w N e):B≤w.heap.size:=by have:=h.lt;have:=h.lo;omega
theorem Sta.aft {cs:Array Value}(h:Sta g B S w N e) (hs:St w g cs e) (hA:Aft w g cs e w'):∃ e',Stp (fun i=>i=g) B S w S w'∧Sta g B S w' N e'∧(e'=0→e=0):=by
 obtain⟨cs0,h1,h2⟩:=h.ex;obtain⟨rfl,_⟩:=h1.uniq hs;obtain⟨cs',e',k1,k2,k3,k4⟩:=hA;have hst:Stp (fun i=>i=g) B S w S w':=Stp.wrote h.tw h.no rfl k4;exact⟨e',hst,⟨⟨cs',k1,h2.mono (Ty.le_refl _) k2 k3 (lR _)⟩,hst.tw,h.no,h.lo⟩,k3⟩
theorem Sta.step {M:Nat→Prop}(h:Sta g B S w N e) (hst:Stp M B S w T w') (hm:¬ M g):Sta g B T w' N e:=by
 obtain⟨cs,h1,h2⟩:=h.ex;have hn:S g=none:=h.no;exact⟨⟨cs,⟨hst.box h1.box hn hm,h1.size,h1.c17,h1.c18⟩,h2.mono hst.le (Sm.refl _) id (lR _)⟩,hst.tw,hst.none h.lt hn,h.lo⟩
theorem Sta.below (h:Sta g B S w N e) (hb:Below w.heap.size w w'):Sta g B S w' N e:=h.step (M:=No) (Stp.of_below h.tw hb) id
end
def Mk (S:Ty) (k:Kd) (w:World) (q:Nat):Prop:=∃ cs,Box w q k.tag cs∧cs.size=k.len∧TC S k cs.toList
section
variable {g B N q:Nat}{S T:Ty}{w w':World}{k:Kd}{M:Nat→Prop}
theorem Mk.lt (h:Mk S k w q):q < w.heap.size:=by
 obtain⟨cs,h1,_⟩:=h;exact h1.lt
theorem Mk.step (h:Mk S k w q) (hst:Stp M B S w T w') (hn:S q=none) (hm:¬ M q):Mk T k w' q:=by
 obtain⟨cs,h1,h2,h3⟩:=h;exact⟨cs,hst.box h1 hn hm,h2,h3.mono hst.le⟩
theorem Mk.cell (h:Mk S k w q) {j:Nat}(hj:j < k.len):∃ v,w.cell? ⟨q,j,none⟩=some v∧FTok S (k.fts.getD j .int) v:=by
 obtain⟨cs,h1,h2,h3⟩:=h;have e:cs[j]? = some cs[j]:=Array.getElem?_eq_getElem (by omega);refine⟨cs[j],(h1.cell j).trans e,?_⟩;have:=h3 j _ (by rw[Array.getElem?_toList];exact e);rwa [Nat.mod_eq_of_lt hj]at this
theorem Mk.frozen (h:Mk S k w q) (j:Nat):w.frozen? ⟨q,j,none⟩=false:=by
 obtain⟨cs,h1,_⟩:=h;exact h1.frozen j
theorem Mk.set (h:Mk S k w q) {j:Nat}{v:Value}(hj:j < k.len) (hv:FTok S (k.fts.getD j .int) v):Mk S k (w.setCell ⟨q,j,none⟩ v) q:=by
 obtain⟨cs,h1,h2,h3⟩:=h;refine⟨_,h1.set j v,by simpa using h2,?_⟩;rw[Array.toList_setIfInBounds];exact h3.set (by rwa [Nat.mod_eq_of_lt hj])
end
theorem grown_set1 (w:World) (q j:Nat) (v:Value):w.grownBy (w.setCell ⟨q,j,none⟩ v) (some q):=
 ⟨rfl,rfl,rfl,by simp,fun k hk hne=>Below.heap_setCell _ ⟨q,j,none⟩ _ k fun e=>hne (by rw[e])⟩
theorem words_lst {g:Nat}{w:World}{l:List ByteArray}{cs:Array Value}(hg:g < w.heap.size) (hc:cs=(l.map Value.string).toArray):Lst g (w.alloc (.cells cs 9)) (some ⟨w.heap.size,0,none⟩) l:=
 ListIn.mono (keysPost (w:=w) hc) fun i hi=>⟨hi.2,by omega⟩
end
section
section
variable {g q B N:Nat}{S:Ty}{w w1 wm w2:World}{e:Int}{cs:Array Value}
theorem con_int (h:Sta g B S w N e) (hk:Mk S .con w q) (hqn:S q=none) (hgq:g≠q) (hqB:B≤q) (hb:Below w.heap.size w wm) (hs:St wm g cs e) (hA:Aft wm g cs e w2) {j:Nat}(hj:j < 9) (hf:Kd.con.fts.getD j .int=.int) :
  (∃ v,w2.cell? ⟨q,j,none⟩=some v)∧w2.frozen? ⟨q,j,none⟩=false∧q < w2.heap.size∧∀ n:Int,∃ T e',Stp (fun i=>i=g∨i=q) B S w T (w2.setCell ⟨q,j,none⟩ (vI kI n))∧Sta g B T (w2.setCell ⟨q,j,none⟩ (vI kI n)) N e'∧(e'=0→e=0)∧Mk T .con (w2.setCell ⟨q,j,none⟩ (vI kI n)) q:=by
 have h1:Stp (fun i=>i=g∨i=q) B S w S wm:=Stp.of_below h.tw hb;obtain⟨e',h2,h3,h4⟩:=(h.below hb).aft hs hA;have h2':Stp (fun i=>i=g∨i=q) B S wm S w2:=h2.mono fun i _ hi=>.inl hi;have hk2:Mk S .con w2 q:=(hk.step (M:=No) (Stp.of_below h.tw hb) hqn id).step h2 hqn (fun e=>hgq e.symm);obtain⟨v,hv,_⟩:=hk2.cell (j:=j) hj;refine⟨⟨v,hv⟩,hk2.frozen j,hk2.lt,fun n=>?_⟩;have h5:Stp (fun i=>i=g∨i=q) B S w2 S (w2.setCell ⟨q,j,none⟩ (vI kI n)):=Stp.wrote h3.tw hqn (.inr rfl) (grown_set1 _ _ _ _);have h6:Stp (fun i=>i=q) B S w2 S (w2.setCell ⟨q,j,none⟩ (vI kI n)):=Stp.wrote h3.tw hqn rfl (grown_set1 _ _ _ _);exact⟨S,e',(h1.trans h2').trans h5,h3.step h6 hgq,h4,hk2.set hj (by rw[hf];exact⟨n,rfl⟩)⟩
theorem con_list (h:Sta g B S w N e) (hk:Mk S .con w q) (hqn:S q=none) (hgq:g≠q) (hqB:B≤q) (hb:Below w.heap.size w wm) (hs:St wm g cs e) (hA:Aft wm g cs e w2) {v:Value}{n:Nat}(hN:Names g B S wm w2 n v) :
  (∃ v,w2.cell? ⟨q,1,none⟩=some v)∧w2.frozen? ⟨q,1,none⟩=false∧q < w2.heap.size∧∃ T e',Stp (fun i=>i=g∨i=q) B S w T (w2.setCell ⟨q,1,none⟩ v)∧Sta g B T (w2.setCell ⟨q,1,none⟩ v) N e'∧(e'=0→e=0)∧Mk T .con (w2.setCell ⟨q,1,none⟩ v) q:=by
 have h1:Stp (fun i=>i=g∨i=q) B S w S wm:=Stp.of_below h.tw hb;obtain⟨⟨T,h2,hv⟩,_⟩:=hN;have hm:=h.below hb;obtain⟨e',_,h3,h4⟩:=hm.aft hs hA;have h2':Stp (fun i=>i=g∨i=q) B S wm T w2:=h2.mono fun i _ hi=>.inl hi;have hqm:q < wm.heap.size:=lL hk.lt hb.size;have hTq:T q=none:=h2.none hqm hqn;have hk2:Mk T .con w2 q:=(hk.step (M:=No) (Stp.of_below h.tw hb) hqn id).step h2 hqn (fun e=>hgq e.symm);obtain⟨u,hu,_⟩:=hk2.cell (j:=1) (by decide);refine⟨⟨u,hu⟩,hk2.frozen 1,hk2.lt,?_⟩;have h3':Sta g B T w2 N e':=by obtain⟨cs',k1,k2⟩:=h3.ex;exact⟨⟨cs',k1,k2.mono h2.le (Sm.refl _) id (lR _)⟩,h2.tw,h2.none hm.lt hm.no,hm.lo⟩
 have h5:Stp (fun i=>i=g∨i=q) B T w2 T (w2.setCell ⟨q,1,none⟩ v):=Stp.wrote h3'.tw hTq (.inr rfl) (grown_set1 _ _ _ _);have h6:Stp (fun i=>i=q) B T w2 T (w2.setCell ⟨q,1,none⟩ v):=Stp.wrote h3'.tw hTq rfl (grown_set1 _ _ _ _);exact⟨T,e',(h1.trans h2').trans h5,h3'.step h6 hgq,h4,hk2.set (by decide) ⟨n,hv⟩⟩
end
set_option maxHeartbeats 8000000
set_option maxRecDepth 100000
theorem contest_any {g q B N:Nat}{S:Ty}{w:World}{e x:Int}{key:ByteArray}{A:Option Addr}{l:List ByteArray}{c:Nat}(h:Sta g B S w N e) (hk:Mk S .con w q) (hqn:S q=none) (hgq:g≠q) (hqB:B≤q) (hl:Lst g w A l) (hz:∀ s ∈ l,s.size≤big) (hm:l.length≤1000) (hc:l.length≤c) :
  Calls pG 79 #[vP (some ⟨g,0,none⟩),vP (some ⟨q,0,none⟩),.agg #[vT key,vS A l.length c,vI kI x]] w fun en w'=>en=.returned (.tuple #[])∧∃ T e',Stp (fun i=>i=g∨i=q) B S w T w'∧Sta g B T w' N e'∧(e'=0→e=0)∧Mk T .con w' q:=by
 obtain⟨w1,hw1⟩:∃ r,w.alloc (.cells #[vT key,vS A l.length c,vI kI x] 89)=r:=⟨_,rfl⟩;have hb1:Below w.heap.size w w1:=by rw[← hw1];exact(bR _ _).alloc (lR _) _
 have hx1:Box w1 w.heap.size 89 #[vT key,vS A l.length c,vI kI x]:=by rw[← hw1];exact Box.new _ _ _
 obtain⟨cs,hs,_⟩:=h.ex;have H:=hide h;have HS1:=hide (hs.below hb1);have HK:=hide hk;have HQ:=hide hqn;have HQB:=hide hqB;have HB1:=hide hb1;have HL1:=hide (hl.below hb1);have HZ:=hide hz;have HLd:=hide (box_load aggField hx1 rfl);have HX1:=hide hx1;have HW1:=hide hw1;have hg1:=(hs.below hb1).lt;have HT1:=hide (h.tw.below hb1);have HBz:=hide (lT h.size hb1.size);have HNo:=hide h.no;clear h hs hk hqn hqB hb1 hl hz hx1 hw1;have c0:=HX1.out.cell 0;simp at c0;cases h0:(key.toList==[109,101,116,104,111,100]) with
 |true=>have hbw:Below w1.heap.size w1 (w1.alloc (.cells #[vT ⟨#[105,114,118]⟩,vT ⟨#[109,101,101,107]⟩,vT ⟨#[103,114,101,103,111,114,121]⟩] 9)):=(bR _ _).alloc (lR _) _;have HSw:=hide (HS1.out.below hbw);have HBw:=hide (below_then HB1.out hbw);have HC:=hide (choice_any (key:=key) (x:=x) (c:=c) (d:=3) HSw.out (HL1.out.below hbw) HZ.out (words_lst (l:=[⟨#[105,114,118]⟩,⟨#[109,101,101,107]⟩,⟨#[103,114,101,103,111,114,121]⟩]) hg1 rfl) (by simp));clear hbw;go_enter Tryz.func79,Tryz.ntmps79;go_upto_region 1 with (fail);rw[HW1.out];go_wp2_with ((with_reducible refine gV 18 (.agg #[vT key,vS A l.length c,vI kI x]) w1 ?_ ?_ ?_);rfl;exact gives_load rfl rfl HLd.out);refine HC.out.mono ?_;rintro en w2 ⟨n,rfl,hA⟩;obtain⟨⟨v,hv⟩,hf,hlt,hn⟩:=con_int H.out HK.out HQ.out hgq HQB.out HBw.out HSw.out hA (j:=2) (by decide) rfl;obtain⟨T,e',k1,k2,k3,k4⟩:=hn n;have k1:=hide k1;have k2:=hide k2;have k3:=hide k3;have k4:=hide k4;clear hA hn;go_wp2_with fail;go_end0;exact⟨rfl,T,e',k1.out,k2.out,k3.out,k4.out⟩
 |false=>
  cases h1:(key.toList==[115,101,97,116,115]) with
  |true=>have HC:=hide (fun low high=>in_any (key:=key) (x:=x) (low:=low) (high:=high) (c:=c) HS1.out HL1.out HZ.out);go_enter Tryz.func79,Tryz.ntmps79;go_upto_region 1 with (fail);rw[HW1.out];go_wp2_with ((with_reducible refine gV 27 (.agg #[vT key,vS A l.length c,vI kI x]) w1 ?_ ?_ ?_);rfl;exact gives_load rfl rfl HLd.out);refine(HC.out _ _).mono ?_;rintro en w2 ⟨n,rfl,hA⟩;obtain⟨⟨v,hv⟩,hf,hlt,hn⟩:=con_int H.out HK.out HQ.out hgq HQB.out HB1.out HS1.out hA (j:=3) (by decide) rfl;obtain⟨T,e',k1,k2,k3,k4⟩:=hn n;have k1:=hide k1;have k2:=hide k2;have k3:=hide k3;have k4:=hide k4;clear hA hn;go_wp2_with fail;go_end0;exact⟨rfl,T,e',k1.out,k2.out,k3.out,k4.out⟩
  |false=>
   cases h2:(key.toList==[114,97,110,107,115]) with
   |true=>have HC:=hide (fun low high=>in_any (key:=key) (x:=x) (low:=low) (high:=high) (c:=c) HS1.out HL1.out HZ.out);go_enter Tryz.func79,Tryz.ntmps79;go_upto_region 1 with (fail);rw[HW1.out];go_wp2_with ((with_reducible refine gV 35 (.agg #[vT key,vS A l.length c,vI kI x]) w1 ?_ ?_ ?_);rfl;exact gives_load rfl rfl HLd.out);refine(HC.out _ _).mono ?_;rintro en w2 ⟨n,rfl,hA⟩;obtain⟨⟨v,hv⟩,hf,hlt,hn⟩:=con_int H.out HK.out HQ.out hgq HQB.out HB1.out HS1.out hA (j:=4) (by decide) rfl;obtain⟨T,e',k1,k2,k3,k4⟩:=hn n;have k1:=hide k1;have k2:=hide k2;have k3:=hide k3;have k4:=hide k4;clear hA hn;go_wp2_with fail;go_end0;exact⟨rfl,T,e',k1.out,k2.out,k3.out,k4.out⟩
   |false=>
    cases h3:(key.toList==[100,105,103,105,116,115]) with
    |true=>have HC:=hide (fun low high=>in_any (key:=key) (x:=x) (low:=low) (high:=high) (c:=c) HS1.out HL1.out HZ.out);go_enter Tryz.func79,Tryz.ntmps79;go_upto_region 1 with (fail);rw[HW1.out];go_wp2_with ((with_reducible refine gV 43 (.agg #[vT key,vS A l.length c,vI kI x]) w1 ?_ ?_ ?_);rfl;exact gives_load rfl rfl HLd.out);refine(HC.out _ _).mono ?_;rintro en w2 ⟨n,rfl,hA⟩;obtain⟨⟨v,hv⟩,hf,hlt,hn⟩:=con_int H.out HK.out HQ.out hgq HQB.out HB1.out HS1.out hA (j:=5) (by decide) rfl;obtain⟨T,e',k1,k2,k3,k4⟩:=hn n;have k1:=hide k1;have k2:=hide k2;have k3:=hide k3;have k4:=hide k4;clear hA hn;go_wp2_with fail;go_end0;exact⟨rfl,T,e',k1.out,k2.out,k3.out,k4.out⟩
    |false=>
     cases h4:(key.toList==[116,105,101,115]) with
     |true=>have hbw:Below w1.heap.size w1 (w1.alloc (.cells #[vT ⟨#[98,97,99,107,119,97,114,100,115]⟩,vT ⟨#[102,111,114,119,97,114,100,115]⟩,vT ⟨#[108,111,116]⟩] 9)):=(bR _ _).alloc (lR _) _;have HSw:=hide (HS1.out.below hbw);have HBw:=hide (below_then HB1.out hbw);have HC:=hide (choice_any (key:=key) (x:=x) (c:=c) (d:=3) HSw.out (HL1.out.below hbw) HZ.out (words_lst (l:=[⟨#[98,97,99,107,119,97,114,100,115]⟩,⟨#[102,111,114,119,97,114,100,115]⟩,⟨#[108,111,116]⟩]) hg1 rfl) (by simp));clear hbw;go_enter Tryz.func79,Tryz.ntmps79;go_upto_region 1 with (fail);rw[HW1.out];go_wp2_with ((with_reducible refine gV 51 (.agg #[vT key,vS A l.length c,vI kI x]) w1 ?_ ?_ ?_);rfl;exact gives_load rfl rfl HLd.out);refine HC.out.mono ?_;rintro en w2 ⟨n,rfl,hA⟩;obtain⟨⟨v,hv⟩,hf,hlt,hn⟩:=con_int H.out HK.out HQ.out hgq HQB.out HBw.out HSw.out hA (j:=6) (by decide) rfl;obtain⟨T,e',k1,k2,k3,k4⟩:=hn n;have k1:=hide k1;have k2:=hide k2;have k3:=hide k3;have k4:=hide k4;clear hA hn;go_wp2_with fail;go_end0;exact⟨rfl,T,e',k1.out,k2.out,k3.out,k4.out⟩
     |false=>
      cases h5:(key.toList==[111,118,101,114,118,111,116,101]) with
      |true=>have hbw:Below w1.heap.size w1 (w1.alloc (.cells #[vT ⟨#[115,116,111,112]⟩,vT ⟨#[115,107,105,112]⟩] 9)):=(bR _ _).alloc (lR _) _;have HSw:=hide (HS1.out.below hbw);have HBw:=hide (below_then HB1.out hbw);have HC:=hide (choice_any (key:=key) (x:=x) (c:=c) (d:=2) HSw.out (HL1.out.below hbw) HZ.out (words_lst (l:=[⟨#[115,116,111,112]⟩,⟨#[115,107,105,112]⟩]) hg1 rfl) (by simp));clear hbw;go_enter Tryz.func79,Tryz.ntmps79;go_upto_region 1 with (fail);rw[HW1.out];go_wp2_with ((with_reducible refine gV 60 (.agg #[vT key,vS A l.length c,vI kI x]) w1 ?_ ?_ ?_);rfl;exact gives_load rfl rfl HLd.out);refine HC.out.mono ?_;rintro en w2 ⟨n,rfl,hA⟩;obtain⟨⟨v,hv⟩,hf,hlt,hn⟩:=con_int H.out HK.out HQ.out hgq HQB.out HBw.out HSw.out hA (j:=7) (by decide) rfl;obtain⟨T,e',k1,k2,k3,k4⟩:=hn n;have k1:=hide k1;have k2:=hide k2;have k3:=hide k3;have k4:=hide k4;clear hA hn;go_wp2_with fail;go_end0;exact⟨rfl,T,e',k1.out,k2.out,k3.out,k4.out⟩
      |false=>
       cases h6:(key.toList==[115,107,105,112]) with
       |true=>have hbw:Below w1.heap.size w1 (w1.alloc (.cells #[vT ⟨#[99,108,111,115,101]⟩,vT ⟨#[115,116,111,112]⟩,vT ⟨#[116,119,111]⟩] 9)):=(bR _ _).alloc (lR _) _;have HSw:=hide (HS1.out.below hbw);have HBw:=hide (below_then HB1.out hbw);have HC:=hide (choice_any (key:=key) (x:=x) (c:=c) (d:=3) HSw.out (HL1.out.below hbw) HZ.out (words_lst (l:=[⟨#[99,108,111,115,101]⟩,⟨#[115,116,111,112]⟩,⟨#[116,119,111]⟩]) hg1 rfl) (by simp));clear hbw;go_enter Tryz.func79,Tryz.ntmps79;go_upto_region 1 with (fail);rw[HW1.out];go_wp2_with ((with_reducible refine gV 69 (.agg #[vT key,vS A l.length c,vI kI x]) w1 ?_ ?_ ?_);rfl;exact gives_load rfl rfl HLd.out);refine HC.out.mono ?_;rintro en w2 ⟨n,rfl,hA⟩;obtain⟨⟨v,hv⟩,hf,hlt,hn⟩:=con_int H.out HK.out HQ.out hgq HQB.out HBw.out HSw.out hA (j:=8) (by decide) rfl;obtain⟨T,e',k1,k2,k3,k4⟩:=hn n;have k1:=hide k1;have k2:=hide k2;have k3:=hide k3;have k4:=hide k4;clear hA hn;go_wp2_with fail;go_end0;exact⟨rfl,T,e',k1.out,k2.out,k3.out,k4.out⟩
       |false=>have HC:=hide (fun most=>list_any (key:=key) (x:=x) (most:=most) HS1.out HL1.out HZ.out hm hc HT1.out HBz.out HNo.out);go_enter Tryz.func79,Tryz.ntmps79;go_upto_region 1 with (fail);rw[HW1.out];go_wp2_with ((with_reducible refine gV 10 (.agg #[vT key,vS A l.length c,vI kI x]) w1 ?_ ?_ ?_);rfl;exact gives_load rfl rfl HLd.out);refine(HC.out _).mono ?_;rintro en w2 ⟨A',c',rfl,hA,hN⟩;obtain⟨⟨v,hv⟩,hf,hlt,hn⟩:=con_list H.out HK.out HQ.out hgq HQB.out HB1.out HS1.out hA hN;obtain⟨T,e',k1,k2,k3,k4⟩:=hn;have k1:=hide k1;have k2:=hide k2;have k3:=hide k3;have k4:=hide k4;clear hA hN;go_wp2_with fail;go_end0;exact⟨rfl,T,e',k1.out,k2.out,k3.out,k4.out⟩
end
section
theorem getD_same {cs:Array Value}{j:Nat}{v:Value}(hj:j < cs.size):(cs.setIfInBounds j v).getD j undef=v:=by
 rw[Array.getD_eq_getD_getElem?,Array.getElem?_setIfInBounds,if_pos rfl,if_pos hj];rfl
theorem getD_ne {cs:Array Value}{i j:Nat}{v:Value}(h:j≠i):(cs.setIfInBounds j v).getD i undef=cs.getD i undef:=by
 rw[Array.getD_eq_getD_getElem?,Array.getD_eq_getD_getElem?,Array.getElem?_setIfInBounds,if_neg h]
theorem STy.int1 {S:Ty}{cs:Array Value}{e:Int}{N:Nat}{v:Value}(h:STy S cs e N) (hs:cs.size=19) (hv:FTok S .int v):STy S (cs.setIfInBounds 1 v) e N where
 t0:=by rw[getD_ne (show 1≠0 by decide)];exact h.t0
 i1:=by rw[getD_same (by omega)];exact hv
 i2:=by rw[getD_ne (show 1≠2 by decide)];exact h.i2
 i3:=by rw[getD_ne (show 1≠3 by decide)];exact h.i3
 p4:=by rw[getD_ne (show 1≠4 by decide)];exact h.p4
 c5:=by rw[getD_ne (show 1≠5 by decide)];exact h.c5
 s6:=by rw[getD_ne (show 1≠6 by decide),getD_ne (show 1≠15 by decide),getD_ne (show 1≠16 by decide)];exact h.s6
 i7:=by rw[getD_ne (show 1≠7 by decide)];exact h.i7
 i8:=by rw[getD_ne (show 1≠8 by decide)];exact h.i8
 b9:=by rw[getD_ne (show 1≠9 by decide)];exact h.b9
 n10:=by rw[getD_ne (show 1≠10 by decide)];exact h.n10
 n11:=by rw[getD_ne (show 1≠11 by decide)];exact h.n11
 i12:=by rw[getD_ne (show 1≠12 by decide)];exact h.i12
 s13:=by rw[getD_ne (show 1≠13 by decide)];exact h.s13
 l14:=by rw[getD_ne (show 1≠14 by decide)];exact h.l14
theorem STy.int2 {S:Ty}{cs:Array Value}{e:Int}{N:Nat}{v:Value}(h:STy S cs e N) (hs:cs.size=19) (hv:FTok S .int v):STy S (cs.setIfInBounds 2 v) e N where
 t0:=by rw[getD_ne (show 2≠0 by decide)];exact h.t0
 i1:=by rw[getD_ne (show 2≠1 by decide)];exact h.i1
 i2:=by rw[getD_same (by omega)];exact hv
 i3:=by rw[getD_ne (show 2≠3 by decide)];exact h.i3
 p4:=by rw[getD_ne (show 2≠4 by decide)];exact h.p4
 c5:=by rw[getD_ne (show 2≠5 by decide)];exact h.c5
 s6:=by rw[getD_ne (show 2≠6 by decide),getD_ne (show 2≠15 by decide),getD_ne (show 2≠16 by decide)];exact h.s6
 i7:=by rw[getD_ne (show 2≠7 by decide)];exact h.i7
 i8:=by rw[getD_ne (show 2≠8 by decide)];exact h.i8
 b9:=by rw[getD_ne (show 2≠9 by decide)];exact h.b9
 n10:=by rw[getD_ne (show 2≠10 by decide)];exact h.n10
 n11:=by rw[getD_ne (show 2≠11 by decide)];exact h.n11
 i12:=by rw[getD_ne (show 2≠12 by decide)];exact h.i12
 s13:=by rw[getD_ne (show 2≠13 by decide)];exact h.s13
 l14:=by rw[getD_ne (show 2≠14 by decide)];exact h.l14
theorem STy.int3 {S:Ty}{cs:Array Value}{e:Int}{N:Nat}{v:Value}(h:STy S cs e N) (hs:cs.size=19) (hv:FTok S .int v):STy S (cs.setIfInBounds 3 v) e N where
 t0:=by rw[getD_ne (show 3≠0 by decide)];exact h.t0
 i1:=by rw[getD_ne (show 3≠1 by decide)];exact h.i1
 i2:=by rw[getD_ne (show 3≠2 by decide)];exact h.i2
 i3:=by rw[getD_same (by omega)];exact hv
 p4:=by rw[getD_ne (show 3≠4 by decide)];exact h.p4
 c5:=by rw[getD_ne (show 3≠5 by decide)];exact h.c5
 s6:=by rw[getD_ne (show 3≠6 by decide),getD_ne (show 3≠15 by decide),getD_ne (show 3≠16 by decide)];exact h.s6
 i7:=by rw[getD_ne (show 3≠7 by decide)];exact h.i7
 i8:=by rw[getD_ne (show 3≠8 by decide)];exact h.i8
 b9:=by rw[getD_ne (show 3≠9 by decide)];exact h.b9
 n10:=by rw[getD_ne (show 3≠10 by decide)];exact h.n10
 n11:=by rw[getD_ne (show 3≠11 by decide)];exact h.n11
 i12:=by rw[getD_ne (show 3≠12 by decide)];exact h.i12
 s13:=by rw[getD_ne (show 3≠13 by decide)];exact h.s13
 l14:=by rw[getD_ne (show 3≠14 by decide)];exact h.l14
theorem STy.int7 {S:Ty}{cs:Array Value}{e:Int}{N:Nat}{v:Value}(h:STy S cs e N) (hs:cs.size=19) (hv:FTok S .int v):STy S (cs.setIfInBounds 7 v) e N where
 t0:=by rw[getD_ne (show 7≠0 by decide)];exact h.t0
 i1:=by rw[getD_ne (show 7≠1 by decide)];exact h.i1
 i2:=by rw[getD_ne (show 7≠2 by decide)];exact h.i2
 i3:=by rw[getD_ne (show 7≠3 by decide)];exact h.i3
 p4:=by rw[getD_ne (show 7≠4 by decide)];exact h.p4
 c5:=by rw[getD_ne (show 7≠5 by decide)];exact h.c5
 s6:=by rw[getD_ne (show 7≠6 by decide),getD_ne (show 7≠15 by decide),getD_ne (show 7≠16 by decide)];exact h.s6
 i7:=by rw[getD_same (by omega)];exact hv
 i8:=by rw[getD_ne (show 7≠8 by decide)];exact h.i8
 b9:=by rw[getD_ne (show 7≠9 by decide)];exact h.b9
 n10:=by rw[getD_ne (show 7≠10 by decide)];exact h.n10
 n11:=by rw[getD_ne (show 7≠11 by decide)];exact h.n11
 i12:=by rw[getD_ne (show 7≠12 by decide)];exact h.i12
 s13:=by rw[getD_ne (show 7≠13 by decide)];exact h.s13
 l14:=by rw[getD_ne (show 7≠14 by decide)];exact h.l14
theorem STy.int8 {S:Ty}{cs:Array Value}{e:Int}{N:Nat}{v:Value}(h:STy S cs e N) (hs:cs.size=19) (hv:FTok S .int v):STy S (cs.setIfInBounds 8 v) e N where
 t0:=by rw[getD_ne (show 8≠0 by decide)];exact h.t0
 i1:=by rw[getD_ne (show 8≠1 by decide)];exact h.i1
 i2:=by rw[getD_ne (show 8≠2 by decide)];exact h.i2
 i3:=by rw[getD_ne (show 8≠3 by decide)];exact h.i3
 p4:=by rw[getD_ne (show 8≠4 by decide)];exact h.p4
 c5:=by rw[getD_ne (show 8≠5 by decide)];exact h.c5
 s6:=by rw[getD_ne (show 8≠6 by decide),getD_ne (show 8≠15 by decide),getD_ne (show 8≠16 by decide)];exact h.s6
 i7:=by rw[getD_ne (show 8≠7 by decide)];exact h.i7
 i8:=by rw[getD_same (by omega)];exact hv
 b9:=by rw[getD_ne (show 8≠9 by decide)];exact h.b9
 n10:=by rw[getD_ne (show 8≠10 by decide)];exact h.n10
 n11:=by rw[getD_ne (show 8≠11 by decide)];exact h.n11
 i12:=by rw[getD_ne (show 8≠12 by decide)];exact h.i12
 s13:=by rw[getD_ne (show 8≠13 by decide)];exact h.s13
 l14:=by rw[getD_ne (show 8≠14 by decide)];exact h.l14
theorem STy.int12 {S:Ty}{cs:Array Value}{e:Int}{N:Nat}{v:Value}(h:STy S cs e N) (hs:cs.size=19) (hv:FTok S .int v):STy S (cs.setIfInBounds 12 v) e N where
 t0:=by rw[getD_ne (show 12≠0 by decide)];exact h.t0
 i1:=by rw[getD_ne (show 12≠1 by decide)];exact h.i1
 i2:=by rw[getD_ne (show 12≠2 by decide)];exact h.i2
 i3:=by rw[getD_ne (show 12≠3 by decide)];exact h.i3
 p4:=by rw[getD_ne (show 12≠4 by decide)];exact h.p4
 c5:=by rw[getD_ne (show 12≠5 by decide)];exact h.c5
 s6:=by rw[getD_ne (show 12≠6 by decide),getD_ne (show 12≠15 by decide),getD_ne (show 12≠16 by decide)];exact h.s6
 i7:=by rw[getD_ne (show 12≠7 by decide)];exact h.i7
 i8:=by rw[getD_ne (show 12≠8 by decide)];exact h.i8
 b9:=by rw[getD_ne (show 12≠9 by decide)];exact h.b9
 n10:=by rw[getD_ne (show 12≠10 by decide)];exact h.n10
 n11:=by rw[getD_ne (show 12≠11 by decide)];exact h.n11
 i12:=by rw[getD_same (by omega)];exact hv
 s13:=by rw[getD_ne (show 12≠13 by decide)];exact h.s13
 l14:=by rw[getD_ne (show 12≠14 by decide)];exact h.l14
theorem STy.prec {S:Ty}{cs:Array Value}{e:Int}{N:Nat}{v:Value}(h:STy S cs e N) (hs:cs.size=19) (hv:e=0→∃ n,Sl S .short n v):STy S (cs.setIfInBounds 4 v) e N where
 t0:=by rw[getD_ne (show 4≠0 by decide)];exact h.t0
 i1:=by rw[getD_ne (show 4≠1 by decide)];exact h.i1
 i2:=by rw[getD_ne (show 4≠2 by decide)];exact h.i2
 i3:=by rw[getD_ne (show 4≠3 by decide)];exact h.i3
 p4:=by rw[getD_same (by omega)];exact hv
 c5:=by rw[getD_ne (show 4≠5 by decide)];exact h.c5
 s6:=by rw[getD_ne (show 4≠6 by decide),getD_ne (show 4≠15 by decide),getD_ne (show 4≠16 by decide)];exact h.s6
 i7:=by rw[getD_ne (show 4≠7 by decide)];exact h.i7
 i8:=by rw[getD_ne (show 4≠8 by decide)];exact h.i8
 b9:=by rw[getD_ne (show 4≠9 by decide)];exact h.b9
 n10:=by rw[getD_ne (show 4≠10 by decide)];exact h.n10
 n11:=by rw[getD_ne (show 4≠11 by decide)];exact h.n11
 i12:=by rw[getD_ne (show 4≠12 by decide)];exact h.i12
 s13:=by rw[getD_ne (show 4≠13 by decide)];exact h.s13
 l14:=by rw[getD_ne (show 4≠14 by decide)];exact h.l14
theorem STy.neg {S:Ty}{cs:Array Value}{e:Int}{N:Nat}{v:Value}(h:STy S cs e N) (hs:cs.size=19) (hv:FTok S .bool v):STy S (cs.setIfInBounds 9 v) e N where
 t0:=by rw[getD_ne (show 9≠0 by decide)];exact h.t0
 i1:=by rw[getD_ne (show 9≠1 by decide)];exact h.i1
 i2:=by rw[getD_ne (show 9≠2 by decide)];exact h.i2
 i3:=by rw[getD_ne (show 9≠3 by decide)];exact h.i3
 p4:=by rw[getD_ne (show 9≠4 by decide)];exact h.p4
 c5:=by rw[getD_ne (show 9≠5 by decide)];exact h.c5
 s6:=by rw[getD_ne (show 9≠6 by decide),getD_ne (show 9≠15 by decide),getD_ne (show 9≠16 by decide)];exact h.s6
 i7:=by rw[getD_ne (show 9≠7 by decide)];exact h.i7
 i8:=by rw[getD_ne (show 9≠8 by decide)];exact h.i8
 b9:=by rw[getD_same (by omega)];exact hv
 n10:=by rw[getD_ne (show 9≠10 by decide)];exact h.n10
 n11:=by rw[getD_ne (show 9≠11 by decide)];exact h.n11
 i12:=by rw[getD_ne (show 9≠12 by decide)];exact h.i12
 s13:=by rw[getD_ne (show 9≠13 by decide)];exact h.s13
 l14:=by rw[getD_ne (show 9≠14 by decide)];exact h.l14
theorem STy.num {S:Ty}{cs:Array Value}{e:Int}{N:Nat}{v:Value}(h:STy S cs e N) (hs:cs.size=19) (hv:FTok S (.sl .nat) v):STy S (cs.setIfInBounds 10 v) e N where
 t0:=by rw[getD_ne (show 10≠0 by decide)];exact h.t0
 i1:=by rw[getD_ne (show 10≠1 by decide)];exact h.i1
 i2:=by rw[getD_ne (show 10≠2 by decide)];exact h.i2
 i3:=by rw[getD_ne (show 10≠3 by decide)];exact h.i3
 p4:=by rw[getD_ne (show 10≠4 by decide)];exact h.p4
 c5:=by rw[getD_ne (show 10≠5 by decide)];exact h.c5
 s6:=by rw[getD_ne (show 10≠6 by decide),getD_ne (show 10≠15 by decide),getD_ne (show 10≠16 by decide)];exact h.s6
 i7:=by rw[getD_ne (show 10≠7 by decide)];exact h.i7
 i8:=by rw[getD_ne (show 10≠8 by decide)];exact h.i8
 b9:=by rw[getD_ne (show 10≠9 by decide)];exact h.b9
 n10:=by rw[getD_same (by omega)];exact hv
 n11:=by rw[getD_ne (show 10≠11 by decide)];exact h.n11
 i12:=by rw[getD_ne (show 10≠12 by decide)];exact h.i12
 s13:=by rw[getD_ne (show 10≠13 by decide)];exact h.s13
 l14:=by rw[getD_ne (show 10≠14 by decide)];exact h.l14
theorem STy.den {S:Ty}{cs:Array Value}{e:Int}{N:Nat}{v:Value}(h:STy S cs e N) (hs:cs.size=19) (hv:FTok S (.sl .nat) v):STy S (cs.setIfInBounds 11 v) e N where
 t0:=by rw[getD_ne (show 11≠0 by decide)];exact h.t0
 i1:=by rw[getD_ne (show 11≠1 by decide)];exact h.i1
 i2:=by rw[getD_ne (show 11≠2 by decide)];exact h.i2
 i3:=by rw[getD_ne (show 11≠3 by decide)];exact h.i3
 p4:=by rw[getD_ne (show 11≠4 by decide)];exact h.p4
 c5:=by rw[getD_ne (show 11≠5 by decide)];exact h.c5
 s6:=by rw[getD_ne (show 11≠6 by decide),getD_ne (show 11≠15 by decide),getD_ne (show 11≠16 by decide)];exact h.s6
 i7:=by rw[getD_ne (show 11≠7 by decide)];exact h.i7
 i8:=by rw[getD_ne (show 11≠8 by decide)];exact h.i8
 b9:=by rw[getD_ne (show 11≠9 by decide)];exact h.b9
 n10:=by rw[getD_ne (show 11≠10 by decide)];exact h.n10
 n11:=by rw[getD_same (by omega)];exact hv
 i12:=by rw[getD_ne (show 11≠12 by decide)];exact h.i12
 s13:=by rw[getD_ne (show 11≠13 by decide)];exact h.s13
 l14:=by rw[getD_ne (show 11≠14 by decide)];exact h.l14
theorem STy.seed {S:Ty}{cs:Array Value}{e:Int}{N:Nat}{v:Value}(h:STy S cs e N) (hs:cs.size=19) (hv:FTok S .str v):STy S (cs.setIfInBounds 13 v) e N where
 t0:=by rw[getD_ne (show 13≠0 by decide)];exact h.t0
 i1:=by rw[getD_ne (show 13≠1 by decide)];exact h.i1
 i2:=by rw[getD_ne (show 13≠2 by decide)];exact h.i2
 i3:=by rw[getD_ne (show 13≠3 by decide)];exact h.i3
 p4:=by rw[getD_ne (show 13≠4 by decide)];exact h.p4
 c5:=by rw[getD_ne (show 13≠5 by decide)];exact h.c5
 s6:=by rw[getD_ne (show 13≠6 by decide),getD_ne (show 13≠15 by decide),getD_ne (show 13≠16 by decide)];exact h.s6
 i7:=by rw[getD_ne (show 13≠7 by decide)];exact h.i7
 i8:=by rw[getD_ne (show 13≠8 by decide)];exact h.i8
 b9:=by rw[getD_ne (show 13≠9 by decide)];exact h.b9
 n10:=by rw[getD_ne (show 13≠10 by decide)];exact h.n10
 n11:=by rw[getD_ne (show 13≠11 by decide)];exact h.n11
 i12:=by rw[getD_ne (show 13≠12 by decide)];exact h.i12
 s13:=by rw[getD_same (by omega)];exact hv
 l14:=by rw[getD_ne (show 13≠14 by decide)];exact h.l14
theorem STy.cons {S:Ty}{cs:Array Value}{e:Int}{N:Nat}{v:Value}(h:STy S cs e N) (hs:cs.size=19) (hv:∃ n,n≤N∧Sl S .con n v):STy S (cs.setIfInBounds 5 v) e N where
 t0:=by rw[getD_ne (show 5≠0 by decide)];exact h.t0
 i1:=by rw[getD_ne (show 5≠1 by decide)];exact h.i1
 i2:=by rw[getD_ne (show 5≠2 by decide)];exact h.i2
 i3:=by rw[getD_ne (show 5≠3 by decide)];exact h.i3
 p4:=by rw[getD_ne (show 5≠4 by decide)];exact h.p4
 c5:=by rw[getD_same (by omega)];exact hv
 s6:=by rw[getD_ne (show 5≠6 by decide),getD_ne (show 5≠15 by decide),getD_ne (show 5≠16 by decide)];exact h.s6
 i7:=by rw[getD_ne (show 5≠7 by decide)];exact h.i7
 i8:=by rw[getD_ne (show 5≠8 by decide)];exact h.i8
 b9:=by rw[getD_ne (show 5≠9 by decide)];exact h.b9
 n10:=by rw[getD_ne (show 5≠10 by decide)];exact h.n10
 n11:=by rw[getD_ne (show 5≠11 by decide)];exact h.n11
 i12:=by rw[getD_ne (show 5≠12 by decide)];exact h.i12
 s13:=by rw[getD_ne (show 5≠13 by decide)];exact h.s13
 l14:=by rw[getD_ne (show 5≠14 by decide)];exact h.l14
theorem STy.seen {S:Ty}{cs:Array Value}{e:Int}{N:Nat}{v:Value}(h:STy S cs e N) (hs:cs.size=19) (hv:∃ n,n≤N∧Sl S .str n v):STy S (cs.setIfInBounds 14 v) e N where
 t0:=by rw[getD_ne (show 14≠0 by decide)];exact h.t0
 i1:=by rw[getD_ne (show 14≠1 by decide)];exact h.i1
 i2:=by rw[getD_ne (show 14≠2 by decide)];exact h.i2
 i3:=by rw[getD_ne (show 14≠3 by decide)];exact h.i3
 p4:=by rw[getD_ne (show 14≠4 by decide)];exact h.p4
 c5:=by rw[getD_ne (show 14≠5 by decide)];exact h.c5
 s6:=by rw[getD_ne (show 14≠6 by decide),getD_ne (show 14≠15 by decide),getD_ne (show 14≠16 by decide)];exact h.s6
 i7:=by rw[getD_ne (show 14≠7 by decide)];exact h.i7
 i8:=by rw[getD_ne (show 14≠8 by decide)];exact h.i8
 b9:=by rw[getD_ne (show 14≠9 by decide)];exact h.b9
 n10:=by rw[getD_ne (show 14≠10 by decide)];exact h.n10
 n11:=by rw[getD_ne (show 14≠11 by decide)];exact h.n11
 i12:=by rw[getD_ne (show 14≠12 by decide)];exact h.i12
 s13:=by rw[getD_ne (show 14≠13 by decide)];exact h.s13
 l14:=by rw[getD_same (by omega)];exact hv
theorem STy.title {S:Ty}{cs:Array Value}{e:Int}{N:Nat}{v:Value}(h:STy S cs e N) (hs:cs.size=19) (hv:FTok S .str v):STy S (cs.setIfInBounds 0 v) e N where
 t0:=by rw[getD_same (by omega)];exact hv
 i1:=by rw[getD_ne (show 0≠1 by decide)];exact h.i1
 i2:=by rw[getD_ne (show 0≠2 by decide)];exact h.i2
 i3:=by rw[getD_ne (show 0≠3 by decide)];exact h.i3
 p4:=by rw[getD_ne (show 0≠4 by decide)];exact h.p4
 c5:=by rw[getD_ne (show 0≠5 by decide)];exact h.c5
 s6:=by rw[getD_ne (show 0≠6 by decide),getD_ne (show 0≠15 by decide),getD_ne (show 0≠16 by decide)];exact h.s6
 i7:=by rw[getD_ne (show 0≠7 by decide)];exact h.i7
 i8:=by rw[getD_ne (show 0≠8 by decide)];exact h.i8
 b9:=by rw[getD_ne (show 0≠9 by decide)];exact h.b9
 n10:=by rw[getD_ne (show 0≠10 by decide)];exact h.n10
 n11:=by rw[getD_ne (show 0≠11 by decide)];exact h.n11
 i12:=by rw[getD_ne (show 0≠12 by decide)];exact h.i12
 s13:=by rw[getD_ne (show 0≠13 by decide)];exact h.s13
 l14:=by rw[getD_ne (show 0≠14 by decide)];exact h.l14
section
variable {g B N:Nat}{S:Ty}{w w1 w2:World}{e:Int}{cs:Array Value}
theorem Sta.put (h:Sta g B S w N e) {j:Nat}{v:Value}(hj:j < 17) (hv:∀ cs,STy S cs e N→cs.size=19→STy S (cs.setIfInBounds j v) e N):Stp (fun i=>i=g) B S w S (w.setCell ⟨g,j,none⟩ v)∧Sta g B S (w.setCell ⟨g,j,none⟩ v) N e:=by
 obtain⟨cs,h1,h2⟩:=h.ex;have hst:Stp (fun i=>i=g) B S w S (w.setCell ⟨g,j,none⟩ v):=Stp.wrote h.tw h.no rfl (grown_set1 _ _ _ _);refine⟨hst,⟨⟨_,⟨h1.box.set j v,by simpa using h1.size,?_,?_⟩,hv cs h2 h1.size⟩,hst.tw,h.no,h.lo⟩⟩
 ·rw[Array.getElem?_setIfInBounds,if_neg (by omega)];exact h1.c17
 ·rw[Array.getElem?_setIfInBounds,if_neg (by omega)];exact h1.c18
theorem Sta.cell (h:Sta g B S w N e) {j:Nat}(hj:j < 19):(∃ v,w.cell? ⟨g,j,none⟩=some v)∧w.frozen? ⟨g,j,none⟩=false:=by
 obtain⟨cs,h1,h2⟩:=h.ex;have hs:=h1.size;exact⟨⟨cs[j],(h1.box.cell j).trans (Array.getElem?_eq_getElem (by omega))⟩,h1.box.frozen j⟩
theorem st_int (h:Sta g B S w N e) (hs:St w g cs e) (hA:Aft w g cs e w2) {j:Nat}(hj:j < 17) (hf:∀ (cs:Array Value) (e:Int) (n:Int),STy S cs e N→cs.size=19→STy S (cs.setIfInBounds j (vI kI n)) e N) :
  ((∃ v,w2.cell? ⟨g,j,none⟩=some v)∧w2.frozen? ⟨g,j,none⟩=false)∧g < w2.heap.size∧∀ n:Int,∃ e',Stp (fun i=>i=g) B S w S (w2.setCell ⟨g,j,none⟩ (vI kI n))∧Sta g B S (w2.setCell ⟨g,j,none⟩ (vI kI n)) N e'∧(e'=0→e=0):=by
 obtain⟨e',h2,h3,h4⟩:=h.aft hs hA;refine⟨h3.cell (by omega),h3.lt,fun n=>?_⟩;obtain⟨k1,k2⟩:=h3.put (v:=vI kI n) hj fun cs a b=>hf cs e' n a b;exact⟨e',h2.trans k1,k2,h4⟩
theorem st_seed (h:Sta g B S w N e) (hs:St w g cs e) (hA:Aft w g cs e w2) {s:ByteArray}(hsz:s.size≤big) :
  ((∃ v,w2.cell? ⟨g,13,none⟩=some v)∧w2.frozen? ⟨g,13,none⟩=false)∧g < w2.heap.size∧∃ e',Stp (fun i=>i=g) B S w S (w2.setCell ⟨g,13,none⟩ (vT s))∧Sta g B S (w2.setCell ⟨g,13,none⟩ (vT s)) N e'∧(e'=0→e=0):=by
 obtain⟨e',h2,h3,h4⟩:=h.aft hs hA;obtain⟨k1,k2⟩:=h3.put (j:=13) (v:=vT s) (by decide) fun cs a b=>a.seed b ⟨s,rfl,hsz⟩;exact⟨h3.cell (by decide),h3.lt,e',h2.trans k1,k2,h4⟩
theorem Sta.retype {T:Ty}(h:Sta g B S w N e) (h2:Stp (fun i=>i=g) B S w1 T w) (hle:Ty.le S T) (hn:T g=none):Sta g B T w N e:=by
 obtain⟨cs',k1,k2⟩:=h.ex;exact⟨⟨cs',k1,k2.mono hle (Sm.refl _) id (lR _)⟩,h2.tw,hn,h.lo⟩
theorem st_prec (h:Sta g B S w N e) (hs:St w g cs e) (hA:Aft w g cs e w2) {v:Value}{n:Nat}(hN:Names g B S w w2 n v) :
  ((∃ v,w2.cell? ⟨g,4,none⟩=some v)∧w2.frozen? ⟨g,4,none⟩=false)∧g < w2.heap.size∧∃ T e',Stp (fun i=>i=g) B S w T (w2.setCell ⟨g,4,none⟩ v)∧Sta g B T (w2.setCell ⟨g,4,none⟩ v) N e'∧(e'=0→e=0):=by
 obtain⟨e',h2,h3,h4⟩:=h.aft hs hA;obtain⟨⟨T,h5,h6⟩,h7⟩:=hN;refine⟨h3.cell (by decide),h3.lt,?_⟩;by_cases h0:e'=0
 ·obtain⟨cs',k1,k2⟩:=h3.ex;obtain⟨T,h5,h6⟩:=h7 ⟨cs',by rw[← h0];exact k1⟩;have h3':Sta g B T w2 N e':=h3.retype h5 h5.le (h5.none h.lt h.no);obtain⟨k1,k2⟩:=h3'.put (j:=4) (v:=v) (by decide) fun cs a b=>a.prec b fun _=>⟨n,h6⟩;exact⟨T,e',h5.trans k1,k2,h4⟩
 ·have h3':Sta g B T w2 N e':=h3.retype h5 h5.le (h5.none h.lt h.no);obtain⟨k1,k2⟩:=h3'.put (j:=4) (v:=v) (by decide) fun cs a b=>a.prec b fun q=>absurd q h0;exact⟨T,e',h5.trans k1,k2,h4⟩
theorem NatBox.tc {w:World}{b n:Nat}(h:NatBox w b n) (S:Ty):∃ cs,Box w b Kd.nat.tag cs∧cs.size=n * Kd.nat.len∧TC S .nat cs.toList:=by
 obtain⟨cs,h1,h2,h3⟩:=h;refine⟨cs,h1,by rw[h2];exact(Nat.mul_one n).symm,fun i v e=>?_⟩;rw[show i % Kd.nat.len=0 from Nat.mod_one i];obtain⟨x,hx⟩:=h3 i v (by rw[← Array.getElem?_toList];exact e);exact⟨x,hx⟩
theorem st_rat {lo:Nat}{neg:Bool}{x y:Value}(h:Sta g B S w N e) (hs:St w g cs e) (hA:Aft w g cs e w2) (hlo:w.heap.size≤lo) (hR:RatV lo w2 (.agg #[.bool neg,x,y])) :
  ∃ T e',Stp (fun i=>i=g) B S w T w2∧Sta g B T w2 N e'∧(e'=0→e=0)∧FTok T (.sl .nat) x∧FTok T (.sl .nat) y:=by
 obtain⟨e',h2,h3,h4⟩:=h.aft hs hA;rcases hR with hv|⟨neg',b1,n1,b2,n2,hv,q1,q2,q3,q4,q5,q6⟩
 ·injection hv with hv;have e1:x=vS none 0 0:=by have:=congrArg (fun a=>a[1]?) hv;simpa using this
  have e2:y=vS none 0 0:=by have:=congrArg (fun a=>a[2]?) hv;simpa using this
  subst e1 e2;exact⟨S,e',h2,h3,h4,⟨0,Sl.nil _ _⟩,⟨0,Sl.nil _ _⟩⟩
 ·injection hv with hv;have e1:x=vS (some ⟨b1,0,none⟩) n1 n1:=by have:=congrArg (fun a=>a[1]?) hv;simpa using this
  have e2:y=vS (some ⟨b2,0,none⟩) n2 n2:=by have:=congrArg (fun a=>a[2]?) hv;simpa using this
  subst e1 e2;have hl:=h.lt;have z1:S b1=none:=h.tw.none_ge (by omega);have z2:S b2=none:=h.tw.none_ge (by omega);have z3:(S.add b1 .nat n1) b2=none:=by unfold Ty.add;rw[if_neg (by omega)];exact z2
  obtain⟨c1,a1,a2,a3⟩:=q5.tc S;obtain⟨c2,a4,a5,a6⟩:=q6.tc (S.add b1 .nat n1);have hsz:=h.size;have s1:Stp (fun i=>i=g) B S w (S.add b1 .nat n1) w2:=h2.add (by omega) (by omega) z1 a1 a2 a3;have s2:Stp (fun i=>i=g) B S w ((S.add b1 .nat n1).add b2 .nat n2) w2:=s1.add (by omega) (by omega) z3 a4 a5 a6;refine⟨_,e',s2,h3.retype s2 s2.le (s2.none h.lt h.no),h4,⟨n1,_,_,rfl,by omega,lR _,by unfold maxLen;omega,.inr ⟨b1,rfl,?_⟩⟩,⟨n2,_,_,rfl,by omega,lR _,by unfold maxLen;omega,.inr ⟨b2,rfl,Ty.add_new _ _ _ _⟩⟩⟩;exact Ty.le_add z3 _ _ _ _ (Ty.add_new _ _ _ _)
theorem st_risk {T:Ty}{e':Int}{neg:Bool}{x y:Value}(hst:Stp (fun i=>i=g) B S w T w2) (h3:Sta g B T w2 N e') (hx:FTok T (.sl .nat) x) (hy:FTok T (.sl .nat) y) :
  Stp (fun i=>i=g) B S w T (((w2.setCell ⟨g,9,none⟩ (.bool neg)).setCell ⟨g,10,none⟩ x).setCell ⟨g,11,none⟩ y)∧Sta g B T (((w2.setCell ⟨g,9,none⟩ (.bool neg)).setCell ⟨g,10,none⟩ x).setCell ⟨g,11,none⟩ y) N e':=by
 obtain⟨k1,k2⟩:=h3.put (j:=9) (v:=.bool neg) (by decide) fun cs a b=>a.neg b ⟨neg,rfl⟩;obtain⟨k3,k4⟩:=k2.put (j:=10) (v:=x) (by decide) fun cs a b=>a.num b hx;obtain⟨k5,k6⟩:=k4.put (j:=11) (v:=y) (by decide) fun cs a b=>a.den b hy;exact⟨((hst.trans k1).trans k3).trans k5,k6⟩
end
end
section
set_option maxHeartbeats 8000000
set_option maxRecDepth 100000
theorem field_any {g B N:Nat}{S:Ty}{w:World}{e x:Int}{kind key:ByteArray}{A:Option Addr}{l:List ByteArray}{c:Nat}(h:Sta g B S w N e) (hkz:kind.size≤24) (hyz:key.size≤24) (hl:Lst g w A l) (hz:∀ s ∈ l,s.size≤big) (hm:l.length≤1000) (hc:l.length≤c) :
  Calls pG 81 #[vP (some ⟨g,0,none⟩),vT kind,.agg #[vT key,vS A l.length c,vI kI x]] w fun en w'=>en=.returned (.tuple #[])∧∃ T e',Stp (fun i=>i=g) B S w T w'∧Sta g B T w' N e'∧(e'=0→e=0):=by
 obtain⟨w1,hw1⟩:∃ r,w.alloc (.cells #[vT key,vS A l.length c,vI kI x] 89)=r:=⟨_,rfl⟩;have hb1:Below w.heap.size w w1:=by rw[← hw1];exact(bR _ _).alloc (lR _) _
 have hx1:Box w1 w.heap.size 89 #[vT key,vS A l.length c,vI kI x]:=by rw[← hw1];exact Box.new _ _ _
 obtain⟨cs,hs,_⟩:=h.ex;have H1:=hide (h.below hb1);have HS1:=hide (hs.below hb1);have HT0:Hid (Stp (fun i=>i=g) B S w S w1):=Stp.of_below h.tw hb1;have HL1:=hide (hl.below hb1);have HZ:=hide hz;have HLd:=hide (box_load aggField hx1 rfl);have HX1:=hide hx1;have HW1:=hide hw1;have hg1:=(hs.below hb1).lt;have HB1:=hide hb1.size;clear h hs hb1 hl hz hx1 hw1;have c0:=HX1.out.cell 0;simp at c0;have h1:(⟨#[32]⟩:ByteArray).size=1:=rfl;have h2:(kind ++ ⟨#[32]⟩:ByteArray).size≤25:=by rw[ByteArray.size_append];omega
 go_enter Tryz.func81,Tryz.ntmps81;go_upto_region 1 with (fail);rw[HW1.out];go_upto_region 2 with (fail);generalize (kind ++ ⟨#[32]⟩ ++ key:ByteArray)=kk;cases h09:(kk.toList==[115,99,97,110,32,100,111,116,115]) with
 |true=>have HC:=hide (fun low high=>in_any (key:=key) (x:=x) (low:=low) (high:=high) (c:=c) HS1.out HL1.out HZ.out);go_wp2_with ((with_reducible refine gV 15 (.agg #[vT key,vS A l.length c,vI kI x]) w1 ?_ ?_ ?_);rfl;exact gives_load rfl rfl HLd.out);refine(HC.out _ _).mono ?_;rintro en w2 ⟨n,rfl,hA⟩;obtain⟨⟨⟨v,hv⟩,hf⟩,hlt,hn⟩:=st_int H1.out HS1.out hA (j:=1) (by decide) (fun cs e n a b=>a.int1 b ⟨n,rfl⟩);obtain⟨e',k1,k2,k3⟩:=hn n;have k1:=hide k1;have k2:=hide k2;have k3:=hide k3;clear hA hn;go_wp2_with fail;go_end0;exact⟨rfl,S,e',HT0.out.trans k1.out,k2.out,k3.out⟩
 |false=>
  cases h19:(kk.toList==[115,99,97,110,32,98,108,97,110,107]) with
  |true=>have HC:=hide (fun low high=>in_any (key:=key) (x:=x) (low:=low) (high:=high) (c:=c) HS1.out HL1.out HZ.out);go_wp2_with ((with_reducible refine gV 24 (.agg #[vT key,vS A l.length c,vI kI x]) w1 ?_ ?_ ?_);rfl;exact gives_load rfl rfl HLd.out);refine(HC.out _ _).mono ?_;rintro en w2 ⟨n,rfl,hA⟩;obtain⟨⟨⟨v,hv⟩,hf⟩,hlt,hn⟩:=st_int H1.out HS1.out hA (j:=2) (by decide) (fun cs e n a b=>a.int2 b ⟨n,rfl⟩);obtain⟨e',k1,k2,k3⟩:=hn n;have k1:=hide k1;have k2:=hide k2;have k3:=hide k3;clear hA hn;go_wp2_with fail;go_end0;exact⟨rfl,S,e',HT0.out.trans k1.out,k2.out,k3.out⟩
  |false=>
   cases h29:(kk.toList==[115,99,97,110,32,109,97,114,107,101,100]) with
   |true=>have HC:=hide (fun low high=>in_any (key:=key) (x:=x) (low:=low) (high:=high) (c:=c) HS1.out HL1.out HZ.out);go_wp2_with ((with_reducible refine gV 33 (.agg #[vT key,vS A l.length c,vI kI x]) w1 ?_ ?_ ?_);rfl;exact gives_load rfl rfl HLd.out);refine(HC.out _ _).mono ?_;rintro en w2 ⟨n,rfl,hA⟩;obtain⟨⟨⟨v,hv⟩,hf⟩,hlt,hn⟩:=st_int H1.out HS1.out hA (j:=3) (by decide) (fun cs e n a b=>a.int3 b ⟨n,rfl⟩);obtain⟨e',k1,k2,k3⟩:=hn n;have k1:=hide k1;have k2:=hide k2;have k3:=hide k3;clear hA hn;go_wp2_with fail;go_end0;exact⟨rfl,S,e',HT0.out.trans k1.out,k2.out,k3.out⟩
   |false=>
    cases h39:(kk.toList==[115,99,97,110,110,101,114,115,32,99,111,117,110,116]) with
    |true=>have HC:=hide (fun low high=>in_any (key:=key) (x:=x) (low:=low) (high:=high) (c:=c) HS1.out HL1.out HZ.out);go_wp2_with ((with_reducible refine gV 42 (.agg #[vT key,vS A l.length c,vI kI x]) w1 ?_ ?_ ?_);rfl;exact gives_load rfl rfl HLd.out);refine(HC.out _ _).mono ?_;rintro en w2 ⟨n,rfl,hA⟩;obtain⟨⟨⟨v,hv⟩,hf⟩,hlt,hn⟩:=st_int H1.out HS1.out hA (j:=7) (by decide) (fun cs e n a b=>a.int7 b ⟨n,rfl⟩);obtain⟨e',k1,k2,k3⟩:=hn n;have k1:=hide k1;have k2:=hide k2;have k3:=hide k3;clear hA hn;go_wp2_with fail;go_end0;exact⟨rfl,S,e',HT0.out.trans k1.out,k2.out,k3.out⟩
    |false=>
     cases h49:(kk.toList==[115,99,97,110,110,101,114,115,32,98,97,116,99,104]) with
     |true=>have HC:=hide (fun low high=>in_any (key:=key) (x:=x) (low:=low) (high:=high) (c:=c) HS1.out HL1.out HZ.out);go_wp2_with ((with_reducible refine gV 51 (.agg #[vT key,vS A l.length c,vI kI x]) w1 ?_ ?_ ?_);rfl;exact gives_load rfl rfl HLd.out);refine(HC.out _ _).mono ?_;rintro en w2 ⟨n,rfl,hA⟩;obtain⟨⟨⟨v,hv⟩,hf⟩,hlt,hn⟩:=st_int H1.out HS1.out hA (j:=8) (by decide) (fun cs e n a b=>a.int8 b ⟨n,rfl⟩);obtain⟨e',k1,k2,k3⟩:=hn n;have k1:=hide k1;have k2:=hide k2;have k3:=hide k3;clear hA hn;go_wp2_with fail;go_end0;exact⟨rfl,S,e',HT0.out.trans k1.out,k2.out,k3.out⟩
     |false=>
      cases h59:(kk.toList==[112,114,101,99,105,110,99,116,115,32,110,97,109,101,115]) with
      |true=>have HC:=hide (fun most=>list_any (key:=key) (x:=x) (most:=most) HS1.out HL1.out HZ.out hm hc H1.out.tw H1.out.size H1.out.no);go_wp2_with ((with_reducible refine gV 60 (.agg #[vT key,vS A l.length c,vI kI x]) w1 ?_ ?_ ?_);rfl;exact gives_load rfl rfl HLd.out);refine(HC.out _).mono ?_;rintro en w2 ⟨A',c',rfl,hA,hN⟩;obtain⟨⟨⟨v,hv⟩,hf⟩,hlt,T,e',k1,k2,k3⟩:=st_prec H1.out HS1.out hA hN;have k1:=hide k1;have k2:=hide k2;have k3:=hide k3;clear hA hN;go_wp2_with fail;go_end0;exact⟨rfl,T,e',HT0.out.trans k1.out,k2.out,k3.out⟩
      |false=>
       cases h69:(kk.toList==[97,117,100,105,116,32,114,105,115,107]) with
       |true=>
        have HC:=hide (risk_any (key:=key) (x:=x) (c:=c) HS1.out HL1.out HZ.out);go_wp2_with ((with_reducible refine gV 69 (.agg #[vT key,vS A l.length c,vI kI x]) w1 ?_ ?_ ?_);rfl;exact gives_load rfl rfl HLd.out);refine HC.out.mono ?_;rintro en w2 ⟨v,rfl,hR,hA⟩;obtain⟨neg,x9,y9,rfl⟩:∃ neg x9 y9,v=.agg #[.bool neg,x9,y9]:=by
         rcases hR with hv|⟨neg,b1,n1,b2,n2,hv,_⟩
         ·exact⟨_,_,_,hv⟩
         ·exact⟨_,_,_,hv⟩
        obtain⟨T,e',k1,k2,k3,k4,k5⟩:=st_rat H1.out HS1.out hA (lR _) hR;obtain⟨⟨v9,h9⟩,f9⟩:=k2.cell (j:=9) (by decide);obtain⟨⟨v10,h10⟩,f10⟩:=k2.cell (j:=10) (by decide);obtain⟨⟨v11,h11⟩,f11⟩:=k2.cell (j:=11) (by decide);obtain⟨k6,k7⟩:=st_risk (neg:=neg) k1 k2 k4 k5;have hlt:=k2.lt;obtain⟨n9,A9,c9,rfl,_⟩:=k4;obtain⟨m9,D9,d9,rfl,_⟩:=k5;have k6:=hide k6;have k7:=hide k7;have k3:=hide k3;clear hA hR k1 k2;go_wp2_with fail;go_end0;exact⟨rfl,T,e',HT0.out.trans k6.out,k7.out,k3.out⟩
       |false=>
        cases h79:(kk.toList==[97,117,100,105,116,32,115,101,101,100]) with
        |true=>have HC:=hide (seed_any (key:=key) (x:=x) (c:=c) HS1.out HL1.out HZ.out);go_wp2_with ((with_reducible refine gV 78 (.agg #[vT key,vS A l.length c,vI kI x]) w1 ?_ ?_ ?_);rfl;exact gives_load rfl rfl HLd.out);refine HC.out.mono ?_;rintro en w2 ⟨s,rfl,hsz,hA⟩;obtain⟨⟨⟨v,hv⟩,hf⟩,hlt,e',k1,k2,k3⟩:=st_seed H1.out HS1.out hA hsz;have k1:=hide k1;have k2:=hide k2;have k3:=hide k3;clear hA hsz;go_wp2_with fail;go_end0;exact⟨rfl,S,e',HT0.out.trans k1.out,k2.out,k3.out⟩
        |false=>
         cases h89:(kk.toList==[112,114,105,118,97,99,121,32,99,101,108,108]) with
         |true=>have HC:=hide (fun low high=>in_any (key:=key) (x:=x) (low:=low) (high:=high) (c:=c) HS1.out HL1.out HZ.out);go_wp2_with ((with_reducible refine gV 87 (.agg #[vT key,vS A l.length c,vI kI x]) w1 ?_ ?_ ?_);rfl;exact gives_load rfl rfl HLd.out);refine(HC.out _ _).mono ?_;rintro en w2 ⟨n,rfl,hA⟩;obtain⟨⟨⟨v,hv⟩,hf⟩,hlt,hn⟩:=st_int H1.out HS1.out hA (j:=12) (by decide) (fun cs e n a b=>a.int12 b ⟨n,rfl⟩);obtain⟨e',k1,k2,k3⟩:=hn n;have k1:=hide k1;have k2:=hide k2;have k3:=hide k3;clear hA hn;go_wp2_with fail;go_end0;exact⟨rfl,S,e',HT0.out.trans k1.out,k2.out,k3.out⟩
         |false=>go_wp2_with fail;go_end0;exact⟨rfl,S,e,HT0.out,H1.out,id⟩
end
section
def ConF (w:World) (A:Option Addr) (C:List ByteArray):Prop:=
 0 < C.length→∃ b off,A=some ⟨b,off,none⟩∧b < w.heap.size∧∀ k,k < C.length→∃ (D:Option Addr) (l:List ByteArray) (d:Nat) (x2 x3 x4 x5 x6 x7 x8:Int),(C.getD k default).size≤big∧Strs w D l∧l.length≤d∧(∀ s ∈ l,s.size≤big)∧
  w.cell? ⟨b,off+k * 9,none⟩=some (vT (C.getD k default))∧w.cell? ⟨b,off+k * 9+1,none⟩=some (vS D l.length d)∧w.cell? ⟨b,off+k * 9+2,none⟩=some (vI kI x2)∧w.cell? ⟨b,off+k * 9+3,none⟩=some (vI kI x3)∧
  w.cell? ⟨b,off+k * 9+4,none⟩=some (vI kI x4)∧w.cell? ⟨b,off+k * 9+5,none⟩=some (vI kI x5)∧w.cell? ⟨b,off+k * 9+6,none⟩=some (vI kI x6)∧w.cell? ⟨b,off+k * 9+7,none⟩=some (vI kI x7)∧w.cell? ⟨b,off+k * 9+8,none⟩=some (vI kI x8)
def StyF (w:World) (A:Option Addr) (n:Nat):Prop:=
 0 < n→∃ b off,A=some ⟨b,off,none⟩∧b < w.heap.size∧∀ k,k < n→∃ (s:ByteArray) (D E:Option Addr) (l m:List Int) (d e:Nat),s.size≤big∧Ints w D l∧l.length≤d∧Ints w E m∧m.length≤e∧
  w.cell? ⟨b,off+k * 3,none⟩=some (vT s)∧w.cell? ⟨b,off+k * 3+1,none⟩=some (vS D l.length d)∧w.cell? ⟨b,off+k * 3+2,none⟩=some (vS E m.length e)
structure ElF (w:World) (e:EV) (P C:List ByteArray):Prop where
 pre:Strs w e.pa P
 psz:∀ s ∈ P,s.size≤big
 con:ConF w e.ca C
 sty:StyF w e.sa e.sn
 num:∃ l,l.length=e.nn∧Nats w e.na l
 den:∃ l,l.length=e.dn∧Nats w e.da l
 tsz:e.title.size≤big
 ssz:e.seed.size≤big
section
variable {w w':World}{A:Option Addr}{C P:List ByteArray}{n:Nat}{e:EV}
theorem ConF.below (h:ConF w A C) (hb:Below w.heap.size w w'):ConF w' A C:=fun hp=>by
 obtain⟨b,off,e,hF,hc⟩:=h hp;refine⟨b,off,e,lL hF hb.size,fun k hk=>?_⟩;obtain⟨D,l,d,x2,x3,x4,x5,x6,x7,x8,hs,hl,hd,hz,h0,h1,h2,h3,h4,h5,h6,h7,h8⟩:=hc k hk;have hg:=hb.block b hF;exact⟨D,l,d,x2,x3,x4,x5,x6,x7,x8,hs,ListIn.below hl hb,hd,hz,(cB hg).trans h0,(cB hg).trans h1,(cB hg).trans h2,(cB hg).trans h3,(cB hg).trans h4,(cB hg).trans h5,(cB hg).trans h6,(cB hg).trans h7,(cB hg).trans h8⟩
theorem StyF.below (h:StyF w A n) (hb:Below w.heap.size w w'):StyF w' A n:=fun hp=>by
 obtain⟨b,off,e,hF,hc⟩:=h hp;refine⟨b,off,e,lL hF hb.size,fun k hk=>?_⟩;obtain⟨s,D,E,l,m,d,e,hs,h1,h2,h3,h4,h5,h6,h7⟩:=hc k hk;have hg:=hb.block b hF;exact⟨s,D,E,l,m,d,e,hs,ListIn.below h1 hb,h2,ListIn.below h3 hb,h4,(cB hg).trans h5,(cB hg).trans h6,(cB hg).trans h7⟩
theorem ElF.below (h:ElF w e P C) (hb:Below w.heap.size w w'):ElF w' e P C:=by
 obtain⟨h1,h2,h3,h4,⟨l,h5,h6⟩,⟨m,h7,h8⟩,h9,h10⟩:=h;exact⟨ListIn.below h1 hb,h2,h3.below hb,h4.below hb,⟨l,h5,ListIn.below h6 hb⟩,⟨m,h7,ListIn.below h8 hb⟩,h9,h10⟩
end
set_option maxHeartbeats 1000000
set_option maxRecDepth 100000
theorem one_any {key value:ByteArray}{w:World} :
  Calls pG 40 #[vT key,vT value] w fun en w'=>en=.returned (.agg #[vT key,vS (some ⟨w.heap.size+1,0,none⟩) 1 1,vI kI 0])∧Box w' (w.heap.size+1) 9 #[vT value]∧Below w.heap.size w w':=by
 obtain⟨w1,hw1⟩:∃ r,w.alloc (.cells #[vT ⟨#[]⟩,vS none 0 0,vI kI 0] 89)=r:=⟨_,rfl⟩;have hb1:Below w.heap.size w w1:=by rw[← hw1];exact(bR _ _).alloc (lR _) _
 have hx1:Box w1 w.heap.size 89 #[vT ⟨#[]⟩,vS none 0 0,vI kI 0]:=by rw[← hw1];exact Box.new _ _ _
 have hs1:w1.heap.size=w.heap.size+1:=by rw[← hw1];simp
 have hx2:Box (w1.alloc (.cells #[vT value] 9)) w.heap.size 89 #[vT ⟨#[]⟩,vS none 0 0,vI kI 0]:=hx1.alloc _;obtain⟨w3,a1,a2,a3⟩:=box_store (cs':=#[vT key,vS (some ⟨w.heap.size+1,0,none⟩) 1 1,vI kI 0]) aggField hx2 rfl rfl (oneR rfl rfl rfl);have hv:Box w3 (w.heap.size+1) 9 #[vT value]:=by have:=Box.new w1 9 #[vT value];rw[hs1]at this;exact this.grown a3 (by simp)
 have HSt:=hide a1;have HLd:=hide (box_load aggField a2 rfl);have HV:=hide hv;have HB3:Hid (Below w.heap.size w w3):=by have hb2:=hb1.alloc hb1.size (.cells #[vT value] 9);exact⟨a3.os.trans hb2.os,a3.tape.trans hb2.tape,a3.output.trans hb2.output,lT hb2.size a3.size,fun i hi=>(a3.block i (lL hi hb2.size) (by simp;omega)).trans (hb2.block i hi)⟩
 have HW1:=hide hw1;have HS1:=hide hs1;clear hb1 hx1 hx2 a1 a2 a3 hv hw1;go_enter Tryz.func40,Tryz.ntmps40;go_upto_region 1 with (fail);rw[HW1.out];go_wp2_with ((with_reducible refine dS w3 ?_ ?_ ?_);rfl;exact does_store rfl rfl rfl HSt.out);refine bodyPost_ret (v:=.agg #[vT key,vS (some ⟨w.heap.size+1,0,none⟩) 1 1,vI kI 0]) (by refine results_cell (p:=4) ?_ ?_ HLd.out <;> rfl) rfl ?_;exact⟨rfl,HV.out,HB3.out⟩
set_option maxHeartbeats 200000
set_option maxRecDepth 512
theorem news_cells {w:World}{l:List Value}{cs:Array Value}{t:TypeId}(hc:cs=l.toArray):∀ j u,l[j]? = some u→(w.alloc (.cells cs t)).cell? ((⟨w.heap.size,0,none⟩:Addr).add j)=some u:=fun j u hu=>by
 rw[add_off,(Box.new w t cs).cell,hc,Nat.zero_add,List.getElem?_toArray];exact hu
theorem push_elem {M:Nat→Prop}{B n:Nat}{S:Ty}{w wq:World}{k:Kd}{v:Value}{t:TypeId}(ht:pG.underlying t=some (.slice k.tag)) (h:TW B S w) (hB:B≤w.heap.size) (hs:Sl S k n v) (ot:TypeId) {l:List Value}{cs:Array Value}(hc:cs=l.toArray) (hl:l.length=k.len) (hT:TC S k l) (hn:n < 1000) (hq:Below w.heap.size w wq) :
  ∃ A' c' w' T,(Builtin.append_ #[t,t] ot #[v,vS (some ⟨wq.heap.size,0,none⟩) 1 1]).run pG (wq.alloc (.cells cs k.tag))=.ok (vS A' (n+1) c') w'∧Stp M B S w T w'∧Sl T k (n+1) (vS A' (n+1) c'):=by
 have hb:Below w.heap.size w (wq.alloc (.cells cs k.tag)):=hq.alloc hq.size _;have s1:Stp M B S w S (wq.alloc (.cells cs k.tag)):=Stp.of_below h hb;obtain⟨A',c',w',T,hr,hst,hk⟩:=Sl.append (M:=M) ht s1.tw (lT hB s1.size) hs ot ⟨wq.heap.size,0,none⟩ 1 1 l (by rw[hl,Nat.one_mul]) (news_cells hc) hT (by omega) (by omega);exact⟨A',c',w',T,hr,s1.trans hst,hk⟩
set_option maxHeartbeats 4000000
set_option maxRecDepth 100000
theorem pick_any {A D:Option Addr}{c d B:Nat}{l:List ByteArray}{ix:List Int}{S:Ty}{w:World}(hl:ListIn Value.string (fun b=>b < B) w A l) (hz:∀ s ∈ l,s.size≤big) (hx:ListIn iv (fun b=>b < B) w D ix) (hm:l.length≤1000) (hm2:ix.length≤900) (hT:TW B S w) (hB:B≤w.heap.size) :
  Calls pG 43 #[vS A l.length c,vS D ix.length d] w fun en w'=>∃ v T,en=.returned v∧Stp No B S w T w'∧Sl T .str ix.length v:=by
 have HL:=hide hl;have HX:=hide hx;have HZ:=hide hz;have HT:=hide hT;have HBB:=hide hB;clear hl hx hz hT hB;go_enter Tryz.func43,Tryz.ntmps43;go_wp2_with fail;go_loopw [5,6] (fun o i wr=>∃ k:Nat,k≤ix.length∧i=vI kI k∧∃ (v:Value) (T:Ty),o=v∧Hid (Stp No B S w T wr)∧Hid (Sl T .str k v)) (fun _ i _=>ix.length - (iOf i).toNat);case atStart=>exact⟨0,zL _,rfl,_,S,rfl,Stp.refl HT.out,Sl.nil _ _⟩
 case round=>
  obtain⟨k,hk,rfl,v,T,rfl,HS,HV⟩:=hrel;have HBl:Hid (Below B w wr):=HS.out.below HT.out HBB.out (fun i _ h=>h);by_cases hlt:k < ix.length
  ·obtain⟨b,off,rfl,hb,h0⟩:=HX.out.at_ hlt;have h0:=(HBl.out.cell (p:=⟨b,off+k,none⟩) hb).trans h0;unfold iv at h0;have hbw:b < wr.heap.size:=lL (lL hb HBB.out) HS.out.size;generalize ix.getD k default=a at *;have HP:=hide (fun (s:ByteArray) (hs:s.size≤big)=>push_elem (M:=No) (k:=.str) Tryz.underlying22 HS.out.tw (lT HBB.out HS.out.size) HV.out 22 (l:=[.string s]) rfl rfl (TC.strs (l:=[s]) (by simpa using hs)) (by omega) (bR _ _));obtain⟨KA,kc,rfl,_,_⟩:=HV.out.form;by_cases hn:a < 0
   ·obtain⟨A4,c4,w4,T4,hr4,hs4,hk4⟩:=HP.out ⟨#[]⟩ (by decide);have HR4:=hide hr4;have HS4:=hide (HS.out.trans hs4);have HK4:=hide hk4;clear hr4 hs4 hk4 HP;go_wp2_with ((with_reducible refine gV 29 (Value.slice A4 (k+1) c4) w4 ?_ ?_ ?_);rfl;exact gives_append rfl rfl rfl HR4.out);go_roundw;case rel=>exact⟨k+1,by omega,by go_num,_,T4,rfl,HS4.out,HK4.out⟩
    case measure=>simp[iOf];omega
   ·by_cases hge:(l.length:Int)≤a
    ·obtain⟨A4,c4,w4,T4,hr4,hs4,hk4⟩:=HP.out ⟨#[]⟩ (by decide);have HR4:=hide hr4;have HS4:=hide (HS.out.trans hs4);have HK4:=hide hk4;clear hr4 hs4 hk4 HP;go_wp2_with ((with_reducible refine gV 29 (Value.slice A4 (k+1) c4) w4 ?_ ?_ ?_);rfl;exact gives_append rfl rfl rfl HR4.out);go_roundw;case rel=>exact⟨k+1,by omega,by go_num,_,T4,rfl,HS4.out,HK4.out⟩
     case measure=>simp[iOf];omega
    ·obtain⟨m,rfl⟩:∃ m:Nat,a=(m:Int):=⟨a.toNat,by omega⟩;have hml:m < l.length:=by omega
     obtain⟨b2,off2,rfl,hb2,h2⟩:=HL.out.at_ hml;have h2:=(HBl.out.cell (p:=⟨b2,off2+m,none⟩) hb2).trans h2;have hbw2:b2 < wr.heap.size:=lL (lL hb2 HBB.out) HS.out.size;have hz2:=HZ.out _ (getD_memD hml);generalize l.getD m default=s at *;obtain⟨A4,c4,w4,T4,hr4,hs4,hk4⟩:=HP.out s hz2;have HR4:=hide hr4;have HS4:=hide (HS.out.trans hs4);have HK4:=hide hk4;have hmi:(m:Int) < (l.length:Int):=by omega
     clear hr4 hs4 hk4 HP hz2;go_wp2_with ((with_reducible refine gV 39 (Value.slice A4 (k+1) c4) w4 ?_ ?_ ?_);rfl;exact gives_append rfl rfl rfl HR4.out);go_roundw;case rel=>exact⟨k+1,by omega,by go_num,_,T4,rfl,HS4.out,HK4.out⟩
     case measure=>simp[iOf];omega
  ·obtain rfl:k=ix.length:=by omega
   go_wp2_with fail;go_ret;exact⟨_,T,rfl,HS.out,HV.out⟩
end
section
def CLen (w:World) (A:Option Addr) (n:Nat):Prop:=∀ b off,A=some ⟨b,off,none⟩→∀ k,k < n→∀ D m d,w.cell? ⟨b,off+k * 9+1,none⟩=some (vS D m d)→m≤7
def SLen (w:World) (A:Option Addr) (n:Nat):Prop:=∀ b off,A=some ⟨b,off,none⟩→∀ k,k < n→(∀ D m d,w.cell? ⟨b,off+k * 3+1,none⟩=some (vS D m d)→m≤12)∧∀ D m d,w.cell? ⟨b,off+k * 3+2,none⟩=some (vS D m d)→m≤4
structure SmallE (w:World) (e:EV) (p c:Nat):Prop where
 hp:p≤12
 hc:c≤4
 hs:e.sn≤6
 hn:e.nn≤1
 hd:e.dn≤1
 cl:CLen w e.ca c
 sl:SLen w e.sa e.sn
set_option maxHeartbeats 8000000
set_option maxRecDepth 100000
theorem small8_any {e:EV}{P C:List ByteArray}{w:World}(h:ElF w e P C) :
  Calls pG 14 #[.agg (e.cells P.length C.length)] w fun en w'=>∃ v,en=.returned v∧Says v (SmallE w e P.length C.length)∧Below w.heap.size w w':=by
 have hcon:=h.con;have hsty:=h.sty;have HSm:Hid (∀ (h1:P.length≤12) (h2:C.length≤4) (h3:e.sn≤6) (h4:e.nn≤1) (h5:e.dn≤1) (h6:CLen w e.ca C.length) (h7:SLen w e.sa e.sn),SmallE w e P.length C.length):=fun h1 h2 h3 h4 h5 h6 h7=>⟨h1,h2,h3,h4,h5,h6,h7⟩;obtain⟨R,hR⟩:∃ R,SmallE w e P.length C.length=R:=⟨_,rfl⟩;rw[hR]at HSm ⊢;clear hR h;obtain⟨title,dots,blank,marked,pa,pc,ca,cc,sa,sn,sc,scanners,batch,neg,na,nn,nc,da,dn,dc,cell,seed⟩:=e;simp only[]at hcon hsty HSm;unfold EV.cells;simp only[];obtain⟨w1,hw1⟩:∃ x,w.alloc (.cells #[vT title,vI kI dots,vI kI blank,vI kI marked,vS pa P.length pc,vS ca C.length cc,vS sa sn sc,vI kI scanners,vI kI batch,.bool neg,vS na nn nc,vS da dn dc,vI kI cell,vT seed] 30)=x:=⟨_,rfl⟩;have hb1:Below w.heap.size w w1:=by rw[← hw1];exact(bR _ _).alloc (lR _) _
 have hX:Box w1 w.heap.size 30 #[vT title,vI kI dots,vI kI blank,vI kI marked,vS pa P.length pc,vS ca C.length cc,vS sa sn sc,vI kI scanners,vI kI batch,.bool neg,vS na nn nc,vS da dn dc,vI kI cell,vT seed]:=by rw[← hw1];exact Box.new _ _ _
 have c4:=hX.cell 4;have c5:=hX.cell 5;have c6:=hX.cell 6;have c10:=hX.cell 10;have c11:=hX.cell 11;simp at c4 c5 c6 c10 c11;have hlt:=hX.lt;have HC:=hide (hcon.below hb1);have HC0:=hide hcon;have HY:=hide (hsty.below hb1);have HY0:=hide hsty;have HB1:=hide hb1;have HW1:=hide hw1;generalize P.length=p at *;clear hcon hsty hb1 hX hw1;go_enter Tryz.func14,Tryz.ntmps14;go_upto_region 1 with (fail);rw[HW1.out];by_cases q0:12 < p
 ·have q0':(12:Int) < (p:Int):=by omega
  go_wp2_with fail;go_ret;exact⟨_,rfl,⟨false,rfl,fun h=>by cases h⟩,HB1.out⟩
 ·have q0':¬ (12:Int) < (p:Int):=by omega
  by_cases q1:4 < C.length
  ·have q1':(4:Int) < (C.length:Int):=by omega
   go_wp2_with fail;go_ret;exact⟨_,rfl,⟨false,rfl,fun h=>by cases h⟩,HB1.out⟩
  ·have q1':¬ (4:Int) < (C.length:Int):=by omega
   by_cases q2:6 < sn
   ·have q2':(6:Int) < (sn:Int):=by omega
    go_wp2_with fail;go_ret;exact⟨_,rfl,⟨false,rfl,fun h=>by cases h⟩,HB1.out⟩
   ·have q2':¬ (6:Int) < (sn:Int):=by omega
    by_cases q3:1 < nn
    ·have q3':(1:Int) < (nn:Int):=by omega
     go_wp2_with fail;go_ret;exact⟨_,rfl,⟨false,rfl,fun h=>by cases h⟩,HB1.out⟩
    ·have q3':¬ (1:Int) < (nn:Int):=by omega
     by_cases q4:1 < dn
     ·have q4':(1:Int) < (dn:Int):=by omega
      go_wp2_with fail;go_ret;exact⟨_,rfl,⟨false,rfl,fun h=>by cases h⟩,HB1.out⟩
     ·have q4':¬ (1:Int) < (dn:Int):=by omega
      go_wp2_with fail;go_loopw [3] (fun i wr=>∃ k:Nat,k≤C.length∧i=vI kI k∧Hid (CLen w ca k)∧wr=w1) (fun i _=>C.length - (iOf i).toNat);case atStart=>exact⟨0,zL _,rfl,(fun b off _ j hj=>by omega),rfl⟩
      case round=>
       obtain⟨k,hk,rfl,HCk,rfl⟩:=hrel;by_cases hltk:k < C.length
       ·obtain⟨b,off,rfl,hb,hc⟩:=HC.out (by omega);obtain⟨D,l,d,x2,x3,x4,x5,x6,x7,x8,_,_,_,_,_,h1,_⟩:=hc k hltk;have hki:(k:Int) < (C.length:Int):=by omega
        have H1:=hide h1;clear hc;by_cases h7:7 < l.length
        ·have h7':(7:Int) < (l.length:Int):=by omega
         go_wp2_with fail;go_ret;exact⟨_,rfl,⟨false,rfl,fun h=>by cases h⟩,HB1.out⟩
        ·have h7':¬ (7:Int) < (l.length:Int):=by omega
         have HCk':Hid (CLen w (some ⟨b,off,none⟩) (k+1)):=fun b' off' e' j hj D' m' d' hcell=>by
          by_cases ej:j=k
          ·subst ej;injection e' with e';injection e' with e1 e2;subst e1 e2;obtain⟨b0,off0,e0,hb0,_⟩:=HC0.out (by omega);injection e0 with e0;injection e0 with e3 e4;subst e3 e4;have:=(HB1.out.cell (p:=⟨b,off+j * 9+1,none⟩) hb0).trans hcell;rw[H1.out]at this;injection this with this;injection this with _ e5;omega
          ·exact HCk.out b' off' e' j (by omega) D' m' d' hcell
         go_wp2_with fail;go_roundw;case rel=>exact⟨k+1,by omega,by go_num,HCk'.out,by first|rfl|trivial⟩
         case measure=>simp[iOf];omega
       ·obtain rfl:k=C.length:=by omega
        go_wp2_with fail;go_loopw [4] (fun i wx=>∃ k:Nat,k≤sn∧i=vI kI k∧Hid (SLen w sa k)∧wx=wr) (fun i _=>sn - (iOf i).toNat);case atStart=>exact⟨0,zL _,rfl,(fun b off _ j hj=>by omega),rfl⟩
        case round=>
         obtain⟨k,hk2,rfl,HSk,rfl⟩:=hrel;by_cases hltk2:k < sn
         ·obtain⟨b,off,rfl,hb,hc⟩:=HY.out (by omega);obtain⟨s,D,E,l,m,d,e,_,_,_,_,_,_,h1,h2⟩:=hc k hltk2;have hki:(k:Int) < (sn:Int):=by omega
          have H1:=hide h1;have H2:=hide h2;clear hc;by_cases h12:12 < l.length
          ·have h12':(12:Int) < (l.length:Int):=by omega
           go_wp2_with fail;go_ret;exact⟨_,rfl,⟨false,rfl,fun h=>by cases h⟩,HB1.out⟩
          ·have h12':¬ (12:Int) < (l.length:Int):=by omega
           by_cases h4:4 < m.length
           ·have h4':(4:Int) < (m.length:Int):=by omega
            go_wp2_with fail;go_ret;exact⟨_,rfl,⟨false,rfl,fun h=>by cases h⟩,HB1.out⟩
           ·have h4':¬ (4:Int) < (m.length:Int):=by omega
            have HSk':Hid (SLen w (some ⟨b,off,none⟩) (k+1)):=fun b' off' e' j hj=>by
             by_cases ej:j=k
             ·subst ej;injection e' with e';injection e' with e1 e2;subst e1 e2;obtain⟨b0,off0,e0,hb0,_⟩:=HY0.out (by omega);injection e0 with e0;injection e0 with e3 e4;subst e3 e4;refine⟨fun D' m' d' hcell=>?_,fun D' m' d' hcell=>?_⟩
              ·have:=(HB1.out.cell (p:=⟨b,off+j * 3+1,none⟩) hb0).trans hcell;rw[H1.out]at this;injection this with this;injection this with _ e5;omega
              ·have:=(HB1.out.cell (p:=⟨b,off+j * 3+2,none⟩) hb0).trans hcell;rw[H2.out]at this;injection this with this;injection this with _ e5;omega
             ·exact HSk.out b' off' e' j (by omega)
            go_wp2_with fail;go_roundw;case rel=>exact⟨k+1,by omega,by go_num,HSk'.out,by first|rfl|trivial⟩
            case measure=>simp[iOf];omega
         ·obtain rfl:k=sn:=by omega
          have hr:=hide (HSm.out (by omega) (by omega) (by omega) (by omega) (by omega) HCk.out HSk.out);go_wp2_with fail;go_ret;exact⟨_,rfl,⟨true,rfl,fun _=>hr.out⟩,HB1.out⟩
end
section
section
variable {M:Nat→Prop}{B:Nat}{S T:Ty}{w w':World}{k1 k2 k3 k4 k5 k6 k7 k8 k9:Kd}{n1 n2 n3 n4 n5 n6 n7 n8 n9:Nat}{v1 v2 v3 v4 v5 v6 v7 v8 v9:Value}
theorem up2 (a1:Hid (Sl S k1 n1 v1)) (a2:Hid (Sl S k2 n2 v2)) (h:Stp M B S w T w') :
  Hid (Sl T k1 n1 v1)∧Hid (Sl T k2 n2 v2):=
 ⟨hide (a1.out.mono h.le),hide (a2.out.mono h.le)⟩
theorem up3 (a1:Hid (Sl S k1 n1 v1)) (a2:Hid (Sl S k2 n2 v2)) (a3:Hid (Sl S k3 n3 v3)) (h:Stp M B S w T w') :
  Hid (Sl T k1 n1 v1)∧Hid (Sl T k2 n2 v2)∧Hid (Sl T k3 n3 v3):=
 ⟨hide (a1.out.mono h.le),hide (a2.out.mono h.le),hide (a3.out.mono h.le)⟩
end
end
end Go.Proofs.YtnndaemmgbkjbaaGreatDoor
