/-
  parts of the proof: Head BlockL BlockF BlockP BlkS BlockS BlkC1 BlkC2 BlkC3 BlkC4 BlkD1 BlkD2 BlkD3 BlkD4 BlkD5 BlkD6 BlkD7 BlkD8.
-/
import Derived.Deep.CutBlock
import Derived.Test.YtnndaemmgbkjbaaGreatDoorPE
namespace Go.Proofs.YtnndaemmgbkjbaaGreatDoor
open Go.RowKit
open Nat renaming lt_of_lt_of_le → lL, le_trans → lT, le_refl → lR, zero_le → zL
open Go.RowKit.Below renaming refl → bR
open _root_.Go.Proofs.Tryz renaming prog → pG
open Go.Value renaming int → vI, slice → vS, string → vT, pointer → vP
open Go.IntKind renaming i64 → kI
set_option linter.unusedVariables false
set_option linter.unusedSimpArgs false
section
section
variable {g B N:Nat}{S:Ty}{w w1 w2:World}{e:Int}
theorem sl_val {k:Kd}{n:Nat}{v:Value}(h:Sl S k n v):∃ A c,v=vS A n c∧Sl S k n (vS A n c):=by
 obtain⟨A,c,rfl,q⟩:=id h;exact⟨A,c,rfl,h⟩
theorem St.cellD {cs:Array Value}(h:St w g cs e) {j:Nat}(hj:j < 19):w.cell? ⟨g,j,none⟩=some (cs.getD j undef):=by
 have hs:=h.size;rw[h.box.cell j,Array.getD_eq_getD_getElem?,Array.getElem?_eq_getElem (by omega)];rfl
theorem Sta.seen (h:Sta g B S w N e):∃ n A c,n≤N∧w.cell? ⟨g,14,none⟩=some (vS A n c)∧Sl S .str n (vS A n c):=by
 obtain⟨cs,h1,h2⟩:=h.ex;obtain⟨n,hn,hs⟩:=h2.l14;obtain⟨A,c,hv,hs'⟩:=sl_val hs;exact⟨n,A,c,hn,by rw[h1.cellD (by decide),hv],hs'⟩
theorem Sta.cons (h:Sta g B S w N e):∃ n A c,n≤N∧w.cell? ⟨g,5,none⟩=some (vS A n c)∧Sl S .con n (vS A n c):=by
 obtain⟨cs,h1,h2⟩:=h.ex;obtain⟨n,hn,hs⟩:=h2.c5;obtain⟨A,c,hv,hs'⟩:=sl_val hs;exact⟨n,A,c,hn,by rw[h1.cellD (by decide),hv],hs'⟩
theorem Sta.stys (h:Sta g B S w N e):∃ n A c D d E f,n≤N∧w.cell? ⟨g,6,none⟩=some (vS A n c)∧Sl S .sty0 n (vS A n c)∧w.cell? ⟨g,15,none⟩=some (vS D n d)∧Sl S .lin n (vS D n d)∧w.cell? ⟨g,16,none⟩=some (vS E n f)∧Sl S .nam n (vS E n f):=by
 obtain⟨cs,h1,h2⟩:=h.ex;obtain⟨n,hn,s6,s15,s16⟩:=h2.s6;obtain⟨A,c,hv,hs'⟩:=sl_val s6;obtain⟨D,d,hv2,hs2⟩:=sl_val s15;obtain⟨E,f,hv3,hs3⟩:=sl_val s16;exact⟨n,A,c,D,d,E,f,hn,by rw[h1.cellD (by decide),hv],hs',by rw[h1.cellD (by decide),hv2],hs2,by rw[h1.cellD (by decide),hv3],hs3⟩
theorem Sl.conName {n c i:Nat}{A:Option Addr}(hs:Sl S .con n (vS A n c)) (h:TW B S w) (hi:i < n):∃ b s,A=some ⟨b,0,none⟩∧b < w.heap.size∧w.cell? ⟨b,i * 9,none⟩=some (vT s):=by
 obtain⟨b,s,_,_,_,_,_,_,_,_,_,_,e,hb,_,_,_,_,h0,_⟩:=hs.con h hi;exact⟨b,s,e,hb,h0⟩
theorem Sl.styName {n c i:Nat}{A:Option Addr}(hs:Sl S .sty0 n (vS A n c)) (h:TW B S w) (hi:i < n):∃ b s,A=some ⟨b,0,none⟩∧b < w.heap.size∧w.cell? ⟨b,i * 3,none⟩=some (vT s):=by
 obtain⟨b,e,hb,_,_,hc⟩:=hs.at_ h hi;obtain⟨v,h0,s,rfl,_⟩:=hc 0 (by decide);exact⟨b,s,e,hb,h0⟩
end
def HeadPost (g B:Nat) (S:Ty) (w:World) (N:Nat) (e:Int) (kind name:ByteArray) (w':World):Prop:=∃ e',Stp (fun i=>i=g) B S w S w'∧Sta g B S w' N e'∧(e'=0→e=0∧(kind.toList=[99,111,110,116,101,115,116]→name.size≤24))
theorem head_fail {g B N:Nat}{S:Ty}{w w1 w2:World}{e:Int}{cs:Array Value}{kind name:ByteArray}(h:Sta g B S w N e) (hb:Below w.heap.size w w1) (hs:St w1 g cs e) (hA:Aft w1 g cs e w2) (hno:∀ c1,¬ St w2 g c1 0):HeadPost g B S w N e kind name w2:=by
 obtain⟨e',h2,h3,h4⟩:=(h.below hb).aft hs hA;refine⟨e',(Stp.of_below h.tw hb).trans h2,h3,fun h0=>?_⟩;obtain⟨cs',k1,_⟩:=h3.ex;rw[h0]at k1;exact absurd k1 (hno cs')
theorem aggBlock:AggT 86 4:=by
 refine⟨?_,fun w=>?_⟩
 ·have h:(pG.info? 86).map (fun i=>i.size)=some 4:=by kernel_rfl
  obtain⟨i0,h1,h2⟩:=Option.map_eq_some_iff.1 h;exact⟨i0,h1,h2⟩
 ·unfold isAgg;rw[Sem.run_bind,run_underlying Tryz.underlying86 w];rfl
set_option maxHeartbeats 16000000
set_option maxRecDepth 100000
theorem head_any {g B N:Nat}{S:Ty}{w:World}{e line:Int}{kind name:ByteArray}{F:Option Addr}{m f:Nat}(h:Sta g B S w N e) (hN:N≤1000) (hnz:name.size≤big) :
  Calls pG 77 #[vP (some ⟨g,0,none⟩),.agg #[vT kind,vT name,vS F m f,vI kI line]] w fun en w'=>en=.returned (.tuple #[])∧HeadPost g B S w N e kind name w':=by
 obtain⟨w1,hw1⟩:∃ r,w.alloc (.cells #[vT kind,vT name,vS F m f,vI kI line] 86)=r:=⟨_,rfl⟩;have hb1:Below w.heap.size w w1:=by rw[← hw1];exact(bR _ _).alloc (lR _) _
 have hx1:Box w1 w.heap.size 86 #[vT kind,vT name,vS F m f,vI kI line]:=by rw[← hw1];exact Box.new _ _ _
 obtain⟨nc,CA,cc,hnc,hc5,hcon⟩:=(h.below hb1).cons;obtain⟨ns,SA,sc,_,_,_,_,hns,hc6,hsty,_⟩:=(h.below hb1).stys;obtain⟨n14,DA,dc,hn14,hc14,hseen⟩:=(h.below hb1).seen;obtain⟨cs,hs,_⟩:=h.ex;have H:=hide h;have HB1:=hide hb1;have HS1:=hide (hs.below hb1);have HT1:=hide (h.tw.below hb1);have HC:=hide hcon;have HY:=hide hsty;have HE:=hide hseen;have HX1:=hide hx1;have HW1:=hide hw1;have HC5:=hide hc5;have HC6:=hide hc6;have HC14:=hide hc14;have hg1:=(hs.below hb1).lt;have hq1:=hx1.lt;have HZ:=hide hnz;clear h hb1 hx1 hcon hsty hseen hw1 hs hc5 hc6 hc14 hnz;have hnil:∀ (a:Option Addr) (n c:Nat) (wq:World),(binOp .eql 22 (.slice a n c) (.slice none 0 0)).run pG wq=.ok (.bool a.isNone) wq:=fun a n c wq=>by rw[Lib.run_eql_slice_nil wq 22 9 a n c 0 0 Tryz.underlying22]
 have K:=hide (fun wq=>keys_any (s:=kind) (w:=wq));have HWd:=hide (fun wq=>word_any (s:=name) (w:=wq) HZ.out);have HFa:=hide (fun (wq:World) (hq:Below w1.heap.size w1 wq) (n l:Int) (hn:n≠0)=>failA_any (n:=n) (l:=l) (HS1.out.below hq) hn);have HFi:=hide (fun (wq:World) (hq:Below w1.heap.size w1 wq)=>by
  obtain⟨l,e1,e2,_⟩:=HE.out.strs HT1.out;have:=find_any (c:=dc) (s:=kind) (ListIn.below (e2.mono (fun i hi=>hi.1)) hq) (by omega);rw[e1]at this;exact(⟨posS l kind,this⟩:∃ r:Int,Calls pG 38 #[vS DA n14 dc,vT kind] wq fun en w'=>en=.returned (vI kI r)∧w'=wq))
 cases hp:(kind.toList==[99,111,110,116,101,115,116]) with
 |true=>
  have hq:(kind.toList==[115,116,121,108,101])=false:=by rw[beq_iff_eq.1 hp];rfl
  have hkc:=hide (beq_iff_eq.1 hp);have c0:=HX1.out.cell 0;simp at c0;go_enter Tryz.func77,Tryz.ntmps77;go_upto_region 1 with (fail);rw[HW1.out];go_upto_region 3 with (fail);have HBc:Hid (Below w1.heap.size w1 w1):=bR _ _;go_upto_block 0 with (fail);go_cut [5,6] (fun u v wx=>∃ (b:Bool) (n:Nat),u=.bool b∧v=vI kI n∧n≤1000∧Hid (Below w1.heap.size w1 wx));case first=>
   go_wp2_with fail;go_loopw [5,6,7] (fun u v i wr=>∃ (k:Nat) (b:Bool) (n:Nat),k≤nc∧i=vI kI k∧u=.bool b∧v=vI kI n∧n≤k∧Hid (Below w1.heap.size w1 wr)) (fun _ _ i _=>nc - (iOf i).toNat);case atStart=>exact⟨0,false,0,zL _,rfl,rfl,rfl,by omega,HBc.out⟩
   case round=>
    obtain⟨k,b,n,hk,rfl,rfl,rfl,hn,HB⟩:=hrel;have cg:=(HB.out.cell (p:=⟨g,5,none⟩) hg1).trans HC5.out;have c0:=(HX1.out.kept HB.out).cell 0;have c1:=(HX1.out.kept HB.out).cell 1;simp at c0 c1;have hltg:=lL hg1 HB.out.size;have hltq:=lL hq1 HB.out.size;by_cases hlt:k < nc
    ·obtain⟨bl,s,rfl,hbl,hcs⟩:=Sl.conName HC.out HT1.out hlt;have hcs:=(HB.out.cell (p:=⟨bl,k * 9,none⟩) hbl).trans hcs;have hbl2:=lL hbl HB.out.size;have hki:(k:Int) < (nc:Int):=by omega
     have en:((n:Int)+1)=((n+1:Nat):Int):=by omega
     have HEn:=hide en;clear en;cases b with
     |true=>
      go_wp2_with (fail);go_quiet (fail);go_wp2_with fail;go_roundw;case rel=>exact⟨k+1,true,n+1,by omega,by go_num,by first|rfl|simp,by rw[← HEn.out],by omega,below_drew HB.out _⟩
      case measure=>simp[iOf];omega
     |false=>
      go_wp2_with (fail);go_quiet (fail);go_wp2_with fail;go_roundw;case rel=>exact⟨k+1,_,n+1,by omega,by go_num,rfl,by rw[← HEn.out],by omega,below_drew HB.out _⟩
      case measure=>simp[iOf];omega
    ·obtain rfl:k=nc:=by omega
     go_wp2_with fail;go_meet;exact⟨b,n,rfl,rfl,by omega,HB.out⟩
  case rest=>
   obtain⟨b0,n0,rfl,rfl,hn0,HBc⟩:=hcut;go_upto_block 2 with (fail);go_cut [5,6] (fun u v wx=>∃ (b:Bool) (n:Nat),u=.bool b∧v=vI kI n∧n≤2000∧Hid (Below w1.heap.size w1 wx));case first=>
    go_wp2_with fail;go_loopw [5,6,8] (fun u v i wr=>∃ (k:Nat) (b:Bool) (n:Nat),k≤ns∧i=vI kI k∧u=.bool b∧v=vI kI n∧n≤n0+k∧Hid (Below w1.heap.size w1 wr)) (fun _ _ i _=>ns - (iOf i).toNat);case atStart=>exact⟨0,b0,n0,zL _,rfl,rfl,rfl,by omega,HBc.out⟩
    case round=>
     obtain⟨k,b,n,hk,rfl,rfl,rfl,hn,HB⟩:=hrel;have cg:=(HB.out.cell (p:=⟨g,6,none⟩) hg1).trans HC6.out;have c0:=(HX1.out.kept HB.out).cell 0;have c1:=(HX1.out.kept HB.out).cell 1;simp at c0 c1;have hltg:=lL hg1 HB.out.size;have hltq:=lL hq1 HB.out.size;by_cases hlt:k < ns
     ·have hki:(k:Int) < (ns:Int):=by omega
      go_wp2_with fail;go_meet;exact⟨b,n,rfl,rfl,by omega,HB.out⟩
     ·obtain rfl:k=ns:=by omega
      go_wp2_with fail;go_meet;exact⟨b,n,rfl,rfl,by omega,HB.out⟩
   case rest=>
    obtain⟨b,n,rfl,rfl,hn,HB2⟩:=hcut;have c0:=(HX1.out.kept HB2.out).cell 0;have c1:=(HX1.out.kept HB2.out).cell 1;have c3:=(HX1.out.kept HB2.out).cell 3;simp at c0 c1 c3;have hltg:=lL hg1 HB2.out.size;have hltq:=lL hq1 HB2.out.size;go_wp2_with fail;refine(K.out _).mono ?_;rintro en w3 ⟨KA,kl,rfl,hKA,_,_,_,hb3⟩;have HB3:Hid (Below w1.heap.size w1 w3):=below_then HB2.out hb3;clear hb3;have c0:=(HX1.out.kept HB3.out).cell 0;have c1:=(HX1.out.kept HB3.out).cell 1;have c3:=(HX1.out.kept HB3.out).cell 3;simp at c0 c1 c3;have hltg:=lL hg1 HB3.out.size;have hltq:=lL hq1 HB3.out.size;rcases hKA with ⟨rfl,rfl⟩|⟨rfl,_⟩
    ·go_wp2_with fail;refine(HFa.out _ HB3.out _ _ (by decide)).mono ?_;rintro en w9 ⟨rfl,hA9,hno⟩;have HP:=hide (head_fail (kind:=kind) (name:=name) H.out (below_then HB1.out HB3.out) (HS1.out.below HB3.out) hA9 hno);clear hA9 hno;go_wp2_with fail;go_end0;exact⟨rfl,HP.out⟩
    ·by_cases hz0:name.size=0
     ·have he:=isEmpty_true hz0;clear hz0;go_wp2_with fail;refine(HFa.out _ HB3.out _ _ (by decide)).mono ?_;rintro en w9 ⟨rfl,hA9,hno⟩;have HP:=hide (head_fail (kind:=kind) (name:=name) H.out (below_then HB1.out HB3.out) (HS1.out.below HB3.out) hA9 hno);clear hA9 hno;go_wp2_with fail;go_end0;exact⟨rfl,HP.out⟩
     ·have he:=isEmpty_false (s:=name) (by omega);clear hz0;go_wp2_with fail;refine(HWd.out _).mono ?_;rintro en w4 ⟨wb,rfl,rfl⟩;cases wb with
      |false=>go_wp2_with fail;refine(HFa.out _ HB3.out _ _ (by decide)).mono ?_;rintro en w9 ⟨rfl,hA9,hno⟩;have HP:=hide (head_fail (kind:=kind) (name:=name) H.out (below_then HB1.out HB3.out) (HS1.out.below HB3.out) hA9 hno);clear hA9 hno;go_wp2_with fail;go_end0;exact⟨rfl,HP.out⟩
      |true=>
       by_cases h24:24 < name.size
       ·have h24':(24:Int) < (name.size:Int):=by omega
        clear h24;go_wp2_with fail;refine(HFa.out _ HB3.out _ _ (by decide)).mono ?_;rintro en w9 ⟨rfl,hA9,hno⟩;have HP:=hide (head_fail (kind:=kind) (name:=name) H.out (below_then HB1.out HB3.out) (HS1.out.below HB3.out) hA9 hno);clear hA9 hno;go_wp2_with fail;go_end0;exact⟨rfl,HP.out⟩
       ·have h24':¬ (24:Int) < (name.size:Int):=by omega
        have hsz24:Hid (name.size≤24):=by rw[Hid];omega
        clear h24;cases b with
        |true=>go_wp2_with fail;refine(HFa.out _ HB3.out _ _ (by decide)).mono ?_;rintro en w9 ⟨rfl,hA9,hno⟩;have HP:=hide (head_fail (kind:=kind) (name:=name) H.out (below_then HB1.out HB3.out) (HS1.out.below HB3.out) hA9 hno);clear hA9 hno;go_wp2_with fail;go_end0;exact⟨rfl,HP.out⟩
        |false=>
         by_cases hn4:4≤n
         ·have hn4':(4:Int)≤(n:Int):=by omega
          clear hn4;go_wp2_with fail;refine(HFa.out _ HB3.out _ _ (by decide)).mono ?_;rintro en w9 ⟨rfl,hA9,hno⟩;have HP:=hide (head_fail (kind:=kind) (name:=name) H.out (below_then HB1.out HB3.out) (HS1.out.below HB3.out) hA9 hno);clear hA9 hno;go_wp2_with fail;go_end0;exact⟨rfl,HP.out⟩
         ·have hn4':¬ (4:Int)≤(n:Int):=by omega
          clear hn4;go_wp2_with (fail);go_quiet (fail);go_wp2_with fail;go_end0;exact⟨rfl,e,(Stp.of_below H.out.tw (below_then HB1.out (below_drew HB3.out _))),H.out.below (below_then HB1.out (below_drew HB3.out _)),fun h0=>⟨h0,fun _=>hsz24.out⟩⟩
 |false=>
  have hnk:Hid (kind.toList≠[99,111,110,116,101,115,116]):=fun q=>by rw[q]at hp;cases hp
  cases hq:(kind.toList==[115,116,121,108,101]) with
  |true=>
   have c0:=HX1.out.cell 0;simp at c0;go_enter Tryz.func77,Tryz.ntmps77;go_upto_region 1 with (fail);rw[HW1.out];go_upto_region 3 with (fail);have HBc:Hid (Below w1.heap.size w1 w1):=bR _ _;go_upto_block 0 with (fail);go_cut [5,6] (fun u v wx=>∃ (b:Bool) (n:Nat),u=.bool b∧v=vI kI n∧n≤1000∧Hid (Below w1.heap.size w1 wx));case first=>
    go_wp2_with fail;go_loopw [5,6,7] (fun u v i wr=>∃ (k:Nat) (b:Bool) (n:Nat),k≤nc∧i=vI kI k∧u=.bool b∧v=vI kI n∧n≤k∧Hid (Below w1.heap.size w1 wr)) (fun _ _ i _=>nc - (iOf i).toNat);case atStart=>exact⟨0,false,0,zL _,rfl,rfl,rfl,by omega,HBc.out⟩
    case round=>
     obtain⟨k,b,n,hk,rfl,rfl,rfl,hn,HB⟩:=hrel;have cg:=(HB.out.cell (p:=⟨g,5,none⟩) hg1).trans HC5.out;have c0:=(HX1.out.kept HB.out).cell 0;have c1:=(HX1.out.kept HB.out).cell 1;simp at c0 c1;have hltg:=lL hg1 HB.out.size;have hltq:=lL hq1 HB.out.size;by_cases hlt:k < nc
     ·have hki:(k:Int) < (nc:Int):=by omega
      go_wp2_with fail;go_meet;exact⟨b,n,rfl,rfl,by omega,HB.out⟩
     ·obtain rfl:k=nc:=by omega
      go_wp2_with fail;go_meet;exact⟨b,n,rfl,rfl,by omega,HB.out⟩
   case rest=>
    obtain⟨b0,n0,rfl,rfl,hn0,HBc⟩:=hcut;go_upto_block 2 with (fail);go_cut [5,6] (fun u v wx=>∃ (b:Bool) (n:Nat),u=.bool b∧v=vI kI n∧n≤2000∧Hid (Below w1.heap.size w1 wx));case first=>
     go_wp2_with fail;go_loopw [5,6,8] (fun u v i wr=>∃ (k:Nat) (b:Bool) (n:Nat),k≤ns∧i=vI kI k∧u=.bool b∧v=vI kI n∧n≤n0+k∧Hid (Below w1.heap.size w1 wr)) (fun _ _ i _=>ns - (iOf i).toNat);case atStart=>exact⟨0,b0,n0,zL _,rfl,rfl,rfl,by omega,HBc.out⟩
     case round=>
      obtain⟨k,b,n,hk,rfl,rfl,rfl,hn,HB⟩:=hrel;have cg:=(HB.out.cell (p:=⟨g,6,none⟩) hg1).trans HC6.out;have c0:=(HX1.out.kept HB.out).cell 0;have c1:=(HX1.out.kept HB.out).cell 1;simp at c0 c1;have hltg:=lL hg1 HB.out.size;have hltq:=lL hq1 HB.out.size;by_cases hlt:k < ns
      ·obtain⟨bl,s,rfl,hbl,hcs⟩:=Sl.styName HY.out HT1.out hlt;have hcs:=(HB.out.cell (p:=⟨bl,k * 3,none⟩) hbl).trans hcs;have hbl2:=lL hbl HB.out.size;have hki:(k:Int) < (ns:Int):=by omega
       have en:((n:Int)+1)=((n+1:Nat):Int):=by omega
       have HEn:=hide en;clear en;cases b with
       |true=>
        go_wp2_with (fail);go_quiet (fail);go_wp2_with fail;go_roundw;case rel=>exact⟨k+1,true,n+1,by omega,by go_num,by first|rfl|simp,by rw[← HEn.out],by omega,below_drew HB.out _⟩
        case measure=>simp[iOf];omega
       |false=>
        go_wp2_with (fail);go_quiet (fail);go_wp2_with fail;go_roundw;case rel=>exact⟨k+1,_,n+1,by omega,by go_num,rfl,by rw[← HEn.out],by omega,below_drew HB.out _⟩
        case measure=>simp[iOf];omega
      ·obtain rfl:k=ns:=by omega
       go_wp2_with fail;go_meet;exact⟨b,n,rfl,rfl,by omega,HB.out⟩
    case rest=>
     obtain⟨b,n,rfl,rfl,hn,HB2⟩:=hcut;have c0:=(HX1.out.kept HB2.out).cell 0;have c1:=(HX1.out.kept HB2.out).cell 1;have c3:=(HX1.out.kept HB2.out).cell 3;simp at c0 c1 c3;have hltg:=lL hg1 HB2.out.size;have hltq:=lL hq1 HB2.out.size;go_wp2_with fail;refine(K.out _).mono ?_;rintro en w3 ⟨KA,kl,rfl,hKA,_,_,_,hb3⟩;have HB3:Hid (Below w1.heap.size w1 w3):=below_then HB2.out hb3;clear hb3;have c0:=(HX1.out.kept HB3.out).cell 0;have c1:=(HX1.out.kept HB3.out).cell 1;have c3:=(HX1.out.kept HB3.out).cell 3;simp at c0 c1 c3;have hltg:=lL hg1 HB3.out.size;have hltq:=lL hq1 HB3.out.size;rcases hKA with ⟨rfl,rfl⟩|⟨rfl,_⟩
     ·go_wp2_with fail;refine(HFa.out _ HB3.out _ _ (by decide)).mono ?_;rintro en w9 ⟨rfl,hA9,hno⟩;have HP:=hide (head_fail (kind:=kind) (name:=name) H.out (below_then HB1.out HB3.out) (HS1.out.below HB3.out) hA9 hno);clear hA9 hno;go_wp2_with fail;go_end0;exact⟨rfl,HP.out⟩
     ·by_cases hz0:name.size=0
      ·have he:=isEmpty_true hz0;clear hz0;go_wp2_with fail;refine(HFa.out _ HB3.out _ _ (by decide)).mono ?_;rintro en w9 ⟨rfl,hA9,hno⟩;have HP:=hide (head_fail (kind:=kind) (name:=name) H.out (below_then HB1.out HB3.out) (HS1.out.below HB3.out) hA9 hno);clear hA9 hno;go_wp2_with fail;go_end0;exact⟨rfl,HP.out⟩
      ·have he:=isEmpty_false (s:=name) (by omega);clear hz0;go_wp2_with fail;refine(HWd.out _).mono ?_;rintro en w4 ⟨wb,rfl,rfl⟩;cases wb with
       |false=>go_wp2_with fail;refine(HFa.out _ HB3.out _ _ (by decide)).mono ?_;rintro en w9 ⟨rfl,hA9,hno⟩;have HP:=hide (head_fail (kind:=kind) (name:=name) H.out (below_then HB1.out HB3.out) (HS1.out.below HB3.out) hA9 hno);clear hA9 hno;go_wp2_with fail;go_end0;exact⟨rfl,HP.out⟩
       |true=>
        by_cases h24:24 < name.size
        ·have h24':(24:Int) < (name.size:Int):=by omega
         clear h24;go_wp2_with fail;refine(HFa.out _ HB3.out _ _ (by decide)).mono ?_;rintro en w9 ⟨rfl,hA9,hno⟩;have HP:=hide (head_fail (kind:=kind) (name:=name) H.out (below_then HB1.out HB3.out) (HS1.out.below HB3.out) hA9 hno);clear hA9 hno;go_wp2_with fail;go_end0;exact⟨rfl,HP.out⟩
        ·have h24':¬ (24:Int) < (name.size:Int):=by omega
         have hsz24:Hid (name.size≤24):=by rw[Hid];omega
         clear h24;cases b with
         |true=>go_wp2_with fail;refine(HFa.out _ HB3.out _ _ (by decide)).mono ?_;rintro en w9 ⟨rfl,hA9,hno⟩;have HP:=hide (head_fail (kind:=kind) (name:=name) H.out (below_then HB1.out HB3.out) (HS1.out.below HB3.out) hA9 hno);clear hA9 hno;go_wp2_with fail;go_end0;exact⟨rfl,HP.out⟩
         |false=>
          by_cases hn4:6≤n
          ·have hn4':(6:Int)≤(n:Int):=by omega
           clear hn4;go_wp2_with fail;refine(HFa.out _ HB3.out _ _ (by decide)).mono ?_;rintro en w9 ⟨rfl,hA9,hno⟩;have HP:=hide (head_fail (kind:=kind) (name:=name) H.out (below_then HB1.out HB3.out) (HS1.out.below HB3.out) hA9 hno);clear hA9 hno;go_wp2_with fail;go_end0;exact⟨rfl,HP.out⟩
          ·have hn4':¬ (6:Int)≤(n:Int):=by omega
           clear hn4;go_wp2_with (fail);go_quiet (fail);go_wp2_with fail;go_end0;exact⟨rfl,e,(Stp.of_below H.out.tw (below_then HB1.out (below_drew HB3.out _))),H.out.below (below_then HB1.out (below_drew HB3.out _)),fun h0=>⟨h0,fun q=>absurd q hnk.out⟩⟩
  |false=>
   have c0:=HX1.out.cell 0;simp at c0;go_enter Tryz.func77,Tryz.ntmps77;go_upto_region 1 with (fail);rw[HW1.out];go_upto_region 3 with (fail);have HBc:Hid (Below w1.heap.size w1 w1):=bR _ _;go_upto_block 0 with (fail);go_cut [5,6] (fun u v wx=>∃ (b:Bool) (n:Nat),u=.bool b∧v=vI kI n∧n≤1000∧Hid (Below w1.heap.size w1 wx));case first=>
    go_wp2_with fail;go_loopw [5,6,7] (fun u v i wr=>∃ (k:Nat) (b:Bool) (n:Nat),k≤nc∧i=vI kI k∧u=.bool b∧v=vI kI n∧n≤k∧Hid (Below w1.heap.size w1 wr)) (fun _ _ i _=>nc - (iOf i).toNat);case atStart=>exact⟨0,false,0,zL _,rfl,rfl,rfl,by omega,HBc.out⟩
    case round=>
     obtain⟨k,b,n,hk,rfl,rfl,rfl,hn,HB⟩:=hrel;have cg:=(HB.out.cell (p:=⟨g,5,none⟩) hg1).trans HC5.out;have c0:=(HX1.out.kept HB.out).cell 0;have c1:=(HX1.out.kept HB.out).cell 1;simp at c0 c1;have hltg:=lL hg1 HB.out.size;have hltq:=lL hq1 HB.out.size;by_cases hlt:k < nc
     ·have hki:(k:Int) < (nc:Int):=by omega
      go_wp2_with fail;go_meet;exact⟨b,n,rfl,rfl,by omega,HB.out⟩
     ·obtain rfl:k=nc:=by omega
      go_wp2_with fail;go_meet;exact⟨b,n,rfl,rfl,by omega,HB.out⟩
   case rest=>
    obtain⟨b0,n0,rfl,rfl,hn0,HBc⟩:=hcut;go_upto_block 2 with (fail);go_cut [5,6] (fun u v wx=>∃ (b:Bool) (n:Nat),u=.bool b∧v=vI kI n∧n≤2000∧Hid (Below w1.heap.size w1 wx));case first=>
     go_wp2_with fail;go_loopw [5,6,8] (fun u v i wr=>∃ (k:Nat) (b:Bool) (n:Nat),k≤ns∧i=vI kI k∧u=.bool b∧v=vI kI n∧n≤n0+k∧Hid (Below w1.heap.size w1 wr)) (fun _ _ i _=>ns - (iOf i).toNat);case atStart=>exact⟨0,b0,n0,zL _,rfl,rfl,rfl,by omega,HBc.out⟩
     case round=>
      obtain⟨k,b,n,hk,rfl,rfl,rfl,hn,HB⟩:=hrel;have cg:=(HB.out.cell (p:=⟨g,6,none⟩) hg1).trans HC6.out;have c0:=(HX1.out.kept HB.out).cell 0;have c1:=(HX1.out.kept HB.out).cell 1;simp at c0 c1;have hltg:=lL hg1 HB.out.size;have hltq:=lL hq1 HB.out.size;by_cases hlt:k < ns
      ·have hki:(k:Int) < (ns:Int):=by omega
       go_wp2_with fail;go_meet;exact⟨b,n,rfl,rfl,by omega,HB.out⟩
      ·obtain rfl:k=ns:=by omega
       go_wp2_with fail;go_meet;exact⟨b,n,rfl,rfl,by omega,HB.out⟩
    case rest=>
     obtain⟨b,n,rfl,rfl,hn,HB2⟩:=hcut;have c0:=(HX1.out.kept HB2.out).cell 0;have c1:=(HX1.out.kept HB2.out).cell 1;have c3:=(HX1.out.kept HB2.out).cell 3;simp at c0 c1 c3;have hltg:=lL hg1 HB2.out.size;have hltq:=lL hq1 HB2.out.size;go_wp2_with fail;refine(K.out _).mono ?_;rintro en w3 ⟨KA,kl,rfl,hKA,_,_,_,hb3⟩;have HB3:Hid (Below w1.heap.size w1 w3):=below_then HB2.out hb3;clear hb3;have c0:=(HX1.out.kept HB3.out).cell 0;have c1:=(HX1.out.kept HB3.out).cell 1;have c3:=(HX1.out.kept HB3.out).cell 3;simp at c0 c1 c3;have hltg:=lL hg1 HB3.out.size;have hltq:=lL hq1 HB3.out.size;rcases hKA with ⟨rfl,rfl⟩|⟨rfl,_⟩
     ·go_wp2_with fail;refine(HFa.out _ HB3.out _ _ (by decide)).mono ?_;rintro en w9 ⟨rfl,hA9,hno⟩;have HP:=hide (head_fail (kind:=kind) (name:=name) H.out (below_then HB1.out HB3.out) (HS1.out.below HB3.out) hA9 hno);clear hA9 hno;go_wp2_with fail;go_end0;exact⟨rfl,HP.out⟩
     ·by_cases hz0:name.size=0
      ·have he:=isEmpty_true hz0;clear hz0;obtain⟨r,hr⟩:=HFi.out (w3.drewN 1) (below_drew HB3.out 1);have HR:=hide hr;clear hr;have c14:=(HB3.out.cell (p:=⟨g,14,none⟩) hg1).trans HC14.out;go_wp2_with fail;go_region_held3 (fun v=>v.cell? ⟨g,14,none⟩=some (vS DA n14 dc)∧v.cell? ⟨w.heap.size,0,none⟩=some (vT kind))
        (go_keep)
        ((go_at_call 38;refine HR.out.mono ?_;rintro en w5 ⟨rfl,hw5⟩))
       all_goals
        have HB5:Hid (Below w1.heap.size w1 (w3.drewN 1)):=below_drew HB3.out 1
        have c3:=(HX1.out.kept HB5.out).cell 3
        simp at c3
        by_cases hr0:0≤r
        ·go_wp2_with fail;refine(HFa.out _ HB5.out _ _ (by decide)).mono ?_;rintro en w9 ⟨rfl,hA9,hno⟩;have HP:=hide (head_fail (kind:=kind) (name:=name) H.out (below_then HB1.out HB5.out) (HS1.out.below HB5.out) hA9 hno);clear hA9 hno;go_wp2_with fail;go_end0;exact⟨rfl,HP.out⟩
        ·go_wp2_with fail;go_end0;exact⟨rfl,e,(Stp.of_below H.out.tw (below_then HB1.out HB5.out)),H.out.below (below_then HB1.out HB5.out),fun h0=>⟨h0,fun q=>absurd q hnk.out⟩⟩
      ·have he:=isEmpty_false (s:=name) (by omega);clear hz0;go_wp2_with fail;refine(HFa.out _ HB3.out _ _ (by decide)).mono ?_;rintro en w9 ⟨rfl,hA9,hno⟩;have HP:=hide (head_fail (kind:=kind) (name:=name) H.out (below_then HB1.out HB3.out) (HS1.out.below HB3.out) hA9 hno);clear hA9 hno;go_wp2_with fail;go_end0;exact⟨rfl,HP.out⟩
end
section
structure BK where
 g:Nat
 B:Nat
 q3:Nat
 q5:Nat
 q6:Nat
 q7:Nat
 N:Nat
 S:Ty
 w:World
 e:Int
 kind:ByteArray
 name:ByteArray
 F:Option Addr
 m:Nat
 f:Nat
 line:Int
def BK.M (b:BK) (i:Nat):Prop:=i=b.g∨i=b.q5∨i=b.q6∨i=b.q7
def BK.cells (b:BK):Array Value:=#[vT b.kind,vT b.name,vS b.F b.m b.f,vI kI b.line]
structure BK.Ok (b:BK):Prop where
 n3:b.S b.q3=none
 n5:b.S b.q5=none
 n6:b.S b.q6=none
 n7:b.S b.q7=none
 d:b.g≠b.q3∧b.g≠b.q5∧b.g≠b.q6∧b.g≠b.q7∧b.q3≠b.q5∧b.q3≠b.q6∧b.q3≠b.q7∧b.q5≠b.q6∧b.q5≠b.q7∧b.q6≠b.q7
 lt:b.q3 < b.w.heap.size∧b.q5 < b.w.heap.size∧b.q6 < b.w.heap.size∧b.q7 < b.w.heap.size
 lo:b.B≤b.q5∧b.B≤b.q6∧b.B≤b.q7
 kz:b.kind.size≤24
 nz:b.name.size≤big
 fl:Sl b.S .fld b.m (vS b.F b.m b.f)
structure LI (b:BK) (T:Ty) (e:Int) (m:Nat) (v:Value) (w:World):Prop where
 stp:Stp b.M b.B b.S b.w T w
 sta:Sta b.g b.B T w b.N e
 mono:e=0→b.e=0
 con:Mk T .con w b.q5
 nam:Mk T .nam w b.q6
 lin:Mk T .lin w b.q7
 box:Box w b.q3 86 b.cells
 kn:Sl T .str m v
section
variable {b:BK}{T T2:Ty}{e e2:Int}{m:Nat}{v:Value}{w w2:World}
theorem LI.un (h:LI b T e m v w) {q:Nat}(hq:q < b.w.heap.size) (hn:b.S q=Option.none):T q=Option.none:=h.stp.none hq hn
theorem LI.next {M:Nat→Prop}(h:LI b T e m v w) (ok:b.Ok) (hs:Stp M b.B T w T2 w2) (hM:∀ i,M i→i=b.g) (hst:Sta b.g b.B T2 w2 b.N e2) (hm:e2=0→e=0):LI b T2 e2 m v w2:=by
 obtain⟨d1,d2,d3,d4,_⟩:=ok.d;obtain⟨l1,l2,l3,l4⟩:=ok.lt;exact⟨h.stp.trans (hs.mono fun i _ hi=>.inl (hM i hi)),hst,fun q=>h.mono (hm q),h.con.step hs (h.un l2 ok.n5) (fun q=>d2 (hM _ q).symm),h.nam.step hs (h.un l3 ok.n6) (fun q=>d3 (hM _ q).symm),h.lin.step hs (h.un l4 ok.n7) (fun q=>d4 (hM _ q).symm),hs.box h.box (h.un l1 ok.n3) (fun q=>d1 (hM _ q).symm),h.kn.mono hs.le⟩
theorem LI.below (h:LI b T e m v w) (ok:b.Ok) (hb:Below w.heap.size w w2):LI b T e m v w2:=
 h.next ok (M:=No) (Stp.of_below h.sta.tw hb) (fun _ q=>q.elim) (h.sta.below hb) id
theorem LI.aft {cs:Array Value}(h:LI b T e m v w) (ok:b.Ok) (hs:St w b.g cs e) (hA:Aft w b.g cs e w2):∃ e2,LI b T e2 m v w2:=by
 obtain⟨e2,h2,h3,h4⟩:=h.sta.aft hs hA;exact⟨e2,h.next ok h2 (fun _ q=>q) h3 h4⟩
theorem LI.st (h:LI b T e m v w):∃ cs,St w b.g cs e:=by
 obtain⟨cs,h1,_⟩:=h.sta.ex;exact⟨cs,h1⟩
theorem LI.cell17 (h:LI b T e m v w):w.cell? ⟨b.g,17,none⟩=some (vI kI e):=by
 obtain⟨cs,h1⟩:=h.st;exact h1.cell17
theorem LI.con' (h:LI b T e m v w) (ok:b.Ok) (hs:Stp (fun i=>i=b.g∨i=b.q5) b.B T w T2 w2) (hst:Sta b.g b.B T2 w2 b.N e2) (hm:e2=0→e=0) (hc:Mk T2 .con w2 b.q5):LI b T2 e2 m v w2:=by
 obtain⟨d1,d2,d3,d4,d5,d6,d7,d8,d9,d10⟩:=ok.d;obtain⟨l1,l2,l3,l4⟩:=ok.lt;exact⟨h.stp.trans (hs.mono fun i _ hi=>hi.elim .inl fun q=>.inr (.inl q)),hst,fun q=>h.mono (hm q),hc,h.nam.step hs (h.un l3 ok.n6) (fun q=>q.elim (fun q=>d3 q.symm) fun q=>d8 q.symm),h.lin.step hs (h.un l4 ok.n7) (fun q=>q.elim (fun q=>d4 q.symm) fun q=>d9 q.symm),hs.box h.box (h.un l1 ok.n3) (fun q=>q.elim (fun q=>d1 q.symm) d5),h.kn.mono hs.le⟩
theorem LI.noted (h:LI b T e m v w) (ok:b.Ok) {j:Nat}(hj:j < 2) {u:Value}{n:Nat}(hu:Sl T .str n u) (x:Int):LI b T e m v ((w.setCell ⟨b.q6,j,none⟩ u).setCell ⟨b.q7,j,none⟩ (vI kI x)):=by
 obtain⟨d1,d2,d3,d4,d5,d6,d7,d8,d9,d10⟩:=ok.d;obtain⟨l1,l2,l3,l4⟩:=ok.lt;have n5:=h.un l2 ok.n5;have n6:=h.un l3 ok.n6;have n7:=h.un l4 ok.n7;have n3:=h.un l1 ok.n3;have hf:FTok T (Kd.nam.fts.getD j .int) u:=by
  rcases (show j=0∨j=1 by omega) with rfl|rfl
  ·exact⟨n,hu⟩
  ·exact⟨n,hu⟩
 have hf2:FTok T (Kd.lin.fts.getD j .int) (vI kI x):=by
  rcases (show j=0∨j=1 by omega) with rfl|rfl
  ·exact⟨x,rfl⟩
  ·exact⟨x,rfl⟩
 have s1:Stp (fun i=>i=b.q6) b.B T w T (w.setCell ⟨b.q6,j,none⟩ u):=Stp.wrote h.sta.tw n6 rfl (grown_set1 _ _ _ _);have s2:Stp (fun i=>i=b.q7) b.B T (w.setCell ⟨b.q6,j,none⟩ u) T ((w.setCell ⟨b.q6,j,none⟩ u).setCell ⟨b.q7,j,none⟩ (vI kI x)):=Stp.wrote s1.tw n7 rfl (grown_set1 _ _ _ _);refine⟨(h.stp.trans (s1.mono fun i _ hi=>.inr (.inr (.inl hi)))).trans (s2.mono fun i _ hi=>.inr (.inr (.inr hi))),(h.sta.step s1 d3).step s2 d4,h.mono,(h.con.step s1 n5 d8).step s2 n5 d9,(h.nam.set (show j < 2 from hj) hf).step s2 n6 d10,((h.lin.step s1 n7 (fun q=>d10 q.symm)).set (show j < 2 from hj) hf2),s2.box (s1.box h.box n3 d6) n3 d7,h.kn⟩
theorem LI.names {cs:Array Value}{u:Value}{n:Nat}(h:LI b T e m v w) (ok:b.Ok) (hs:St w b.g cs e) (hA:Aft w b.g cs e w2) (hN:Names b.g b.B T w w2 n u):∃ T2 e2,LI b T2 e2 m v w2∧Sl T2 .str n u:=by
 obtain⟨e2,h2,h3,h4⟩:=h.sta.aft hs hA;obtain⟨⟨T2,h5,h6⟩,_⟩:=hN;exact⟨T2,e2,h.next ok h5 (fun _ q=>q) (h3.retype h5 h5.le (h5.none h.sta.lt h.sta.no)) h4,h6⟩
theorem LI.known {v2:Value}{m2:Nat}(h:LI b T e m v w) (ok:b.Ok) (hs:Stp No b.B T w T2 w2) (hk:Sl T2 .str m2 v2):LI b T2 e m2 v2 w2:=by
 have:=h.next ok hs (fun _ q=>q.elim) (h.sta.step hs id) id;exact { this with kn:=hk }
end
abbrev mkBK (g B q3 q5 N:Nat) (S:Ty) (w:World) (e:Int) (kind name:ByteArray) (F:Option Addr) (m f:Nat) (line:Int):BK:={ g:=g,B:=B,q3:=q3,q5:=q5,q6:=q5+1,q7:=q5+1+1,N:=N,S:=S,w:=w,e:=e,kind:=kind,name:=name,F:=F,m:=m,f:=f,line:=line }
theorem LI.cells {b:BK}{T:Ty}{e:Int}{m:Nat}{v:Value}{w:World}(h:LI b T e m v w):w.cell? ⟨b.g,17,none⟩=some (vI kI e)∧w.cell? ⟨b.q3,0,none⟩=some (vT b.kind)∧w.cell? ⟨b.q3,1,none⟩=some (vT b.name)∧w.cell? ⟨b.q3,2,none⟩=some (vS b.F b.m b.f)∧w.cell? ⟨b.q3,3,none⟩=some (vI kI b.line)∧b.g < w.heap.size∧b.q3 < w.heap.size:=
 ⟨h.cell17,h.box.cell 0,h.box.cell 1,h.box.cell 2,h.box.cell 3,h.sta.lt,h.box.lt⟩
def conZ:Array Value:=#[vT ⟨#[]⟩,vS none 0 0,vI kI 0,vI kI 0,vI kI 0,vI kI 0,vI kI 0,vI kI 0,vI kI 0]
theorem blk_start {g B N:Nat}{S:Ty}{w w1 w2 w3:World}{e e2 line:Int}{kind name:ByteArray}{F:Option Addr}{m f:Nat}(h:Sta g B S w N e) (hb:Below w.heap.size w w1) (hx:Box w1 w.heap.size 86 #[vT kind,vT name,vS F m f,vI kI line]) (hs1:w1.heap.size=w.heap.size+1)
  (h2:Stp (fun i=>i=g) B S w1 S w2) (h3:Sta g B S w2 N e2) (hw3:((w2.alloc (.cells conZ 74)).alloc (.cells #[vS none 0 0,vS none 0 0] 131)).alloc (.cells #[vI kI 0,vI kI 0] 132)=w3)
  (hk:kind.size≤24) (hn:name.size≤big) (hf:Sl S .fld m (vS F m f)) :
  (mkBK g B w.heap.size w2.heap.size N S w3 e2 kind name F m f line).Ok∧LI (mkBK g B w.heap.size w2.heap.size N S w3 e2 kind name F m f line) S e2 0 (vS none 0 0) w3∧Stp (fun i=>i=g) B S w S w3∧w3.heap.size=w2.heap.size+3:=by
 have s23:Below w2.heap.size w2 w3:=by rw[← hw3];exact(((bR _ _).alloc (lR _) _).alloc (by simp) _).alloc (by simp;omega) _
 have hsz:w3.heap.size=w2.heap.size+3:=by rw[← hw3];simp
 have b5:Box w3 w2.heap.size 74 conZ:=by rw[← hw3];exact((Box.new _ _ _).alloc _).alloc _
 have b6:Box w3 (w2.heap.size+1) 131 #[vS none 0 0,vS none 0 0]:=by rw[← hw3];have:=(Box.new (w2.alloc (.cells conZ 74)) 131 #[vS none 0 0,vS none 0 0]).alloc (.cells #[vI kI 0,vI kI 0] 132);rwa [World.size_alloc]at this
 have b7:Box w3 (w2.heap.size+1+1) 132 #[vI kI 0,vI kI 0]:=by rw[← hw3];have:=Box.new ((w2.alloc (.cells conZ 74)).alloc (.cells #[vS none 0 0,vS none 0 0] 131)) 132 #[vI kI 0,vI kI 0];rwa [World.size_alloc,World.size_alloc]at this
 have hgl:=h.lt;have hl2:=h2.size;have hB:=h.size;have u3:S w.heap.size=none:=h.tw.none_ge (lR _);have u5:S w2.heap.size=none:=h.tw.none_ge (by omega);have u6:S (w2.heap.size+1)=none:=h.tw.none_ge (by omega);have u7:S (w2.heap.size+1+1)=none:=h.tw.none_ge (by omega);have st3:Stp (fun i=>i=g) B S w2 S w3:=Stp.of_below h3.tw s23;have st13:Stp (fun i=>i=g) B S w S w3:=((Stp.of_below h.tw hb).trans h2).trans st3;have ta3:=h3.below s23;have bx:Box w3 w.heap.size 86 #[vT kind,vT name,vS F m f,vI kI line]:=st3.box (h2.box hx u3 (by show ¬ w.heap.size=g;omega)) u3 (by show ¬ w.heap.size=g;omega);have z:∀ k:Kd,TC S k (k.fts.map FT.zero):=fun k=>TC.zero S k;refine⟨⟨u3,u5,u6,u7,⟨by show g≠w.heap.size;omega,by show g≠w2.heap.size;omega,by show g≠w2.heap.size+1;omega,by show g≠w2.heap.size+1+1;omega,by show w.heap.size≠w2.heap.size;omega,by show w.heap.size≠w2.heap.size+1;omega,by show w.heap.size≠w2.heap.size+1+1;omega,by show w2.heap.size≠w2.heap.size+1;omega,by show w2.heap.size≠w2.heap.size+1+1;omega,by show w2.heap.size+1≠w2.heap.size+1+1;omega⟩,⟨by show w.heap.size < w3.heap.size;omega,by show w2.heap.size < w3.heap.size;omega,by show w2.heap.size+1 < w3.heap.size;omega,by show w2.heap.size+1+1 < w3.heap.size;omega⟩,⟨by show B≤w2.heap.size;omega,by show B≤w2.heap.size+1;omega,by show B≤w2.heap.size+1+1;omega⟩,hk,hn,hf⟩,⟨Stp.refl ta3.tw,ta3,id,⟨conZ,b5,rfl,z .con⟩,⟨_,b6,rfl,z .nam⟩,⟨_,b7,rfl,z .lin⟩,bx,Sl.nil _ _⟩,st13,hsz⟩
end
section
structure LF (b:BK) (T:Ty) (e:Int) (n:Nat) (v:Value) (qf:Nat) (key:ByteArray) (D:Option Addr) (md dc:Nat) (x:Int) (w:World):Prop where
 li:LI b T e n v w
 fb:Box w qf 89 #[vT key,vS D md dc,vI kI x]
 fn:T qf=none
 ne:qf≠b.g∧qf≠b.q5∧qf≠b.q6∧qf≠b.q7
 kz:key.size≤24
 fs:Sl T .str md (vS D md dc)
section
variable {b:BK}{T T2:Ty}{e e2:Int}{n md dc qf:Nat}{v:Value}{key:ByteArray}{D:Option Addr}{x:Int}{w w2:World}
theorem LF.cells (h:LF b T e n v qf key D md dc x w):w.cell? ⟨qf,0,none⟩=some (vT key)∧w.cell? ⟨qf,1,none⟩=some (vS D md dc)∧w.cell? ⟨qf,2,none⟩=some (vI kI x)∧qf < w.heap.size:=⟨h.fb.cell 0,h.fb.cell 1,h.fb.cell 2,h.fb.lt⟩
theorem LF.step {M:Nat→Prop}{n2:Nat}{v2:Value}(h:LF b T e n v qf key D md dc x w) (hs:Stp M b.B T w T2 w2) (hM:¬ M qf) (hli:LI b T2 e2 n2 v2 w2):LF b T2 e2 n2 v2 qf key D md dc x w2:=
 ⟨hli,hs.box h.fb h.fn hM,hs.none h.fb.lt h.fn,h.ne,h.kz,h.fs.mono hs.le⟩
theorem LF.below (h:LF b T e n v qf key D md dc x w) (ok:b.Ok) (hb:Below w.heap.size w w2):LF b T e n v qf key D md dc x w2:=
 h.step (M:=No) (Stp.of_below h.li.sta.tw hb) id (h.li.below ok hb)
theorem LF.aft {cs:Array Value}(h:LF b T e n v qf key D md dc x w) (ok:b.Ok) (hs:St w b.g cs e) (hA:Aft w b.g cs e w2):∃ e2,LF b T e2 n v qf key D md dc x w2:=by
 obtain⟨e2,h2,h3,h4⟩:=h.li.sta.aft hs hA;exact⟨e2,h.step h2 h.ne.1 (h.li.next ok h2 (fun _ q=>q) h3 h4)⟩
theorem LF.lst (h:LF b T e n v qf key D md dc x w):∃ l,l.length=md∧Lst b.g w D l∧(∀ s ∈ l,s.size≤big)∧md≤1000∧md≤dc:=by
 obtain⟨l,h1,h2,h3⟩:=h.fs.strs h.li.sta.tw;obtain⟨A,c,e,h4,h5⟩:=h.fs.form;injection e with _ _ e;exact⟨l,h1,h2.mono fun i hi=>⟨hi.1,fun q=>hi.2.2 (by rw[q];exact h.li.sta.no)⟩,h3,h5,by rw[e];exact h4⟩
theorem fail_fld (h:LF b T e n v qf key D md dc x w) (ok:b.Ok) (k l:Int) (hk:k≠0) :
  Calls pG 36 #[vP (some ⟨b.g,0,none⟩),vI kI k,vI kI l] w fun en w'=>en=.returned (.tuple #[])∧∃ e2,LF b T e2 n v qf key D md dc x w':=by
 obtain⟨cs,hs⟩:=h.li.st;refine(failA_any (n:=k) (l:=l) hs hk).mono ?_;rintro en w' ⟨h1,h2,_⟩;exact⟨h1,h.aft ok hs h2⟩
theorem fail_blk (h:LI b T e n v w) (ok:b.Ok) (k l:Int) (hk:k≠0) :
  Calls pG 36 #[vP (some ⟨b.g,0,none⟩),vI kI k,vI kI l] w fun en w'=>en=.returned (.tuple #[])∧∃ e2,LI b T e2 n v w':=by
 obtain⟨cs,hs⟩:=h.st;refine(failA_any (n:=k) (l:=l) hs hk).mono ?_;rintro en w' ⟨h1,h2,_⟩;exact⟨h1,h.aft ok hs h2⟩
theorem fail_blk2 (h:LI b T e n v w) (ok:b.Ok) (k l:Int) (hk:k≠0) :
  Calls pG 36 #[vP (some ⟨b.g,0,none⟩),vI kI k,vI kI l] w fun en w'=>en=.returned (.tuple #[])∧(∃ e2,LI b T e2 n v w')∧w.grownBy w' (some b.g):=by
 obtain⟨cs,hs⟩:=h.st;refine(failA_any (n:=k) (l:=l) hs hk).mono ?_;rintro en w' ⟨h1,h2,_⟩;exact⟨h1,h.aft ok hs h2,h2.grown⟩
theorem find_blk {A:Option Addr}{c:Nat}(h:LI b T e n (vS A n c) w) (s:ByteArray):∃ r:Int,Calls pG 38 #[vS A n c,vT s] w fun en w'=>en=.returned (vI kI r)∧w'=w:=by
 obtain⟨l,h1,h2,_⟩:=h.kn.strs h.sta.tw;obtain⟨_,_,e,_,h5⟩:=h.kn.form;have:=find_any (c:=c) (s:=s) (h2.mono fun i hi=>hi.1) (by omega);rw[h1]at this;exact⟨_,this⟩
theorem known_fld {A:Option Addr}{c:Nat}(h:LF b T e n (vS A n c) qf key D md dc x w) (ok:b.Ok) (hn:n < 1000) (ot:TypeId) :
  ∃ A' c' w' T2,(Builtin.append_ #[22,22] ot #[vS A n c,vS (some ⟨w.heap.size,0,none⟩) 1 1]).run pG (w.alloc (.cells #[vT key] 9))=.ok (vS A' (n+1) c') w'∧LF b T2 e (n+1) (vS A' (n+1) c') qf key D md dc x w':=by
 have hb:Below w.heap.size w (w.alloc (.cells #[.string key] 9)):=(bR _ _).alloc (lR _) _;have h1:=h.below ok hb;have hkz:=h.kz;obtain⟨A',c',w',T2,hr,hs,hk⟩:=Sl.append (M:=No) (k:=.str) Tryz.underlying22 h1.li.sta.tw h1.li.sta.size h1.li.kn ot ⟨w.heap.size,0,none⟩ 1 1 [.string key] rfl
  (fun j u hu=>by
   have hj:j=0:=by have:=(List.getElem?_eq_some_iff.1 hu).1;simp at this;omega
   subst hj;rw[add_off,(Box.new w 9 #[vT key]).cell];simpa using hu) (fun i u hu=>by
   have hi:i=0:=by have:=(List.getElem?_eq_some_iff.1 hu).1;simp at this;omega
   subst hi;simp at hu;subst hu;exact⟨key,rfl,by omega⟩) (by omega) (by omega)
 exact⟨A',c',w',T2,hr,h1.step hs id (h1.li.known ok hs hk)⟩
theorem contest_fld (h:LF b T e n v qf key D md dc x w) (ok:b.Ok) :
  Calls pG 79 #[vP (some ⟨b.g,0,none⟩),vP (some ⟨b.q5,0,none⟩),.agg #[vT key,vS D md dc,vI kI x]] w fun en w'=>en=.returned (.tuple #[])∧∃ T2 e2,LF b T2 e2 n v qf key D md dc x w':=by
 obtain⟨l,h1,h2,h3,h4,h5⟩:=h.lst;have hq:T b.q5=none:=h.li.un ok.lt.2.1 ok.n5;have:=contest_any (key:=key) (x:=x) (c:=dc) h.li.sta h.li.con hq ok.d.2.1 ok.lo.1 h2 h3 (by omega) (by omega);rw[h1]at this;refine this.mono ?_;rintro en w' ⟨k1,T2,e2,k2,k3,k4,k5⟩;exact⟨k1,T2,e2,h.step k2 (fun q=>q.elim h.ne.1 h.ne.2.1) (h.li.con' ok k2 k3 k4 k5)⟩
theorem list_fld (h:LF b T e n v qf key D md dc x w) (ok:b.Ok) (most:Int) :
  Calls pG 80 #[vP (some ⟨b.g,0,none⟩),.agg #[vT key,vS D md dc,vI kI x],vI kI most] w fun en w'=>∃ A' c',en=.returned (vS A' md c')∧∃ T2 e2,LF b T2 e2 n v qf key D md dc x w'∧Sl T2 .str md (vS A' md c'):=by
 obtain⟨l,h1,h2,h3,h4,h5⟩:=h.lst;obtain⟨cs,hs⟩:=h.li.st;have:=list_any (key:=key) (x:=x) (c:=dc) (most:=most) hs h2 h3 (by omega) (by omega) h.li.sta.tw h.li.sta.size h.li.sta.no;rw[h1]at this;refine this.mono ?_;rintro en w' ⟨A',c',k1,k2,k3⟩;obtain⟨e2,k4,k5,k6⟩:=h.li.sta.aft hs k2;obtain⟨⟨T2,k7,k8⟩,_⟩:=k3;exact⟨A',c',k1,T2,e2,h.step k7 h.ne.1 (h.li.next ok k7 (fun _ q=>q) (k5.retype k7 k7.le (k7.none h.li.sta.lt h.li.sta.no)) k6),k8⟩
theorem field_fld (h:LF b T e n v qf key D md dc x w) (ok:b.Ok) :
  Calls pG 81 #[vP (some ⟨b.g,0,none⟩),vT b.kind,.agg #[vT key,vS D md dc,vI kI x]] w fun en w'=>en=.returned (.tuple #[])∧∃ T2 e2,LF b T2 e2 n v qf key D md dc x w':=by
 obtain⟨l,h1,h2,h3,h4,h5⟩:=h.lst;have:=field_any (key:=key) (kind:=b.kind) (x:=x) (c:=dc) h.li.sta ok.kz h.kz h2 h3 (by omega) (by omega);rw[h1]at this;refine this.mono ?_;rintro en w' ⟨k1,T2,e2,k2,k3,k4⟩;exact⟨k1,T2,e2,h.step k2 h.ne.1 (h.li.next ok k2 (fun _ q=>q) k3 k4)⟩
theorem LF.noted (h:LF b T e n v qf key D md dc x w) (ok:b.Ok) {j:Nat}(hj:j < 2) {u:Value}{k:Nat}(hu:Sl T .str k u) (y:Int):LF b T e n v qf key D md dc x ((w.setCell ⟨b.q6,j,none⟩ u).setCell ⟨b.q7,j,none⟩ (vI kI y)):=
 ⟨h.li.noted ok hj hu y,(h.fb.far h.ne.2.2.1 _).far h.ne.2.2.2 _,h.fn,h.ne,h.kz,h.fs⟩
theorem LF.slots (h:LF b T e n v qf key D md dc x w) {j:Nat}(hj:j < 2):(∃ u,w.cell? ⟨b.q6,j,none⟩=some u)∧w.frozen? ⟨b.q6,j,none⟩=false∧(∃ u,w.cell? ⟨b.q7,j,none⟩=some u)∧w.frozen? ⟨b.q7,j,none⟩=false∧b.q6 < w.heap.size∧b.q7 < w.heap.size:=by
 obtain⟨u,hu,_⟩:=h.li.nam.cell (j:=j) hj;obtain⟨u2,hu2,_⟩:=h.li.lin.cell (j:=j) hj;exact⟨⟨u,hu⟩,h.li.nam.frozen j,⟨u2,hu2⟩,h.li.lin.frozen j,h.li.nam.lt,h.li.lin.lt⟩
theorem LF.load (h:LF b T e n v qf key D md dc x w):(loadVar 89 ⟨qf,0,none⟩).run pG w=.ok (.agg #[vT key,vS D md dc,vI kI x]) w:=box_load aggField h.fb rfl
end
end
section
structure BP (b:BK) (T:Ty) (e:Int) (w:World):Prop where
 stp:Stp b.M b.B b.S b.w T w
 sta:Sta b.g b.B T w (b.N+1) e
 mono:e=0→b.e=0
 box:Box w b.q3 86 b.cells
 seen:∃ n A c,n≤b.N∧w.cell? ⟨b.g,14,none⟩=some (vS A n c)∧Sl T .str n (vS A n c)
theorem news_of_cells {w:World}{l:List Value}{cs:Array Value}{t:TypeId}(hc:cs=l.toArray):∀ j u,l[j]? = some u→(w.alloc (.cells cs t)).cell? ((⟨w.heap.size,0,none⟩:Addr).add j)=some u:=fun j u hu=>by
 rw[add_off,(Box.new w t cs).cell,hc,Nat.zero_add,List.getElem?_toArray];exact hu
section
variable {b:BK}{T T2:Ty}{e e2:Int}{n:Nat}{v:Value}{w w2 wq:World}
theorem Sta.more {g B N:Nat}{S:Ty}(h:Sta g B S w N e):Sta g B S w (N+1) e:=by
 obtain⟨cs,h1,h2⟩:=h.ex;exact⟨⟨cs,h1,h2.mono (Ty.le_refl _) (Sm.refl _) id (Nat.le_succ _)⟩,h.tw,h.no,h.lo⟩
theorem Sta.cellSet {g B N:Nat}{S:Ty}(h:Sta g B S w N e) {i j:Nat}(hij:i≠j) (u:Value):(w.setCell ⟨g,i,none⟩ u).cell? ⟨g,j,none⟩=w.cell? ⟨g,j,none⟩:=by
 obtain⟨cs,h1,_⟩:=h.ex;rw[(h1.box.set i u).cell j,h1.box.cell j,Array.getElem?_setIfInBounds,if_neg hij]
theorem LI.bp (h:LI b T e n v w):BP b T e w:=by
 obtain⟨m,A,c,h1,h2,h3⟩:=h.sta.seen;exact⟨h.stp,h.sta.more,h.mono,h.box,m,A,c,h1,h2,h3⟩
theorem BP.cells (h:BP b T e w):w.cell? ⟨b.q3,0,none⟩=some (vT b.kind)∧w.cell? ⟨b.q3,3,none⟩=some (vI kI b.line)∧b.g < w.heap.size∧b.q3 < w.heap.size:=⟨h.box.cell 0,h.box.cell 3,h.sta.lt,h.box.lt⟩
theorem LI.named (h:LI b T e n v w) (ok:b.Ok) {s:ByteArray}(hs:s.size≤24):LI b T e n v (w.setCell ⟨b.q5,0,none⟩ (vT s)):=by
 obtain⟨d1,d2,d3,d4,d5,d6,d7,d8,d9,d10⟩:=ok.d;obtain⟨l1,l2,l3,l4⟩:=ok.lt;have hst:Stp (fun i=>i=b.g∨i=b.q5) b.B T w T (w.setCell ⟨b.q5,0,none⟩ (vT s)):=Stp.wrote h.sta.tw (h.un l2 ok.n5) (.inr rfl) (grown_set1 _ _ _ _);have hst2:Stp (fun i=>i=b.q5) b.B T w T (w.setCell ⟨b.q5,0,none⟩ (vT s)):=Stp.wrote h.sta.tw (h.un l2 ok.n5) rfl (grown_set1 _ _ _ _);exact h.con' ok hst (h.sta.step hst2 d2) id (h.con.set (by decide) ⟨s,rfl,hs⟩)
theorem LI.conCells (h:LI b T e n v w):∃ (s:ByteArray) (D:Option Addr) (m d:Nat) (x2 x3 x4 x5 x6 x7 x8:Int),Box w b.q5 74 #[vT s,vS D m d,vI kI x2,vI kI x3,vI kI x4,vI kI x5,vI kI x6,vI kI x7,vI kI x8]∧TC T .con [vT s,vS D m d,vI kI x2,vI kI x3,vI kI x4,vI kI x5,vI kI x6,vI kI x7,vI kI x8]:=by
 obtain⟨cs,h1,h2,h3⟩:=h.con;have hg:∀ j,j < 9→∃ u,cs[j]? = some u∧FTok T (Kd.con.fts.getD j .int) u:=fun j hj=>by have h2':cs.size=9:=h2;have e0:cs[j]? = some cs[j]:=Array.getElem?_eq_getElem (by omega);refine⟨_,e0,?_⟩;have:=h3 j _ (by rw[Array.getElem?_toList];exact e0);rwa [Nat.mod_eq_of_lt (show j < Kd.con.len from hj)]at this
 obtain⟨_,a0,s,rfl,_⟩:=hg 0 (by decide);obtain⟨_,a1,m,D,d,rfl,_⟩:=hg 1 (by decide);obtain⟨_,a2,x2,rfl⟩:=hg 2 (by decide);obtain⟨_,a3,x3,rfl⟩:=hg 3 (by decide);obtain⟨_,a4,x4,rfl⟩:=hg 4 (by decide);obtain⟨_,a5,x5,rfl⟩:=hg 5 (by decide);obtain⟨_,a6,x6,rfl⟩:=hg 6 (by decide);obtain⟨_,a7,x7,rfl⟩:=hg 7 (by decide);obtain⟨_,a8,x8,rfl⟩:=hg 8 (by decide);have e:cs=#[vT s,vS D m d,vI kI x2,vI kI x3,vI kI x4,vI kI x5,vI kI x6,vI kI x7,vI kI x8]:=by
  apply Array.ext
  ·exact h2
  ·intro i hi1 hi2;have hi:i < 9:=hi2;rcases (show i=0∨i=1∨i=2∨i=3∨i=4∨i=5∨i=6∨i=7∨i=8 by omega) with rfl|rfl|rfl|rfl|rfl|rfl|rfl|rfl|rfl;all_goals
    apply Option.some.inj
    rw[← Array.getElem?_eq_getElem hi1]
    assumption
 subst e;exact⟨s,D,m,d,x2,x3,x4,x5,x6,x7,x8,h1,h3⟩
theorem con_push (h:LI b T e n v w) (ok:b.Ok) (hN:b.N < 1000) {l:List Value}{cs:Array Value}(hc:cs=l.toArray) (hl:l.length=9) (hT:TC T .con l) :
  ∃ m A c,w.cell? ⟨b.g,5,none⟩=some (vS A m c)∧∀ wq,Below w.heap.size w wq→∀ ot,∃ A' c' w' T2,(Builtin.append_ #[23,23] ot #[vS A m c,vS (some ⟨wq.heap.size,0,none⟩) 1 1]).run pG (wq.alloc (.cells cs 74))=.ok (vS A' (m+1) c') w'∧(∃ u,w'.cell? ⟨b.g,5,none⟩=some u)∧w'.frozen? ⟨b.g,5,none⟩=false∧b.g < w'.heap.size∧BP b T2 e (w'.setCell ⟨b.g,5,none⟩ (vS A' (m+1) c')):=by
 obtain⟨m,A,c,hm,h5,hs⟩:=h.sta.cons;refine⟨m,A,c,h5,fun wq hq ot=>?_⟩;have hb:Below w.heap.size w (wq.alloc (.cells cs 74)):=hq.alloc hq.size _;have h1:=h.below ok hb;obtain⟨A',c',w',T2,hr,hst,hk⟩:=Sl.append (M:=No) (k:=.con) Tryz.underlying23 h1.sta.tw h1.sta.size hs ot ⟨wq.heap.size,0,none⟩ 1 1 l hl (news_of_cells hc) hT (by omega) (by omega);have h2:=h1.next ok hst (fun _ q=>q.elim) (h1.sta.step hst id) id;obtain⟨hcell,hfz⟩:=h2.sta.cell (j:=5) (by decide);obtain⟨k1,k2⟩:=h2.sta.more.put (j:=5) (v:=.slice A' (m+1) c') (by decide) fun cs a b=>a.cons b ⟨m+1,by omega,hk⟩;refine⟨A',c',w',T2,hr,hcell,hfz,h2.sta.lt,⟨h2.stp.trans (k1.mono fun i _ hi=>.inl hi),k2,h2.mono,h2.box.far (fun e=>ok.d.1 e.symm) _,?_⟩⟩;obtain⟨n14,A14,c14,q1,q2,q3⟩:=h2.sta.seen;exact⟨n14,A14,c14,q1,(h2.sta.cellSet (by decide) _).trans q2,q3⟩
theorem seen_push (h:BP b T e w) (ok:b.Ok) (hN:b.N < 1000) :
  ∃ m A c,w.cell? ⟨b.g,14,none⟩=some (vS A m c)∧∀ wq,Below w.heap.size w wq→∀ ot,∃ A' c' w' T2,(Builtin.append_ #[22,22] ot #[vS A m c,vS (some ⟨wq.heap.size,0,none⟩) 1 1]).run pG (wq.alloc (.cells #[vT b.kind] 9))=.ok (vS A' (m+1) c') w'∧(∃ u,w'.cell? ⟨b.g,14,none⟩=some u)∧w'.frozen? ⟨b.g,14,none⟩=false∧b.g < w'.heap.size∧Stp b.M b.B b.S b.w T2 (w'.setCell ⟨b.g,14,none⟩ (vS A' (m+1) c'))∧Sta b.g b.B T2 (w'.setCell ⟨b.g,14,none⟩ (vS A' (m+1) c')) (b.N+1) e:=by
 obtain⟨m,A,c,hm,h5,hs⟩:=h.seen;refine⟨m,A,c,h5,fun wq hq ot=>?_⟩;have hb:Below w.heap.size w (wq.alloc (.cells #[.string b.kind] 9)):=hq.alloc hq.size _;have s1:Stp b.M b.B T w T (wq.alloc (.cells #[.string b.kind] 9)):=Stp.of_below h.sta.tw hb;have t1:=h.sta.below hb;have hkz:=ok.kz;obtain⟨A',c',w',T2,hr,hst,hk⟩:=Sl.append (M:=No) (k:=.str) Tryz.underlying22 t1.tw t1.size hs ot ⟨wq.heap.size,0,none⟩ 1 1 [.string b.kind] rfl (news_of_cells rfl) (TC.strs (l:=[b.kind]) (by simp[big];omega)) (by omega) (by omega);have t2:=t1.step hst id;obtain⟨hcell,hfz⟩:=t2.cell (j:=14) (by decide);obtain⟨k1,k2⟩:=t2.put (j:=14) (v:=.slice A' (m+1) c') (by decide) fun cs a b=>a.seen b ⟨m+1,by omega,hk⟩;exact⟨A',c',w',T2,hr,hcell,hfz,t2.lt,((h.stp.trans s1).trans hst.no).trans (k1.mono fun i _ hi=>.inl hi),k2⟩
end
end
section
def findAt (n:Nat):Code→Option Code
 |.seq (.region k o d) b=>if k=n then some (.seq (.region k o d) b) else findAt n b
 |.block _ c=>findAt n c
 |.seq a b=>match findAt n a with
  |some c=>some c
  |none=>findAt n b
 |.cond _ a b=>match findAt n a with
  |some c=>some c
  |none=>findAt n b
 |.loop c=>findAt n c
 |_=>none
def seqL:Code→Code
 |.seq a _=>a
 |_=>.skip
def seqR:Code→Code
 |.seq _ b=>b
 |_=>.skip
def findReg (n:Nat):Code→Option Code
 |.region k o d=>if k=n then some (.region k o d) else none
 |.block _ c=>findReg n c
 |.seq a b=>match findReg n a with
  |some c=>some c
  |none=>findReg n b
 |.cond _ a b=>match findReg n a with
  |some c=>some c
  |none=>findReg n b
 |.loop c=>findReg n c
 |_=>none
def findBlk (n:Nat):Code→Option Code
 |.block k c=>if k=n then some (.block k c) else findBlk n c
 |.seq a b=>match findBlk n a with
  |some c=>some c
  |none=>findBlk n b
 |.cond _ a b=>match findBlk n a with
  |some c=>some c
  |none=>findBlk n b
 |.loop c=>findBlk n c
 |_=>none
theorem wp_open {P:Program}{x y:Code}{Q:Exit→Act→World→Prop}{a:Act}{w:World}(h:∀ K:Act→World→Prop,(∀ a w,y.wp P Q a w→K a w)→x.wp P (Exit.then K Q) a w):x.wp P (Exit.then (y.wp P Q) Q) a w:=h _ fun _ _ h=>h
theorem wp_close {P:Program}{x y:Code}{K:Act→World→Prop}{Q:Exit→Act→World→Prop}{a:Act}{w:World}(h:x.wp P (Exit.then (y.wp P Q) Q) a w) (hk:∀ a w,y.wp P Q a w→K a w):x.wp P (Exit.then K Q) a w:=by
 refine wp_mono h ?_;intro e a' w' hq;cases e with
 |normal=>exact hk _ _ hq
 |exit id=>exact hq
 |goto l=>exact hq
 |ret=>exact hq
 |panic ch=>exact hq
 |outgrown=>exact hq
theorem aggCon:AggT 74 9:=by
 refine⟨?_,fun w=>?_⟩
 ·have h:(pG.info? 74).map (fun i=>i.size)=some 9:=by kernel_rfl
  obtain⟨i0,h1,h2⟩:=Option.map_eq_some_iff.1 h;exact⟨i0,h1,h2⟩
 ·unfold isAgg;rw[Sem.run_bind,run_underlying Tryz.underlying74 w];rfl
end
section
theorem STy.styles {S:Ty}{cs:Array Value}{e:Int}{n N:Nat}{v6 v15 v16:Value}(h:STy S cs e N) (hs:cs.size=19) (h6:Sl S .sty0 n v6) (h15:Sl S .lin n v15) (h16:Sl S .nam n v16) (hn:n≤N) :
  STy S (((cs.setIfInBounds 6 v6).setIfInBounds 16 v16).setIfInBounds 15 v15) e N:=by
 have key:∀ i,i≠6→i≠15→i≠16→(((cs.setIfInBounds 6 v6).setIfInBounds 16 v16).setIfInBounds 15 v15).getD i undef=cs.getD i undef:=fun i h1 h2 h3=>by rw[getD_ne (Ne.symm h2),getD_ne (Ne.symm h3),getD_ne (Ne.symm h1)]
 have k6:(((cs.setIfInBounds 6 v6).setIfInBounds 16 v16).setIfInBounds 15 v15).getD 6 undef=v6:=by rw[getD_ne (by decide),getD_ne (by decide),getD_same (by omega)]
 have k16:(((cs.setIfInBounds 6 v6).setIfInBounds 16 v16).setIfInBounds 15 v15).getD 16 undef=v16:=by rw[getD_ne (by decide),getD_same (by simp;omega)]
 have k15:(((cs.setIfInBounds 6 v6).setIfInBounds 16 v16).setIfInBounds 15 v15).getD 15 undef=v15:=by rw[getD_same (by simp;omega)]
 constructor
 ·rw[key 0 (by decide) (by decide) (by decide)];exact h.t0
 ·rw[key 1 (by decide) (by decide) (by decide)];exact h.i1
 ·rw[key 2 (by decide) (by decide) (by decide)];exact h.i2
 ·rw[key 3 (by decide) (by decide) (by decide)];exact h.i3
 ·rw[key 4 (by decide) (by decide) (by decide)];exact h.p4
 ·rw[key 5 (by decide) (by decide) (by decide)];exact h.c5
 ·rw[k6,k15,k16];exact⟨n,hn,h6,h15,h16⟩
 ·rw[key 7 (by decide) (by decide) (by decide)];exact h.i7
 ·rw[key 8 (by decide) (by decide) (by decide)];exact h.i8
 ·rw[key 9 (by decide) (by decide) (by decide)];exact h.b9
 ·rw[key 10 (by decide) (by decide) (by decide)];exact h.n10
 ·rw[key 11 (by decide) (by decide) (by decide)];exact h.n11
 ·rw[key 12 (by decide) (by decide) (by decide)];exact h.i12
 ·rw[key 13 (by decide) (by decide) (by decide)];exact h.s13
 ·rw[key 14 (by decide) (by decide) (by decide)];exact h.l14
structure SG (b:BK) (T:Ty) (e:Int) (cs:Array Value) (m:Nat) (v6 D15 E16:Value) (w:World):Prop where
 stp:Stp b.M b.B b.S b.w T w
 tw:TW b.B T w
 no:T b.g=none
 lo:b.B≤b.g
 mono:e=0→b.e=0
 st:St w b.g (cs.setIfInBounds 6 v6) e
 ty:STy T cs e b.N
 size:cs.size=19
 s6:Sl T .sty0 (m+1) v6
 s15:Sl T .lin m D15
 s16:Sl T .nam m E16
 hm:m≤b.N
 e15:cs.getD 15 undef=D15
 e16:cs.getD 16 undef=E16
 box:Box w b.q3 86 b.cells
 n3:T b.q3=none
section
variable {b:BK}{T T2:Ty}{e:Int}{n m:Nat}{v v6 D15 E16:Value}{cs:Array Value}{w w2 wq:World}
theorem SG.step (h:SG b T e cs m v6 D15 E16 w) (hs:Stp No b.B T w T2 w2):SG b T2 e cs m v6 D15 E16 w2:=
 ⟨h.stp.trans hs.no,hs.tw,hs.none h.st.lt h.no,h.lo,h.mono,⟨hs.box h.st.box h.no id,h.st.size,h.st.c17,h.st.c18⟩,h.ty.mono hs.le (Sm.refl _) id (lR _),h.size,h.s6.mono hs.le,h.s15.mono hs.le,h.s16.mono hs.le,h.hm,h.e15,h.e16,hs.box h.box h.n3 id,hs.none h.box.lt h.n3⟩
theorem SG.below (h:SG b T e cs m v6 D15 E16 w) (hb:Below w.heap.size w w2):SG b T e cs m v6 D15 E16 w2:=h.step (Stp.of_below h.tw hb)
theorem SG.cells (h:SG b T e cs m v6 D15 E16 w):w.cell? ⟨b.g,15,none⟩=some D15∧w.cell? ⟨b.g,16,none⟩=some E16∧w.frozen? ⟨b.g,15,none⟩=false∧w.frozen? ⟨b.g,16,none⟩=false∧b.g < w.heap.size:=by
 refine⟨?_,?_,h.st.box.frozen 15,h.st.box.frozen 16,h.st.lt⟩
 ·rw[h.st.cellD (by decide),getD_ne (by decide),h.e15]
 ·rw[h.st.cellD (by decide),getD_ne (by decide),h.e16]
theorem sty_push (h:LI b T e n v w) (ok:b.Ok) (hN:b.N < 999) :
  ∃ m A c D d E f cs,w.cell? ⟨b.g,6,none⟩=some (vS A m c)∧m≤b.N∧∀ wq,Below w.heap.size w wq→∀ ot,∃ A' c' w' T2,(Builtin.append_ #[24,24] ot #[vS A m c,vS (some ⟨wq.heap.size,0,none⟩) 1 1]).run pG (wq.alloc (.cells #[vT b.name,vS none 0 0,vS none 0 0] 76))=.ok (vS A' (m+1) c') w'∧(∃ u,w'.cell? ⟨b.g,6,none⟩=some u)∧w'.frozen? ⟨b.g,6,none⟩=false∧b.g < w'.heap.size∧Mk T2 .nam (w'.setCell ⟨b.g,6,none⟩ (vS A' (m+1) c')) b.q6∧Mk T2 .lin (w'.setCell ⟨b.g,6,none⟩ (vS A' (m+1) c')) b.q7∧T2 b.q6=none∧T2 b.q7=none∧SG b T2 e cs m (vS A' (m+1) c') (vS D m d) (vS E m f) (w'.setCell ⟨b.g,6,none⟩ (vS A' (m+1) c')):=by
 obtain⟨cs,h1,h2⟩:=h.sta.ex;obtain⟨m,hm,s6,s15,s16⟩:=h2.s6;obtain⟨A,c,e6,hs6⟩:=sl_val s6;obtain⟨D,d,e15,hs15⟩:=sl_val s15;obtain⟨E,f,e16,hs16⟩:=sl_val s16;refine⟨m,A,c,D,d,E,f,cs,by rw[h1.cellD (by decide),e6],hm,fun wq hq ot=>?_⟩;have hb:Below w.heap.size w (wq.alloc (.cells #[vT b.name,vS none 0 0,vS none 0 0] 76)):=hq.alloc hq.size _;have hl1:=h.below ok hb;have hT:TC T .sty0 [vT b.name,vS none 0 0,vS none 0 0]:=TC.ofList rfl fun j hj u hu=>by
  have hj:j < 3:=hj;rcases (show j=0∨j=1∨j=2 by omega) with rfl|rfl|rfl
  ·simp at hu;subst hu;exact⟨_,rfl,ok.nz⟩
  ·simp at hu;subst hu;exact rfl
  ·simp at hu;subst hu;exact rfl
 obtain⟨A',c',w',T2,hr,hst,hk⟩:=Sl.append (M:=No) (k:=.sty0) Tryz.underlying24 hl1.sta.tw hl1.sta.size hs6 ot ⟨wq.heap.size,0,none⟩ 1 1 _ rfl (news_of_cells rfl) hT (by omega) (by omega);have h3:=hl1.next ok hst (fun _ q=>q.elim) (hl1.sta.step hst id) id;obtain⟨d1,d2,d3,d4,_⟩:=ok.d;obtain⟨l1,l2,l3,l4⟩:=ok.lt;have hn6:=h3.un l3 ok.n6;have hn7:=h3.un l4 ok.n7;have hb':Stp No b.B T w T2 w':=(Stp.of_below h.sta.tw hb).trans hst;have hbx:Box w' b.g 81 cs:=hb'.box h1.box h.sta.no id;obtain⟨hcell,hfz⟩:=h3.sta.cell (j:=6) (by decide);have hw:Stp (fun i=>i=b.g) b.B T2 w' T2 (w'.setCell ⟨b.g,6,none⟩ (.slice A' (m+1) c')):=Stp.wrote h3.sta.tw h3.sta.no rfl (grown_set1 _ _ _ _);have hs:=h1.size;refine⟨A',c',w',T2,hr,hcell,hfz,h3.sta.lt,h3.nam.step hw hn6 (fun e=>d3 e.symm),h3.lin.step hw hn7 (fun e=>d4 e.symm),hn6,hn7,⟨h3.stp.trans (hw.mono fun i _ hi=>.inl hi),hw.tw,h3.sta.no,h3.sta.lo,h3.mono,⟨hbx.set 6 _,by simpa using hs,by rw[Array.getElem?_setIfInBounds,if_neg (by decide)];exact h1.c17,by rw[Array.getElem?_setIfInBounds,if_neg (by decide)];exact h1.c18⟩,h2.mono hb'.le (Sm.refl _) id (lR _),hs,hk,hs15.mono hb'.le,hs16.mono hb'.le,hm,e15,e16,h3.box.far (fun e=>d1 e.symm) _,h3.un l1 ok.n3⟩⟩
theorem nam_push {E:Option Addr}{f:Nat}(h:SG b T e cs m v6 D15 (vS E m f) w) (hN:b.N < 999) (ot:TypeId) (ad:Addr) {l:List Value}(hl:l.length=2) (hT:TC T .nam l) (hc:∀ j u,l[j]? = some u→w.cell? (ad.add j)=some u) :
  ∃ A' c' w' T2,(Builtin.append_ #[79,79] ot #[vS E m f,vS (some ad) 1 1]).run pG w=.ok (vS A' (m+1) c') w'∧Stp No b.B T w T2 w'∧SG b T2 e cs m v6 D15 (vS E m f) w'∧Sl T2 .nam (m+1) (vS A' (m+1) c'):=by
 have hm:=h.hm;obtain⟨A',c',w',T2,hr,hst,hk⟩:=Sl.append (M:=No) (k:=.nam) Tryz.underlying79 h.tw (lT h.lo (Nat.le_of_lt h.st.lt)) h.s16 ot ad 1 1 l hl hc hT (by omega) (by omega);exact⟨A',c',w',T2,hr,hst,h.step hst,hk⟩
theorem lin_push {D:Option Addr}{d:Nat}{E16:Value}(h:SG b T e cs m v6 (vS D m d) E16 w) (hN:b.N < 999) (ot:TypeId) (ad:Addr) {l:List Value}(hl:l.length=2) (hT:TC T .lin l) (hc:∀ j u,l[j]? = some u→w.cell? (ad.add j)=some u) :
  ∃ A' c' w' T2,(Builtin.append_ #[78,78] ot #[vS D m d,vS (some ad) 1 1]).run pG w=.ok (vS A' (m+1) c') w'∧Stp No b.B T w T2 w'∧SG b T2 e cs m v6 (vS D m d) E16 w'∧Sl T2 .lin (m+1) (vS A' (m+1) c'):=by
 have hm:=h.hm;obtain⟨A',c',w',T2,hr,hst,hk⟩:=Sl.append (M:=No) (k:=.lin) Tryz.underlying78 h.tw (lT h.lo (Nat.le_of_lt h.st.lt)) h.s15 ot ad 1 1 l hl hc hT (by omega) (by omega);exact⟨A',c',w',T2,hr,hst,h.step hst,hk⟩
theorem SG.done {v15 v16:Value}(h:SG b T e cs m v6 D15 E16 w) (ok:b.Ok) (h15:Sl T .lin (m+1) v15) (h16:Sl T .nam (m+1) v16):BP b T e ((w.setCell ⟨b.g,16,none⟩ v16).setCell ⟨b.g,15,none⟩ v15):=by
 have hm:=h.hm;have s1:Stp (fun i=>i=b.g) b.B T w T (w.setCell ⟨b.g,16,none⟩ v16):=Stp.wrote h.tw h.no rfl (grown_set1 _ _ _ _);have s2:Stp (fun i=>i=b.g) b.B T (w.setCell ⟨b.g,16,none⟩ v16) T ((w.setCell ⟨b.g,16,none⟩ v16).setCell ⟨b.g,15,none⟩ v15):=Stp.wrote s1.tw h.no rfl (grown_set1 _ _ _ _);have hty:STy T (((cs.setIfInBounds 6 v6).setIfInBounds 16 v16).setIfInBounds 15 v15) e (b.N+1):=(h.ty.mono (Ty.le_refl _) (Sm.refl _) id (Nat.le_succ _)).styles h.size h.s6 h15 h16 (by omega);have hst:St ((w.setCell ⟨b.g,16,none⟩ v16).setCell ⟨b.g,15,none⟩ v15) b.g (((cs.setIfInBounds 6 v6).setIfInBounds 16 v16).setIfInBounds 15 v15) e:=
  ⟨(h.st.box.set 16 v16).set 15 v15,by simpa using h.size,by rw[Array.getElem?_setIfInBounds,if_neg (by decide),Array.getElem?_setIfInBounds,if_neg (by decide)];exact h.st.c17,by rw[Array.getElem?_setIfInBounds,if_neg (by decide),Array.getElem?_setIfInBounds,if_neg (by decide)];exact h.st.c18⟩
 obtain⟨n14,hn14,s14⟩:=h.ty.l14;obtain⟨A14,c14,e14,hs14⟩:=sl_val s14;refine⟨(h.stp.trans (s1.mono fun i _ hi=>.inl hi)).trans (s2.mono fun i _ hi=>.inl hi),⟨⟨_,hst,hty⟩,s2.tw,h.no,h.lo⟩,h.mono,(h.box.far (fun e=>ok.d.1 e.symm) _).far (fun e=>ok.d.1 e.symm) _,n14,A14,c14,hn14,?_,hs14⟩;rw[hst.cellD (by decide),getD_ne (by decide),getD_ne (by decide),getD_ne (by decide),e14]
theorem Mk.two {k:Kd}{q:Nat}(h:Mk T k w q) (hk:k.len=2):∃ x0 x1,Box w q k.tag #[x0,x1]∧TC T k [x0,x1]∧FTok T (k.fts.getD 0 .int) x0∧FTok T (k.fts.getD 1 .int) x1:=by
 obtain⟨cs,h1,h2,h3⟩:=h;have hs:cs.size=2:=by rw[h2,hk]
 have e0:cs[0]? = some cs[0]:=Array.getElem?_eq_getElem (by omega);have e1:cs[1]? = some cs[1]:=Array.getElem?_eq_getElem (by omega);have e:cs=#[cs[0],cs[1]]:=by
  apply Array.ext
  ·exact hs
  ·intro i hi1 hi2;have hi:i < 2:=hi2;rcases (show i=0∨i=1 by omega) with rfl|rfl <;> rfl
 have f0:=h3 0 _ (by rw[Array.getElem?_toList];exact e0);have f1:=h3 1 _ (by rw[Array.getElem?_toList];exact e1);rw[Nat.mod_eq_of_lt (by omega)]at f0 f1;refine⟨cs[0],cs[1],by rw[← e];exact h1,?_,f0,f1⟩;have:[cs[0],cs[1]]=cs.toList:=(congrArg Array.toList e).symm;rw[this];exact h3
theorem box_news {w:World}{bx:Nat}{t:TypeId}{l:List Value}{cs:Array Value}(h:Box w bx t cs) (hc:cs=l.toArray):∀ j u,l[j]? = some u→w.cell? ((⟨bx,0,none⟩:Addr).add j)=some u:=fun j u hu=>by
 rw[add_off,h.cell,hc,Nat.zero_add,List.getElem?_toArray];exact hu
def Both (b:BK) (e:Int) (m:Nat) (A2:Option Addr) (c2:Nat) (A3:Option Addr) (c3:Nat) (wb:World):Prop:=(∃ u,wb.cell? ⟨b.g,16,none⟩=some u)∧wb.frozen? ⟨b.g,16,none⟩=false∧(∃ u,wb.cell? ⟨b.g,15,none⟩=some u)∧wb.frozen? ⟨b.g,15,none⟩=false∧b.g < wb.heap.size∧∃ T,BP b T e ((wb.setCell ⟨b.g,16,none⟩ (vS A2 (m+1) c2)).setCell ⟨b.g,15,none⟩ (vS A3 (m+1) c3))
variable {D E:Option Addr}{d f:Nat}{x0 x1 y0 y1:Value}
def KS (b:BK) (T:Ty) (D15 E16:Value) (w v:World):Prop:=v.cell? ⟨b.g,15,none⟩=some D15∧v.cell? ⟨b.g,16,none⟩=some E16∧b.g < v.heap.size∧∀ q t cs0,T q=none→Box w q t cs0→Box v q t cs0
theorem SG.ks (h:SG b T e cs m v6 D15 E16 w) (hq:Below w.heap.size w wq):KS b T D15 E16 w wq:=
 ⟨(h.below hq).cells.1,(h.below hq).cells.2.1,(h.below hq).cells.2.2.2.2,fun q t cs0 _ hx=>hx.kept hq⟩
theorem push_both (h:SG b T e cs m v6 (vS D m d) (vS E m f) w) (ok:b.Ok) (hN:b.N < 999) (o1 o2:TypeId) (hq:Below w.heap.size w wq) {bx bz:Nat}(hbz:w.heap.size≤bz) (X:Box wq bx 131 #[x0,x1]) (Y:Box wq bz 132 #[y0,y1]) (TX:TC T .nam [x0,x1]) (TY:TC T .lin [y0,y1]) :
  ∃ A2 c2 wa A3 c3 wb,(Builtin.append_ #[79,79] o1 #[vS E m f,vS (some ⟨bx,0,none⟩) 1 1]).run pG wq=.ok (vS A2 (m+1) c2) wa∧(Builtin.append_ #[78,78] o2 #[vS D m d,vS (some ⟨bz,0,none⟩) 1 1]).run pG wa=.ok (vS A3 (m+1) c3) wb∧Both b e m A2 c2 A3 c3 wb∧KS b T (vS D m d) (vS E m f) w wa∧KS b T (vS D m d) (vS E m f) w wb:=by
 have h1:=h.below hq;obtain⟨A2,c2,wa,T2,r1,s1,g1,k1⟩:=nam_push h1 hN o1 ⟨bx,0,none⟩ rfl TX (box_news X rfl);have Y2:Box wa bz 132 #[y0,y1]:=s1.box Y (h.tw.none_ge hbz) id;obtain⟨A3,c3,wb,T3,r2,s2,g2,k2⟩:=lin_push g1 hN o2 ⟨bz,0,none⟩ rfl (TY.mono s1.le) (box_news Y2 rfl);obtain⟨q1,q2,q3,q4,q5⟩:=g2.cells;exact⟨A2,c2,wa,A3,c3,wb,r1,r2,⟨⟨_,q2⟩,q4,⟨_,q1⟩,q3,q5,T3,g2.done ok k2 (k1.mono s2.le)⟩,⟨g1.cells.1,g1.cells.2.1,g1.cells.2.2.2.2,fun q t cs0 hn hx=>s1.box (hx.kept hq) hn id⟩,q1,q2,q5,fun q t cs0 hn hx=>s2.box (s1.box (hx.kept hq) hn id) (s1.none (hx.kept hq).lt hn) id⟩
theorem push_seq (h:SG b T e cs m v6 (vS D m d) (vS E m f) w) (ok:b.Ok) (hN:b.N < 999) (o1 o2:TypeId) (hq:Below w.heap.size w wq) {bx:Nat}(X:Box wq bx 131 #[x0,x1]) (TX:TC T .nam [x0,x1]) (TY:TC T .lin [y0,y1]) :
  ∃ A2 c2 wa A3 c3 wb,(Builtin.append_ #[79,79] o1 #[vS E m f,vS (some ⟨bx,0,none⟩) 1 1]).run pG wq=.ok (vS A2 (m+1) c2) wa∧(Builtin.append_ #[78,78] o2 #[vS D m d,vS (some ⟨wa.heap.size,0,none⟩) 1 1]).run pG (wa.alloc (.cells #[y0,y1] 132))=.ok (vS A3 (m+1) c3) wb∧Both b e m A2 c2 A3 c3 wb∧KS b T (vS D m d) (vS E m f) w wa∧KS b T (vS D m d) (vS E m f) w (wa.alloc (.cells #[y0,y1] 132))∧KS b T (vS D m d) (vS E m f) w wb:=by
 have h1:=h.below hq;obtain⟨A2,c2,wa,T2,r1,s1,g1,k1⟩:=nam_push h1 hN o1 ⟨bx,0,none⟩ rfl TX (box_news X rfl);have hb:Below wa.heap.size wa (wa.alloc (.cells #[y0,y1] 132)):=(bR _ _).alloc (lR _) _;have g1':=g1.below hb;obtain⟨A3,c3,wb,T3,r2,s2,g2,k2⟩:=lin_push g1' hN o2 ⟨wa.heap.size,0,none⟩ rfl (TY.mono s1.le) (box_news (Box.new wa _ _) rfl);obtain⟨q1,q2,q3,q4,q5⟩:=g2.cells;have kb:∀ q t cs0,T q=none→Box w q t cs0→Box wa q t cs0:=fun q t cs0 hn hx=>s1.box (hx.kept hq) hn id;exact⟨A2,c2,wa,A3,c3,wb,r1,r2,⟨⟨_,q2⟩,q4,⟨_,q1⟩,q3,q5,T3,g2.done ok k2 (k1.mono s2.le)⟩,⟨g1.cells.1,g1.cells.2.1,g1.cells.2.2.2.2,kb⟩,⟨g1'.cells.1,g1'.cells.2.1,g1'.cells.2.2.2.2,fun q t cs0 hn hx=>(kb q t cs0 hn hx).kept hb⟩,q1,q2,q5,fun q t cs0 hn hx=>s2.box ((kb q t cs0 hn hx).kept hb) (s1.none (hx.kept hq).lt hn) id⟩
end
end
section
variable {u2 jA qA yA zA fA nA rA mA lA oA pA vA sA tA uA aA bA cA dA eA hA iA kA jB qB yB zB fB gB nB rB mB lB oB pB sB tB uB aB bB dB eB hB iB kB jC qC yC zC fC gC nC rC mC lC oC pC vC sC tC uC aC bC cC dC eC hC iC kC jD qD yD zD fD gD nD rD mD lD oD pD vD sD tD uD aD bD cD dD eD hD iD kD jE qE yE zE fE gE nE rE mE lE oE pE vE sE tE uE aE bE cE dE eE hE iE kE jF qF yF zF fF gF nF rF mF lF oF pF vF sF tF uF aF bF cF dF eF hF iF kF jG qG yG zG fG gG nG rG mG lG oG vG sG tG uG aG bG cG dG eG hG iG kG jH qH yH zH fH gH nH rH mH lH oH pH vH sH tH uH aH bH cH dH eH hH iH kH jI qI yI zI fI gI nI rI mI lI oI pI sI tI uI aI bI cI dI eI hI iI jJ qJ yJ zJ fJ gJ nJ rJ mJ lJ oJ pJ vJ sJ tJ uJ aJ bJ cJ dJ eJ hJ iJ kJ jK qK yK zK fK gK nK rK mK lK oK pK vK sK tK uK aK bK cK dK eK iK kK jL qL yL fL gL nL rL mL oL:Value}
set_option maxHeartbeats 16000000
set_option maxRecDepth 1000000
theorem blkC1 {g B q3 q5 N:Nat}{S:Ty}{w3:World}{e2 line:Int}{kind name:ByteArray}{F:Option Addr}{m f:Nat}{T:Ty}{e5 x8 x9:Int}{n kc:Nat}{KA:Option Addr}{wc:World}(ok:(mkBK g B q3 q5 N S w3 e2 kind name F m f line).Ok) (hl:LI (mkBK g B q3 q5 N S w3 e2 kind name F m f line) T e5 n (vS KA n kc) wc)
 {K K2:Act→World→Prop}{post:Ending→World→Prop}
   (hK:∀ (x2 pL vL sL tL uL aL bL cL dL eL hL iL kL jM qM yM zM fM gM nM rM mM lM oM pM vM sM tM uM aM bM cM dM eM hM iM kM jN qN yN zN fN gN nN rN mN lN oN pN vN sN tN uN aN cN dN eN hN iN kN jO qO yO zO fO gO nO rO mO lO oO pO vO sO tO uO aO bO cO dO eO hO iO kO jP qP yP zP fP gP nP rP mP lP oP pP sP tP uP bP cP dP eP hP iP kP jQ qQ yQ zQ fQ gQ nQ rQ mQ lQ oQ pQ vQ sQ tQ uQ aQ bQ cQ dQ eQ hQ iQ kQ jR qR yR zR fR gR nR rR mR oR pR vR sR tR uR aR cR dR eR hR iR kR jS qS yS zS fS nS rS mS lS oS pS sS tS uS bS cS eS hS iS kS jT qT yT zT fT gT nT rT mT oT pT sT tT uT aT bT cT dT eT hT iT kT jU qU yU zU fU gU nU rU mU lU oU pU vU sU tU uU bU cU dU eU hU iU kU jV qV yV zV fV nV rV mV lV oV pV vV sV tV uV aV bV cV dV eV hV iV kV jW qW yW zW fW gW nW rW mW lW oW pW vW sW tW uW aW bW cW dW eW hW iW kW jX qX:Value)  (wx:World),(∃ e',Hid (LI (mkBK g B q3 q5 N S w3 e2 kind name F m f line) T e' n (vS KA n kc) wx))→K ⟨#[vP (some ⟨g,0,none⟩),.agg #[vT kind,vT name,vS F m f,vI kI line],x2,vP (some ⟨q3,0,none⟩),vS KA n kc,vP (some ⟨q5,0,none⟩),vP (some ⟨q5+1,0,none⟩),vP (some ⟨q5+1+1,0,none⟩),vI kI x8,vI kI x9,pL,vL,sL,tL,uL,aL,bL,cL,dL,eL,hL,iL,kL,jM,qM,yM,zM,fM,gM,nM,rM,mM,lM,oM,pM,vM,sM,tM,uM,aM,bM,cM,dM,eM,hM,iM,kM,jN,qN,yN,zN,fN,gN,nN,rN,mN,lN,oN,pN,vN,sN,tN,uN,aN,cN,dN,eN,hN,iN,kN,jO,qO,yO,zO,fO,gO,nO,rO,mO,lO,oO,pO,vO,sO,tO,uO,aO,bO,cO,dO,eO,hO,iO,kO,jP,qP,yP,zP,fP,gP,nP,rP,mP,lP,oP,pP,sP,tP,uP,bP,cP,dP,eP,hP,iP,kP,jQ,qQ,yQ,zQ,fQ,gQ,nQ,rQ,mQ,lQ,oQ,pQ,vQ,sQ,tQ,uQ,aQ,bQ,cQ,dQ,eQ,hQ,iQ,kQ,jR,qR,yR,zR,fR,gR,nR,rR,mR,oR,pR,vR,sR,tR,uR,aR,cR,dR,eR,hR,iR,kR,jS,qS,yS,zS,fS,nS,rS,mS,lS,oS,pS,sS,tS,uS,bS,cS,eS,hS,iS,kS,jT,qT,yT,zT,fT,gT,nT,rT,mT,oT,pT,sT,tT,uT,aT,bT,cT,dT,eT,hT,iT,kT,jU,qU,yU,zU,fU,gU,nU,rU,mU,lU,oU,pU,vU,sU,tU,uU,bU,cU,dU,eU,hU,iU,kU,jV,qV,yV,zV,fV,nV,rV,mV,lV,oV,pV,vV,sV,tV,uV,aV,bV,cV,dV,eV,hV,iV,kV,jW,qW,yW,zW,fW,gW,nW,rW,mW,lW,oW,pW,vW,sW,tW,uW,aW,bW,cW,dW,eW,hW,iW,kW,jX,qX],[]⟩ wx) :
   Code.wp pG (seqL ((Tryz.f37.body.bind (findAt 36)).getD .skip)) (Exit.then (Code.wp pG (seqR ((Tryz.f37.body.bind (findAt 36)).getD .skip)) (Exit.then K (Exit.inBlock 5 (Exit.then K2 (bodyPost pG Tryz.f37 post))))) (Exit.then K (Exit.inBlock 5 (Exit.then K2 (bodyPost pG Tryz.f37 post))))) ⟨#[vP (some ⟨g,0,none⟩),.agg #[vT kind,vT name,vS F m f,vI kI line],u2,vP (some ⟨q3,0,none⟩),vS KA n kc,vP (some ⟨q5,0,none⟩),vP (some ⟨q5+1,0,none⟩),vP (some ⟨q5+1+1,0,none⟩),vI kI x8,vI kI x9,jA,qA,yA,zA,fA,nA,rA,mA,lA,oA,pA,vA,sA,tA,uA,aA,bA,cA,dA,eA,hA,iA,kA,jB,qB,yB,zB,fB,gB,nB,rB,mB,lB,oB,pB,sB,tB,uB,aB,bB,dB,eB,hB,iB,kB,jC,qC,yC,zC,fC,gC,nC,rC,mC,lC,oC,pC,vC,sC,tC,uC,aC,bC,cC,dC,eC,hC,iC,kC,jD,qD,yD,zD,fD,gD,nD,rD,mD,lD,oD,pD,vD,sD,tD,uD,aD,bD,cD,dD,eD,hD,iD,kD,jE,qE,yE,zE,fE,gE,nE,rE,mE,lE,oE,pE,vE,sE,tE,uE,aE,bE,cE,dE,eE,hE,iE,kE,jF,qF,yF,zF,fF,gF,nF,rF,mF,lF,oF,pF,vF,sF,tF,uF,aF,bF,cF,dF,eF,hF,iF,kF,jG,qG,yG,zG,fG,gG,nG,rG,mG,lG,oG,vG,sG,tG,uG,aG,bG,cG,dG,eG,hG,iG,kG,jH,qH,yH,zH,fH,gH,nH,rH,mH,lH,oH,pH,vH,sH,tH,uH,aH,bH,cH,dH,eH,hH,iH,kH,jI,qI,yI,zI,fI,gI,nI,rI,mI,lI,oI,pI,sI,tI,uI,aI,bI,cI,dI,eI,hI,iI,jJ,qJ,yJ,zJ,fJ,gJ,nJ,rJ,mJ,lJ,oJ,pJ,vJ,sJ,tJ,uJ,aJ,bJ,cJ,dJ,eJ,hJ,iJ,kJ,jK,qK,yK,zK,fK,gK,nK,rK,mK,lK,oK,pK,vK,sK,tK,uK,aK,bK,cK,dK,eK,iK,kK,jL,qL,yL,fL,gL,nL,rL,mL,oL],[]⟩ wc:=by
  have Ok:=hide ok;have HL:=hide hl;clear hl;obtain⟨c17,k0,k1,k2,k3,hlg,hlq⟩:=HL.out.cells;dsimp only at c17 k0 k1 k2 k3 hlg hlq;conv=>pattern (seqL _);whnf
  conv=>pattern (seqR _);whnf
  refine wp_open (fun K0 hK0=>?_);dsimp only;obtain⟨r,hr⟩:=find_blk HL.out ⟨#[100,105,103,105,116,115]⟩;have HR:=hide hr;obtain⟨y,hy,hyf⟩:=HL.out.con.cell (j:=2) (by decide);obtain⟨y,rfl⟩:=hyf;dsimp only at hy;have hl5:=HL.out.con.lt;dsimp only at hl5;clear hr;go_wp2_with fail;refine HR.out.mono ?_;rintro en w5 ⟨rfl,hw5⟩;subst hw5;dsimp only;by_cases hr0:0≤r
  ·by_cases hy2:y=2
   ·subst hy2;go_wp2_with fail;exact⟨e5,HL.out⟩
   ·have hy2':(y != 2)=true:=by simp[hy2]
    go_wp2_with fail;refine(fail_blk HL.out Ok.out _ _ (by decide)).mono ?_;rintro en w6 ⟨rfl,e6,h6⟩;have H6:=hide h6;clear h6;go_wp2_with fail;exact⟨e6,H6.out⟩
  ·go_wp2_with fail;exact⟨e5,HL.out⟩
end
section
variable {u2 jA qA yA zA fA nA rA mA lA oA pA vA sA tA uA aA bA cA dA eA hA iA kA jB qB yB zB fB gB nB rB mB lB oB pB sB tB uB aB bB dB eB hB iB kB jC qC yC zC fC gC nC rC mC lC oC pC vC sC tC uC aC bC cC dC eC hC iC kC jD qD yD zD fD gD nD rD mD lD oD pD vD sD tD uD aD bD cD dD eD hD iD kD jE qE yE zE fE gE nE rE mE lE oE pE vE sE tE uE aE bE cE dE eE hE iE kE jF qF yF zF fF gF nF rF mF lF oF pF vF sF tF uF aF bF cF dF eF hF iF kF jG qG yG zG fG gG nG rG mG lG oG vG sG tG uG aG bG cG dG eG hG iG kG jH qH yH zH fH gH nH rH mH lH oH pH vH sH tH uH aH bH cH dH eH hH iH kH jI qI yI zI fI gI nI rI mI lI oI pI sI tI uI aI bI cI dI eI hI iI jJ qJ yJ zJ fJ gJ nJ rJ mJ lJ oJ pJ vJ sJ tJ uJ aJ bJ cJ dJ eJ hJ iJ kJ jK qK yK zK fK gK nK rK mK lK oK pK vK sK tK uK aK bK cK dK eK iK kK jL qL yL fL gL nL rL mL oL:Value}
set_option maxHeartbeats 16000000
set_option maxRecDepth 1000000
theorem blkC2 {g B q3 q5 N:Nat}{S:Ty}{w3:World}{e2 line:Int}{kind name:ByteArray}{F:Option Addr}{m f:Nat}{T:Ty}{e5 x8 x9:Int}{n kc:Nat}{KA:Option Addr}{wc:World}(ok:(mkBK g B q3 q5 N S w3 e2 kind name F m f line).Ok) (hl:LI (mkBK g B q3 q5 N S w3 e2 kind name F m f line) T e5 n (vS KA n kc) wc)
 {K K2:Act→World→Prop}{post:Ending→World→Prop}
   (hK:∀ (x2 pL vL sL tL uL aL bL cL dL eL hL iL kL jM qM yM zM fM gM nM rM mM lM oM pM vM sM tM uM aM bM cM dM eM hM iM kM jN qN yN zN fN gN nN rN mN lN oN pN vN sN tN uN aN cN dN eN hN iN kN jO qO yO zO fO gO nO rO mO lO oO pO vO sO tO uO aO bO cO dO eO hO iO kO jP qP yP zP fP gP nP rP mP lP oP pP sP tP uP bP cP dP eP hP iP kP jQ qQ yQ zQ fQ gQ nQ rQ mQ lQ oQ pQ vQ sQ tQ uQ aQ bQ cQ dQ eQ hQ iQ kQ jR qR yR zR fR gR nR rR mR oR pR vR sR tR uR aR cR dR eR hR iR kR jS qS yS zS fS nS rS mS lS oS pS sS tS uS bS cS eS hS iS kS jT qT yT zT fT gT nT rT mT oT pT sT tT uT aT bT cT dT eT hT iT kT jU qU yU zU fU gU nU rU mU lU oU pU vU sU tU uU bU cU dU eU hU iU kU jV qV yV zV fV nV rV mV lV oV pV vV sV tV uV aV bV cV dV eV hV iV kV jW qW yW zW fW gW nW rW mW lW oW pW vW sW tW uW aW bW cW dW eW hW iW kW jX qX:Value)  (wx:World),(∃ e',Hid (LI (mkBK g B q3 q5 N S w3 e2 kind name F m f line) T e' n (vS KA n kc) wx))→K ⟨#[vP (some ⟨g,0,none⟩),.agg #[vT kind,vT name,vS F m f,vI kI line],x2,vP (some ⟨q3,0,none⟩),vS KA n kc,vP (some ⟨q5,0,none⟩),vP (some ⟨q5+1,0,none⟩),vP (some ⟨q5+1+1,0,none⟩),vI kI x8,vI kI x9,pL,vL,sL,tL,uL,aL,bL,cL,dL,eL,hL,iL,kL,jM,qM,yM,zM,fM,gM,nM,rM,mM,lM,oM,pM,vM,sM,tM,uM,aM,bM,cM,dM,eM,hM,iM,kM,jN,qN,yN,zN,fN,gN,nN,rN,mN,lN,oN,pN,vN,sN,tN,uN,aN,cN,dN,eN,hN,iN,kN,jO,qO,yO,zO,fO,gO,nO,rO,mO,lO,oO,pO,vO,sO,tO,uO,aO,bO,cO,dO,eO,hO,iO,kO,jP,qP,yP,zP,fP,gP,nP,rP,mP,lP,oP,pP,sP,tP,uP,bP,cP,dP,eP,hP,iP,kP,jQ,qQ,yQ,zQ,fQ,gQ,nQ,rQ,mQ,lQ,oQ,pQ,vQ,sQ,tQ,uQ,aQ,bQ,cQ,dQ,eQ,hQ,iQ,kQ,jR,qR,yR,zR,fR,gR,nR,rR,mR,oR,pR,vR,sR,tR,uR,aR,cR,dR,eR,hR,iR,kR,jS,qS,yS,zS,fS,nS,rS,mS,lS,oS,pS,sS,tS,uS,bS,cS,eS,hS,iS,kS,jT,qT,yT,zT,fT,gT,nT,rT,mT,oT,pT,sT,tT,uT,aT,bT,cT,dT,eT,hT,iT,kT,jU,qU,yU,zU,fU,gU,nU,rU,mU,lU,oU,pU,vU,sU,tU,uU,bU,cU,dU,eU,hU,iU,kU,jV,qV,yV,zV,fV,nV,rV,mV,lV,oV,pV,vV,sV,tV,uV,aV,bV,cV,dV,eV,hV,iV,kV,jW,qW,yW,zW,fW,gW,nW,rW,mW,lW,oW,pW,vW,sW,tW,uW,aW,bW,cW,dW,eW,hW,iW,kW,jX,qX],[]⟩ wx) :
   Code.wp pG (seqL ((Tryz.f37.body.bind (findAt 38)).getD .skip)) (Exit.then (Code.wp pG (seqR ((Tryz.f37.body.bind (findAt 38)).getD .skip)) (Exit.then K (Exit.inBlock 5 (Exit.then K2 (bodyPost pG Tryz.f37 post))))) (Exit.then K (Exit.inBlock 5 (Exit.then K2 (bodyPost pG Tryz.f37 post))))) ⟨#[vP (some ⟨g,0,none⟩),.agg #[vT kind,vT name,vS F m f,vI kI line],u2,vP (some ⟨q3,0,none⟩),vS KA n kc,vP (some ⟨q5,0,none⟩),vP (some ⟨q5+1,0,none⟩),vP (some ⟨q5+1+1,0,none⟩),vI kI x8,vI kI x9,jA,qA,yA,zA,fA,nA,rA,mA,lA,oA,pA,vA,sA,tA,uA,aA,bA,cA,dA,eA,hA,iA,kA,jB,qB,yB,zB,fB,gB,nB,rB,mB,lB,oB,pB,sB,tB,uB,aB,bB,dB,eB,hB,iB,kB,jC,qC,yC,zC,fC,gC,nC,rC,mC,lC,oC,pC,vC,sC,tC,uC,aC,bC,cC,dC,eC,hC,iC,kC,jD,qD,yD,zD,fD,gD,nD,rD,mD,lD,oD,pD,vD,sD,tD,uD,aD,bD,cD,dD,eD,hD,iD,kD,jE,qE,yE,zE,fE,gE,nE,rE,mE,lE,oE,pE,vE,sE,tE,uE,aE,bE,cE,dE,eE,hE,iE,kE,jF,qF,yF,zF,fF,gF,nF,rF,mF,lF,oF,pF,vF,sF,tF,uF,aF,bF,cF,dF,eF,hF,iF,kF,jG,qG,yG,zG,fG,gG,nG,rG,mG,lG,oG,vG,sG,tG,uG,aG,bG,cG,dG,eG,hG,iG,kG,jH,qH,yH,zH,fH,gH,nH,rH,mH,lH,oH,pH,vH,sH,tH,uH,aH,bH,cH,dH,eH,hH,iH,kH,jI,qI,yI,zI,fI,gI,nI,rI,mI,lI,oI,pI,sI,tI,uI,aI,bI,cI,dI,eI,hI,iI,jJ,qJ,yJ,zJ,fJ,gJ,nJ,rJ,mJ,lJ,oJ,pJ,vJ,sJ,tJ,uJ,aJ,bJ,cJ,dJ,eJ,hJ,iJ,kJ,jK,qK,yK,zK,fK,gK,nK,rK,mK,lK,oK,pK,vK,sK,tK,uK,aK,bK,cK,dK,eK,iK,kK,jL,qL,yL,fL,gL,nL,rL,mL,oL],[]⟩ wc:=by
  have Ok:=hide ok;have HL:=hide hl;clear hl;obtain⟨c17,k0,k1,k2,k3,hlg,hlq⟩:=HL.out.cells;dsimp only at c17 k0 k1 k2 k3 hlg hlq;conv=>pattern (seqL _);whnf
  conv=>pattern (seqR _);whnf
  refine wp_open (fun K0 hK0=>?_);dsimp only;obtain⟨y,hy,hyf⟩:=HL.out.con.cell (j:=2) (by decide);obtain⟨y,rfl⟩:=hyf;obtain⟨z,hz,hzf⟩:=HL.out.con.cell (j:=3) (by decide);obtain⟨z,rfl⟩:=hzf;dsimp only at hy hz;have hl6:=HL.out.con.lt;dsimp only at hl6;by_cases hy1:y=1
  ·subst hy1;by_cases hz1:1 < z
   ·go_wp2_with fail;refine(fail_blk HL.out Ok.out _ _ (by decide)).mono ?_;rintro en w6 ⟨rfl,e6,h6⟩;have H6:=hide h6;clear h6;go_wp2_with fail;exact⟨e6,H6.out⟩
   ·go_wp2_with fail;exact⟨e5,HL.out⟩
  ·have hy1':(y==1)=false:=bN hy1;go_wp2_with fail;exact⟨e5,HL.out⟩
end
section
variable {u0 u2 u9 jA qA yA zA fA nA rA mA lA oA pA vA sA tA uA aA bA cA dA eA hA iA kA jB qB yB zB fB gB nB rB mB lB oB pB sB tB uB aB bB dB eB hB iB kB jC qC yC zC fC gC nC rC mC lC oC pC vC sC tC uC aC bC cC dC eC hC iC kC jD qD yD zD fD gD nD rD mD lD oD pD vD sD tD uD aD bD cD dD eD hD iD kD jE qE yE zE fE gE nE rE mE lE oE pE vE sE tE uE aE bE cE dE eE hE iE kE jF qF yF zF fF gF nF rF mF lF oF pF vF sF tF uF aF bF cF dF eF hF iF kF jG qG yG zG fG gG nG rG mG lG oG vG sG tG uG aG bG cG dG eG hG iG kG jH qH yH zH fH gH nH rH mH lH oH pH vH sH tH uH aH bH cH dH eH hH iH kH jI qI yI zI fI gI nI rI mI lI oI pI sI tI uI aI bI cI dI eI hI iI jJ qJ yJ zJ fJ gJ nJ rJ mJ lJ oJ pJ vJ sJ tJ uJ aJ bJ cJ dJ eJ hJ iJ kJ jK qK yK zK fK gK nK rK mK lK oK pK vK sK tK uK aK bK cK dK eK iK kK jL qL yL fL gL nL rL mL oL:Value}
set_option maxHeartbeats 16000000
set_option maxRecDepth 1000000
theorem blkC3 {g B q3 q5 N:Nat}{S:Ty}{w3:World}{e2 line:Int}{kind name:ByteArray}{F:Option Addr}{m f:Nat}{T:Ty}{e5 x8 x9:Int}{n kc:Nat}{KA:Option Addr}{wc:World}(ok:(mkBK g B q3 q5 N S w3 e2 kind name F m f line).Ok) (hl:LI (mkBK g B q3 q5 N S w3 e2 kind name F m f line) T e5 n (vS KA n kc) wc) (hns:name.size≤24) (hN:N≤900)
 {K:Act→World→Prop}{post:Ending→World→Prop}
   (hK:∀ (x2 pL vL sL tL uL aL bL cL dL eL hL iL kL jM qM yM zM fM gM nM rM mM lM oM pM vM sM tM uM aM bM cM dM eM hM iM kM jN qN yN zN fN gN nN rN mN lN oN pN vN sN tN uN aN cN dN eN iN kN jO qO yO zO fO gO nO rO mO lO oO pO vO sO tO uO aO bO cO dO eO hO iO kO jP qP yP zP fP gP nP rP mP lP oP pP sP tP uP bP cP dP eP hP iP kP jQ qQ yQ zQ fQ gQ nQ rQ mQ lQ oQ pQ vQ sQ tQ uQ aQ bQ cQ dQ eQ hQ iQ kQ jR qR yR zR fR gR nR rR mR oR pR vR sR tR uR aR cR dR eR hR iR kR jS qS yS zS fS nS rS mS lS oS pS sS tS uS bS cS eS hS iS kS jT qT yT zT fT gT nT rT mT oT pT sT tT uT aT bT cT dT eT hT iT kT jU qU yU zU fU gU nU rU mU lU oU pU vU sU tU uU bU cU dU eU hU iU kU jV qV yV zV fV nV rV mV lV oV pV vV sV tV uV aV bV cV dV eV hV iV kV jW qW yW zW fW gW nW rW mW lW oW pW vW sW tW uW aW bW cW dW eW hW iW kW jX qX yX:Value)  (wx:World),(∃ T e',Hid (BP (mkBK g B q3 q5 N S w3 e2 kind name F m f line) T e' wx))→K ⟨#[vP (some ⟨g,0,none⟩),.agg #[vT kind,vT name,vS F m f,vI kI line],x2,vP (some ⟨q3,0,none⟩),vS KA n kc,vP (some ⟨q5,0,none⟩),vP (some ⟨q5+1,0,none⟩),vP (some ⟨q5+1+1,0,none⟩),vI kI x8,vI kI x9,pL,vL,sL,tL,uL,aL,bL,cL,dL,eL,hL,iL,kL,jM,qM,yM,zM,fM,gM,nM,rM,mM,lM,oM,pM,vM,sM,tM,uM,aM,bM,cM,dM,eM,hM,iM,kM,jN,qN,yN,zN,fN,gN,nN,rN,mN,lN,oN,pN,vN,sN,tN,uN,aN,cN,dN,eN,iN,kN,jO,qO,yO,zO,fO,gO,nO,rO,mO,lO,oO,pO,vO,sO,tO,uO,aO,bO,cO,dO,eO,hO,iO,kO,jP,qP,yP,zP,fP,gP,nP,rP,mP,lP,oP,pP,sP,tP,uP,bP,cP,dP,eP,hP,iP,kP,jQ,qQ,yQ,zQ,fQ,gQ,nQ,rQ,mQ,lQ,oQ,pQ,vQ,sQ,tQ,uQ,aQ,bQ,cQ,dQ,eQ,hQ,iQ,kQ,jR,qR,yR,zR,fR,gR,nR,rR,mR,oR,pR,vR,sR,tR,uR,aR,cR,dR,eR,hR,iR,kR,jS,qS,yS,zS,fS,nS,rS,mS,lS,oS,pS,sS,tS,uS,bS,cS,eS,hS,iS,kS,jT,qT,yT,zT,fT,gT,nT,rT,mT,oT,pT,sT,tT,uT,aT,bT,cT,dT,eT,hT,iT,kT,jU,qU,yU,zU,fU,gU,nU,rU,mU,lU,oU,pU,vU,sU,tU,uU,bU,cU,dU,eU,hU,iU,kU,jV,qV,yV,zV,fV,nV,rV,mV,lV,oV,pV,vV,sV,tV,uV,aV,bV,cV,dV,eV,hV,iV,kV,jW,qW,yW,zW,fW,gW,nW,rW,mW,lW,oW,pW,vW,sW,tW,uW,aW,bW,cW,dW,eW,hW,iW,kW,jX,qX,yX],[]⟩ wx) :
   Code.wp pG (seqL ((Tryz.f37.body.bind (findAt 40)).getD .skip)) (Exit.then (Code.wp pG (seqR ((Tryz.f37.body.bind (findAt 40)).getD .skip)) (Exit.inBlock 5 (Exit.then K (bodyPost pG Tryz.f37 post)))) (Exit.inBlock 5 (Exit.then K (bodyPost pG Tryz.f37 post)))) ⟨#[vP (some ⟨g,0,none⟩),.agg #[vT kind,vT name,vS F m f,vI kI line],u2,vP (some ⟨q3,0,none⟩),vS KA n kc,vP (some ⟨q5,0,none⟩),vP (some ⟨q5+1,0,none⟩),vP (some ⟨q5+1+1,0,none⟩),vI kI x8,vI kI x9,jA,qA,yA,zA,fA,nA,rA,mA,lA,oA,pA,vA,sA,tA,uA,aA,bA,cA,dA,eA,hA,iA,kA,jB,qB,yB,zB,fB,gB,nB,rB,mB,lB,oB,pB,sB,tB,uB,aB,bB,dB,eB,hB,iB,kB,jC,qC,yC,zC,fC,gC,nC,rC,mC,lC,oC,pC,vC,sC,tC,uC,aC,bC,cC,dC,eC,hC,iC,kC,jD,qD,yD,zD,fD,gD,nD,rD,mD,lD,oD,pD,vD,sD,tD,uD,aD,bD,cD,dD,eD,hD,iD,kD,jE,qE,yE,zE,fE,gE,nE,rE,mE,lE,oE,pE,vE,sE,tE,uE,aE,bE,cE,dE,eE,hE,iE,kE,jF,qF,yF,zF,fF,gF,nF,rF,mF,lF,oF,pF,vF,sF,tF,uF,aF,bF,cF,dF,eF,hF,iF,kF,jG,qG,yG,zG,fG,gG,nG,rG,mG,lG,oG,vG,sG,tG,uG,aG,bG,cG,dG,eG,hG,iG,kG,jH,qH,yH,zH,fH,gH,nH,rH,mH,lH,oH,pH,vH,sH,tH,uH,aH,bH,cH,dH,eH,hH,iH,kH,jI,qI,yI,zI,fI,gI,nI,rI,mI,lI,oI,pI,sI,tI,uI,aI,bI,cI,dI,eI,hI,iI,jJ,qJ,yJ,zJ,fJ,gJ,nJ,rJ,mJ,lJ,oJ,pJ,vJ,sJ,tJ,uJ,aJ,bJ,cJ,dJ,eJ,hJ,iJ,kJ,jK,qK,yK,zK,fK,gK,nK,rK,mK,lK,oK,pK,vK,sK,tK,uK,aK,bK,cK,dK,eK,iK,kK,jL,qL,yL,fL,gL,nL,rL,mL,oL],[]⟩ wc:=by
  have Ok:=hide ok;have HL:=hide hl;clear hl;obtain⟨c17,k0,k1,k2,k3,hlg,hlq⟩:=HL.out.cells;dsimp only at c17 k0 k1 k2 k3 hlg hlq;conv=>pattern (seqL _);whnf
  conv=>pattern (seqR _);whnf
  refine wp_open (fun K0 hK0=>?_);dsimp only;obtain⟨u0,hu0,_⟩:=HL.out.con.cell (j:=0) (by decide);have fz0:=HL.out.con.frozen 0;have hl7:=HL.out.con.lt;dsimp only at hu0 fz0 hl7;have HL8:=hide (HL.out.named Ok.out hns);dsimp only at HL8;go_upto_region 41 with fail;obtain⟨w8,hw8⟩:∃ r,wc.setCell ⟨q5,0,none⟩ (vT name)=r:=⟨_,rfl⟩;rw[hw8]at HL8 ⊢;clear c17 k0 k1 k2 k3 hlg hlq hu0 fz0 hl7 hw8;obtain⟨s,D,dm,dd,y2,y3,y4,y5,y6,y7,y8,hbx,htc⟩:=HL8.out.conCells;obtain⟨nm,CA,cc,h5,hpush⟩:=con_push HL8.out Ok.out (by show N < 1000;omega) rfl rfl htc;obtain⟨A9,c9,w9,T9,hr9,⟨u9,hu9⟩,fz9,hg9,hbp9⟩:=hpush (w8.drewN 1) (below_drew (bR _ _) 1) 23;dsimp only at h5 hu9 fz9 hg9 hbp9 hbx;have HR9:=hide hr9;have HBP9:=hide hbp9;have d0:=hbx.cell 0;have d1:=hbx.cell 1;have d2:=hbx.cell 2;have d3:=hbx.cell 3;have d4:=hbx.cell 4;have d5:=hbx.cell 5;have d6:=hbx.cell 6;have d7:=hbx.cell 7;have d8:=hbx.cell 8;simp at d0 d1 d2 d3 d4 d5 d6 d7 d8;have hlg:=HL8.out.sta.lt;have hlq:=hbx.lt;dsimp only at hlg;clear hpush hr9 hbp9 htc;go_region_law (refine step_gives (v:=vS A9 (nm+1) c9) (w':=w9) (by rfl) (gives_append (by rfl) (by rfl) (by rfl) HR9.out) ?_);all_goals
   go_wp2_with fail
   exact⟨_,_,HBP9.out⟩
end
section
variable {u2 jA qA yA zA fA nA rA mA lA oA pA vA sA tA uA aA bA cA dA eA hA iA kA jB qB yB zB fB gB nB rB mB lB oB pB sB tB uB aB bB dB eB hB iB kB jC qC yC zC fC gC nC rC mC lC oC pC vC sC tC uC aC bC cC dC eC hC iC kC jD qD yD zD fD gD nD rD mD lD oD pD vD sD tD uD aD bD cD dD eD hD iD kD jE qE yE zE fE gE nE rE mE lE oE pE vE sE tE uE aE bE cE dE eE hE iE kE jF qF yF zF fF gF nF rF mF lF oF pF vF sF tF uF aF bF cF dF eF hF iF kF jG qG yG zG fG gG nG rG mG lG oG vG sG tG uG aG bG cG dG eG hG iG kG jH qH yH zH fH gH nH rH mH lH oH pH vH sH tH uH aH bH cH dH eH hH iH kH jI qI yI zI fI gI nI rI mI lI oI pI sI tI uI aI bI cI dI eI hI iI jJ qJ yJ zJ fJ gJ nJ rJ mJ lJ oJ pJ vJ sJ tJ uJ aJ bJ cJ dJ eJ hJ iJ kJ jK qK yK zK fK gK nK rK mK lK oK pK vK sK tK uK aK bK cK dK eK iK kK jL qL yL fL gL nL rL mL oL:Value}
set_option maxHeartbeats 16000000
set_option maxRecDepth 1000000
theorem blkC4 {g B q3 q5 N:Nat}{S:Ty}{w3:World}{e2 line:Int}{kind name:ByteArray}{F:Option Addr}{m f:Nat}{T:Ty}{e5 x8 x9:Int}{n kc:Nat}{KA:Option Addr}{wc:World}(ok:(mkBK g B q3 q5 N S w3 e2 kind name F m f line).Ok) (hl:LI (mkBK g B q3 q5 N S w3 e2 kind name F m f line) T e5 n (vS KA n kc) wc)
 {K:Act→World→Prop}{post:Ending→World→Prop}
   (hK:∀ (x2 pL vL sL tL uL aL bL cL dL eL hL iL kL jM qM yM zM fM gM nM rM mM lM oM pM vM sM tM uM aM bM cM dM eM hM iM kM jN qN yN zN fN gN nN rN mN lN oN pN vN sN tN uN aN cN dN eN hN iN kN jO qO yO zO fO gO nO rO mO lO oO pO vO sO tO uO aO bO cO dO eO hO iO kO jP qP yP zP fP gP nP rP mP lP oP pP sP tP uP bP cP dP eP hP iP kP jQ qQ yQ zQ fQ gQ nQ rQ mQ lQ oQ pQ vQ sQ tQ uQ aQ bQ cQ dQ eQ hQ iQ kQ jR qR yR zR fR gR nR rR mR oR pR vR sR tR uR aR cR dR eR hR iR kR jS qS yS zS fS nS rS mS lS oS pS sS tS uS bS cS eS hS iS kS jT qT yT zT fT gT nT rT mT oT pT sT tT uT aT bT cT dT eT hT iT kT jU qU yU zU fU gU nU rU mU lU oU pU vU sU tU uU bU cU dU eU hU iU kU jV qV yV zV fV nV rV mV lV oV pV vV sV tV uV aV bV cV dV eV hV iV kV jW qW yW zW fW gW nW rW mW lW oW pW vW sW tW uW aW bW cW dW eW hW iW kW jX qX:Value)  (wx:World),(∃ T e',Hid (BP (mkBK g B q3 q5 N S w3 e2 kind name F m f line) T e' wx))→K ⟨#[vP (some ⟨g,0,none⟩),.agg #[vT kind,vT name,vS F m f,vI kI line],x2,vP (some ⟨q3,0,none⟩),vS KA n kc,vP (some ⟨q5,0,none⟩),vP (some ⟨q5+1,0,none⟩),vP (some ⟨q5+1+1,0,none⟩),vI kI x8,vI kI x9,pL,vL,sL,tL,uL,aL,bL,cL,dL,eL,hL,iL,kL,jM,qM,yM,zM,fM,gM,nM,rM,mM,lM,oM,pM,vM,sM,tM,uM,aM,bM,cM,dM,eM,hM,iM,kM,jN,qN,yN,zN,fN,gN,nN,rN,mN,lN,oN,pN,vN,sN,tN,uN,aN,cN,dN,eN,hN,iN,kN,jO,qO,yO,zO,fO,gO,nO,rO,mO,lO,oO,pO,vO,sO,tO,uO,aO,bO,cO,dO,eO,hO,iO,kO,jP,qP,yP,zP,fP,gP,nP,rP,mP,lP,oP,pP,sP,tP,uP,bP,cP,dP,eP,hP,iP,kP,jQ,qQ,yQ,zQ,fQ,gQ,nQ,rQ,mQ,lQ,oQ,pQ,vQ,sQ,tQ,uQ,aQ,bQ,cQ,dQ,eQ,hQ,iQ,kQ,jR,qR,yR,zR,fR,gR,nR,rR,mR,oR,pR,vR,sR,tR,uR,aR,cR,dR,eR,hR,iR,kR,jS,qS,yS,zS,fS,nS,rS,mS,lS,oS,pS,sS,tS,uS,bS,cS,eS,hS,iS,kS,jT,qT,yT,zT,fT,gT,nT,rT,mT,oT,pT,sT,tT,uT,aT,bT,cT,dT,eT,hT,iT,kT,jU,qU,yU,zU,fU,gU,nU,rU,mU,lU,oU,pU,vU,sU,tU,uU,bU,cU,dU,eU,hU,iU,kU,jV,qV,yV,zV,fV,nV,rV,mV,lV,oV,pV,vV,sV,tV,uV,aV,bV,cV,dV,eV,hV,iV,kV,jW,qW,yW,zW,fW,gW,nW,rW,mW,lW,oW,pW,vW,sW,tW,uW,aW,bW,cW,dW,eW,hW,iW,kW,jX,qX],[]⟩ wx) :
   Code.wp pG (seqL ((Tryz.f37.body.bind (findAt 45)).getD .skip)) (Exit.then (Code.wp pG (seqR ((Tryz.f37.body.bind (findAt 45)).getD .skip)) (Exit.inBlock 5 (Exit.then K (bodyPost pG Tryz.f37 post)))) (Exit.inBlock 5 (Exit.then K (bodyPost pG Tryz.f37 post)))) ⟨#[vP (some ⟨g,0,none⟩),.agg #[vT kind,vT name,vS F m f,vI kI line],u2,vP (some ⟨q3,0,none⟩),vS KA n kc,vP (some ⟨q5,0,none⟩),vP (some ⟨q5+1,0,none⟩),vP (some ⟨q5+1+1,0,none⟩),vI kI x8,vI kI x9,jA,qA,yA,zA,fA,nA,rA,mA,lA,oA,pA,vA,sA,tA,uA,aA,bA,cA,dA,eA,hA,iA,kA,jB,qB,yB,zB,fB,gB,nB,rB,mB,lB,oB,pB,sB,tB,uB,aB,bB,dB,eB,hB,iB,kB,jC,qC,yC,zC,fC,gC,nC,rC,mC,lC,oC,pC,vC,sC,tC,uC,aC,bC,cC,dC,eC,hC,iC,kC,jD,qD,yD,zD,fD,gD,nD,rD,mD,lD,oD,pD,vD,sD,tD,uD,aD,bD,cD,dD,eD,hD,iD,kD,jE,qE,yE,zE,fE,gE,nE,rE,mE,lE,oE,pE,vE,sE,tE,uE,aE,bE,cE,dE,eE,hE,iE,kE,jF,qF,yF,zF,fF,gF,nF,rF,mF,lF,oF,pF,vF,sF,tF,uF,aF,bF,cF,dF,eF,hF,iF,kF,jG,qG,yG,zG,fG,gG,nG,rG,mG,lG,oG,vG,sG,tG,uG,aG,bG,cG,dG,eG,hG,iG,kG,jH,qH,yH,zH,fH,gH,nH,rH,mH,lH,oH,pH,vH,sH,tH,uH,aH,bH,cH,dH,eH,hH,iH,kH,jI,qI,yI,zI,fI,gI,nI,rI,mI,lI,oI,pI,sI,tI,uI,aI,bI,cI,dI,eI,hI,iI,jJ,qJ,yJ,zJ,fJ,gJ,nJ,rJ,mJ,lJ,oJ,pJ,vJ,sJ,tJ,uJ,aJ,bJ,cJ,dJ,eJ,hJ,iJ,kJ,jK,qK,yK,zK,fK,gK,nK,rK,mK,lK,oK,pK,vK,sK,tK,uK,aK,bK,cK,dK,eK,iK,kK,jL,qL,yL,fL,gL,nL,rL,mL,oL],[]⟩ wc:=by
  have Ok:=hide ok;have HL:=hide hl;clear hl;obtain⟨c17,k0,k1,k2,k3,hlg,hlq⟩:=HL.out.cells;dsimp only at c17 k0 k1 k2 k3 hlg hlq;conv=>pattern (seqL _);whnf
  conv=>pattern (seqR _);whnf
  refine wp_open (fun K0 hK0=>?_);dsimp only;obtain⟨⟨y2,hy2⟩,⟨y3,hy3⟩⟩:(∃ y:Int,wc.cell? ⟨g,2,none⟩=some (vI kI y))∧∃ y:Int,wc.cell? ⟨g,3,none⟩=some (vI kI y):=by obtain⟨cs,h1,h2⟩:=HL.out.sta.ex;obtain⟨y2,e2⟩:=h2.i2;obtain⟨y3,e3⟩:=h2.i3;exact⟨⟨y2,by rw[h1.cellD (by decide),e2]⟩,⟨y3,by rw[h1.cellD (by decide),e3]⟩⟩
  cases hs4:(kind.toList==[115,99,97,110]) with
  |true=>
   by_cases hyy:y3 < y2
   ·go_wp2_with (fail);go_quiet (fail);have HL6:=hide (fun q=>HL.out.below Ok.out (below_drew (bR _ _) q));obtain⟨k3',hlg',hlq'⟩:(wc.drewN nq).cell? ⟨q3,3,none⟩=some (vI kI line)∧g < (wc.drewN nq).heap.size∧q3 < (wc.drewN nq).heap.size:=⟨k3,hlg,hlq⟩;go_wp2_with fail;refine(fail_blk (HL6.out _) Ok.out _ _ (by decide)).mono ?_;rintro en w6 ⟨rfl,e6,h6⟩;have H6:=hide h6.bp;clear h6;go_wp2_with fail;exact⟨_,e6,H6.out⟩
   ·go_wp2_with (fail);go_quiet (fail);go_wp2_with fail;exact⟨_,_,(HL.out.below Ok.out (below_drew (bR _ _) _)).bp⟩
  |false=>go_wp2_with (fail);go_quiet (fail);go_wp2_with fail;exact⟨_,_,(HL.out.below Ok.out (below_drew (bR _ _) _)).bp⟩
end
section
variable {u2 jA qA yA zA fA kG jH qH yH zH fH gH nH rH mH lH oH pH vH sH tH uH aH bH cH dH eH hH iH kH jI qI yI zI fI gI nI rI mI lI oI pI sI tI uI aI bI cI dI eI hI iI jJ qJ yJ zJ fJ gJ nJ rJ mJ lJ oJ pJ vJ sJ tJ uJ aJ bJ cJ dJ eJ hJ iJ kJ jK qK yK zK fK gK nK rK mK lK oK pK vK sK tK uK aK bK cK dK eK iK kK jL qL yL fL gL nL rL nA rA mA lA oA pA vA sA tA uA aA bA cA dA eA hA iA kA jB qB yB zB fB gB nB rB mB lB oB pB sB tB uB aB bB dB eB hB iB kB jC qC yC zC fC gC nC rC mC lC oC pC vC sC tC uC aC bC cC dC eC hC iC kC jD qD yD zD fD gD nD rD mD lD oD pD vD sD tD uD aD bD cD dD eD hD iD kD jE qE yE zE fE gE nE rE mE lE oE pE vE sE tE uE aE bE cE dE eE hE iE kE jF qF yF zF fF gF nF rF mF lF oF pF vF sF tF uF aF bF cF dF eF hF iF kF jG qG yG zG fG gG nG rG mG lG oG vG sG tG uG aG bG cG dG eG hG iG:Value}
set_option maxHeartbeats 16000000
set_option maxRecDepth 1000000
theorem blkD1 {g B q3 q5 N:Nat}{S:Ty}{w3:World}{e2 line:Int}{kind name:ByteArray}{F:Option Addr}{m f:Nat}{T:Ty}{e5 x8 x9 x:Int}{n kc k qf md dc:Nat}{KA D:Option Addr}{key:ByteArray}{wc:World}(ok:(mkBK g B q3 q5 N S w3 e2 kind name F m f line).Ok) (hl:LF (mkBK g B q3 q5 N S w3 e2 kind name F m f line) T e5 n (vS KA n kc) qf key D md dc x wc)
 {K K2 K3 K4:Act→World→Prop}{post:Ending→World→Prop}
   (hK:∀ (mL oL pL vL sL tL uL aL bL cL dL eL hL iL kL jM qM yM zM fM gM nM rM mM lM oM pM vM sM tM uM aM bM cM dM eM hM iM kM jN qN yN zN fN gN nN rN mN lN oN pN vN sN tN uN aN cN dN eN hN iN kN jO qO yO zO fO gO nO rO mO lO oO pO vO sO tO uO aO bO cO dO eO hO iO kO jP qP yP zP fP gP nP rP mP lP oP pP sP tP uP:Value)  (wx:World),(∃ e',Hid (LF (mkBK g B q3 q5 N S w3 e2 kind name F m f line) T e' n (vS KA n kc) qf key D md dc x wx))→K ⟨#[vP (some ⟨g,0,none⟩),.agg #[vT kind,vT name,vS F m f,vI kI line],u2,vP (some ⟨q3,0,none⟩),vS KA n kc,vP (some ⟨q5,0,none⟩),vP (some ⟨q5+1,0,none⟩),vP (some ⟨q5+1+1,0,none⟩),vI kI x8,vI kI x9,vI kI k,vP (some ⟨qf,0,none⟩),jA,qA,yA,zA,fA,mL,oL,pL,vL,sL,tL,uL,aL,bL,cL,dL,eL,hL,iL,kL,jM,qM,yM,zM,fM,gM,nM,rM,mM,lM,oM,pM,vM,sM,tM,uM,aM,bM,cM,dM,eM,hM,iM,kM,jN,qN,yN,zN,fN,gN,nN,rN,mN,lN,oN,pN,vN,sN,tN,uN,aN,cN,dN,eN,hN,iN,kN,jO,qO,yO,zO,fO,gO,nO,rO,mO,lO,oO,pO,vO,sO,tO,uO,aO,bO,cO,dO,eO,hO,iO,kO,jP,qP,yP,zP,fP,gP,nP,rP,mP,lP,oP,pP,sP,tP,uP,nA,rA,mA,lA,oA,pA,vA,sA,tA,uA,aA,bA,cA,dA,eA,hA,iA,kA,jB,qB,yB,zB,fB,gB,nB,rB,mB,lB,oB,pB,sB,tB,uB,aB,bB,dB,eB,hB,iB,kB,jC,qC,yC,zC,fC,gC,nC,rC,mC,lC,oC,pC,vC,sC,tC,uC,aC,bC,cC,dC,eC,hC,iC,kC,jD,qD,yD,zD,fD,gD,nD,rD,mD,lD,oD,pD,vD,sD,tD,uD,aD,bD,cD,dD,eD,hD,iD,kD,jE,qE,yE,zE,fE,gE,nE,rE,mE,lE,oE,pE,vE,sE,tE,uE,aE,bE,cE,dE,eE,hE,iE,kE,jF,qF,yF,zF,fF,gF,nF,rF,mF,lF,oF,pF,vF,sF,tF,uF,aF,bF,cF,dF,eF,hF,iF,kF,jG,qG,yG,zG,fG,gG,nG,rG,mG,lG,oG,vG,sG,tG,uG,aG,bG,cG,dG,eG,hG,iG],[]⟩ wx) :
   Code.wp pG (seqL ((Tryz.f37.body.bind (findAt 11)).getD .skip)) (Exit.then (Code.wp pG (seqR ((Tryz.f37.body.bind (findAt 11)).getD .skip)) (Exit.then K (Exit.inBlock 1 (Exit.then K2 (Exit.then K3 (Exit.inBlock 0 (Exit.then K4 (bodyPost pG Tryz.f37 post)))))))) (Exit.then K (Exit.inBlock 1 (Exit.then K2 (Exit.then K3 (Exit.inBlock 0 (Exit.then K4 (bodyPost pG Tryz.f37 post)))))))) ⟨#[vP (some ⟨g,0,none⟩),.agg #[vT kind,vT name,vS F m f,vI kI line],u2,vP (some ⟨q3,0,none⟩),vS KA n kc,vP (some ⟨q5,0,none⟩),vP (some ⟨q5+1,0,none⟩),vP (some ⟨q5+1+1,0,none⟩),vI kI x8,vI kI x9,vI kI k,vP (some ⟨qf,0,none⟩),jA,qA,yA,zA,fA,kG,jH,qH,yH,zH,fH,gH,nH,rH,mH,lH,oH,pH,vH,sH,tH,uH,aH,bH,cH,dH,eH,hH,iH,kH,jI,qI,yI,zI,fI,gI,nI,rI,mI,lI,oI,pI,sI,tI,uI,aI,bI,cI,dI,eI,hI,iI,jJ,qJ,yJ,zJ,fJ,gJ,nJ,rJ,mJ,lJ,oJ,pJ,vJ,sJ,tJ,uJ,aJ,bJ,cJ,dJ,eJ,hJ,iJ,kJ,jK,qK,yK,zK,fK,gK,nK,rK,mK,lK,oK,pK,vK,sK,tK,uK,aK,bK,cK,dK,eK,iK,kK,jL,qL,yL,fL,gL,nL,rL,nA,rA,mA,lA,oA,pA,vA,sA,tA,uA,aA,bA,cA,dA,eA,hA,iA,kA,jB,qB,yB,zB,fB,gB,nB,rB,mB,lB,oB,pB,sB,tB,uB,aB,bB,dB,eB,hB,iB,kB,jC,qC,yC,zC,fC,gC,nC,rC,mC,lC,oC,pC,vC,sC,tC,uC,aC,bC,cC,dC,eC,hC,iC,kC,jD,qD,yD,zD,fD,gD,nD,rD,mD,lD,oD,pD,vD,sD,tD,uD,aD,bD,cD,dD,eD,hD,iD,kD,jE,qE,yE,zE,fE,gE,nE,rE,mE,lE,oE,pE,vE,sE,tE,uE,aE,bE,cE,dE,eE,hE,iE,kE,jF,qF,yF,zF,fF,gF,nF,rF,mF,lF,oF,pF,vF,sF,tF,uF,aF,bF,cF,dF,eF,hF,iF,kF,jG,qG,yG,zG,fG,gG,nG,rG,mG,lG,oG,vG,sG,tG,uG,aG,bG,cG,dG,eG,hG,iG],[]⟩ wc:=by
  have Ok:=hide ok;have HF:=hide hl;clear hl;obtain⟨c17,k0,k1,k2,k3,hlg,hlq⟩:=HF.out.li.cells;dsimp only at c17 k0 k1 k2 k3 hlg hlq;obtain⟨j0,j1,j2,hlf⟩:=HF.out.cells;conv=>pattern (seqL _);whnf
  conv=>pattern (seqR _);whnf
  refine wp_open (fun K0 hK0=>?_);dsimp only;have KK:=hide (fun wq=>keys_any (s:=kind) (w:=wq));go_cut [43] (fun r wx=>(∃ q:Bool,r=.bool q)∧Hid (LF (mkBK g B q3 q5 N S w3 e2 kind name F m f line) T e5 n (vS KA n kc) qf key D md dc x wx));case first=>
   clear hK hK0;go_region_held3 (fun y=>y.cell? ⟨q3,0,none⟩=some (vT kind)∧y.cell? ⟨qf,0,none⟩=some (vT key))
    (first|exact⟨HK5.out.li.cells.2.1,HK5.out.cells.1⟩|exact⟨HK4.out.li.cells.2.1,HK4.out.cells.1⟩|exact⟨HF.out.li.cells.2.1,HF.out.cells.1⟩)
    (first
     |(go_at_call 38;refine HFd.out.mono ?_;rintro en w5 ⟨rfl,hw5⟩;try dsimp only;have HK5:Hid (LF (mkBK g B q3 q5 N S w3 e2 kind name F m f line) T e5 n (vS KA n kc) qf key D md dc x w5):=by rw[hw5];exact HK4.out)
     |(go_at_call 78;refine(KK.out _).mono ?_;rintro en w4 ⟨LA,kl,rfl,_,hk8,_,hkli,hb4⟩;try dsimp only;have HK4:Hid (LF (mkBK g B q3 q5 N S w3 e2 kind name F m f line) T e5 n (vS KA n kc) qf key D md dc x w4):=HF.out.below Ok.out ((below_drew (bR _ _) 1).trans hb4);have HFd:=hide (find_any (c:=kl.length) (s:=key) (ListIn.mono hkli fun i hi=>hi.2) (by omega));clear hk8 hkli hb4))
   all_goals
    go_wp2_with fail
    go_meet
    first|exact⟨⟨_,rfl⟩,HK5.out⟩|exact⟨⟨_,rfl⟩,HK4.out⟩
  case rest=>
   obtain⟨⟨q,rfl⟩,HF0⟩:=hcut;clear c17 k0 k1 k2 k3 hlg hlq j0 j1 j2 hlf;obtain⟨c17,k0,k1,k2,k3,hlg,hlq⟩:=HF0.out.li.cells;dsimp only at c17 k0 k1 k2 k3 hlg hlq;obtain⟨j0,j1,j2,hlf⟩:=HF0.out.cells;cases q with
   |true=>
    go_wp2_with fail;refine(fail_fld HF0.out Ok.out _ _ (by decide)).mono ?_;rintro en w6 ⟨rfl,e6,h6⟩;try dsimp only
    have H6:=hide h6;clear h6;go_wp2_with fail;exact⟨e6,H6.out⟩
   |false=>go_wp2_with fail;exact⟨e5,HF0.out⟩
end
section
variable {u2 jA qA yA zA fA kG jH qH yH zH fH gH nH rH mH lH oH pH vH sH tH uH aH bH cH dH eH hH iH kH jI qI yI zI fI gI nI rI mI lI oI pI sI tI uI aI bI cI dI eI hI iI jJ qJ yJ zJ fJ gJ nJ rJ mJ lJ oJ pJ vJ sJ tJ uJ aJ bJ cJ dJ eJ hJ iJ kJ jK qK yK zK fK gK nK rK mK lK oK pK vK sK tK uK aK bK cK dK eK iK kK jL qL yL fL gL nL rL nA rA mA lA oA pA vA sA tA uA aA bA cA dA eA hA iA kA jB qB yB zB fB gB nB rB mB lB oB pB sB tB uB aB bB dB eB hB iB kB jC qC yC zC fC gC nC rC mC lC oC pC vC sC tC uC aC bC cC dC eC hC iC kC jD qD yD zD fD gD nD rD mD lD oD pD vD sD tD uD aD bD cD dD eD hD iD kD jE qE yE zE fE gE nE rE mE lE oE pE vE sE tE uE aE bE cE dE eE hE iE kE jF qF yF zF fF gF nF rF mF lF oF pF vF sF tF uF aF bF cF dF eF hF iF kF jG qG yG zG fG gG nG rG mG lG oG vG sG tG uG aG bG cG dG eG hG iG:Value}
set_option maxHeartbeats 16000000
set_option maxRecDepth 1000000
theorem blkD2 {g B q3 q5 N:Nat}{S:Ty}{w3:World}{e2 line:Int}{kind name:ByteArray}{F:Option Addr}{m f:Nat}{T:Ty}{e5 x8 x9 x:Int}{n kc k qf md dc:Nat}{KA D:Option Addr}{key:ByteArray}{wc:World}(ok:(mkBK g B q3 q5 N S w3 e2 kind name F m f line).Ok) (hl:LF (mkBK g B q3 q5 N S w3 e2 kind name F m f line) T e5 n (vS KA n kc) qf key D md dc x wc)
 {K K2 K3 K4:Act→World→Prop}{post:Ending→World→Prop}
   (hK:∀ (mL oL pL vL sL tL uL aL bL cL dL eL hL iL kL jM qM yM zM fM gM nM rM mM lM oM pM vM sM tM uM aM bM cM dM eM hM iM kM jN qN yN zN fN gN nN rN mN lN oN pN vN sN tN uN aN cN dN eN hN iN kN jO qO yO zO fO gO nO rO mO lO oO pO vO sO tO uO aO bO cO dO eO hO iO kO jP qP yP zP fP gP nP rP mP lP oP pP sP tP uP:Value)  (wx:World),(∃ e',Hid (LF (mkBK g B q3 q5 N S w3 e2 kind name F m f line) T e' n (vS KA n kc) qf key D md dc x wx))→K ⟨#[vP (some ⟨g,0,none⟩),.agg #[vT kind,vT name,vS F m f,vI kI line],u2,vP (some ⟨q3,0,none⟩),vS KA n kc,vP (some ⟨q5,0,none⟩),vP (some ⟨q5+1,0,none⟩),vP (some ⟨q5+1+1,0,none⟩),vI kI x8,vI kI x9,vI kI k,vP (some ⟨qf,0,none⟩),jA,qA,yA,zA,fA,mL,oL,pL,vL,sL,tL,uL,aL,bL,cL,dL,eL,hL,iL,kL,jM,qM,yM,zM,fM,gM,nM,rM,mM,lM,oM,pM,vM,sM,tM,uM,aM,bM,cM,dM,eM,hM,iM,kM,jN,qN,yN,zN,fN,gN,nN,rN,mN,lN,oN,pN,vN,sN,tN,uN,aN,cN,dN,eN,hN,iN,kN,jO,qO,yO,zO,fO,gO,nO,rO,mO,lO,oO,pO,vO,sO,tO,uO,aO,bO,cO,dO,eO,hO,iO,kO,jP,qP,yP,zP,fP,gP,nP,rP,mP,lP,oP,pP,sP,tP,uP,nA,rA,mA,lA,oA,pA,vA,sA,tA,uA,aA,bA,cA,dA,eA,hA,iA,kA,jB,qB,yB,zB,fB,gB,nB,rB,mB,lB,oB,pB,sB,tB,uB,aB,bB,dB,eB,hB,iB,kB,jC,qC,yC,zC,fC,gC,nC,rC,mC,lC,oC,pC,vC,sC,tC,uC,aC,bC,cC,dC,eC,hC,iC,kC,jD,qD,yD,zD,fD,gD,nD,rD,mD,lD,oD,pD,vD,sD,tD,uD,aD,bD,cD,dD,eD,hD,iD,kD,jE,qE,yE,zE,fE,gE,nE,rE,mE,lE,oE,pE,vE,sE,tE,uE,aE,bE,cE,dE,eE,hE,iE,kE,jF,qF,yF,zF,fF,gF,nF,rF,mF,lF,oF,pF,vF,sF,tF,uF,aF,bF,cF,dF,eF,hF,iF,kF,jG,qG,yG,zG,fG,gG,nG,rG,mG,lG,oG,vG,sG,tG,uG,aG,bG,cG,dG,eG,hG,iG],[]⟩ wx) :
   Code.wp pG (seqL ((Tryz.f37.body.bind (findAt 13)).getD .skip)) (Exit.then (Code.wp pG (seqR ((Tryz.f37.body.bind (findAt 13)).getD .skip)) (Exit.then K (Exit.inBlock 1 (Exit.then K2 (Exit.then K3 (Exit.inBlock 0 (Exit.then K4 (bodyPost pG Tryz.f37 post)))))))) (Exit.then K (Exit.inBlock 1 (Exit.then K2 (Exit.then K3 (Exit.inBlock 0 (Exit.then K4 (bodyPost pG Tryz.f37 post)))))))) ⟨#[vP (some ⟨g,0,none⟩),.agg #[vT kind,vT name,vS F m f,vI kI line],u2,vP (some ⟨q3,0,none⟩),vS KA n kc,vP (some ⟨q5,0,none⟩),vP (some ⟨q5+1,0,none⟩),vP (some ⟨q5+1+1,0,none⟩),vI kI x8,vI kI x9,vI kI k,vP (some ⟨qf,0,none⟩),jA,qA,yA,zA,fA,kG,jH,qH,yH,zH,fH,gH,nH,rH,mH,lH,oH,pH,vH,sH,tH,uH,aH,bH,cH,dH,eH,hH,iH,kH,jI,qI,yI,zI,fI,gI,nI,rI,mI,lI,oI,pI,sI,tI,uI,aI,bI,cI,dI,eI,hI,iI,jJ,qJ,yJ,zJ,fJ,gJ,nJ,rJ,mJ,lJ,oJ,pJ,vJ,sJ,tJ,uJ,aJ,bJ,cJ,dJ,eJ,hJ,iJ,kJ,jK,qK,yK,zK,fK,gK,nK,rK,mK,lK,oK,pK,vK,sK,tK,uK,aK,bK,cK,dK,eK,iK,kK,jL,qL,yL,fL,gL,nL,rL,nA,rA,mA,lA,oA,pA,vA,sA,tA,uA,aA,bA,cA,dA,eA,hA,iA,kA,jB,qB,yB,zB,fB,gB,nB,rB,mB,lB,oB,pB,sB,tB,uB,aB,bB,dB,eB,hB,iB,kB,jC,qC,yC,zC,fC,gC,nC,rC,mC,lC,oC,pC,vC,sC,tC,uC,aC,bC,cC,dC,eC,hC,iC,kC,jD,qD,yD,zD,fD,gD,nD,rD,mD,lD,oD,pD,vD,sD,tD,uD,aD,bD,cD,dD,eD,hD,iD,kD,jE,qE,yE,zE,fE,gE,nE,rE,mE,lE,oE,pE,vE,sE,tE,uE,aE,bE,cE,dE,eE,hE,iE,kE,jF,qF,yF,zF,fF,gF,nF,rF,mF,lF,oF,pF,vF,sF,tF,uF,aF,bF,cF,dF,eF,hF,iF,kF,jG,qG,yG,zG,fG,gG,nG,rG,mG,lG,oG,vG,sG,tG,uG,aG,bG,cG,dG,eG,hG,iG],[]⟩ wc:=by
  have Ok:=hide ok;have HF:=hide hl;clear hl;obtain⟨c17,k0,k1,k2,k3,hlg,hlq⟩:=HF.out.li.cells;dsimp only at c17 k0 k1 k2 k3 hlg hlq;obtain⟨j0,j1,j2,hlf⟩:=HF.out.cells;conv=>pattern (seqL _);whnf
  conv=>pattern (seqR _);whnf
  refine wp_open (fun K0 hK0=>?_);dsimp only;obtain⟨r,hr⟩:=find_blk HF.out.li key;have HR:=hide hr;clear hr;go_cut [52] (fun r wx=>(∃ q:Bool,r=.bool q)∧Hid (LF (mkBK g B q3 q5 N S w3 e2 kind name F m f line) T e5 n (vS KA n kc) qf key D md dc x wx));case first=>
   clear hK hK0;go_wp2_with fail;refine HR.out.mono ?_;rintro en w5 ⟨rfl,hw5⟩;try dsimp only
   have HF5:=hide HF.out;go_wp2_with fail;go_meet;exact⟨⟨_,rfl⟩,HF.out⟩
  case rest=>
   obtain⟨⟨q,rfl⟩,HF0⟩:=hcut;clear c17 k0 k1 k2 k3 hlg hlq j0 j1 j2 hlf;obtain⟨c17,k0,k1,k2,k3,hlg,hlq⟩:=HF0.out.li.cells;dsimp only at c17 k0 k1 k2 k3 hlg hlq;obtain⟨j0,j1,j2,hlf⟩:=HF0.out.cells;cases q with
   |true=>
    go_wp2_with fail;refine(fail_fld HF0.out Ok.out _ _ (by decide)).mono ?_;rintro en w6 ⟨rfl,e6,h6⟩;try dsimp only
    have H6:=hide h6;clear h6;go_wp2_with fail;exact⟨e6,H6.out⟩
   |false=>go_wp2_with fail;exact⟨e5,HF0.out⟩
end
section
variable {u2 u6 u7 jA qA yA zA fA mL oL pL vL sL tL uL aL bL cL dL eL hL iL kL jM qM yM zM fM gM nM rM mM lM oM pM vM sM tM uM aM bM cM dM eM hM iM kM jN qN yN zN fN gN nN rN mN lN oN pN vN sN tN uN aN cN dN eN hN iN kN jO qO yO zO fO gO nO rO mO lO oO pO vO sO tO uO aO bO cO dO eO hO iO kO jP qP yP zP fP gP nP rP mP lP oP pP sP tP uP nA rA mA lA oA pA vA sA tA uA aA bA cA dA eA hA iA kA jB qB yB zB fB gB nB rB mB lB oB pB sB tB uB aB bB dB eB hB iB kB jC qC yC zC fC gC nC rC mC lC oC pC vC sC tC uC aC bC cC dC eC hC iC kC jD qD yD zD fD gD nD rD mD lD oD pD vD sD tD uD aD bD cD dD eD hD iD kD jE qE yE zE fE gE nE rE mE lE oE pE vE sE tE uE aE bE cE dE eE hE iE kE jF qF yF zF fF gF nF rF mF lF oF pF vF sF tF uF aF bF cF dF eF hF iF kF jG qG yG zG fG gG nG rG mG lG oG vG sG tG uG aG bG cG dG eG hG iG:Value}
set_option maxHeartbeats 16000000
set_option maxRecDepth 1000000
theorem blkD25 {g B q3 q5 N:Nat}{S:Ty}{w3:World}{e2 line:Int}{kind name:ByteArray}{F:Option Addr}{m f:Nat}{T:Ty}{e5 x8 x9 x:Int}{n kc k qf md dc:Nat}{KA D:Option Addr}{key:ByteArray}{wc:World}(ok:(mkBK g B q3 q5 N S w3 e2 kind name F m f line).Ok) (hl:LF (mkBK g B q3 q5 N S w3 e2 kind name F m f line) T e5 n (vS KA n kc) qf key D md dc x wc)
 {K K2 K3:Act→World→Prop}{post:Ending→World→Prop}
   (hK:∀ (kG jH qH yH zH fH gH nH rH mH lH oH pH vH sH tH uH aH bH cH dH eH hH iH kH jI qI yI zI fI gI nI rI mI lI oI pI sI tI uI aI bI cI dI eI hI iI jJ qJ yJ zJ fJ gJ nJ rJ mJ lJ oJ pJ vJ sJ tJ uJ aJ bJ cJ dJ eJ hJ iJ kJ jK qK yK zK fK gK nK rK mK lK oK pK vK sK tK uK aK bK cK dK eK iK kK jL qL yL fL gL nL rL:Value) (y8 y9:Int) (wx:World),(∃ T' e',Hid (LI (mkBK g B q3 q5 N S w3 e2 kind name F m f line) T' e' n (vS KA n kc) wx))→K ⟨#[vP (some ⟨g,0,none⟩),.agg #[vT kind,vT name,vS F m f,vI kI line],u2,vP (some ⟨q3,0,none⟩),vS KA n kc,vP (some ⟨q5,0,none⟩),vP (some ⟨q5+1,0,none⟩),vP (some ⟨q5+1+1,0,none⟩),vI kI y8,vI kI y9,vI kI k,vP (some ⟨qf,0,none⟩),jA,qA,yA,zA,fA,kG,jH,qH,yH,zH,fH,gH,nH,rH,mH,lH,oH,pH,vH,sH,tH,uH,aH,bH,cH,dH,eH,hH,iH,kH,jI,qI,yI,zI,fI,gI,nI,rI,mI,lI,oI,pI,sI,tI,uI,aI,bI,cI,dI,eI,hI,iI,jJ,qJ,yJ,zJ,fJ,gJ,nJ,rJ,mJ,lJ,oJ,pJ,vJ,sJ,tJ,uJ,aJ,bJ,cJ,dJ,eJ,hJ,iJ,kJ,jK,qK,yK,zK,fK,gK,nK,rK,mK,lK,oK,pK,vK,sK,tK,uK,aK,bK,cK,dK,eK,iK,kK,jL,qL,yL,fL,gL,nL,rL,nA,rA,mA,lA,oA,pA,vA,sA,tA,uA,aA,bA,cA,dA,eA,hA,iA,kA,jB,qB,yB,zB,fB,gB,nB,rB,mB,lB,oB,pB,sB,tB,uB,aB,bB,dB,eB,hB,iB,kB,jC,qC,yC,zC,fC,gC,nC,rC,mC,lC,oC,pC,vC,sC,tC,uC,aC,bC,cC,dC,eC,hC,iC,kC,jD,qD,yD,zD,fD,gD,nD,rD,mD,lD,oD,pD,vD,sD,tD,uD,aD,bD,cD,dD,eD,hD,iD,kD,jE,qE,yE,zE,fE,gE,nE,rE,mE,lE,oE,pE,vE,sE,tE,uE,aE,bE,cE,dE,eE,hE,iE,kE,jF,qF,yF,zF,fF,gF,nF,rF,mF,lF,oF,pF,vF,sF,tF,uF,aF,bF,cF,dF,eF,hF,iF,kF,jG,qG,yG,zG,fG,gG,nG,rG,mG,lG,oG,vG,sG,tG,uG,aG,bG,cG,dG,eG,hG,iG],[]⟩ wx) :
   Code.wp pG ((Tryz.f37.body.bind (findReg 25)).getD .skip) (Exit.inBlock 2 (Exit.inBlock 1 (Exit.then K (Exit.then K2 (Exit.inBlock 0 (Exit.then K3 (bodyPost pG Tryz.f37 post))))))) ⟨#[vP (some ⟨g,0,none⟩),.agg #[vT kind,vT name,vS F m f,vI kI line],u2,vP (some ⟨q3,0,none⟩),vS KA n kc,vP (some ⟨q5,0,none⟩),vP (some ⟨q5+1,0,none⟩),vP (some ⟨q5+1+1,0,none⟩),vI kI x8,vI kI x9,vI kI k,vP (some ⟨qf,0,none⟩),jA,qA,yA,zA,fA,mL,oL,pL,vL,sL,tL,uL,aL,bL,cL,dL,eL,hL,iL,kL,jM,qM,yM,zM,fM,gM,nM,rM,mM,lM,oM,pM,vM,sM,tM,uM,aM,bM,cM,dM,eM,hM,iM,kM,jN,qN,yN,zN,fN,gN,nN,rN,mN,lN,oN,pN,vN,sN,tN,uN,aN,cN,dN,eN,hN,iN,kN,jO,qO,yO,zO,fO,gO,nO,rO,mO,lO,oO,pO,vO,sO,tO,uO,aO,bO,cO,dO,eO,hO,iO,kO,jP,qP,yP,zP,fP,gP,nP,rP,mP,lP,oP,pP,sP,tP,uP,nA,rA,mA,lA,oA,pA,vA,sA,tA,uA,aA,bA,cA,dA,eA,hA,iA,kA,jB,qB,yB,zB,fB,gB,nB,rB,mB,lB,oB,pB,sB,tB,uB,aB,bB,dB,eB,hB,iB,kB,jC,qC,yC,zC,fC,gC,nC,rC,mC,lC,oC,pC,vC,sC,tC,uC,aC,bC,cC,dC,eC,hC,iC,kC,jD,qD,yD,zD,fD,gD,nD,rD,mD,lD,oD,pD,vD,sD,tD,uD,aD,bD,cD,dD,eD,hD,iD,kD,jE,qE,yE,zE,fE,gE,nE,rE,mE,lE,oE,pE,vE,sE,tE,uE,aE,bE,cE,dE,eE,hE,iE,kE,jF,qF,yF,zF,fF,gF,nF,rF,mF,lF,oF,pF,vF,sF,tF,uF,aF,bF,cF,dF,eF,hF,iF,kF,jG,qG,yG,zG,fG,gG,nG,rG,mG,lG,oG,vG,sG,tG,uG,aG,bG,cG,dG,eG,hG,iG],[]⟩ wc:=by
  have Ok:=hide ok;have HF:=hide hl;clear hl;obtain⟨c17,k0,k1,k2,k3,hlg,hlq⟩:=HF.out.li.cells;dsimp only at c17 k0 k1 k2 k3 hlg hlq;obtain⟨j0,j1,j2,hlf⟩:=HF.out.cells;conv=>arg 2;whnf
  dsimp only;have HC:=hide (fun wq (hq:Below wc.heap.size wc wq) (most:Int)=>list_fld (HF.out.below Ok.out hq) Ok.out most);go_region_held3 (fun y=>y.cell? ⟨qf,0,none⟩=some (vT key)∧y.cell? ⟨qf,1,none⟩=some (vS D md dc)∧y.cell? ⟨qf,2,none⟩=some (vI kI x))
   (first|exact⟨HF9.out.cells.1,HF9.out.cells.2.1,HF9.out.cells.2.2.1⟩|exact⟨(HF8.out.fb.far HF8.out.ne.2.2.1 _).cell 0,(HF8.out.fb.far HF8.out.ne.2.2.1 _).cell 1,(HF8.out.fb.far HF8.out.ne.2.2.1 _).cell 2⟩|exact⟨HF8.out.cells.1,HF8.out.cells.2.1,HF8.out.cells.2.2.1⟩|exact⟨HF.out.cells.1,HF.out.cells.2.1,HF.out.cells.2.2.1⟩|exact⟨(HF.out.fb.drewN 1).cell 0,(HF.out.fb.drewN 1).cell 1,(HF.out.fb.drewN 1).cell 2⟩)
   ((go_at_call 80;refine(HC.out _ (below_drew (bR _ _) 1) _).mono ?_;rintro en w8 ⟨A8,c8,rfl,T8,e8,hf8,hs8⟩;try dsimp only;have HF8:=hide hf8;have HF9:=hide (hf8.noted Ok.out (j:=0) (by decide) hs8 x);obtain⟨⟨u6,hu6⟩,fz6,⟨u7,hu7⟩,fz7,hl6,hl7⟩:=hf8.slots (j:=0) (by decide);dsimp only at hu6 fz6 hu7 fz7 hl6 hl7;clear hf8 hs8))
  all_goals
   go_wp2_with fail
   exact⟨T8,e8,HF9.out.li⟩
theorem blkD27 {g B q3 q5 N:Nat}{S:Ty}{w3:World}{e2 line:Int}{kind name:ByteArray}{F:Option Addr}{m f:Nat}{T:Ty}{e5 x8 x9 x:Int}{n kc k qf md dc:Nat}{KA D:Option Addr}{key:ByteArray}{wc:World}(ok:(mkBK g B q3 q5 N S w3 e2 kind name F m f line).Ok) (hl:LF (mkBK g B q3 q5 N S w3 e2 kind name F m f line) T e5 n (vS KA n kc) qf key D md dc x wc)
 {K K2 K3:Act→World→Prop}{post:Ending→World→Prop}
   (hK:∀ (kG jH qH yH zH fH gH nH rH mH lH oH pH vH sH tH uH aH bH cH dH eH hH iH kH jI qI yI zI fI gI nI rI mI lI oI pI sI tI uI aI bI cI dI eI hI iI jJ qJ yJ zJ fJ gJ nJ rJ mJ lJ oJ pJ vJ sJ tJ uJ aJ bJ cJ dJ eJ hJ iJ kJ jK qK yK zK fK gK nK rK mK lK oK pK vK sK tK uK aK bK cK dK eK iK kK jL qL yL fL gL nL rL:Value) (y8 y9:Int) (wx:World),(∃ T' e',Hid (LI (mkBK g B q3 q5 N S w3 e2 kind name F m f line) T' e' n (vS KA n kc) wx))→K ⟨#[vP (some ⟨g,0,none⟩),.agg #[vT kind,vT name,vS F m f,vI kI line],u2,vP (some ⟨q3,0,none⟩),vS KA n kc,vP (some ⟨q5,0,none⟩),vP (some ⟨q5+1,0,none⟩),vP (some ⟨q5+1+1,0,none⟩),vI kI y8,vI kI y9,vI kI k,vP (some ⟨qf,0,none⟩),jA,qA,yA,zA,fA,kG,jH,qH,yH,zH,fH,gH,nH,rH,mH,lH,oH,pH,vH,sH,tH,uH,aH,bH,cH,dH,eH,hH,iH,kH,jI,qI,yI,zI,fI,gI,nI,rI,mI,lI,oI,pI,sI,tI,uI,aI,bI,cI,dI,eI,hI,iI,jJ,qJ,yJ,zJ,fJ,gJ,nJ,rJ,mJ,lJ,oJ,pJ,vJ,sJ,tJ,uJ,aJ,bJ,cJ,dJ,eJ,hJ,iJ,kJ,jK,qK,yK,zK,fK,gK,nK,rK,mK,lK,oK,pK,vK,sK,tK,uK,aK,bK,cK,dK,eK,iK,kK,jL,qL,yL,fL,gL,nL,rL,nA,rA,mA,lA,oA,pA,vA,sA,tA,uA,aA,bA,cA,dA,eA,hA,iA,kA,jB,qB,yB,zB,fB,gB,nB,rB,mB,lB,oB,pB,sB,tB,uB,aB,bB,dB,eB,hB,iB,kB,jC,qC,yC,zC,fC,gC,nC,rC,mC,lC,oC,pC,vC,sC,tC,uC,aC,bC,cC,dC,eC,hC,iC,kC,jD,qD,yD,zD,fD,gD,nD,rD,mD,lD,oD,pD,vD,sD,tD,uD,aD,bD,cD,dD,eD,hD,iD,kD,jE,qE,yE,zE,fE,gE,nE,rE,mE,lE,oE,pE,vE,sE,tE,uE,aE,bE,cE,dE,eE,hE,iE,kE,jF,qF,yF,zF,fF,gF,nF,rF,mF,lF,oF,pF,vF,sF,tF,uF,aF,bF,cF,dF,eF,hF,iF,kF,jG,qG,yG,zG,fG,gG,nG,rG,mG,lG,oG,vG,sG,tG,uG,aG,bG,cG,dG,eG,hG,iG],[]⟩ wx) :
   Code.wp pG ((Tryz.f37.body.bind (findReg 27)).getD .skip) (Exit.inBlock 2 (Exit.inBlock 1 (Exit.then K (Exit.then K2 (Exit.inBlock 0 (Exit.then K3 (bodyPost pG Tryz.f37 post))))))) ⟨#[vP (some ⟨g,0,none⟩),.agg #[vT kind,vT name,vS F m f,vI kI line],u2,vP (some ⟨q3,0,none⟩),vS KA n kc,vP (some ⟨q5,0,none⟩),vP (some ⟨q5+1,0,none⟩),vP (some ⟨q5+1+1,0,none⟩),vI kI x8,vI kI x9,vI kI k,vP (some ⟨qf,0,none⟩),jA,qA,yA,zA,fA,mL,oL,pL,vL,sL,tL,uL,aL,bL,cL,dL,eL,hL,iL,kL,jM,qM,yM,zM,fM,gM,nM,rM,mM,lM,oM,pM,vM,sM,tM,uM,aM,bM,cM,dM,eM,hM,iM,kM,jN,qN,yN,zN,fN,gN,nN,rN,mN,lN,oN,pN,vN,sN,tN,uN,aN,cN,dN,eN,hN,iN,kN,jO,qO,yO,zO,fO,gO,nO,rO,mO,lO,oO,pO,vO,sO,tO,uO,aO,bO,cO,dO,eO,hO,iO,kO,jP,qP,yP,zP,fP,gP,nP,rP,mP,lP,oP,pP,sP,tP,uP,nA,rA,mA,lA,oA,pA,vA,sA,tA,uA,aA,bA,cA,dA,eA,hA,iA,kA,jB,qB,yB,zB,fB,gB,nB,rB,mB,lB,oB,pB,sB,tB,uB,aB,bB,dB,eB,hB,iB,kB,jC,qC,yC,zC,fC,gC,nC,rC,mC,lC,oC,pC,vC,sC,tC,uC,aC,bC,cC,dC,eC,hC,iC,kC,jD,qD,yD,zD,fD,gD,nD,rD,mD,lD,oD,pD,vD,sD,tD,uD,aD,bD,cD,dD,eD,hD,iD,kD,jE,qE,yE,zE,fE,gE,nE,rE,mE,lE,oE,pE,vE,sE,tE,uE,aE,bE,cE,dE,eE,hE,iE,kE,jF,qF,yF,zF,fF,gF,nF,rF,mF,lF,oF,pF,vF,sF,tF,uF,aF,bF,cF,dF,eF,hF,iF,kF,jG,qG,yG,zG,fG,gG,nG,rG,mG,lG,oG,vG,sG,tG,uG,aG,bG,cG,dG,eG,hG,iG],[]⟩ wc:=by
  have Ok:=hide ok;have HF:=hide hl;clear hl;obtain⟨c17,k0,k1,k2,k3,hlg,hlq⟩:=HF.out.li.cells;dsimp only at c17 k0 k1 k2 k3 hlg hlq;obtain⟨j0,j1,j2,hlf⟩:=HF.out.cells;conv=>arg 2;whnf
  dsimp only;have HC:=hide (fun wq (hq:Below wc.heap.size wc wq) (most:Int)=>list_fld (HF.out.below Ok.out hq) Ok.out most);go_region_held3 (fun y=>y.cell? ⟨qf,0,none⟩=some (vT key)∧y.cell? ⟨qf,1,none⟩=some (vS D md dc)∧y.cell? ⟨qf,2,none⟩=some (vI kI x))
   (first|exact⟨HF9.out.cells.1,HF9.out.cells.2.1,HF9.out.cells.2.2.1⟩|exact⟨(HF8.out.fb.far HF8.out.ne.2.2.1 _).cell 0,(HF8.out.fb.far HF8.out.ne.2.2.1 _).cell 1,(HF8.out.fb.far HF8.out.ne.2.2.1 _).cell 2⟩|exact⟨HF8.out.cells.1,HF8.out.cells.2.1,HF8.out.cells.2.2.1⟩|exact⟨HF.out.cells.1,HF.out.cells.2.1,HF.out.cells.2.2.1⟩|exact⟨(HF.out.fb.drewN 1).cell 0,(HF.out.fb.drewN 1).cell 1,(HF.out.fb.drewN 1).cell 2⟩)
   ((go_at_call 80;refine(HC.out _ (below_drew (bR _ _) 1) _).mono ?_;rintro en w8 ⟨A8,c8,rfl,T8,e8,hf8,hs8⟩;try dsimp only;have HF8:=hide hf8;have HF9:=hide (hf8.noted Ok.out (j:=1) (by decide) hs8 x);obtain⟨⟨u6,hu6⟩,fz6,⟨u7,hu7⟩,fz7,hl6,hl7⟩:=hf8.slots (j:=1) (by decide);dsimp only at hu6 fz6 hu7 fz7 hl6 hl7;clear hf8 hs8))
  all_goals
   go_wp2_with fail
   exact⟨T8,e8,HF9.out.li⟩
end
section
variable {u2 jA qA yA zA fA kG jH qH yH zH fH gH nH rH mH lH oH pH vH sH tH uH aH bH cH dH eH hH iH kH jI qI yI zI fI gI nI rI mI lI oI pI sI tI uI aI bI cI dI eI hI iI jJ qJ yJ zJ fJ gJ nJ rJ mJ lJ oJ pJ vJ sJ tJ uJ aJ bJ cJ dJ eJ hJ iJ kJ jK qK yK zK fK gK nK rK mK lK oK pK vK sK tK uK aK bK cK dK eK iK kK jL qL yL fL gL nL rL nA rA mA lA oA pA vA sA tA uA aA bA cA dA eA hA iA kA jB qB yB zB fB gB nB rB mB lB oB pB sB tB uB aB bB dB eB hB iB kB jC qC yC zC fC gC nC rC mC lC oC pC vC sC tC uC aC bC cC dC eC hC iC kC jD qD yD zD fD gD nD rD mD lD oD pD vD sD tD uD aD bD cD dD eD hD iD kD jE qE yE zE fE gE nE rE mE lE oE pE vE sE tE uE aE bE cE dE eE hE iE kE jF qF yF zF fF gF nF rF mF lF oF pF vF sF tF uF aF bF cF dF eF hF iF kF jG qG yG zG fG gG nG rG mG lG oG vG sG tG uG aG bG cG dG eG hG iG:Value}
set_option maxHeartbeats 16000000
set_option maxRecDepth 1000000
theorem blkD19 {g B q3 q5 N:Nat}{S:Ty}{w3:World}{e2 line:Int}{kind name:ByteArray}{F:Option Addr}{m f:Nat}{T:Ty}{e5 x8 x9 x:Int}{n kc k qf md dc:Nat}{KA D:Option Addr}{key:ByteArray}{wc:World}(ok:(mkBK g B q3 q5 N S w3 e2 kind name F m f line).Ok) (hl:LF (mkBK g B q3 q5 N S w3 e2 kind name F m f line) T e5 n (vS KA n kc) qf key D md dc x wc)
 {K K2 K3:Act→World→Prop}{post:Ending→World→Prop}
   (hK:∀ (mL oL pL vL sL tL uL aL bL cL dL eL hL iL kL jM qM yM zM fM gM nM rM mM lM oM pM vM sM tM uM aM bM cM dM eM hM iM kM jN qN yN zN fN gN nN rN mN lN oN pN vN sN tN uN aN cN dN eN hN iN kN jO qO yO zO fO gO nO rO mO lO oO pO vO sO tO uO aO bO cO dO eO hO iO kO jP qP yP zP fP gP nP rP mP lP oP pP sP tP uP:Value) (y8 y9:Int) (wx:World),(∃ T' e',Hid (LI (mkBK g B q3 q5 N S w3 e2 kind name F m f line) T' e' n (vS KA n kc) wx))→K ⟨#[vP (some ⟨g,0,none⟩),.agg #[vT kind,vT name,vS F m f,vI kI line],u2,vP (some ⟨q3,0,none⟩),vS KA n kc,vP (some ⟨q5,0,none⟩),vP (some ⟨q5+1,0,none⟩),vP (some ⟨q5+1+1,0,none⟩),vI kI y8,vI kI y9,vI kI k,vP (some ⟨qf,0,none⟩),jA,qA,yA,zA,fA,mL,oL,pL,vL,sL,tL,uL,aL,bL,cL,dL,eL,hL,iL,kL,jM,qM,yM,zM,fM,gM,nM,rM,mM,lM,oM,pM,vM,sM,tM,uM,aM,bM,cM,dM,eM,hM,iM,kM,jN,qN,yN,zN,fN,gN,nN,rN,mN,lN,oN,pN,vN,sN,tN,uN,aN,cN,dN,eN,hN,iN,kN,jO,qO,yO,zO,fO,gO,nO,rO,mO,lO,oO,pO,vO,sO,tO,uO,aO,bO,cO,dO,eO,hO,iO,kO,jP,qP,yP,zP,fP,gP,nP,rP,mP,lP,oP,pP,sP,tP,uP,nA,rA,mA,lA,oA,pA,vA,sA,tA,uA,aA,bA,cA,dA,eA,hA,iA,kA,jB,qB,yB,zB,fB,gB,nB,rB,mB,lB,oB,pB,sB,tB,uB,aB,bB,dB,eB,hB,iB,kB,jC,qC,yC,zC,fC,gC,nC,rC,mC,lC,oC,pC,vC,sC,tC,uC,aC,bC,cC,dC,eC,hC,iC,kC,jD,qD,yD,zD,fD,gD,nD,rD,mD,lD,oD,pD,vD,sD,tD,uD,aD,bD,cD,dD,eD,hD,iD,kD,jE,qE,yE,zE,fE,gE,nE,rE,mE,lE,oE,pE,vE,sE,tE,uE,aE,bE,cE,dE,eE,hE,iE,kE,jF,qF,yF,zF,fF,gF,nF,rF,mF,lF,oF,pF,vF,sF,tF,uF,aF,bF,cF,dF,eF,hF,iF,kF,jG,qG,yG,zG,fG,gG,nG,rG,mG,lG,oG,vG,sG,tG,uG,aG,bG,cG,dG,eG,hG,iG],[]⟩ wx) :
   Code.wp pG (seqL ((Tryz.f37.body.bind (findAt 19)).getD .skip)) (Exit.then (Code.wp pG (seqR ((Tryz.f37.body.bind (findAt 19)).getD .skip)) (Exit.inBlock 2 (Exit.inBlock 1 (Exit.then K (Exit.then K2 (Exit.inBlock 0 (Exit.then K3 (bodyPost pG Tryz.f37 post)))))))) (Exit.inBlock 2 (Exit.inBlock 1 (Exit.then K (Exit.then K2 (Exit.inBlock 0 (Exit.then K3 (bodyPost pG Tryz.f37 post)))))))) ⟨#[vP (some ⟨g,0,none⟩),.agg #[vT kind,vT name,vS F m f,vI kI line],u2,vP (some ⟨q3,0,none⟩),vS KA n kc,vP (some ⟨q5,0,none⟩),vP (some ⟨q5+1,0,none⟩),vP (some ⟨q5+1+1,0,none⟩),vI kI x8,vI kI x9,vI kI k,vP (some ⟨qf,0,none⟩),jA,qA,yA,zA,fA,kG,jH,qH,yH,zH,fH,gH,nH,rH,mH,lH,oH,pH,vH,sH,tH,uH,aH,bH,cH,dH,eH,hH,iH,kH,jI,qI,yI,zI,fI,gI,nI,rI,mI,lI,oI,pI,sI,tI,uI,aI,bI,cI,dI,eI,hI,iI,jJ,qJ,yJ,zJ,fJ,gJ,nJ,rJ,mJ,lJ,oJ,pJ,vJ,sJ,tJ,uJ,aJ,bJ,cJ,dJ,eJ,hJ,iJ,kJ,jK,qK,yK,zK,fK,gK,nK,rK,mK,lK,oK,pK,vK,sK,tK,uK,aK,bK,cK,dK,eK,iK,kK,jL,qL,yL,fL,gL,nL,rL,nA,rA,mA,lA,oA,pA,vA,sA,tA,uA,aA,bA,cA,dA,eA,hA,iA,kA,jB,qB,yB,zB,fB,gB,nB,rB,mB,lB,oB,pB,sB,tB,uB,aB,bB,dB,eB,hB,iB,kB,jC,qC,yC,zC,fC,gC,nC,rC,mC,lC,oC,pC,vC,sC,tC,uC,aC,bC,cC,dC,eC,hC,iC,kC,jD,qD,yD,zD,fD,gD,nD,rD,mD,lD,oD,pD,vD,sD,tD,uD,aD,bD,cD,dD,eD,hD,iD,kD,jE,qE,yE,zE,fE,gE,nE,rE,mE,lE,oE,pE,vE,sE,tE,uE,aE,bE,cE,dE,eE,hE,iE,kE,jF,qF,yF,zF,fF,gF,nF,rF,mF,lF,oF,pF,vF,sF,tF,uF,aF,bF,cF,dF,eF,hF,iF,kF,jG,qG,yG,zG,fG,gG,nG,rG,mG,lG,oG,vG,sG,tG,uG,aG,bG,cG,dG,eG,hG,iG],[]⟩ wc:=by
  have Ok:=hide ok;have HF:=hide hl;clear hl;obtain⟨c17,k0,k1,k2,k3,hlg,hlq⟩:=HF.out.li.cells;dsimp only at c17 k0 k1 k2 k3 hlg hlq;obtain⟨j0,j1,j2,hlf⟩:=HF.out.cells;conv=>pattern (seqL _);whnf
  conv=>pattern (seqR _);whnf
  refine wp_open (fun K0 hK0=>?_);dsimp only;have HC:=hide (contest_fld HF.out Ok.out);go_wp2_with ((with_reducible refine gV 79 (.agg #[vT key,vS D md dc,vI kI x]) wc ?_ ?_ ?_);rfl;exact gives_load rfl rfl HF.out.load);refine HC.out.mono ?_;rintro en w8 ⟨rfl,T8,e8,hf8⟩;try dsimp only
  have HF8:=hide hf8;clear hf8;clear c17 k0 k1 k2 k3 hlg hlq j0 j1 j2 hlf;obtain⟨c17,k0,k1,k2,k3,hlg,hlq⟩:=HF8.out.li.cells;dsimp only at c17 k0 k1 k2 k3 hlg hlq;obtain⟨j0,j1,j2,hlf⟩:=HF8.out.cells;cases hd:(key.toList==[100,105,103,105,116,115]) with
  |true=>
   have hse:(key.toList==[115,101,97,116,115])=false:=by rw[beq_iff_eq.1 hd];rfl
   go_wp2_with fail;exact⟨T8,e8,HF8.out.li⟩
  |false=>
   cases hse:(key.toList==[115,101,97,116,115]) with
   |true=>go_wp2_with fail;exact⟨T8,e8,HF8.out.li⟩
   |false=>go_wp2_with fail;exact⟨T8,e8,HF8.out.li⟩
end
section
variable {u2 jA qA yA zA fA kG jH qH yH zH fH gH nH rH mH lH oH pH vH sH tH uH aH bH cH dH eH hH iH kH jI qI yI zI fI gI nI rI mI lI oI pI sI tI uI aI bI cI dI eI hI iI jJ qJ yJ zJ fJ gJ nJ rJ mJ lJ oJ pJ vJ sJ tJ uJ aJ bJ cJ dJ eJ hJ iJ kJ jK qK yK zK fK gK nK rK mK lK oK pK vK sK tK uK aK bK cK dK eK iK kK jL qL yL fL gL nL rL nA rA mA lA oA pA vA sA tA uA aA bA cA dA eA hA iA kA jB qB yB zB fB gB nB rB mB lB oB pB sB tB uB aB bB dB eB hB iB kB jC qC yC zC fC gC nC rC mC lC oC pC vC sC tC uC aC bC cC dC eC hC iC kC jD qD yD zD fD gD nD rD mD lD oD pD vD sD tD uD aD bD cD dD eD hD iD kD jE qE yE zE fE gE nE rE mE lE oE pE vE sE tE uE aE bE cE dE eE hE iE kE jF qF yF zF fF gF nF rF mF lF oF pF vF sF tF uF aF bF cF dF eF hF iF kF jG qG yG zG fG gG nG rG mG lG oG vG sG tG uG aG bG cG dG eG hG iG:Value}
set_option maxHeartbeats 16000000
set_option maxRecDepth 1000000
theorem blkD17 {g B q3 q5 N:Nat}{S:Ty}{w3:World}{e2 line:Int}{kind name:ByteArray}{F:Option Addr}{m f:Nat}{T:Ty}{e5 x8 x9 x:Int}{n kc k qf md dc:Nat}{KA D:Option Addr}{key:ByteArray}{wc:World}(ok:(mkBK g B q3 q5 N S w3 e2 kind name F m f line).Ok) (hl:LF (mkBK g B q3 q5 N S w3 e2 kind name F m f line) T e5 n (vS KA n kc) qf key D md dc x wc)
 {K K2 K3:Act→World→Prop}{post:Ending→World→Prop}
   (hK:∀ (mL oL pL vL sL tL uL aL bL cL dL eL hL iL kL jM qM yM zM fM gM nM rM mM lM oM pM vM sM tM uM aM bM cM dM eM hM iM kM jN qN yN zN fN gN nN rN mN lN oN pN vN sN tN uN aN cN dN eN hN iN kN jO qO yO zO fO gO nO rO mO lO oO pO vO sO tO uO aO bO cO dO eO hO iO kO jP qP yP zP fP gP nP rP mP lP oP pP sP tP uP:Value) (y8 y9:Int) (wx:World),(∃ T' e',Hid (LI (mkBK g B q3 q5 N S w3 e2 kind name F m f line) T' e' n (vS KA n kc) wx))→K ⟨#[vP (some ⟨g,0,none⟩),.agg #[vT kind,vT name,vS F m f,vI kI line],u2,vP (some ⟨q3,0,none⟩),vS KA n kc,vP (some ⟨q5,0,none⟩),vP (some ⟨q5+1,0,none⟩),vP (some ⟨q5+1+1,0,none⟩),vI kI y8,vI kI y9,vI kI k,vP (some ⟨qf,0,none⟩),jA,qA,yA,zA,fA,mL,oL,pL,vL,sL,tL,uL,aL,bL,cL,dL,eL,hL,iL,kL,jM,qM,yM,zM,fM,gM,nM,rM,mM,lM,oM,pM,vM,sM,tM,uM,aM,bM,cM,dM,eM,hM,iM,kM,jN,qN,yN,zN,fN,gN,nN,rN,mN,lN,oN,pN,vN,sN,tN,uN,aN,cN,dN,eN,hN,iN,kN,jO,qO,yO,zO,fO,gO,nO,rO,mO,lO,oO,pO,vO,sO,tO,uO,aO,bO,cO,dO,eO,hO,iO,kO,jP,qP,yP,zP,fP,gP,nP,rP,mP,lP,oP,pP,sP,tP,uP,nA,rA,mA,lA,oA,pA,vA,sA,tA,uA,aA,bA,cA,dA,eA,hA,iA,kA,jB,qB,yB,zB,fB,gB,nB,rB,mB,lB,oB,pB,sB,tB,uB,aB,bB,dB,eB,hB,iB,kB,jC,qC,yC,zC,fC,gC,nC,rC,mC,lC,oC,pC,vC,sC,tC,uC,aC,bC,cC,dC,eC,hC,iC,kC,jD,qD,yD,zD,fD,gD,nD,rD,mD,lD,oD,pD,vD,sD,tD,uD,aD,bD,cD,dD,eD,hD,iD,kD,jE,qE,yE,zE,fE,gE,nE,rE,mE,lE,oE,pE,vE,sE,tE,uE,aE,bE,cE,dE,eE,hE,iE,kE,jF,qF,yF,zF,fF,gF,nF,rF,mF,lF,oF,pF,vF,sF,tF,uF,aF,bF,cF,dF,eF,hF,iF,kF,jG,qG,yG,zG,fG,gG,nG,rG,mG,lG,oG,vG,sG,tG,uG,aG,bG,cG,dG,eG,hG,iG],[]⟩ wx) :
   Code.wp pG (seqL ((Tryz.f37.body.bind (findAt 17)).getD .skip)) (Exit.then (Code.wp pG (seqR ((Tryz.f37.body.bind (findAt 17)).getD .skip)) (Exit.inBlock 2 (Exit.inBlock 1 (Exit.then K (Exit.then K2 (Exit.inBlock 0 (Exit.then K3 (bodyPost pG Tryz.f37 post)))))))) (Exit.inBlock 2 (Exit.inBlock 1 (Exit.then K (Exit.then K2 (Exit.inBlock 0 (Exit.then K3 (bodyPost pG Tryz.f37 post)))))))) ⟨#[vP (some ⟨g,0,none⟩),.agg #[vT kind,vT name,vS F m f,vI kI line],u2,vP (some ⟨q3,0,none⟩),vS KA n kc,vP (some ⟨q5,0,none⟩),vP (some ⟨q5+1,0,none⟩),vP (some ⟨q5+1+1,0,none⟩),vI kI x8,vI kI x9,vI kI k,vP (some ⟨qf,0,none⟩),jA,qA,yA,zA,fA,kG,jH,qH,yH,zH,fH,gH,nH,rH,mH,lH,oH,pH,vH,sH,tH,uH,aH,bH,cH,dH,eH,hH,iH,kH,jI,qI,yI,zI,fI,gI,nI,rI,mI,lI,oI,pI,sI,tI,uI,aI,bI,cI,dI,eI,hI,iI,jJ,qJ,yJ,zJ,fJ,gJ,nJ,rJ,mJ,lJ,oJ,pJ,vJ,sJ,tJ,uJ,aJ,bJ,cJ,dJ,eJ,hJ,iJ,kJ,jK,qK,yK,zK,fK,gK,nK,rK,mK,lK,oK,pK,vK,sK,tK,uK,aK,bK,cK,dK,eK,iK,kK,jL,qL,yL,fL,gL,nL,rL,nA,rA,mA,lA,oA,pA,vA,sA,tA,uA,aA,bA,cA,dA,eA,hA,iA,kA,jB,qB,yB,zB,fB,gB,nB,rB,mB,lB,oB,pB,sB,tB,uB,aB,bB,dB,eB,hB,iB,kB,jC,qC,yC,zC,fC,gC,nC,rC,mC,lC,oC,pC,vC,sC,tC,uC,aC,bC,cC,dC,eC,hC,iC,kC,jD,qD,yD,zD,fD,gD,nD,rD,mD,lD,oD,pD,vD,sD,tD,uD,aD,bD,cD,dD,eD,hD,iD,kD,jE,qE,yE,zE,fE,gE,nE,rE,mE,lE,oE,pE,vE,sE,tE,uE,aE,bE,cE,dE,eE,hE,iE,kE,jF,qF,yF,zF,fF,gF,nF,rF,mF,lF,oF,pF,vF,sF,tF,uF,aF,bF,cF,dF,eF,hF,iF,kF,jG,qG,yG,zG,fG,gG,nG,rG,mG,lG,oG,vG,sG,tG,uG,aG,bG,cG,dG,eG,hG,iG],[]⟩ wc:=by
  have Ok:=hide ok;have HF:=hide hl;clear hl;obtain⟨c17,k0,k1,k2,k3,hlg,hlq⟩:=HF.out.li.cells;dsimp only at c17 k0 k1 k2 k3 hlg hlq;obtain⟨j0,j1,j2,hlf⟩:=HF.out.cells;conv=>pattern (seqL _);whnf
  conv=>pattern (seqR _);whnf
  refine wp_open (fun K0 hK0=>?_);dsimp only;by_cases h5:e5=0
  ·subst h5;cases hp:(kind.toList==[99,111,110,116,101,115,116]) with
   |true=>go_upto_region 19 with fail;exact wp_close (blkD19 Ok.out HF.out hK) (by assumption)
   |false=>
    cases hq:(kind.toList==[115,116,121,108,101]) with
    |true=>
     cases hd:(key.toList==[112,114,101,99,105,110,99,116,115]) with
     |true=>go_upto_region 25 with fail;exact blkD25 Ok.out HF.out hK
     |false=>go_upto_region 27 with fail;exact blkD27 Ok.out HF.out hK
    |false=>
     have HC:=hide (field_fld HF.out Ok.out);go_wp2_with ((with_reducible refine gV 65 (.agg #[vT key,vS D md dc,vI kI x]) wc ?_ ?_ ?_);rfl;exact gives_load rfl rfl HF.out.load);refine HC.out.mono ?_;rintro en w8 ⟨rfl,T8,e8,hf8⟩;try dsimp only
     have HF8:=hide hf8;clear hf8;go_wp2_with fail;exact⟨T8,e8,HF8.out.li⟩
  ·have h5':(e5 != 0)=true:=by simp[h5]
   go_wp2_with fail;exact⟨T,e5,HF.out.li⟩
end
section
variable {u2 mL mE lE oE pE vE oL pL vL sL tL uL aL bL cL dL eL hL iL kL jM qM yM zM fM gM nM rM mM lM oM pM vM sM tM uM aM bM cM dM eM hM iM kM jN qN yN zN fN gN nN rN mN lN oN pN vN sN tN uN aN cN dN eN hN iN kN jO qO yO zO fO gO nO rO mO lO oO pO vO sO tO uO aO bO cO dO eO hO iO kO jP qP yP zP fP gP nP rP mP lP oP pP sP tP uP bP sE tE uE aE bE cE dE eE hE iE kE jF qF yF zF fF gF nF rF mF lF oF pF vF sF tF uF aF bF cF dF eF hF iF kF jG qG yG zG fG gG nG rG mG lG oG vG sG tG uG aG bG cG dG eG hG iG kG jH qH yH zH fH gH nH rH mH lH oH pH vH sH tH uH aH bH cH dH eH hH iH kH jI qI yI zI fI gI nI rI mI lI oI pI sI tI uI aI bI cI dI eI hI iI jJ qJ yJ zJ fJ gJ nJ rJ mJ lJ oJ pJ vJ sJ tJ uJ aJ bJ cJ dJ eJ hJ iJ kJ jK qK yK zK fK gK nK rK mK lK oK pK vK sK tK uK aK bK cK dK eK iK kK jL qL yL fL gL nL rL:Value}
set_option maxHeartbeats 16000000
set_option maxRecDepth 1000000
theorem blkD10 {g B q3 q5 N:Nat}{S:Ty}{w3:World}{e2 line:Int}{kind name:ByteArray}{F:Option Addr}{m f:Nat}{T:Ty}{x8 x9:Int}{n kc k:Nat}{KA:Option Addr}{wc:World}(ok:(mkBK g B q3 q5 N S w3 e2 kind name F m f line).Ok) (hl:LI (mkBK g B q3 q5 N S w3 e2 kind name F m f line) T 0 n (vS KA n kc) wc) (hlt:k < m) (hn:n < 1000) (hm:m≤1000)
 {K K2 K3:Act→World→Prop}{post:Ending→World→Prop}
   (hK:∀ (jA qA yA zA fA nA rA mA lA oA pA vA sA tA uA aA bA cA dA eA hA iA kA jB qB yB zB fB gB nB rB mB lB oB pB sB tB uB aB bB dB eB hB iB kB jC qC yC zC fC gC nC rC mC lC oC pC vC sC tC uC aC bC cC dC eC hC iC kC jD qD yD zD fD gD nD rD mD lD oD pD vD sD tD uD aD bD cD dD eD hD iD kD jE qE yE zE fE gE nE rE:Value) (v4 y11:Value) (y8 y9:Int) (wx:World),(∃ T' e',Hid (LI (mkBK g B q3 q5 N S w3 e2 kind name F m f line) T' e' (n+1) v4 wx))→K ⟨#[vP (some ⟨g,0,none⟩),.agg #[vT kind,vT name,vS F m f,vI kI line],u2,vP (some ⟨q3,0,none⟩),v4,vP (some ⟨q5,0,none⟩),vP (some ⟨q5+1,0,none⟩),vP (some ⟨q5+1+1,0,none⟩),vI kI y8,vI kI y9,vI kI k,y11,mE,lE,oE,pE,vE,jA,qA,yA,zA,fA,nA,rA,mA,lA,oA,pA,vA,sA,tA,uA,aA,bA,cA,dA,eA,hA,iA,kA,jB,qB,yB,zB,fB,gB,nB,rB,mB,lB,oB,pB,sB,tB,uB,aB,bB,dB,eB,hB,iB,kB,jC,qC,yC,zC,fC,gC,nC,rC,mC,lC,oC,pC,vC,sC,tC,uC,aC,bC,cC,dC,eC,hC,iC,kC,jD,qD,yD,zD,fD,gD,nD,rD,mD,lD,oD,pD,vD,sD,tD,uD,aD,bD,cD,dD,eD,hD,iD,kD,jE,qE,yE,zE,fE,gE,nE,rE,sE,tE,uE,aE,bE,cE,dE,eE,hE,iE,kE,jF,qF,yF,zF,fF,gF,nF,rF,mF,lF,oF,pF,vF,sF,tF,uF,aF,bF,cF,dF,eF,hF,iF,kF,jG,qG,yG,zG,fG,gG,nG,rG,mG,lG,oG,vG,sG,tG,uG,aG,bG,cG,dG,eG,hG,iG,kG,jH,qH,yH,zH,fH,gH,nH,rH,mH,lH,oH,pH,vH,sH,tH,uH,aH,bH,cH,dH,eH,hH,iH,kH,jI,qI,yI,zI,fI,gI,nI,rI,mI,lI,oI,pI,sI,tI,uI,aI,bI,cI,dI,eI,hI,iI,jJ,qJ,yJ,zJ,fJ,gJ,nJ,rJ,mJ,lJ,oJ,pJ,vJ,sJ,tJ,uJ,aJ,bJ,cJ,dJ,eJ,hJ,iJ,kJ,jK,qK,yK,zK,fK,gK,nK,rK,mK,lK,oK,pK,vK,sK,tK,uK,aK,bK,cK,dK,eK,iK,kK,jL,qL,yL,fL,gL,nL,rL],[]⟩ wx) :
   Code.wp pG (seqL ((Tryz.f37.body.bind (findAt 10)).getD .skip)) (Exit.then (Code.wp pG (seqR ((Tryz.f37.body.bind (findAt 10)).getD .skip)) (Exit.inBlock 1 (Exit.then K (Exit.then K2 (Exit.inBlock 0 (Exit.then K3 (bodyPost pG Tryz.f37 post))))))) (Exit.inBlock 1 (Exit.then K (Exit.then K2 (Exit.inBlock 0 (Exit.then K3 (bodyPost pG Tryz.f37 post))))))) ⟨#[vP (some ⟨g,0,none⟩),.agg #[vT kind,vT name,vS F m f,vI kI line],u2,vP (some ⟨q3,0,none⟩),vS KA n kc,vP (some ⟨q5,0,none⟩),vP (some ⟨q5+1,0,none⟩),vP (some ⟨q5+1+1,0,none⟩),vI kI x8,vI kI x9,vI kI k,mL,mE,lE,oE,pE,vE,oL,pL,vL,sL,tL,uL,aL,bL,cL,dL,eL,hL,iL,kL,jM,qM,yM,zM,fM,gM,nM,rM,mM,lM,oM,pM,vM,sM,tM,uM,aM,bM,cM,dM,eM,hM,iM,kM,jN,qN,yN,zN,fN,gN,nN,rN,mN,lN,oN,pN,vN,sN,tN,uN,aN,cN,dN,eN,hN,iN,kN,jO,qO,yO,zO,fO,gO,nO,rO,mO,lO,oO,pO,vO,sO,tO,uO,aO,bO,cO,dO,eO,hO,iO,kO,jP,qP,yP,zP,fP,gP,nP,rP,mP,lP,oP,pP,sP,tP,uP,bP,sE,tE,uE,aE,bE,cE,dE,eE,hE,iE,kE,jF,qF,yF,zF,fF,gF,nF,rF,mF,lF,oF,pF,vF,sF,tF,uF,aF,bF,cF,dF,eF,hF,iF,kF,jG,qG,yG,zG,fG,gG,nG,rG,mG,lG,oG,vG,sG,tG,uG,aG,bG,cG,dG,eG,hG,iG,kG,jH,qH,yH,zH,fH,gH,nH,rH,mH,lH,oH,pH,vH,sH,tH,uH,aH,bH,cH,dH,eH,hH,iH,kH,jI,qI,yI,zI,fI,gI,nI,rI,mI,lI,oI,pI,sI,tI,uI,aI,bI,cI,dI,eI,hI,iI,jJ,qJ,yJ,zJ,fJ,gJ,nJ,rJ,mJ,lJ,oJ,pJ,vJ,sJ,tJ,uJ,aJ,bJ,cJ,dJ,eJ,hJ,iJ,kJ,jK,qK,yK,zK,fK,gK,nK,rK,mK,lK,oK,pK,vK,sK,tK,uK,aK,bK,cK,dK,eK,iK,kK,jL,qL,yL,fL,gL,nL,rL],[]⟩ wc:=by
  have Ok:=hide ok;have HL:=hide hl;have hki:(k:Int) < (m:Int):=by omega
  obtain⟨bf,key,D,md,dc,x,rfl,hbf,_,hbn,hkey,hsl,i0,i1,i2⟩:=(ok.fl.mono hl.stp.le).fld hl.sta.tw hlt;clear hl ok;try dsimp only at hbf hkey hsl i0 i1 i2
  obtain⟨c17,k0,k1,k2,k3,hlg,hlq⟩:=HL.out.cells;dsimp only at c17 k0 k1 k2 k3 hlg hlq;conv=>pattern (seqL _);whnf
  conv=>pattern (seqR _);whnf
  refine wp_open (fun K0 hK0=>?_);dsimp only;go_upto_region 11 with (fail);obtain⟨wf,hwf⟩:∃ r,wc.alloc (.cells #[vT key,vS D md dc,vI kI x] 89)=r:=⟨_,rfl⟩;have hbf2:Below wc.heap.size wc wf:=by rw[← hwf];exact(bR _ _).alloc (lR _) _
  obtain⟨qf,hqf⟩:∃ q,wc.heap.size=q:=⟨_,rfl⟩;have hlf:LF (mkBK g B q3 q5 N S w3 e2 kind name (some ⟨bf,0,none⟩) m f line) T 0 n (vS KA n kc) qf key D md dc x wf:=by have hsz:w3.heap.size≤wc.heap.size:=HL.out.stp.size;have hgl':g < wc.heap.size:=HL.out.sta.lt;obtain⟨l3,l5,l6,l7⟩:=Ok.out.lt;dsimp only at l3 l5 l6 l7;refine⟨HL.out.below Ok.out hbf2,?_,HL.out.sta.tw.none_ge (by omega),⟨by show qf≠g;omega,by show qf≠q5;omega,by show qf≠q5+1;omega,by show qf≠q5+1+1;omega⟩,hkey,hsl⟩;rw[← hwf,← hqf];exact Box.new _ _ _
  rw[hwf,hqf];have HLF:=hide hlf;clear c17 k0 k1 k2 k3 hlg hlq i0 i1 i2 hbf2 hwf hqf hlf hkey hsl HL hbf hbn;refine wp_close (blkD1 Ok.out HLF.out ?_) (by assumption);intro jA qA yA zA fA nA rA mA lA oA pA vA sA tA uA aA bA cA dA eA hA iA kA jB qB yB zB fB gB nB rB mB lB oB pB sB tB uB aB bB dB eB hB iB kB jC qC yC zC fC gC nC rC mC lC oC pC vC sC tC uC aC bC cC dC eC hC iC kC jD qD yD zD fD gD nD rD mD lD oD pD vD sD tD uD aD bD cD dD eD hD iD kD jE qE yE zE fE gE nE rE wx ⟨e4,HF1⟩;clear HLF;go_upto_region 13 with fail;refine wp_close (blkD2 Ok.out HF1.out ?_) (by assumption);intro jA qA yA zA fA nA rA mA lA oA pA vA sA tA uA aA bA cA dA eA hA iA kA jB qB yB zB fB gB nB rB mB lB oB pB sB tB uB aB bB dB eB hB iB kB jC qC yC zC fC gC nC rC mC lC oC pC vC sC tC uC aC bC cC dC eC hC iC kC jD qD yD zD fD gD nD rD mD lD oD pD vD sD tD uD aD bD cD dD eD hD iD kD jE qE yE zE fE gE nE rE wy ⟨e5,HF2⟩;clear HF1;obtain⟨c17,k0,k1,k2,k3,hlg,hlq⟩:=HF2.out.li.cells;dsimp only at c17 k0 k1 k2 k3 hlg hlq;obtain⟨j0,j1,j2,hlf⟩:=HF2.out.cells;obtain⟨A7,c7,w7,T7,hr7,hf7⟩:=known_fld HF2.out Ok.out (by omega) 22;have HR7:=hide hr7;have HF7:=hide hf7;clear hr7 hf7;go_upto_block 2 with ((with_reducible refine gV 61 (Value.slice A7 (n+1) c7) w7 ?_ ?_ ?_);rfl;exact gives_append rfl rfl rfl HR7.out);clear c17 k0 k1 k2 k3 hlg hlq j0 j1 j2 hlf HF2 HR7;go_upto_region 17 with fail;refine wp_close (blkD17 Ok.out HF7.out ?_) (by assumption);intros;apply hK;assumption
end
section
variable {u2 mE lE oE pE vE sE tE uE aE bE cE dE eE hE iE kE jF qF yF zF fF gF nF rF mF lF oF pF vF sF tF uF aF bF cF dF eF hF iF kF jG qG yG zG fG gG nG rG mG lG oG vG sG tG uG aG bG cG dG eG hG iG kG jH qH yH zH fH gH nH rH mH lH oH pH vH sH tH uH aH bH cH dH eH hH iH kH jI qI yI zI fI gI nI rI mI lI oI pI sI tI uI aI bI cI dI eI hI iI jJ qJ yJ zJ fJ gJ nJ rJ mJ lJ oJ pJ vJ sJ tJ uJ aJ bJ cJ dJ eJ hJ iJ kJ jK qK yK zK fK gK nK rK mK lK oK pK vK sK tK uK aK bK cK dK eK iK kK jL qL yL fL gL nL rL mL oL pL vL sL tL uL aL bL cL dL eL hL iL kL jM qM yM zM fM gM nM rM mM lM oM pM vM sM tM uM aM bM cM dM eM hM iM kM jN qN yN zN fN gN nN rN mN lN oN pN vN sN tN uN aN cN dN eN hN iN kN jO qO yO zO fO gO nO rO mO lO oO pO vO sO tO uO aO bO cO dO eO hO iO kO jP qP yP zP fP gP nP rP mP lP oP pP sP tP uP bP:Value}
def LW (b:BK) (k:Nat) (v:Value) (w:World):Prop:=∃ T e m,LI b T e m v w∧m≤k
set_option maxHeartbeats 16000000
set_option maxRecDepth 1000000
theorem blkD0 {g B q3 q5 N:Nat}{S:Ty}{w3:World}{e2 line:Int}{kind name:ByteArray}{F:Option Addr}{m f:Nat}{T:Ty}{e5:Int}{wc:World}(ok:(mkBK g B q3 q5 N S w3 e2 kind name F m f line).Ok) (hl:LI (mkBK g B q3 q5 N S w3 e2 kind name F m f line) T e5 0 (vS none 0 0) wc) (hm:m≤1000)
 {K:Act→World→Prop}{post:Ending→World→Prop}
   (hK:∀ (x2 cP dP eP hP iP kP jQ jA qA yA zA fA nA rA mA lA oA pA vA sA tA uA aA bA cA dA eA hA iA kA jB qB yB zB fB gB nB rB mB lB oB pB sB tB uB aB bB dB eB hB iB kB jC qC yC zC fC gC nC rC mC lC oC pC vC sC tC uC aC bC cC dC eC hC iC kC jD qD yD zD fD gD nD rD mD lD oD pD vD sD tD uD aD bD cD dD eD hD iD kD jE qE yE zE fE gE nE rE qQ yQ zQ fQ gQ nQ rQ mQ lQ oQ pQ vQ sQ tQ uQ aQ bQ cQ dQ eQ hQ iQ kQ jR qR yR zR fR gR nR rR mR oR pR vR sR tR uR aR cR dR eR hR iR kR jS qS yS zS fS nS rS mS lS oS pS sS tS uS bS cS eS hS iS kS jT qT yT zT fT gT nT rT mT oT pT sT tT uT aT bT cT dT eT hT iT kT jU qU yU zU fU gU nU rU mU lU oU pU vU sU tU uU bU cU dU eU hU iU kU jV qV yV zV fV nV rV mV lV oV pV vV sV tV uV aV bV cV dV eV hV iV kV jW qW yW zW fW gW nW rW mW lW oW pW vW sW tW uW aW bW cW dW eW hW iW kW jX:Value) (v4:Value) (y8 y9:Int) (wx:World),(∃ T' e' n',Hid (LI (mkBK g B q3 q5 N S w3 e2 kind name F m f line) T' e' n' v4 wx)∧n'≤1000)→K ⟨#[vP (some ⟨g,0,none⟩),.agg #[vT kind,vT name,vS F m f,vI kI line],x2,vP (some ⟨q3,0,none⟩),v4,vP (some ⟨q5,0,none⟩),vP (some ⟨q5+1,0,none⟩),vP (some ⟨q5+1+1,0,none⟩),vI kI y8,vI kI y9,cP,dP,eP,hP,iP,kP,jQ,jA,qA,yA,zA,fA,nA,rA,mA,lA,oA,pA,vA,sA,tA,uA,aA,bA,cA,dA,eA,hA,iA,kA,jB,qB,yB,zB,fB,gB,nB,rB,mB,lB,oB,pB,sB,tB,uB,aB,bB,dB,eB,hB,iB,kB,jC,qC,yC,zC,fC,gC,nC,rC,mC,lC,oC,pC,vC,sC,tC,uC,aC,bC,cC,dC,eC,hC,iC,kC,jD,qD,yD,zD,fD,gD,nD,rD,mD,lD,oD,pD,vD,sD,tD,uD,aD,bD,cD,dD,eD,hD,iD,kD,jE,qE,yE,zE,fE,gE,nE,rE,qQ,yQ,zQ,fQ,gQ,nQ,rQ,mQ,lQ,oQ,pQ,vQ,sQ,tQ,uQ,aQ,bQ,cQ,dQ,eQ,hQ,iQ,kQ,jR,qR,yR,zR,fR,gR,nR,rR,mR,oR,pR,vR,sR,tR,uR,aR,cR,dR,eR,hR,iR,kR,jS,qS,yS,zS,fS,nS,rS,mS,lS,oS,pS,sS,tS,uS,bS,cS,eS,hS,iS,kS,jT,qT,yT,zT,fT,gT,nT,rT,mT,oT,pT,sT,tT,uT,aT,bT,cT,dT,eT,hT,iT,kT,jU,qU,yU,zU,fU,gU,nU,rU,mU,lU,oU,pU,vU,sU,tU,uU,bU,cU,dU,eU,hU,iU,kU,jV,qV,yV,zV,fV,nV,rV,mV,lV,oV,pV,vV,sV,tV,uV,aV,bV,cV,dV,eV,hV,iV,kV,jW,qW,yW,zW,fW,gW,nW,rW,mW,lW,oW,pW,vW,sW,tW,uW,aW,bW,cW,dW,eW,hW,iW,kW,jX],[]⟩ wx) :
   Code.wp pG ((Tryz.f37.body.bind (findBlk 0)).getD .skip) (Exit.then K (bodyPost pG Tryz.f37 post)) ⟨#[vP (some ⟨g,0,none⟩),.agg #[vT kind,vT name,vS F m f,vI kI line],u2,vP (some ⟨q3,0,none⟩),vS none 0 0,vP (some ⟨q5,0,none⟩),vP (some ⟨q5+1,0,none⟩),vP (some ⟨q5+1+1,0,none⟩),vI kI 0,vI kI 0,vI kI 0,mE,lE,oE,pE,vE,sE,tE,uE,aE,bE,cE,dE,eE,hE,iE,kE,jF,qF,yF,zF,fF,gF,nF,rF,mF,lF,oF,pF,vF,sF,tF,uF,aF,bF,cF,dF,eF,hF,iF,kF,jG,qG,yG,zG,fG,gG,nG,rG,mG,lG,oG,vG,sG,tG,uG,aG,bG,cG,dG,eG,hG,iG,kG,jH,qH,yH,zH,fH,gH,nH,rH,mH,lH,oH,pH,vH,sH,tH,uH,aH,bH,cH,dH,eH,hH,iH,kH,jI,qI,yI,zI,fI,gI,nI,rI,mI,lI,oI,pI,sI,tI,uI,aI,bI,cI,dI,eI,hI,iI,jJ,qJ,yJ,zJ,fJ,gJ,nJ,rJ,mJ,lJ,oJ,pJ,vJ,sJ,tJ,uJ,aJ,bJ,cJ,dJ,eJ,hJ,iJ,kJ,jK,qK,yK,zK,fK,gK,nK,rK,mK,lK,oK,pK,vK,sK,tK,uK,aK,bK,cK,dK,eK,iK,kK,jL,qL,yL,fL,gL,nL,rL,mL,oL,pL,vL,sL,tL,uL,aL,bL,cL,dL,eL,hL,iL,kL,jM,qM,yM,zM,fM,gM,nM,rM,mM,lM,oM,pM,vM,sM,tM,uM,aM,bM,cM,dM,eM,hM,iM,kM,jN,qN,yN,zN,fN,gN,nN,rN,mN,lN,oN,pN,vN,sN,tN,uN,aN,cN,dN,eN,hN,iN,kN,jO,qO,yO,zO,fO,gO,nO,rO,mO,lO,oO,pO,vO,sO,tO,uO,aO,bO,cO,dO,eO,hO,iO,kO,jP,qP,yP,zP,fP,gP,nP,rP,mP,lP,oP,pP,sP,tP,uP,bP],[]⟩ wc:=by
  have Ok:=hide ok;have HL:=hide hl;clear hl;obtain⟨c17,k0,k1,k2,k3,hlg,hlq⟩:=HL.out.cells;dsimp only at c17 k0 k1 k2 k3 hlg hlq;conv=>arg 2;whnf
  dsimp only;go_wp2_with fail;go_loopw [4,8,9,10,11,67,74,91,107] (fun v d s i _ _ _ _ _ wr=>∃ k:Nat,k≤m∧i=vI kI k∧(∃ u,v=u∧Hid (LW (mkBK g B q3 q5 N S w3 e2 kind name F m f line) k u wr))∧(∃ x,d=vI kI x)∧∃ y,s=vI kI y) (fun _ _ _ i _ _ _ _ _ _=>m - (iOf i).toNat);case atStart=>exact⟨0,zL _,rfl,⟨_,rfl,⟨_,_,0,HL.out,lR _⟩⟩,⟨_,rfl⟩,⟨_,rfl⟩⟩
  case round=>
   obtain⟨k,hk,rfl,⟨v,rfl,HW⟩,⟨x8,rfl⟩,⟨x9,rfl⟩⟩:=hrel;obtain⟨T,e',n,hli,hnk⟩:=HW.out;have HLI:=hide hli;clear c17 k0 k1 k2 k3 hlg hlq HL;obtain⟨c17,k0,k1,k2,k3,hlg,hlq⟩:=hli.cells;dsimp only at c17 k0 k1 k2 k3 hlg hlq;obtain⟨KA,kc,rfl,_,_⟩:=hli.kn.form;clear hli HW;by_cases hlt:k < m
   ·have hki:(k:Int) < (m:Int):=by omega
    by_cases h0:e'=0
    ·subst h0;go_upto_region 10 with fail;refine wp_close (blkD10 Ok.out HLI.out hlt (by omega) hm ?_) (by assumption);intro jA qA yA zA fA nA rA mA lA oA pA vA sA tA uA aA bA cA dA eA hA iA kA jB qB yB zB fB gB nB rB mB lB oB pB sB tB uB aB bB dB eB hB iB kB jC qC yC zC fC gC nC rC mC lC oC pC vC sC tC uC aC bC cC dC eC hC iC kC jD qD yD zD fD gD nD rD mD lD oD pD vD sD tD uD aD bD cD dD eD hD iD kD jE qE yE zE fE gE nE rE v4 y11 y8 y9 wx ⟨T2,e4,HF1⟩;clear c17 k0 k1 k2 k3 hlg hlq HLI;go_wp2_with fail;go_roundw;case rel=>exact⟨k+1,by omega,by go_num,⟨_,rfl,⟨T2,e4,n+1,HF1.out,by omega⟩⟩,⟨_,rfl⟩,⟨_,rfl⟩⟩
     case measure=>simp[iOf];omega
    ·have h0':(e'==0)=false:=bN h0;go_wp2_with fail;exact⟨T,e',n,HLI,by omega⟩
   ·obtain rfl:k=m:=by omega
    go_wp2_with fail;exact⟨T,e',n,HLI,by omega⟩
end
section
variable {u2 jA qA yA zA fA nA rA mA lA oA pA vA sA tA uA aA bA cA dA eA hA iA kA jB qB yB zB fB gB nB rB mB lB oB pB sB tB uB aB bB dB eB hB iB kB jC qC yC zC fC gC nC rC mC lC oC pC vC sC tC uC aC bC cC dC eC hC iC kC jD qD yD zD fD gD nD rD mD lD oD pD vD sD tD uD aD bD cD dD eD hD iD kD jE qE yE zE fE gE nE rE mE lE oE pE vE sE tE uE aE bE cE dE eE hE iE kE jF qF yF zF fF gF nF rF mF lF oF pF vF sF tF uF aF bF cF dF eF hF iF kF jG qG yG zG fG gG nG rG mG lG oG vG sG tG uG aG bG cG dG eG hG iG kG jH qH yH zH fH gH nH rH mH lH oH pH vH sH tH uH aH bH cH dH eH hH iH kH jI qI yI zI fI gI nI rI mI lI oI pI sI tI uI aI bI cI dI eI hI iI jJ qJ yJ zJ fJ gJ nJ rJ mJ lJ oJ pJ vJ sJ tJ uJ aJ bJ cJ dJ eJ hJ iJ kJ jK qK yK zK fK gK nK rK mK lK oK pK vK sK tK uK aK bK cK dK eK iK kK jL qL yL fL gL nL rL:Value}
set_option maxHeartbeats 16000000
set_option maxRecDepth 1000000
theorem blkD3 {g B q3 q5 N:Nat}{S:Ty}{w3:World}{e2 line:Int}{kind name:ByteArray}{F:Option Addr}{m f:Nat}{T:Ty}{e5 x8 x9:Int}{n kc:Nat}{KA LA:Option Addr}{kl:List ByteArray}{wc:World}(ok:(mkBK g B q3 q5 N S w3 e2 kind name F m f line).Ok) (hl:LI (mkBK g B q3 q5 N S w3 e2 kind name F m f line) T e5 n (vS KA n kc) wc) (hkl:Lst g wc LA kl) (hk8:kl.length≤8)
 {K:Act→World→Prop}{post:Ending→World→Prop}
   (hK:∀ (x2 mL oL pL vL sL tL uL aL bL cL dL eL hL iL kL jM qM yM zM fM gM nM rM mM lM oM pM vM sM tM uM aM bM cM dM eM hM iM kM jN qN yN zN fN gN nN rN mN lN oN pN vN sN tN uN aN cN dN eN hN iN kN jO qO yO zO fO gO nO rO mO lO oO pO vO sO tO uO aO bO cO dO eO hO iO kO jP qP yP zP fP gP nP rP mP lP oP pP sP tP uP bP cP dP eP hP iP kP jQ qQ yQ zQ fQ gQ nQ rQ mQ lQ oQ pQ vQ sQ tQ uQ aQ bQ cQ dQ eQ hQ iQ kQ jR qR yR zR fR gR nR rR mR oR pR vR sR tR uR aR cR dR eR hR iR kR jS qS yS zS fS nS rS mS lS oS pS sS tS uS bS cS eS hS iS kS jT qT yT zT fT gT nT rT mT oT pT sT tT uT aT bT cT dT eT hT iT kT jU qU yU zU fU gU nU rU mU lU oU pU vU sU tU uU bU cU dU eU hU iU kU jV qV yV zV fV nV rV mV lV oV pV vV sV tV uV aV bV cV dV eV hV iV kV jW qW yW zW fW gW nW rW mW lW oW pW vW sW tW uW aW bW cW dW eW hW iW kW:Value)  (wx:World),(∃ e',Hid (LI (mkBK g B q3 q5 N S w3 e2 kind name F m f line) T e' n (vS KA n kc) wx))→K ⟨#[vP (some ⟨g,0,none⟩),.agg #[vT kind,vT name,vS F m f,vI kI line],x2,vP (some ⟨q3,0,none⟩),vS KA n kc,vP (some ⟨q5,0,none⟩),vP (some ⟨q5+1,0,none⟩),vP (some ⟨q5+1+1,0,none⟩),vI kI x8,vI kI x9,mL,oL,pL,vL,sL,tL,uL,aL,bL,cL,dL,eL,hL,iL,kL,jM,qM,yM,zM,fM,gM,nM,rM,mM,lM,oM,pM,vM,sM,tM,uM,aM,bM,cM,dM,eM,hM,iM,kM,jN,qN,yN,zN,fN,gN,nN,rN,mN,lN,oN,pN,vN,sN,tN,uN,aN,cN,dN,eN,hN,iN,kN,jO,qO,yO,zO,fO,gO,nO,rO,mO,lO,oO,pO,vO,sO,tO,uO,aO,bO,cO,dO,eO,hO,iO,kO,jP,qP,yP,zP,fP,gP,nP,rP,mP,lP,oP,pP,sP,tP,uP,bP,cP,dP,eP,hP,iP,kP,jQ,qQ,yQ,zQ,fQ,gQ,nQ,rQ,mQ,lQ,oQ,pQ,vQ,sQ,tQ,uQ,aQ,bQ,cQ,dQ,eQ,hQ,iQ,kQ,jR,qR,yR,zR,fR,gR,nR,rR,mR,oR,pR,vR,sR,tR,uR,aR,cR,dR,eR,hR,iR,kR,jS,qS,yS,zS,fS,nS,rS,mS,lS,oS,pS,sS,tS,uS,bS,cS,eS,hS,iS,kS,jT,qT,yT,zT,fT,gT,nT,rT,mT,oT,pT,sT,tT,uT,aT,bT,cT,dT,eT,hT,iT,kT,jU,qU,yU,zU,fU,gU,nU,rU,mU,lU,oU,pU,vU,sU,tU,uU,bU,cU,dU,eU,hU,iU,kU,jV,qV,yV,zV,fV,nV,rV,mV,lV,oV,pV,vV,sV,tV,uV,aV,bV,cV,dV,eV,hV,iV,kV,jW,qW,yW,zW,fW,gW,nW,rW,mW,lW,oW,pW,vW,sW,tW,uW,aW,bW,cW,dW,eW,hW,iW,kW],[]⟩ wx) :
   Code.wp pG ((Tryz.f37.body.bind (findBlk 3)).getD .skip) (Exit.then K (bodyPost pG Tryz.f37 post)) ⟨#[vP (some ⟨g,0,none⟩),.agg #[vT kind,vT name,vS F m f,vI kI line],u2,vP (some ⟨q3,0,none⟩),vS KA n kc,vP (some ⟨q5,0,none⟩),vP (some ⟨q5+1,0,none⟩),vP (some ⟨q5+1+1,0,none⟩),vI kI x8,vI kI x9,jA,qA,vS LA kl.length kl.length,vI kI 0,yA,zA,fA,nA,rA,mA,lA,oA,pA,vA,sA,tA,uA,aA,bA,cA,dA,eA,hA,iA,kA,jB,qB,yB,zB,fB,gB,nB,rB,mB,lB,oB,pB,sB,tB,uB,aB,bB,dB,eB,hB,iB,kB,jC,qC,yC,zC,fC,gC,nC,rC,mC,lC,oC,pC,vC,sC,tC,uC,aC,bC,cC,dC,eC,hC,iC,kC,jD,qD,yD,zD,fD,gD,nD,rD,mD,lD,oD,pD,vD,sD,tD,uD,aD,bD,cD,dD,eD,hD,iD,kD,jE,qE,yE,zE,fE,gE,nE,rE,mE,lE,oE,pE,vE,sE,tE,uE,aE,bE,cE,dE,eE,hE,iE,kE,jF,qF,yF,zF,fF,gF,nF,rF,mF,lF,oF,pF,vF,sF,tF,uF,aF,bF,cF,dF,eF,hF,iF,kF,jG,qG,yG,zG,fG,gG,nG,rG,mG,lG,oG,vG,sG,tG,uG,aG,bG,cG,dG,eG,hG,iG,kG,jH,qH,yH,zH,fH,gH,nH,rH,mH,lH,oH,pH,vH,sH,tH,uH,aH,bH,cH,dH,eH,hH,iH,kH,jI,qI,yI,zI,fI,gI,nI,rI,mI,lI,oI,pI,sI,tI,uI,aI,bI,cI,dI,eI,hI,iI,jJ,qJ,yJ,zJ,fJ,gJ,nJ,rJ,mJ,lJ,oJ,pJ,vJ,sJ,tJ,uJ,aJ,bJ,cJ,dJ,eJ,hJ,iJ,kJ,jK,qK,yK,zK,fK,gK,nK,rK,mK,lK,oK,pK,vK,sK,tK,uK,aK,bK,cK,dK,eK,iK,kK,jL,qL,yL,fL,gL,nL,rL],[]⟩ wc:=by
  have Ok:=hide ok;have HL:=hide hl;have HKl:=hide hkl;clear hl hkl;obtain⟨c17,k0,k1,k2,k3,hlg,hlq⟩:=HL.out.cells;dsimp only at c17 k0 k1 k2 k3 hlg hlq;conv=>arg 2;whnf
  dsimp only;go_wp2_with fail;go_loopw [13] (fun i wr=>∃ k:Nat,k≤kl.length∧i=vI kI k∧(∃ e',Hid (LI (mkBK g B q3 q5 N S w3 e2 kind name F m f line) T e' n (vS KA n kc) wr))∧Hid (Lst g wr LA kl)) (fun i _=>kl.length - (iOf i).toNat);case atStart=>exact⟨0,zL _,rfl,⟨e5,HL.out⟩,HKl.out⟩
  case round=>
   obtain⟨k,hk,rfl,⟨e6,HL5⟩,HK5⟩:=hrel;clear c17 k0 k1 k2 k3 hlg hlq HL;obtain⟨c17,k0,k1,k2,k3,hlg,hlq⟩:=HL5.out.cells;dsimp only at c17 k0 k1 k2 k3 hlg hlq;by_cases hlt:k < kl.length
   ·have hki:(k:Int) < (kl.length:Int):=by omega
    by_cases h0:e6=0
    ·subst h0;obtain⟨bk,off,rfl,hbk,hcs⟩:=HK5.out.at_ hlt;have hbk:=hbk.1;generalize kl.getD k default=s at *;obtain⟨r,hr⟩:=find_blk HL5.out s;have HR:=hide hr;obtain⟨y,hy,hyf⟩:=HL5.out.con.cell (j:=2) (by decide);obtain⟨y,rfl⟩:=hyf;dsimp only at hy;have hl5:=HL5.out.con.lt;dsimp only at hl5;clear hr;go_upto_region 32 with fail;go_cut [153] (fun q wx=>(∃ b:Bool,q=.bool b)∧Hid (wx=wr));case first=>
      go_wp2_with fail;refine HR.out.mono ?_;rintro en w6 ⟨rfl,hw6⟩;try dsimp only
      by_cases hr0:r < 0
      ·cases hd:(s.toList==[100,105,103,105,116,115]) with
       |true=>go_wp2_with fail;go_meet;exact⟨⟨_,rfl⟩,by first|rfl|exact hw6⟩
       |false=>go_wp2_with fail;go_meet;exact⟨⟨_,rfl⟩,by first|rfl|exact hw6⟩
      ·go_wp2_with fail;go_meet;exact⟨⟨_,rfl⟩,by first|rfl|exact hw6⟩
     case rest=>
      obtain⟨⟨q,rfl⟩,hwc⟩:=hcut;obtain rfl:=hwc.out;cases q with
      |true=>
       go_wp2_with fail;refine(fail_blk2 HL5.out Ok.out _ _ (by decide)).mono ?_;rintro en w6 ⟨rfl,⟨e6,h6⟩,hg6⟩;try dsimp only
       have H6:=hide h6;have HK6:=hide (HK5.out.grown hg6);clear h6 hg6;go_wp2_with fail;go_roundw;case rel=>exact⟨k+1,by omega,by go_num,⟨e6,H6.out⟩,HK6.out⟩
       case measure=>simp[iOf];omega
      |false=>
       go_wp2_with fail;go_roundw;case rel=>exact⟨k+1,by omega,by go_num,⟨0,HL5.out⟩,HK5.out⟩
       case measure=>simp[iOf];omega
    ·have h0':(e6==0)=false:=bN h0;go_wp2_with fail;exact⟨e6,HL5.out⟩
   ·obtain rfl:k=kl.length:=by omega
    go_wp2_with fail;exact⟨e6,HL5.out⟩
end
end Go.Proofs.YtnndaemmgbkjbaaGreatDoor
