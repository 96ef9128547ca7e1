/-
  parts of the proof: Wd3 WdAny.
-/
import Derived.Test.YtnndaemmgbkjbaaGreatDoorPU
import Derived.Test.YtnndaemmgbkjbaaGreatDoorPC
import Derived.Test.YtnndaemmgbkjbaaGreatDoorPW
import Derived.Test.YtnndaemmgbkjbaaGreatDoorPK
namespace Go.Proofs.YtnndaemmgbkjbaaGreatDoor
open Go.RowKit
open Go.Act renaming put → aP
open List renaming setIfInBounds_toArray → aS, set_cons_zero → aZ, set_cons_succ → aU
open Go.World renaming cell?_of_block → cB
open Nat renaming lt_of_lt_of_le → lL, le_refl → lR, zero_le → zL
open Go.RowKit.Below renaming refl → bR
open _root_.Go.Proofs.Tryz renaming prog → pG
open Go.Value renaming int → vI, slice → vS, string → vT, bool → vB
open Go.IntKind renaming i64 → kI
set_option linter.unusedVariables false
set_option linter.unusedSimpArgs false
section
def Lb (lb lo:Nat) (b:ByteArray) (v:World):Prop:=v.cell? ⟨lb,lo+2,none⟩=some (vT b)∧lb < v.heap.size
def Ls (w w3:World) (nk no:Nat) (na nb:Int) (v:World):Prop:=v.cell? ⟨nk,no,none⟩=some (vI kI na)∧v.cell? ⟨nk,no+1,none⟩=some (vI kI nb)∧nk < v.heap.size
theorem ls_start {w w3:World}{nk no g6 g8:Nat}{na nb:Int}{t6 t8:TypeId}{c6 c8:Array Value}(h8:Box w3 g8 t8 c8) (h6:Box w3 g6 t6 c6) (hB:Below w.heap.size w w3) (n0:w3.cell? ⟨nk,no,none⟩=some (vI kI na)) (n1:w3.cell? ⟨nk,no+1,none⟩=some (vI kI nb)) (hn:nk < w3.heap.size):Ls w w3 nk no na nb (w3.drewN 1):=⟨n0,n1,hn⟩
theorem ls_set {w w3:World}{nk no q j:Nat}{na nb:Int}{u:Value}(hne:nk≠q) (n0:w3.cell? ⟨nk,no,none⟩=some (vI kI na)) (n1:w3.cell? ⟨nk,no+1,none⟩=some (vI kI nb)) (hn:nk < w3.heap.size):Ls w w3 nk no na nb ((w3.setCell ⟨q,j,none⟩ u).drew):=by
 refine⟨(cB (Below.heap_setCell _ _ _ nk (fun e=>hne e))).trans n0,(cB (Below.heap_setCell _ _ _ nk (fun e=>hne e))).trans n1,?_⟩;show nk < (w3.setCell ⟨q,j,none⟩ u).heap.size;simp[World.setCell];exact hn
theorem ls_set2 {w w3 v:World}{nk no q j:Nat}{na nb:Int}{u:Value}(hne:nk≠q) (h:Ls w w3 nk no na nb v):Ls w w3 nk no na nb (v.setCell ⟨q,j,none⟩ u):=by
 refine⟨(cB (Below.heap_setCell _ _ _ nk (fun e=>hne e))).trans h.1,(cB (Below.heap_setCell _ _ _ nk (fun e=>hne e))).trans h.2.1,?_⟩;simp[World.setCell];exact h.2.2
set_option maxHeartbeats 1000000
set_option maxRecDepth 100000
theorem lies_any {w:World} :
  Calls pG 58 #[] w fun en w'=>en=.returned (vS (some ⟨w.heap.size,0,none⟩) 5 5)∧Strs w' (some ⟨w.heap.size,0,none⟩) liesL∧Below w.heap.size w w':=by
 have HP:=hide (keysPost (w:=w) (l:=liesL) rfl);unfold liesL at HP;go_enter Tryz.func58,Tryz.ntmps58;go_wp2_with fail;go_ret;exact⟨rfl,HP.out.mono fun i hi=>hi.2,(bR _ _).alloc (lR _) _⟩
set_option maxHeartbeats 2000000
theorem sindex_any {A:Option Addr}{c:Nat}{l:List ByteArray}{s:ByteArray}{w:World}(h:Strs w A l) (hm:l.length≤1000000) :
  Calls pG 57 #[vS A l.length c,vT s] w fun e w'=>e=.returned (vI kI (posS l s))∧w'=w:=by
 have H:=hide h;have HY:=hide (fun k hk h0 h=>posS_yes (l:=l) (s:=s) (k:=k) hk h0 h);have HN:=hide (fun h0=>posS_no (l:=l) (s:=s) h0);clear h;obtain⟨r,hr⟩:∃ r,posS l s=r:=⟨_,rfl⟩;rw[hr]at HY HN ⊢;clear hr;go_enter Tryz.func57,Tryz.ntmps57;go_wp2_with fail;go_loopw [5,8] (fun _ i wr=>∃ k:Nat,k≤l.length∧i=vI kI k∧Hid (∀ j,j < k→l.getD j default≠s)∧wr=w) (fun _ i _=>l.length - (iOf i).toNat);case atStart=>exact⟨0,zL _,rfl,(fun j hj=>by omega),rfl⟩
 case round=>
  obtain⟨k,hk,rfl,HS,rfl⟩:=hrel;by_cases hlt:k < l.length
  ·obtain⟨b,off,rfl,hb,h1⟩:=H.out.at_ hlt;have HYk:=hide (HY.out k hlt HS.out);have HS1:Hid (l.getD k default≠s→∀ j,j < k+1→l.getD j default≠s):=fun e j hj=>by
    by_cases ej:j=k
    ·rw[ej];exact e
    ·exact HS.out j (by omega)
   generalize l.getD k default=x at *;by_cases hxy:x=s
   ·have hv:=hide (HYk.out hxy);have hne:(s.toList==x.toList)=true:=by rw[beq_bytes,decide_eq_true hxy.symm]
    clear hxy;go_wp2_with fail;go_ret;exact⟨by rw[hv.out];rfl,rfl⟩
   ·have HS2:=hide (HS1.out hxy);have hne:(s.toList==x.toList)=false:=by rw[beq_bytes,decide_eq_false (fun e=>hxy e.symm)]
    clear hxy;go_wp2_with fail;go_roundw;case rel=>exact⟨k+1,by omega,by go_num,HS2.out,by first|rfl|trivial⟩
    case measure=>simp[iOf];omega
  ·obtain rfl:k=l.length:=by omega
   have hv:=hide (HN.out HS.out);go_wp2_with fail;go_ret;exact⟨by rw[hv.out];rfl,rfl⟩
set_option maxHeartbeats 16000000
set_option maxRecDepth 1000000
theorem wd_send0 {e:EV}{P C:List ByteArray}{B:Option Addr}{d:Nat}{r:List ByteArray}{x a b:ByteArray}{word:ByteArray}{w:World}(hword:word.toList=wSend) (hE:Elec w e P C) (hP:P.length≤1000000) (hPn:∀ n ∈ P,n.size≤3000000) (hC:C.length≤1000000) (hCn:∀ n ∈ C,n.size≤3000000) (hM:Max w) (hr:Strs w B ([])) (hd:0≤d) (hd2:d≤1000000) (hs:∀ s ∈ ([]:List ByteArray),s.size≤1000000)  :
  Calls pG 24 #[.agg (e.cells P.length C.length),vT word,vS B (0) d] w (WordsP ({ zeroO with kind:=7 }) false w):=by
 obtain⟨w1,hw1,hs1,hb1,hXe,hXr,hXo⟩:=words_boxes (w:=w) (e:=e) (p:=P.length) (c:=C.length);have nIssue:(word.toList==[105,115,115,117,101])=false:=by rw[hword];rfl
 have nSpoil:(word.toList==[115,112,111,105,108])=false:=by rw[hword];rfl
 have nAudit:(word.toList==[97,117,100,105,116])=false:=by rw[hword];rfl
 have nRestart:(word.toList==[114,101,115,116,97,114,116])=false:=by rw[hword];rfl
 have ySend:(word.toList==[115,101,110,100])=true:=by rw[hword];rfl
 obtain⟨w2,hw2⟩:∃ q,w1.setCell ⟨w.heap.size+1+1,0,none⟩ (vI kI 7)=q:=⟨_,rfl⟩;have hXo2:Box (w1.setCell ⟨w.heap.size+1+1,0,none⟩ (vI kI 7)) (w.heap.size+1+1) 36 #[vI kI 7,vI kI 0,vI kI 0,vI kI 0,vI kI 0,vI kI 0,vS none 0 0,vS none 0 0,vB false,vB false,vB false,vT ⟨#[]⟩]:=hXo.set 0 (vI kI 7);have hXr2:=hXr.far (p:=⟨w.heap.size+1+1,0,none⟩) (by show w.heap.size+1≠w.heap.size+1+1;omega) (vI kI 7);have hXe2:=hXe.far (p:=⟨w.heap.size+1+1,0,none⟩) (by show w.heap.size≠w.heap.size+1+1;omega) (vI kI 7);have hb2:Below w.heap.size w (w1.setCell ⟨w.heap.size+1+1,0,none⟩ (vI kI 7)):=below_grown hb1 (grown_set _ _ _ _) (by omega);have hs2:w2.heap.size=w.heap.size+1+1+1:=by rw[← hw2];simp[World.setCell,hs1]
 rw[hw2]at hXo2 hXr2 hXe2 hb2;have o0:w1.cell? ⟨w.heap.size+1+1,0,none⟩=some (vI kI 0):=hXo.cell 0;have of0:=hXo.frozen 0;have e4:w2.cell? ⟨w.heap.size,4,none⟩=some (vS e.pa P.length e.pc):=hXe2.cell 4;have HE2:=hide (hE.below hb2);have HM2:=hide (hM.below hb2);have HR2:=hide (ListIn.below hr hb2);have HXo:=hide hXo2;have HXr:=hide hXr2;have HXe:=hide hXe2;have HB2:=hide hb2;have HW1:=hide hw1;have HW2:=hide hw2;have HS2:=hide hs2;have HPn:=hide hPn;have HCn:=hide hCn;have HSs:=hide hs;clear hword hE hPn hCn hM hr hs hw1 hs1 hb1 hXe hXr hXo hXo2 hXr2 hXe2 hb2 hw2 hs2;obtain⟨ecs,hecs⟩:∃ q,e.cells P.length C.length=q:=⟨_,rfl⟩;rw[hecs]at HW1 HXe ⊢;have HEc:=hide hecs;clear hecs;go_enter Tryz.func24,Tryz.ntmps24;go_upto_region 2 with (fail);rw[show ((w.alloc (.cells ecs 30)).alloc (.cells #[vI kI 0,vI kI 0,vI kI 0,vI kI 0,vI kI 0,vI kI 0,vS none 0 0,vS none 0 0,vB false,vB false,vB false,vT ⟨#[]⟩] 36)).alloc (.cells #[vI kI 0,vI kI 0,vI kI 0,vI kI 0,vI kI 0,vI kI 0,vS none 0 0,vS none 0 0,vB false,vB false,vB false,vT ⟨#[]⟩] 36)=w1 from HW1.out];go_upto_region 28 with (fail);rw[HW2.out];go_upto_region 40 with (fail);exact wp_close (wd40 (w0:=w) (o:={ zeroO with kind:=7 }) (A:=none) (c:=0) (D:=none) (d:=0) HXo.out HXr.out (by omega) (opv_nil rfl rfl) HB2.out (fun v w' h1 h2=>⟨v,rfl,h1,h2⟩)) (by assumption)
theorem wd_send1 {e:EV}{P C:List ByteArray}{B:Option Addr}{d:Nat}{r:List ByteArray}{x a b:ByteArray}{word:ByteArray}{w:World}(hword:word.toList=wSend) (hE:Elec w e P C) (hP:P.length≤1000000) (hPn:∀ n ∈ P,n.size≤3000000) (hC:C.length≤1000000) (hCn:∀ n ∈ C,n.size≤3000000) (hM:Max w) (hr:Strs w B (x :: r)) (hd:r.length+1≤d) (hd2:d≤1000000) (hs:∀ s ∈ (x :: r:List ByteArray),s.size≤1000000)  :
  Calls pG 24 #[.agg (e.cells P.length C.length),vT word,vS B (r.length+1) d] w (WordsP ({ zeroO with kind:=7,scan:=(numV x).1,lose:=(fl1 r).1,deaf:=(fl2 r).1,twice:=(fl3 r).1 }) ((((fl3 r).2.length:Int)==0) && (numV x).2) w):=by
 obtain⟨w1,hw1,hs1,hb1,hXe,hXr,hXo⟩:=words_boxes (w:=w) (e:=e) (p:=P.length) (c:=C.length);have nIssue:(word.toList==[105,115,115,117,101])=false:=by rw[hword];rfl
 have nSpoil:(word.toList==[115,112,111,105,108])=false:=by rw[hword];rfl
 have nAudit:(word.toList==[97,117,100,105,116])=false:=by rw[hword];rfl
 have nRestart:(word.toList==[114,101,115,116,97,114,116])=false:=by rw[hword];rfl
 have ySend:(word.toList==[115,101,110,100])=true:=by rw[hword];rfl
 obtain⟨w2,hw2⟩:∃ q,w1.setCell ⟨w.heap.size+1+1,0,none⟩ (vI kI 7)=q:=⟨_,rfl⟩;have hXo2:Box (w1.setCell ⟨w.heap.size+1+1,0,none⟩ (vI kI 7)) (w.heap.size+1+1) 36 #[vI kI 7,vI kI 0,vI kI 0,vI kI 0,vI kI 0,vI kI 0,vS none 0 0,vS none 0 0,vB false,vB false,vB false,vT ⟨#[]⟩]:=hXo.set 0 (vI kI 7);have hXr2:=hXr.far (p:=⟨w.heap.size+1+1,0,none⟩) (by show w.heap.size+1≠w.heap.size+1+1;omega) (vI kI 7);have hXe2:=hXe.far (p:=⟨w.heap.size+1+1,0,none⟩) (by show w.heap.size≠w.heap.size+1+1;omega) (vI kI 7);have hb2:Below w.heap.size w (w1.setCell ⟨w.heap.size+1+1,0,none⟩ (vI kI 7)):=below_grown hb1 (grown_set _ _ _ _) (by omega);have hs2:w2.heap.size=w.heap.size+1+1+1:=by rw[← hw2];simp[World.setCell,hs1]
 rw[hw2]at hXo2 hXr2 hXe2 hb2;have o0:w1.cell? ⟨w.heap.size+1+1,0,none⟩=some (vI kI 0):=hXo.cell 0;have of0:=hXo.frozen 0;have e4:w2.cell? ⟨w.heap.size,4,none⟩=some (vS e.pa P.length e.pc):=hXe2.cell 4;have HE2:=hide (hE.below hb2);have HM2:=hide (hM.below hb2);have HR2:=hide (ListIn.below hr hb2);have HR0:=hide hr;have HXo:=hide hXo2;have HXr:=hide hXr2;have HXe:=hide hXe2;have HB2:=hide hb2;have HW1:=hide hw1;have HW2:=hide hw2;have HS2:=hide hs2;have HPn:=hide hPn;have HCn:=hide hCn;have HSs:=hide hs;clear hword hE hPn hCn hM hr hs hw1 hs1 hb1 hXe hXr hXo hXo2 hXr2 hXe2 hb2 hw2 hs2;obtain⟨ecs,hecs⟩:∃ q,e.cells P.length C.length=q:=⟨_,rfl⟩;rw[hecs]at HW1 HXe ⊢;have HEc:=hide hecs;clear hecs;obtain⟨lb,lo,rfl,hlb,h0⟩:=HR2.out.at_ (k:=0) (by simp);have h0:w2.cell? ⟨lb,lo,none⟩=some (vT x):=h0;have hlb:lb < w2.heap.size:=hlb;obtain⟨lb',lo',e1,hT⟩:=HR0.out.tail;cases e1;have hlw:lb < w.heap.size:=by obtain⟨lb',lo',e1,hl,_⟩:=HR0.out.at_ (k:=0) (by simp);cases e1;exact hl
 obtain⟨sn,sok,hsn⟩:∃ n k,numV x=(n,k):=⟨_,_,rfl⟩;have HNu:=hide (number_any (s:=x) (w:=w2) (HSs.out x (by simp)));rw[hsn]at HNu ⊢;simp only[]at HNu ⊢;clear hsn;have hlr:(0:Int) < (r.length:Int)+1:=by omega
 obtain⟨w3,hw3⟩:∃ q,w2.setCell ⟨w.heap.size+1+1,3,none⟩ (vI kI sn)=q:=⟨_,rfl⟩;have hx8:Box w3 (w.heap.size+1+1) 36 #[vI kI 7,vI kI 0,vI kI 0,vI kI sn,vI kI 0,vI kI 0,vS none 0 0,vS none 0 0,vB false,vB false,vB false,vT ⟨#[]⟩]:=by rw[← hw3];exact HXo.out.set 3 (vI kI sn)
 have hx6:Box w3 (w.heap.size+1) 36 (zeroO.cells none 0 none 0):=by rw[← hw3];exact HXr.out.far (p:=⟨w.heap.size+1+1,3,none⟩) (by show w.heap.size+1≠w.heap.size+1+1;omega) _
 have hB:Below w.heap.size w w3:=by rw[← hw3];exact HB2.out.setCell (by show w.heap.size≤w.heap.size+1+1;omega) _
 have hszw3:w3.heap.size=w2.heap.size:=by rw[← hw3];simp[World.setCell]
 have HX8w3:=hide hx8;have HX6w3:=hide hx6;have HBw3:=hide hB;have HSw3:=hide hszw3;have HWw3:=hide hw3;clear hx8 hx6 hB hw3 hszw3;have qc:w2.cell? ⟨w.heap.size+1+1,3,none⟩=some (vI kI 0):=HXo.out.cell 3;have qf:=HXo.out.frozen 3;have qlt:=HXo.out.lt;have HFl:=hide (fun (A:Option Addr) (c:Nat) (h:ListIn Value.string (All w) w A r) (hc:r.length≤c) (hc2:c≤1000000)=>flags_any (F:=All w) (c:=c) (h.agree (Agree.of_below HBw3.out (fun i hi=>hi))) hc hc2 HX8w3.out rfl (fun e=>by have:w.heap.size+1+1 < w.heap.size:=e;omega) (fun i hi=>by have:=HBw3.out.size;have:i < w.heap.size:=hi;omega));obtain⟨f1,hf1⟩:∃ q,(fl1 r).1=q:=⟨_,rfl⟩;obtain⟨f2,hf2⟩:∃ q,(fl2 r).1=q:=⟨_,rfl⟩;obtain⟨f3,hf3⟩:∃ q,(fl3 r).1=q:=⟨_,rfl⟩;obtain⟨fok,hfok⟩:∃ q,(((fl3 r).2.length:Int)==0)=q:=⟨_,rfl⟩;rw[hf1,hf2,hf3,hfok]at HFl;rw[hf1,hf2,hf3,hfok];clear hf1 hf2 hf3 hfok;have HT:=hide hT;have HRl:Hid (r.length=0→r=[]):=fun e=>List.length_eq_zero_iff.1 e;clear hT;go_enter Tryz.func24,Tryz.ntmps24;go_upto_region 2 with (fail);rw[show ((w.alloc (.cells ecs 30)).alloc (.cells #[vI kI 0,vI kI 0,vI kI 0,vI kI 0,vI kI 0,vI kI 0,vS none 0 0,vS none 0 0,vB false,vB false,vB false,vT ⟨#[]⟩] 36)).alloc (.cells #[vI kI 0,vI kI 0,vI kI 0,vI kI 0,vI kI 0,vI kI 0,vS none 0 0,vS none 0 0,vB false,vB false,vB false,vT ⟨#[]⟩] 36)=w1 from HW1.out];go_upto_region 28 with (fail);rw[HW2.out];go_wp2_with fail;refine HNu.out.mono ?_;rintro en w4 ⟨rfl,hw4⟩;have hw4:=hw4.symm;subst hw4;go_upto_region 30 with (fail);rw[HWw3.out];rcases Nat.eq_or_lt_of_le (show 1≤d by omega) with h1|h1
 ·subst h1;obtain rfl:=HRl.out (by omega);have HF:=hide (HFl.out (some ⟨lb,lo,none⟩) 0 (ListIn.nil _ _ _ _) (lR _) (by omega));clear HFl HT;go_wp2_with fail;refine HF.out.mono ?_;rintro en w5 ⟨rfl,hx5,hg5⟩;have hx5:Box w5 (w.heap.size+1+1) 36 (Opn.cells ({ zeroO with kind:=7,scan:=sn,lose:=f1,deaf:=f2,twice:=f3 }) none 0 none 0):=hx5;have Hx5:=hide hx5;have Hx6:=hide (HX6w3.out.grown hg5 (fun e=>by have:=Option.some.inj e;omega));have HB5:=hide (below_growB HBw3.out hg5 (by omega));clear hx5 hg5 HF;cases fok with
  |true=>go_upto_region 40 with (fail);exact wp_close (wd40 (w0:=w) (o:={ zeroO with kind:=7,scan:=sn,lose:=f1,deaf:=f2,twice:=f3 }) (A:=none) (c:=0) (D:=none) (d:=0) Hx5.out Hx6.out (by omega) (opv_nil rfl rfl) HB5.out (fun v w' h1 h2=>⟨v,rfl,h1,h2⟩)) (by assumption)
  |false=>go_upto_region 40 with (fail);exact wp_close (wd40 (w0:=w) (o:={ zeroO with kind:=7,scan:=sn,lose:=f1,deaf:=f2,twice:=f3 }) (A:=none) (c:=0) (D:=none) (d:=0) Hx5.out Hx6.out (by omega) (opv_nil rfl rfl) HB5.out (fun v w' h1 h2=>⟨v,rfl,h1,h2⟩)) (by assumption)
 ·have HF:=hide (HFl.out (some ⟨lb,lo+1,none⟩) (d - 1) HT.out (by omega) (by omega));have hdi:(1:Int)≤(d:Int):=by omega
  clear HFl HT;go_wp2_with fail;refine HF.out.mono ?_;rintro en w5 ⟨rfl,hx5,hg5⟩;have hx5:Box w5 (w.heap.size+1+1) 36 (Opn.cells ({ zeroO with kind:=7,scan:=sn,lose:=f1,deaf:=f2,twice:=f3 }) none 0 none 0):=hx5;have Hx5:=hide hx5;have Hx6:=hide (HX6w3.out.grown hg5 (fun e=>by have:=Option.some.inj e;omega));have HB5:=hide (below_growB HBw3.out hg5 (by omega));clear hx5 hg5 HF;cases fok with
  |true=>go_upto_region 40 with (fail);exact wp_close (wd40 (w0:=w) (o:={ zeroO with kind:=7,scan:=sn,lose:=f1,deaf:=f2,twice:=f3 }) (A:=none) (c:=0) (D:=none) (d:=0) Hx5.out Hx6.out (by omega) (opv_nil rfl rfl) HB5.out (fun v w' h1 h2=>⟨v,rfl,h1,h2⟩)) (by assumption)
  |false=>go_upto_region 40 with (fail);exact wp_close (wd40 (w0:=w) (o:={ zeroO with kind:=7,scan:=sn,lose:=f1,deaf:=f2,twice:=f3 }) (A:=none) (c:=0) (D:=none) (d:=0) Hx5.out Hx6.out (by omega) (opv_nil rfl rfl) HB5.out (fun v w' h1 h2=>⟨v,rfl,h1,h2⟩)) (by assumption)
theorem wd_lie0 {e:EV}{P C:List ByteArray}{B:Option Addr}{d:Nat}{r:List ByteArray}{x a b:ByteArray}{word:ByteArray}{w:World}(hword:word.toList=wLie) (hE:Elec w e P C) (hP:P.length≤1000000) (hPn:∀ n ∈ P,n.size≤3000000) (hC:C.length≤1000000) (hCn:∀ n ∈ C,n.size≤3000000) (hM:Max w) (hr:Strs w B ([])) (hd:0≤d) (hd2:d≤1000000) (hs:∀ s ∈ ([]:List ByteArray),s.size≤1000000)  :
  Calls pG 24 #[.agg (e.cells P.length C.length),vT word,vS B (0) d] w (WordsP ({ zeroO with kind:=8 }) false w):=by
 obtain⟨w1,hw1,hs1,hb1,hXe,hXr,hXo⟩:=words_boxes (w:=w) (e:=e) (p:=P.length) (c:=C.length);have nIssue:(word.toList==[105,115,115,117,101])=false:=by rw[hword];rfl
 have nSpoil:(word.toList==[115,112,111,105,108])=false:=by rw[hword];rfl
 have nAudit:(word.toList==[97,117,100,105,116])=false:=by rw[hword];rfl
 have nRestart:(word.toList==[114,101,115,116,97,114,116])=false:=by rw[hword];rfl
 have nSend:(word.toList==[115,101,110,100])=false:=by rw[hword];rfl
 have yLie:(word.toList==[108,105,101])=true:=by rw[hword];rfl
 obtain⟨w2,hw2⟩:∃ q,w1.setCell ⟨w.heap.size+1+1,0,none⟩ (vI kI 8)=q:=⟨_,rfl⟩;have hXo2:Box (w1.setCell ⟨w.heap.size+1+1,0,none⟩ (vI kI 8)) (w.heap.size+1+1) 36 #[vI kI 8,vI kI 0,vI kI 0,vI kI 0,vI kI 0,vI kI 0,vS none 0 0,vS none 0 0,vB false,vB false,vB false,vT ⟨#[]⟩]:=hXo.set 0 (vI kI 8);have hXr2:=hXr.far (p:=⟨w.heap.size+1+1,0,none⟩) (by show w.heap.size+1≠w.heap.size+1+1;omega) (vI kI 8);have hXe2:=hXe.far (p:=⟨w.heap.size+1+1,0,none⟩) (by show w.heap.size≠w.heap.size+1+1;omega) (vI kI 8);have hb2:Below w.heap.size w (w1.setCell ⟨w.heap.size+1+1,0,none⟩ (vI kI 8)):=below_grown hb1 (grown_set _ _ _ _) (by omega);have hs2:w2.heap.size=w.heap.size+1+1+1:=by rw[← hw2];simp[World.setCell,hs1]
 rw[hw2]at hXo2 hXr2 hXe2 hb2;have o0:w1.cell? ⟨w.heap.size+1+1,0,none⟩=some (vI kI 0):=hXo.cell 0;have of0:=hXo.frozen 0;have e4:w2.cell? ⟨w.heap.size,4,none⟩=some (vS e.pa P.length e.pc):=hXe2.cell 4;have HE2:=hide (hE.below hb2);have HM2:=hide (hM.below hb2);have HR2:=hide (ListIn.below hr hb2);have HXo:=hide hXo2;have HXr:=hide hXr2;have HXe:=hide hXe2;have HB2:=hide hb2;have HW1:=hide hw1;have HW2:=hide hw2;have HS2:=hide hs2;have HPn:=hide hPn;have HCn:=hide hCn;have HSs:=hide hs;clear hword hE hPn hCn hM hr hs hw1 hs1 hb1 hXe hXr hXo hXo2 hXr2 hXe2 hb2 hw2 hs2;obtain⟨ecs,hecs⟩:∃ q,e.cells P.length C.length=q:=⟨_,rfl⟩;rw[hecs]at HW1 HXe ⊢;have HEc:=hide hecs;clear hecs;go_enter Tryz.func24,Tryz.ntmps24;go_upto_region 2 with (fail);rw[show ((w.alloc (.cells ecs 30)).alloc (.cells #[vI kI 0,vI kI 0,vI kI 0,vI kI 0,vI kI 0,vI kI 0,vS none 0 0,vS none 0 0,vB false,vB false,vB false,vT ⟨#[]⟩] 36)).alloc (.cells #[vI kI 0,vI kI 0,vI kI 0,vI kI 0,vI kI 0,vI kI 0,vS none 0 0,vS none 0 0,vB false,vB false,vB false,vT ⟨#[]⟩] 36)=w1 from HW1.out];go_upto_region 33 with (fail);rw[HW2.out];go_upto_region 40 with (fail);exact wp_close (wd40 (w0:=w) (o:={ zeroO with kind:=8 }) (A:=none) (c:=0) (D:=none) (d:=0) HXo.out HXr.out (by omega) (opv_nil rfl rfl) HB2.out (fun v w' h1 h2=>⟨v,rfl,h1,h2⟩)) (by assumption)
theorem wd_lie1 {e:EV}{P C:List ByteArray}{B:Option Addr}{d:Nat}{r:List ByteArray}{x a b:ByteArray}{word:ByteArray}{w:World}(hword:word.toList=wLie) (hE:Elec w e P C) (hP:P.length≤1000000) (hPn:∀ n ∈ P,n.size≤3000000) (hC:C.length≤1000000) (hCn:∀ n ∈ C,n.size≤3000000) (hM:Max w) (hr:Strs w B ([x])) (hd:1≤d) (hd2:d≤1000000) (hs:∀ s ∈ ([x]:List ByteArray),s.size≤1000000)  :
  Calls pG 24 #[.agg (e.cells P.length C.length),vT word,vS B (1) d] w (WordsP ({ zeroO with kind:=8 }) false w):=by
 obtain⟨w1,hw1,hs1,hb1,hXe,hXr,hXo⟩:=words_boxes (w:=w) (e:=e) (p:=P.length) (c:=C.length);have nIssue:(word.toList==[105,115,115,117,101])=false:=by rw[hword];rfl
 have nSpoil:(word.toList==[115,112,111,105,108])=false:=by rw[hword];rfl
 have nAudit:(word.toList==[97,117,100,105,116])=false:=by rw[hword];rfl
 have nRestart:(word.toList==[114,101,115,116,97,114,116])=false:=by rw[hword];rfl
 have nSend:(word.toList==[115,101,110,100])=false:=by rw[hword];rfl
 have yLie:(word.toList==[108,105,101])=true:=by rw[hword];rfl
 obtain⟨w2,hw2⟩:∃ q,w1.setCell ⟨w.heap.size+1+1,0,none⟩ (vI kI 8)=q:=⟨_,rfl⟩;have hXo2:Box (w1.setCell ⟨w.heap.size+1+1,0,none⟩ (vI kI 8)) (w.heap.size+1+1) 36 #[vI kI 8,vI kI 0,vI kI 0,vI kI 0,vI kI 0,vI kI 0,vS none 0 0,vS none 0 0,vB false,vB false,vB false,vT ⟨#[]⟩]:=hXo.set 0 (vI kI 8);have hXr2:=hXr.far (p:=⟨w.heap.size+1+1,0,none⟩) (by show w.heap.size+1≠w.heap.size+1+1;omega) (vI kI 8);have hXe2:=hXe.far (p:=⟨w.heap.size+1+1,0,none⟩) (by show w.heap.size≠w.heap.size+1+1;omega) (vI kI 8);have hb2:Below w.heap.size w (w1.setCell ⟨w.heap.size+1+1,0,none⟩ (vI kI 8)):=below_grown hb1 (grown_set _ _ _ _) (by omega);have hs2:w2.heap.size=w.heap.size+1+1+1:=by rw[← hw2];simp[World.setCell,hs1]
 rw[hw2]at hXo2 hXr2 hXe2 hb2;have o0:w1.cell? ⟨w.heap.size+1+1,0,none⟩=some (vI kI 0):=hXo.cell 0;have of0:=hXo.frozen 0;have e4:w2.cell? ⟨w.heap.size,4,none⟩=some (vS e.pa P.length e.pc):=hXe2.cell 4;have HE2:=hide (hE.below hb2);have HM2:=hide (hM.below hb2);have HR2:=hide (ListIn.below hr hb2);have HXo:=hide hXo2;have HXr:=hide hXr2;have HXe:=hide hXe2;have HB2:=hide hb2;have HW1:=hide hw1;have HW2:=hide hw2;have HS2:=hide hs2;have HPn:=hide hPn;have HCn:=hide hCn;have HSs:=hide hs;clear hword hE hPn hCn hM hr hs hw1 hs1 hb1 hXe hXr hXo hXo2 hXr2 hXe2 hb2 hw2 hs2;obtain⟨ecs,hecs⟩:∃ q,e.cells P.length C.length=q:=⟨_,rfl⟩;rw[hecs]at HW1 HXe ⊢;have HEc:=hide hecs;clear hecs;go_enter Tryz.func24,Tryz.ntmps24;go_upto_region 2 with (fail);rw[show ((w.alloc (.cells ecs 30)).alloc (.cells #[vI kI 0,vI kI 0,vI kI 0,vI kI 0,vI kI 0,vI kI 0,vS none 0 0,vS none 0 0,vB false,vB false,vB false,vT ⟨#[]⟩] 36)).alloc (.cells #[vI kI 0,vI kI 0,vI kI 0,vI kI 0,vI kI 0,vI kI 0,vS none 0 0,vS none 0 0,vB false,vB false,vB false,vT ⟨#[]⟩] 36)=w1 from HW1.out];go_upto_region 33 with (fail);rw[HW2.out];go_upto_region 40 with (fail);exact wp_close (wd40 (w0:=w) (o:={ zeroO with kind:=8 }) (A:=none) (c:=0) (D:=none) (d:=0) HXo.out HXr.out (by omega) (opv_nil rfl rfl) HB2.out (fun v w' h1 h2=>⟨v,rfl,h1,h2⟩)) (by assumption)
theorem wd_lie2 {e:EV}{P C:List ByteArray}{B:Option Addr}{d:Nat}{r:List ByteArray}{x a b:ByteArray}{word:ByteArray}{w:World}(hword:word.toList=wLie) (hE:Elec w e P C) (hP:P.length≤1000000) (hPn:∀ n ∈ P,n.size≤3000000) (hC:C.length≤1000000) (hCn:∀ n ∈ C,n.size≤3000000) (hM:Max w) (hr:Strs w B ([x,a])) (hd:2≤d) (hd2:d≤1000000) (hs:∀ s ∈ ([x,a]:List ByteArray),s.size≤1000000)  :
  Calls pG 24 #[.agg (e.cells P.length C.length),vT word,vS B (2) d] w (WordsP ({ zeroO with kind:=8 }) false w):=by
 obtain⟨w1,hw1,hs1,hb1,hXe,hXr,hXo⟩:=words_boxes (w:=w) (e:=e) (p:=P.length) (c:=C.length);have nIssue:(word.toList==[105,115,115,117,101])=false:=by rw[hword];rfl
 have nSpoil:(word.toList==[115,112,111,105,108])=false:=by rw[hword];rfl
 have nAudit:(word.toList==[97,117,100,105,116])=false:=by rw[hword];rfl
 have nRestart:(word.toList==[114,101,115,116,97,114,116])=false:=by rw[hword];rfl
 have nSend:(word.toList==[115,101,110,100])=false:=by rw[hword];rfl
 have yLie:(word.toList==[108,105,101])=true:=by rw[hword];rfl
 obtain⟨w2,hw2⟩:∃ q,w1.setCell ⟨w.heap.size+1+1,0,none⟩ (vI kI 8)=q:=⟨_,rfl⟩;have hXo2:Box (w1.setCell ⟨w.heap.size+1+1,0,none⟩ (vI kI 8)) (w.heap.size+1+1) 36 #[vI kI 8,vI kI 0,vI kI 0,vI kI 0,vI kI 0,vI kI 0,vS none 0 0,vS none 0 0,vB false,vB false,vB false,vT ⟨#[]⟩]:=hXo.set 0 (vI kI 8);have hXr2:=hXr.far (p:=⟨w.heap.size+1+1,0,none⟩) (by show w.heap.size+1≠w.heap.size+1+1;omega) (vI kI 8);have hXe2:=hXe.far (p:=⟨w.heap.size+1+1,0,none⟩) (by show w.heap.size≠w.heap.size+1+1;omega) (vI kI 8);have hb2:Below w.heap.size w (w1.setCell ⟨w.heap.size+1+1,0,none⟩ (vI kI 8)):=below_grown hb1 (grown_set _ _ _ _) (by omega);have hs2:w2.heap.size=w.heap.size+1+1+1:=by rw[← hw2];simp[World.setCell,hs1]
 rw[hw2]at hXo2 hXr2 hXe2 hb2;have o0:w1.cell? ⟨w.heap.size+1+1,0,none⟩=some (vI kI 0):=hXo.cell 0;have of0:=hXo.frozen 0;have e4:w2.cell? ⟨w.heap.size,4,none⟩=some (vS e.pa P.length e.pc):=hXe2.cell 4;have HE2:=hide (hE.below hb2);have HM2:=hide (hM.below hb2);have HR2:=hide (ListIn.below hr hb2);have HXo:=hide hXo2;have HXr:=hide hXr2;have HXe:=hide hXe2;have HB2:=hide hb2;have HW1:=hide hw1;have HW2:=hide hw2;have HS2:=hide hs2;have HPn:=hide hPn;have HCn:=hide hCn;have HSs:=hide hs;clear hword hE hPn hCn hM hr hs hw1 hs1 hb1 hXe hXr hXo hXo2 hXr2 hXe2 hb2 hw2 hs2;obtain⟨ecs,hecs⟩:∃ q,e.cells P.length C.length=q:=⟨_,rfl⟩;rw[hecs]at HW1 HXe ⊢;have HEc:=hide hecs;clear hecs;go_enter Tryz.func24,Tryz.ntmps24;go_upto_region 2 with (fail);rw[show ((w.alloc (.cells ecs 30)).alloc (.cells #[vI kI 0,vI kI 0,vI kI 0,vI kI 0,vI kI 0,vI kI 0,vS none 0 0,vS none 0 0,vB false,vB false,vB false,vT ⟨#[]⟩] 36)).alloc (.cells #[vI kI 0,vI kI 0,vI kI 0,vI kI 0,vI kI 0,vI kI 0,vS none 0 0,vS none 0 0,vB false,vB false,vB false,vT ⟨#[]⟩] 36)=w1 from HW1.out];go_upto_region 33 with (fail);rw[HW2.out];go_upto_region 40 with (fail);exact wp_close (wd40 (w0:=w) (o:={ zeroO with kind:=8 }) (A:=none) (c:=0) (D:=none) (d:=0) HXo.out HXr.out (by omega) (opv_nil rfl rfl) HB2.out (fun v w' h1 h2=>⟨v,rfl,h1,h2⟩)) (by assumption)
theorem wd_lie4 {e:EV}{P C:List ByteArray}{B:Option Addr}{d:Nat}{r:List ByteArray}{x a b c:ByteArray}{word:ByteArray}{w:World}(hword:word.toList=wLie) (hE:Elec w e P C) (hP:P.length≤1000000) (hPn:∀ n ∈ P,n.size≤3000000) (hC:C.length≤1000000) (hCn:∀ n ∈ C,n.size≤3000000) (hM:Max w) (hr:Strs w B (x :: a :: b :: c :: r)) (hd:r.length+1+1+1+1≤d) (hd2:d≤1000000) (hs:∀ s ∈ (x :: a :: b :: c :: r:List ByteArray),s.size≤1000000)  :
  Calls pG 24 #[.agg (e.cells P.length C.length),vT word,vS B (r.length+1+1+1+1) d] w (WordsP ({ zeroO with kind:=8 }) false w):=by
 obtain⟨w1,hw1,hs1,hb1,hXe,hXr,hXo⟩:=words_boxes (w:=w) (e:=e) (p:=P.length) (c:=C.length);have nIssue:(word.toList==[105,115,115,117,101])=false:=by rw[hword];rfl
 have nSpoil:(word.toList==[115,112,111,105,108])=false:=by rw[hword];rfl
 have nAudit:(word.toList==[97,117,100,105,116])=false:=by rw[hword];rfl
 have nRestart:(word.toList==[114,101,115,116,97,114,116])=false:=by rw[hword];rfl
 have nSend:(word.toList==[115,101,110,100])=false:=by rw[hword];rfl
 have yLie:(word.toList==[108,105,101])=true:=by rw[hword];rfl
 obtain⟨w2,hw2⟩:∃ q,w1.setCell ⟨w.heap.size+1+1,0,none⟩ (vI kI 8)=q:=⟨_,rfl⟩;have hXo2:Box (w1.setCell ⟨w.heap.size+1+1,0,none⟩ (vI kI 8)) (w.heap.size+1+1) 36 #[vI kI 8,vI kI 0,vI kI 0,vI kI 0,vI kI 0,vI kI 0,vS none 0 0,vS none 0 0,vB false,vB false,vB false,vT ⟨#[]⟩]:=hXo.set 0 (vI kI 8);have hXr2:=hXr.far (p:=⟨w.heap.size+1+1,0,none⟩) (by show w.heap.size+1≠w.heap.size+1+1;omega) (vI kI 8);have hXe2:=hXe.far (p:=⟨w.heap.size+1+1,0,none⟩) (by show w.heap.size≠w.heap.size+1+1;omega) (vI kI 8);have hb2:Below w.heap.size w (w1.setCell ⟨w.heap.size+1+1,0,none⟩ (vI kI 8)):=below_grown hb1 (grown_set _ _ _ _) (by omega);have hs2:w2.heap.size=w.heap.size+1+1+1:=by rw[← hw2];simp[World.setCell,hs1]
 rw[hw2]at hXo2 hXr2 hXe2 hb2;have o0:w1.cell? ⟨w.heap.size+1+1,0,none⟩=some (vI kI 0):=hXo.cell 0;have of0:=hXo.frozen 0;have e4:w2.cell? ⟨w.heap.size,4,none⟩=some (vS e.pa P.length e.pc):=hXe2.cell 4;have HE2:=hide (hE.below hb2);have HM2:=hide (hM.below hb2);have HR2:=hide (ListIn.below hr hb2);have HXo:=hide hXo2;have HXr:=hide hXr2;have HXe:=hide hXe2;have HB2:=hide hb2;have HW1:=hide hw1;have HW2:=hide hw2;have HS2:=hide hs2;have HPn:=hide hPn;have HCn:=hide hCn;have HSs:=hide hs;clear hword hE hPn hCn hM hr hs hw1 hs1 hb1 hXe hXr hXo hXo2 hXr2 hXe2 hb2 hw2 hs2;obtain⟨ecs,hecs⟩:∃ q,e.cells P.length C.length=q:=⟨_,rfl⟩;rw[hecs]at HW1 HXe ⊢;have HEc:=hide hecs;clear hecs;have hl2:((r.length:Int)+1+1+1+1==3)=false:=bN (by omega);go_enter Tryz.func24,Tryz.ntmps24;go_upto_region 2 with (fail);rw[show ((w.alloc (.cells ecs 30)).alloc (.cells #[vI kI 0,vI kI 0,vI kI 0,vI kI 0,vI kI 0,vI kI 0,vS none 0 0,vS none 0 0,vB false,vB false,vB false,vT ⟨#[]⟩] 36)).alloc (.cells #[vI kI 0,vI kI 0,vI kI 0,vI kI 0,vI kI 0,vI kI 0,vS none 0 0,vS none 0 0,vB false,vB false,vB false,vT ⟨#[]⟩] 36)=w1 from HW1.out];go_upto_region 33 with (fail);rw[HW2.out];go_upto_region 40 with (fail);exact wp_close (wd40 (w0:=w) (o:={ zeroO with kind:=8 }) (A:=none) (c:=0) (D:=none) (d:=0) HXo.out HXr.out (by omega) (opv_nil rfl rfl) HB2.out (fun v w' h1 h2=>⟨v,rfl,h1,h2⟩)) (by assumption)
theorem wd_lie3 {e:EV}{P C:List ByteArray}{B:Option Addr}{d:Nat}{r:List ByteArray}{x a b:ByteArray}{word:ByteArray}{w:World}(hword:word.toList=wLie) (hE:Elec w e P C) (hP:P.length≤1000000) (hPn:∀ n ∈ P,n.size≤3000000) (hC:C.length≤1000000) (hCn:∀ n ∈ C,n.size≤3000000) (hM:Max w) (hr:Strs w B ([x,a,b])) (hd:3≤d) (hd2:d≤1000000) (hs:∀ s ∈ ([x,a,b]:List ByteArray),s.size≤1000000)  :
  Calls pG 24 #[.agg (e.cells P.length C.length),vT word,vS B (3) d] w (WordsP ({ zeroO with kind:=8,scan:=if (numsV [x,a]).2=true then (numsV [x,a]).1.getD 0 0 else 0,n:=if (numsV [x,a]).2=true then (numsV [x,a]).1.getD 1 0 else 0,lie:=if (numsV [x,a]).2=true then posS liesL b else 0 }) ((numsV [x,a]).2 && decide (0 < posS liesL b)) w):=by
 obtain⟨w1,hw1,hs1,hb1,hXe,hXr,hXo⟩:=words_boxes (w:=w) (e:=e) (p:=P.length) (c:=C.length);have nIssue:(word.toList==[105,115,115,117,101])=false:=by rw[hword];rfl
 have nSpoil:(word.toList==[115,112,111,105,108])=false:=by rw[hword];rfl
 have nAudit:(word.toList==[97,117,100,105,116])=false:=by rw[hword];rfl
 have nRestart:(word.toList==[114,101,115,116,97,114,116])=false:=by rw[hword];rfl
 have nSend:(word.toList==[115,101,110,100])=false:=by rw[hword];rfl
 have yLie:(word.toList==[108,105,101])=true:=by rw[hword];rfl
 obtain⟨w2,hw2⟩:∃ q,w1.setCell ⟨w.heap.size+1+1,0,none⟩ (vI kI 8)=q:=⟨_,rfl⟩;have hXo2:Box (w1.setCell ⟨w.heap.size+1+1,0,none⟩ (vI kI 8)) (w.heap.size+1+1) 36 #[vI kI 8,vI kI 0,vI kI 0,vI kI 0,vI kI 0,vI kI 0,vS none 0 0,vS none 0 0,vB false,vB false,vB false,vT ⟨#[]⟩]:=hXo.set 0 (vI kI 8);have hXr2:=hXr.far (p:=⟨w.heap.size+1+1,0,none⟩) (by show w.heap.size+1≠w.heap.size+1+1;omega) (vI kI 8);have hXe2:=hXe.far (p:=⟨w.heap.size+1+1,0,none⟩) (by show w.heap.size≠w.heap.size+1+1;omega) (vI kI 8);have hb2:Below w.heap.size w (w1.setCell ⟨w.heap.size+1+1,0,none⟩ (vI kI 8)):=below_grown hb1 (grown_set _ _ _ _) (by omega);have hs2:w2.heap.size=w.heap.size+1+1+1:=by rw[← hw2];simp[World.setCell,hs1]
 rw[hw2]at hXo2 hXr2 hXe2 hb2;have o0:w1.cell? ⟨w.heap.size+1+1,0,none⟩=some (vI kI 0):=hXo.cell 0;have of0:=hXo.frozen 0;have e4:w2.cell? ⟨w.heap.size,4,none⟩=some (vS e.pa P.length e.pc):=hXe2.cell 4;have HE2:=hide (hE.below hb2);have HM2:=hide (hM.below hb2);have HR2:=hide (ListIn.below hr hb2);have HR0:=hide hr;have HXo:=hide hXo2;have HXr:=hide hXr2;have HXe:=hide hXe2;have HB2:=hide hb2;have HW1:=hide hw1;have HW2:=hide hw2;have HS2:=hide hs2;have HPn:=hide hPn;have HCn:=hide hCn;have HSs:=hide hs;clear hword hE hPn hCn hM hr hs hw1 hs1 hb1 hXe hXr hXo hXo2 hXr2 hXe2 hb2 hw2 hs2;obtain⟨ecs,hecs⟩:∃ q,e.cells P.length C.length=q:=⟨_,rfl⟩;rw[hecs]at HW1 HXe ⊢;have HEc:=hide hecs;clear hecs;obtain⟨lb,lo,rfl,hlb,h0⟩:=HR2.out.at_ (k:=0) (by simp);obtain⟨lb',lo',e1,_,h2⟩:=HR2.out.at_ (k:=2) (by simp);cases e1;have h2:w2.cell? ⟨lb,lo+2,none⟩=some (vT b):=h2;have hlb:lb < w2.heap.size:=hlb;have hlw:lb < w.heap.size:=by obtain⟨lb',lo',e1,hl,_⟩:=HR0.out.at_ (k:=0) (by simp);cases e1;exact hl
 have HNm:=hide (numbers_any (c:=d) (l:=[x,a]) (ListIn.take HR2.out 2) (by simp) (fun s hs=>HSs.out s (by simp at hs ⊢;rcases hs with rfl|rfl <;> simp)));obtain⟨ns,q,hq⟩:∃ ns q,numsV [x,a]=(ns,q):=⟨_,_,rfl⟩;have hlen:q=true→ns.length=2:=fun e=>by subst e;have:=(numsV_in (l:=[x,a]) (by rw[hq])).2.2;rw[hq]at this;exact this
 rw[hq]at HNm ⊢;simp only[]at HNm ⊢;clear hq;obtain⟨pl,hpl⟩:∃ p,posS liesL b=p:=⟨_,rfl⟩;have HIx:=hide (fun (v:World) (A:Option Addr) (h:Strs v A liesL)=>sindex_any (c:=5) (s:=b) h (by decide));rw[hpl]at HIx ⊢;clear hpl h0;have hd3:(2:Int)≤(d:Int):=by omega
 cases q with
 |false=>rw[Bool.false_and,if_neg (by simp),if_neg (by simp),if_neg (by simp)];go_enter Tryz.func24,Tryz.ntmps24;go_upto_region 2 with (fail);rw[show ((w.alloc (.cells ecs 30)).alloc (.cells #[vI kI 0,vI kI 0,vI kI 0,vI kI 0,vI kI 0,vI kI 0,vS none 0 0,vS none 0 0,vB false,vB false,vB false,vT ⟨#[]⟩] 36)).alloc (.cells #[vI kI 0,vI kI 0,vI kI 0,vI kI 0,vI kI 0,vI kI 0,vS none 0 0,vS none 0 0,vB false,vB false,vB false,vT ⟨#[]⟩] 36)=w1 from HW1.out];go_upto_region 33 with (fail);rw[HW2.out];go_wp2_with fail;refine HNm.out.mono ?_;rintro en w3 ⟨v3,rfl,hO3,hb3⟩;obtain⟨A3,c3,rfl,hc3,hL3,_⟩:=hO3.form;have Hx8:=hide (HXo.out.kept hb3);have Hx6:=hide (HXr.out.kept hb3);have HB3:Hid (Below w.heap.size w w3):=HB2.out.trans (hb3.mono HB2.out.size);clear hO3 hb3 hL3;go_upto_region 40 with (fail);exact wp_close (wd40 (w0:=w) (o:={ zeroO with kind:=8 }) (A:=none) (c:=0) (D:=none) (d:=0) Hx8.out Hx6.out (by omega) (opv_nil rfl rfl) HB3.out (fun v w' h1 h2=>⟨v,rfl,h1,h2⟩)) (by assumption)
 |true=>
  obtain⟨na,nb,rfl⟩:=len_two (hlen rfl);clear hlen;rw[Bool.true_and,if_pos rfl,if_pos rfl,if_pos rfl];show Calls _ _ _ _ (WordsP ({ zeroO with kind:=8,scan:=na,n:=nb,lie:=pl }) (decide (0 < pl)) w);obtain⟨lk,hlk⟩:∃ q,decide (0 < pl)=q:=⟨_,rfl⟩;have HLk:=hide hlk;rw[hlk];clear hlk;go_enter Tryz.func24,Tryz.ntmps24;go_upto_region 2 with (fail);rw[show ((w.alloc (.cells ecs 30)).alloc (.cells #[vI kI 0,vI kI 0,vI kI 0,vI kI 0,vI kI 0,vI kI 0,vS none 0 0,vS none 0 0,vB false,vB false,vB false,vT ⟨#[]⟩] 36)).alloc (.cells #[vI kI 0,vI kI 0,vI kI 0,vI kI 0,vI kI 0,vI kI 0,vS none 0 0,vS none 0 0,vB false,vB false,vB false,vT ⟨#[]⟩] 36)=w1 from HW1.out];go_upto_region 33 with (fail);rw[HW2.out];go_wp2_with fail;refine HNm.out.mono ?_;rintro en w3 ⟨v3,rfl,hO3,hb3⟩;obtain⟨A3,c3,rfl,hc3,hL3,_⟩:=hO3.form;obtain⟨nk,no,rfl,hnk,n0⟩:=hL3.at_ (k:=0) (by simp);obtain⟨nk',no',e,_,n1⟩:=hL3.at_ (k:=1) (by simp);cases e;simp[iv]at n0 n1;have hnk0:=hnk.1;have hnk1:=hnk.2.1;have Hx8:=hide (HXo.out.kept hb3);have Hx6:=hide (HXr.out.kept hb3);have HB3:Hid (Below w.heap.size w w3):=HB2.out.trans (hb3.mono HB2.out.size);have h23:=(hb3.cell (p:=⟨lb,lo+2,none⟩) hlb).trans h2;have hlb3:lb < w3.heap.size:=lL hlb hb3.size;have hq8:w.heap.size+1+1 < w2.heap.size:=HXo.out.lt;have hnk8:nk≠w.heap.size+1+1:=by omega
  have hlb8:lb≠w.heap.size+1+1:=by omega
  clear hO3 hb3 hL3 hnk hlb h2;go_upto_region 37 with (fail);refine wp_region_held_drew (S:=Ls w w3 nk no na nb) (by kernel_rfl) (ls_start Hx8.out Hx6.out HB3.out n0 n1 hnk0) (fun hH=>?_);refine wT 0 ?xv0 ?xy0 hH ?xr0;case xy0=>intro v hv;go_simp;rfl
  try simp only[aP,aS,aZ,aU]
  refine wT 1 ?xv1 ?xy1 hH ?xr1;case xy1=>intro v hv;go_simp;rfl
  try simp only[aP,aS,aZ,aU]
  refine wT 2 ?xv2 ?xy2 hH ?xr2;case xy2=>intro v hv;have q0:=hv.1;have q2:=hv.2.2;go_simp;rfl
  try simp only[aP,aS,aZ,aU]
  refine wT 3 ?xv3 ?xy3 hH ?xr3;case xy3=>intro v hv;go_simp;rfl
  try simp only[aP,aS,aZ,aU]
  refine wT 4 ?xv4 ?xy4 hH ?xr4;case xy4=>intro v hv;go_simp;rfl
  try simp only[aP,aS,aZ,aU]
  refine wT 5 ?xv5 ?xy5 hH ?xr5;case xy5=>intro v hv;have q0:=hv.2.1;have q2:=hv.2.2;go_simp;rfl
  try simp only[aP,aS,aZ,aU]
  refine wT 6 ?xv6 ?xy6 hH ?xr6;case xy6=>intro v hv;go_simp;rfl
  try simp only[aP,aS,aZ,aU]
  refine wR 7 fun K hK=>?_;have g0:w3.cell? ⟨w.heap.size+1+1,3,none⟩=some (vI kI 0):=Hx8.out.cell 3;have g1:=Hx8.out.frozen 3;have g2:=Hx8.out.lt;go_simp;obtain⟨v1,hv1⟩:∃ q,(w3.setCell ⟨w.heap.size+1+1,3,none⟩ (vI kI na)).drew=q:=⟨_,rfl⟩;first|rw[hv1]|(change K _ ((w3.setCell ⟨w.heap.size+1+1,3,none⟩ (vI kI na)).drew);rw[hv1])|skip
  have hx:Box v1 (w.heap.size+1+1) 36 (#[vI kI 8,vI kI 0,vI kI 0,vI kI na,vI kI 0,vI kI 0,vS none 0 0,vS none 0 0,vB false,vB false,vB false,vT ⟨#[]⟩]):=by rw[← hv1];exact(Hx8.out.set 3 _).drew
  have hy:Box v1 (w.heap.size+1) 36 (zeroO.cells none 0 none 0):=by rw[← hv1];exact(Hx6.out.far (p:=⟨w.heap.size+1+1,3,none⟩) (by show w.heap.size+1≠w.heap.size+1+1;omega) _).drew
  have hB:Below w.heap.size w v1:=by rw[← hv1];exact(HB3.out.setCell (by show w.heap.size≤w.heap.size+1+1;omega) _).drew
  have hN:Ls w w3 nk no na nb v1:=by rw[← hv1];exact ls_set hnk8 n0 n1 hnk0
  have HV1:=hide hx;have HL1:=hide hN;have HY1:=hide hy;have HBv1:=hide hB;have HZ1:Hid (v1.heap.size=w3.heap.size):=by rw[← hv1];unfold Hid;simp[World.setCell]
  have h21:Hid (v1.cell? ⟨lb,lo+2,none⟩=some (vT b)):=by rw[← hv1];exact(cB (Below.heap_setCell _ _ _ lb (fun e=>hlb8 e))).trans h23
  clear g0 g1 g2 hv1 hx hy hB;refine hK.out _ _ hN fun hZ=>?_;clear hK hH hN K;have hH:=hZ;clear hZ;try simp only[aP,aS,aZ,aU]
  refine wT 8 ?xv8 ?xy8 hH ?xr8;case xy8=>intro v hv;go_simp;rfl
  try simp only[aP,aS,aZ,aU]
  refine wR 9 fun K hK=>?_;have g0:v1.cell? ⟨w.heap.size+1+1,4,none⟩=some (vI kI 0):=HV1.out.cell 4;have g1:=HV1.out.frozen 4;have g2:=HV1.out.lt;go_simp;obtain⟨v2,hv2⟩:∃ q,v1.setCell ⟨w.heap.size+1+1,4,none⟩ (vI kI nb)=q:=⟨_,rfl⟩;first|rw[hv2]|(change K _ (v1.setCell ⟨w.heap.size+1+1,4,none⟩ (vI kI nb));rw[hv2])|skip
  have hx:Box v2 (w.heap.size+1+1) 36 (#[vI kI 8,vI kI 0,vI kI 0,vI kI na,vI kI nb,vI kI 0,vS none 0 0,vS none 0 0,vB false,vB false,vB false,vT ⟨#[]⟩]):=by rw[← hv2];exact HV1.out.set 4 _
  have hy:Box v2 (w.heap.size+1) 36 (zeroO.cells none 0 none 0):=by rw[← hv2];exact HY1.out.far (p:=⟨w.heap.size+1+1,4,none⟩) (by show w.heap.size+1≠w.heap.size+1+1;omega) _
  have hB:Below w.heap.size w v2:=by rw[← hv2];exact HBv1.out.setCell (by show w.heap.size≤w.heap.size+1+1;omega) _
  have hN:Ls w w3 nk no na nb v2:=by rw[← hv2];exact ls_set2 hnk8 HL1.out
  have HV2:=hide hx;have HY2:=hide hy;have HBv2:=hide hB;have h22:v2.cell? ⟨lb,lo+2,none⟩=some (vT b):=by rw[← hv2];exact(cB (Below.heap_setCell _ _ _ lb (fun e=>hlb8 e))).trans h21.out
  have hlb2:lb < v2.heap.size:=by rw[← hv2];simp[World.setCell,HZ1.out];omega
  clear g0 g1 g2 hv2 hx hy hB;refine hK.out _ _ hN fun hZ=>?_;clear hK hH hN K;have hH:=hZ;clear hZ;try simp only[aP,aS,aZ,aU]
  refine wpAnyH_done (by kernel_rfl) ?_ _;clear hH;go_upto_region 38 with (fail);refine wp_region_held_drew (S:=Lb lb lo b) (by kernel_rfl) (⟨(cB rfl).trans h22,hlb2⟩) (fun hH=>?_);refine wT 1 ?yv1 ?yy1 hH ?yr1;case yy1=>intro v hv;go_simp;rfl
  try simp only[aP,aS,aZ,aU]
  refine wT 2 ?yv2 ?yy2 hH ?yr2;case yy2=>intro v hv;go_simp;rfl
  try simp only[aP,aS,aZ,aU]
  refine wT 3 ?yv3 ?yy3 hH ?yr3;case yy3=>intro v hv;have q0:=hv.1;have q2:=hv.2;go_simp;rfl
  try simp only[aP,aS,aZ,aU]
  refine wR 0 fun K hK=>?_;go_simp;refine(lies_any (w:=v2.drewN 1)).mono ?_;rintro en w4 ⟨rfl,hl4,hb4⟩;try dsimp only
  have HB4:Hid (Below v2.heap.size v2 w4):=(below_drew (bR _ _) 1).trans hb4;have hN:Lb lb lo b w4:=⟨(HB4.out.cell (p:=⟨lb,lo+2,none⟩) hlb2).trans h22,lL hlb2 HB4.out.size⟩;have HL4:Hid (Strs w4 (some ⟨v2.heap.size,0,none⟩) liesL):=hl4;clear hl4 hb4;refine hK.out _ _ hN fun hZ=>?_;clear hK hH hN K;have hH:=hZ;clear hZ;try simp only[aP,aS,aZ,aU]
  refine wR 4 fun K hK=>?_;go_simp;refine(HIx.out w4 _ HL4.out).mono ?_;rintro en w5 ⟨rfl,hw5⟩;try dsimp only
  have hb5:Below v2.heap.size v2 w5:=by rw[hw5];exact HB4.out
  have HB5:=hide hb5;have HX5:=hide (HV2.out.kept hb5);have HY5:=hide (HY2.out.kept hb5);have hN:Lb lb lo b w5:=⟨(hb5.cell (p:=⟨lb,lo+2,none⟩) hlb2).trans h22,lL hlb2 hb5.size⟩;clear hw5 hb5;refine hK.out _ _ hN fun hZ=>?_;clear hK hH hN K;have hH:=hZ;clear hZ;try simp only[aP,aS,aZ,aU]
  refine wT 5 ?yv5 ?yy5 hH ?yr5;case yy5=>intro v hv;go_simp;rfl
  try simp only[aP,aS,aZ,aU]
  refine wR 6 fun K hK=>?_;have g0:w5.cell? ⟨w.heap.size+1+1,5,none⟩=some (vI kI 0):=HX5.out.cell 5;have g1:=HX5.out.frozen 5;have g2:=HX5.out.lt;go_simp;obtain⟨v6,hv6⟩:∃ q,w5.setCell ⟨w.heap.size+1+1,5,none⟩ (vI kI pl)=q:=⟨_,rfl⟩;first|rw[hv6]|(change K _ (w5.setCell ⟨w.heap.size+1+1,5,none⟩ (vI kI pl));rw[hv6])|skip
  have hx:Box v6 (w.heap.size+1+1) 36 (Opn.cells ({ zeroO with kind:=8,scan:=na,n:=nb,lie:=pl }) none 0 none 0):=by rw[← hv6];exact HX5.out.set 5 _
  have hy:Box v6 (w.heap.size+1) 36 (zeroO.cells none 0 none 0):=by rw[← hv6];exact HY5.out.far (p:=⟨w.heap.size+1+1,5,none⟩) (by show w.heap.size+1≠w.heap.size+1+1;omega) _
  have hB:Below w.heap.size w v6:=by rw[← hv6];exact(HBv2.out.trans (HB5.out.mono HBv2.out.size)).setCell (by show w.heap.size≤w.heap.size+1+1;omega) _
  have hc:v6.cell? ⟨w.heap.size+1+1,5,none⟩=some (vI kI pl):=hx.cell 5;have hN:Lb lb lo b v6:=by rw[← hv6];exact⟨(cB (Below.heap_setCell _ _ _ lb (fun e=>hlb8 e))).trans ((HB5.out.cell (p:=⟨lb,lo+2,none⟩) hlb2).trans h22),by have:=lL hlb2 HB5.out.size;simpa [World.setCell] using this⟩
  have HX6:=hide hx;have HY6:=hide hy;have HBv6:=hide hB;clear g0 g1 g2 hv6 hx hy hB;refine hK.out _ _ hN fun hZ=>?_;clear hK hH hN K;have hH:=hZ;clear hZ;try simp only[aP,aS,aZ,aU]
  refine wpAnyH_done (by kernel_rfl) ?_ _;clear hH;have hlt6:=HX6.out.lt;cases lk with
  |true=>have hp2:=of_decide_eq_true HLk.out;go_upto_region 40 with (fail);exact wp_close (wd40 (w0:=w) (o:={ zeroO with kind:=8,scan:=na,n:=nb,lie:=pl }) (A:=none) (c:=0) (D:=none) (d:=0) HX6.out HY6.out (by omega) (opv_nil rfl rfl) HBv6.out (fun v w' h1 h2=>⟨v,rfl,h1,h2⟩)) (by assumption)
  |false=>have hp2:=of_decide_eq_false HLk.out;go_upto_region 40 with (fail);exact wp_close (wd40 (w0:=w) (o:={ zeroO with kind:=8,scan:=na,n:=nb,lie:=pl }) (A:=none) (c:=0) (D:=none) (d:=0) HX6.out HY6.out (by omega) (opv_nil rfl rfl) HBv6.out (fun v w' h1 h2=>⟨v,rfl,h1,h2⟩)) (by assumption)
theorem wd_else {e:EV}{P C:List ByteArray}{B:Option Addr}{d:Nat}{l:List ByteArray}{word:ByteArray}{w:World}(hIssue:¬ word.toList=wIssue) (hSpoil:¬ word.toList=wSpoil) (hAudit:¬ word.toList=wAudit) (hRestart:¬ word.toList=wRestart) (hSend:¬ word.toList=wSend) (hLie:¬ word.toList=wLie) (hr:Strs w B l) (hm:l.length≤1000000) (hs:∀ s ∈ l,s.size≤1000000) :
  Calls pG 24 #[.agg (e.cells P.length C.length),vT word,vS B l.length d] w (WordsP (cntV word l).1 (cntV word l).2 w):=by
 obtain⟨w1,hw1,hs1,hb1,hXe,hXr,hXo⟩:=words_boxes (w:=w) (e:=e) (p:=P.length) (c:=C.length);have nIssue:(word.toList==[105,115,115,117,101])=false:=bN hIssue;have nSpoil:(word.toList==[115,112,111,105,108])=false:=bN hSpoil;have nAudit:(word.toList==[97,117,100,105,116])=false:=bN hAudit;have nRestart:(word.toList==[114,101,115,116,97,114,116])=false:=bN hRestart;have nSend:(word.toList==[115,101,110,100])=false:=bN hSend;have nLie:(word.toList==[108,105,101])=false:=bN hLie;have HC:=hide (counted_any (d:=d) (word:=word) (ListIn.below hr hb1) hm hs);have HXr:=hide hXr;have HB1:=hide hb1;have HW1:=hide hw1;have HS1:=hide hs1;clear hIssue hSpoil hAudit hRestart hSend hLie hr hw1 hs1 hb1 hXe hXr hXo;obtain⟨ecs,hecs⟩:∃ q,e.cells P.length C.length=q:=⟨_,rfl⟩;rw[hecs]at HW1 ⊢;clear hecs;go_enter Tryz.func24,Tryz.ntmps24;go_upto_region 2 with (fail);rw[show ((w.alloc (.cells ecs 30)).alloc (.cells #[vI kI 0,vI kI 0,vI kI 0,vI kI 0,vI kI 0,vI kI 0,vS none 0 0,vS none 0 0,vB false,vB false,vB false,vT ⟨#[]⟩] 36)).alloc (.cells #[vI kI 0,vI kI 0,vI kI 0,vI kI 0,vI kI 0,vI kI 0,vS none 0 0,vS none 0 0,vB false,vB false,vB false,vT ⟨#[]⟩] 36)=w1 from HW1.out];go_wp2_with fail;refine HC.out.mono ?_;rintro en w3 ⟨_,rfl,⟨A3,c3,D3,d3,rfl,hV3⟩,hb3⟩;obtain⟨w6,hst,hx,hg⟩:=box_store aggOp (HXr.out.kept hb3) rfl rfl (Opn.one (cntV word l).1 A3 c3 D3 d3);have hq:w.heap.size+1 < w1.heap.size:=HXr.out.lt;have hv6:OpV (fun i=>w.heap.size≤i∧i < w6.heap.size) w6 (.agg ((cntV word l).1.cells A3 c3 D3 d3)) (cntV word l).1:=((show OpV _ w3 _ _ from ⟨A3,c3,D3,d3,rfl,hV3⟩).agree fun i hi=>hg.block i hi.2 (fun e=>by have:=Option.some.inj e;omega)).mono fun i hi=>⟨by omega,lL hi.2 hg.size⟩;have HB:=hide (below_growB (HB1.out.trans (hb3.mono HB1.out.size)) hg (by omega));have HV:=hide hv6;have HSt:=hide hst;have HX:=hide hx;clear hst hx hg hv6 hV3 hb3;go_wp2_with ((with_reducible refine dS w6 ?_ ?_ ?_);rfl;exact does_store rfl rfl rfl HSt.out);refine bodyPost_ret (v:=.tuple #[.agg ((cntV word l).1.cells A3 c3 D3 d3),.bool (cntV word l).2]) (by refine results_ct (p:=6) (q:=7) ?_ ?_ (box_load aggOp HX.out rfl) <;> rfl) rfl ?_;exact⟨_,rfl,HV.out,HB.out⟩
end
section
theorem takeB_spec (s:ByteArray) (l:List ByteArray):l=(if (takeB s l).1 then [s] else []) ++ (takeB s l).2:=by
 cases l with
 |nil=>rfl
 |cons x r=>
  cases h:x.toList==s.toList with
  |true=>rw[takeB_hit h,toList_inj (beq_iff_eq.1 h)];rfl
  |false=>rw[takeB_miss h];rfl
theorem fl_spec {t:List ByteArray}(h:(fl3 t).2.length=0):t=flagW (fl1 t).1 (fl2 t).1 (fl3 t).1:=by
 have h1:=takeB_spec sLose t;have h2:=takeB_spec sDeaf (fl1 t).2;have h3:=takeB_spec sTwice (fl2 t).2;have e3:(takeB sTwice (fl2 t).2).2=[]:=List.length_eq_zero_iff.1 h;rw[e3,List.append_nil]at h3;have e2:(takeB sDeaf (fl1 t).2).2=(fl2 t).2:=rfl;rw[e2,h3]at h2;have e1:(takeB sLose t).2=(fl1 t).2:=rfl;rw[e1,h2]at h1;exact h1
theorem fl_back (a b c:Bool):(fl1 (flagW a b c)).1=a∧(fl2 (flagW a b c)).1=b∧(fl3 (flagW a b c)).1=c∧(fl3 (flagW a b c)).2=[]∧flagsR (flagW a b c)=(opF a b c,true):=by
 cases a <;> cases b <;> cases c <;> exact⟨by decide +kernel,by decide +kernel,by decide +kernel,by decide +kernel,by rfl⟩
theorem flags_agree (t:List ByteArray):(((fl3 t).2.length:Int)==0)=(flagsR t).2∧((flagsR t).2=true→(flagsR t).1=opF (fl1 t).1 (fl2 t).1 (fl3 t).1):=by
 by_cases h:(fl3 t).2.length=0
 ·have ht:=fl_spec h;obtain⟨_,_,_,_,hb⟩:=fl_back (fl1 t).1 (fl2 t).1 (fl3 t).1;rw[← ht]at hb;rw[hb,h];exact⟨rfl,fun _=>rfl⟩
 ·have h2:(flagsR t).2=false:=by
   cases hq:(flagsR t).2 with
   |false=>rfl
   |true=>obtain⟨a,b,c,_,ht⟩:=flagsR_in hq;have:=(fl_back a b c).2.2.2.1;rw[← ht]at this;exact absurd (by rw[this];rfl) h
  rw[h2];exact⟨bN (by omega),fun e=>by cases e⟩
theorem numsV_one (a:ByteArray):numsV [a]=if (numV a).2=true then ([(numV a).1],true) else ([],false):=by
 unfold numsV;simp only[List.all_cons,List.all_nil,Bool.and_true,List.map_cons,List.map_nil]
theorem numsV_one2 (a:ByteArray):(numsV [a]).2=(numV a).2:=by
 rw[numsV_one];cases (numV a).2 <;> rfl
theorem numsV_one1 {a:ByteArray}(h:(numV a).2=true):(numsV [a]).1.getD 0 0=(numV a).1:=by
 rw[numsV_one,if_pos h];rfl
theorem isW_eq (word:ByteArray) (l:List UInt8):(isW word l=true)=(word.toList=l):=by
 unfold isW;exact propext beq_iff_eq
theorem cnt_agree {P C:List ByteArray}{x:ByteArray}{r:List ByteArray}(h1:¬ x.toList=wIssue) (h2:¬ x.toList=wSpoil) (h3:¬ x.toList=wAudit) (h4:¬ x.toList=wRestart) (h5:¬ x.toList=wSend) (h6:¬ x.toList=wLie):(cntV x r).2=(someV P C x r).isSome∧∀ p,someV P C x r=some p→(cntV x r).1=p:=by
 have e0:(r.length=0)=(r=[]):=propext List.length_eq_zero_iff;have ok2:(okTwo (numsV r)=true)=((numsV r).2=true∧(numsV r).1.length=2):=by unfold okTwo;rw[Bool.and_eq_true,decide_eq_true_eq]
 have ok1:(okOne (numsV r)=true)=((numsV r).2=true∧(numsV r).1.length=1):=by unfold okOne;rw[Bool.and_eq_true,decide_eq_true_eq]
 unfold someV;rw[if_neg h1,if_neg h2,if_neg h3];unfold cntV;simp only[isW_eq,ok2,ok1,e0];unfold twoV oneV;by_cases g1:x.toList=wFeed
 ·have e:x.toList=[102,101,101,100]:=g1;by_cases hc:(numsV r).2=true∧(numsV r).1.length=2
  ·simp only[g1,e,hc,wFeed,wFuse,wClose,wFinal,wVanish,wCount,wFinish,and_self,if_true,true_and,Option.isSome];exact fun p hp=>by injection hp
  ·simp[e,hc,wFeed,wFuse,wClose,wFinal,wVanish,wCount,wFinish]
 by_cases g2:x.toList=wFuse
 ·have e:x.toList=[102,117,115,101]:=g2;by_cases hc:(numsV r).2=true∧(numsV r).1.length=2
  ·simp[e,hc,wFeed,wFuse]
  ·simp[e,hc,wFeed,wFuse,wClose,wFinal,wVanish,wCount,wFinish]
 by_cases g3:x.toList=wClose
 ·have e:x.toList=[99,108,111,115,101]:=g3;by_cases hc:(numsV r).2=true∧(numsV r).1.length=1
  ·simp[e,hc,wFeed,wFuse,wClose]
  ·simp[e,hc,wFeed,wFuse,wClose,wFinal,wVanish,wCount,wFinish]
 by_cases g4:x.toList=wFinal
 ·have e:x.toList=[102,105,110,97,108]:=g4;by_cases hc:(numsV r).2=true∧(numsV r).1.length=1
  ·simp[e,hc,wFeed,wFuse,wClose,wFinal]
  ·simp[e,hc,wFeed,wFuse,wClose,wFinal,wVanish,wCount,wFinish]
 by_cases g5:x.toList=wVanish
 ·have e:x.toList=[118,97,110,105,115,104]:=g5;by_cases hc:(numsV r).2=true∧(numsV r).1.length=1
  ·simp[e,hc,wFeed,wFuse,wClose,wFinal,wVanish]
  ·simp[e,hc,wFeed,wFuse,wClose,wFinal,wVanish,wCount,wFinish]
 by_cases g6:x.toList=wCount
 ·have e:x.toList=[99,111,117,110,116]:=g6;by_cases hc:r=[]
  ·simp[e,hc,wFeed,wFuse,wClose,wFinal,wVanish,wCount,wRestart,wSend,wLie]
  ·simp[e,hc,wFeed,wFuse,wClose,wFinal,wVanish,wCount,wFinish,wRestart,wSend,wLie]
 by_cases g7:x.toList=wFinish
 ·have e:x.toList=[102,105,110,105,115,104]:=g7;by_cases hc:r=[]
  ·simp[e,hc,wFeed,wFuse,wClose,wFinal,wVanish,wCount,wFinish,wRestart,wSend,wLie]
  ·simp[e,hc,wFeed,wFuse,wClose,wFinal,wVanish,wCount,wFinish,wRestart,wSend,wLie]
 rw[if_neg g1,if_neg g2,if_neg g3,if_neg g4,if_neg g5,if_neg h4,if_neg h5,if_neg h6,if_neg g6,if_neg g7];rw[if_neg (fun h=>g1 h.1),if_neg (fun h=>g2 h.1),if_neg (fun h=>g3 h.1),if_neg (fun h=>g4 h.1),if_neg (fun h=>g5 h.1),if_neg (fun h=>g6 h.1),if_neg (fun h=>g7 h.1)];exact⟨rfl,fun p hp=>by cases hp⟩
theorem words_any {e:EV}{P C:List ByteArray}{x:ByteArray}{r:List ByteArray}{w:World}(hE:Elec w e P C) (hP:P.length≤1000000) (hPn:∀ n ∈ P,n.size≤3000000) (hC:C.length≤1000000) (hCn:∀ n ∈ C,n.size≤3000000) (hM:Max w) (hs:∀ s ∈ r,s.size≤1000000) (hr:r.length≤1000000) :
  ∃ o ok,WordsTo (e.cells P.length C.length) w x r o ok∧ok=(someV P C x r).isSome∧∀ p,someV P C x r=some p→o=p:=by
 by_cases h1:x.toList=wIssue
 ·cases r with
  |nil=>
   refine⟨_,_,fun wq B d hb hl hd hd2=>wd_issue0 (x:=x) (a:=x) (b:=x) (r:=[]) h1 (hE.below hb) hP hPn hC hCn (hM.below hb) hl hd (by omega) hs,?_,?_⟩
   ·unfold someV;rw[if_pos h1];rfl
   ·unfold someV;rw[if_pos h1];exact fun p hp=>by cases hp
  |cons a t=>
   refine⟨_,_,fun wq B d hb hl hd hd2=>words_issue (x:=a) (r:=t) h1 (hE.below hb) hP hPn (hM.below hb) hl hd (by omega) (fun s h=>hs s (List.mem_cons_of_mem _ h)),?_,?_⟩
   ·unfold someV;rw[if_pos h1];show _=Option.isSome (if _ then _ else _);by_cases hc:(numsV t).2=true∧0≤idxN P a
    ·rw[if_pos hc,hc.1,decide_eq_true hc.2];rfl
    ·rw[if_neg hc];cases hq:(decide (0≤idxN P a) && (numsV t).2) with
     |false=>rfl
     |true=>rw[Bool.and_eq_true,decide_eq_true_eq]at hq;exact absurd ⟨hq.2,hq.1⟩ hc
   ·unfold someV;rw[if_pos h1];intro p hp;have hp:(if (numsV t).2=true∧0≤idxN P a then some ({ zeroO with kind:=1,prec:=idxN P a,marks:=(numsV t).1 }:Opn) else none)=some p:=hp;split at hp
    ·injection hp with hp
    ·cases hp
 by_cases h2:x.toList=wSpoil
 ·match r,hs,hr with
  | [],hs,hr=>
   refine⟨_,_,fun wq B d hb hl hd hd2=>wd_spoil0 (x:=x) (a:=x) (b:=x) (r:=[]) h2 (hE.below hb) hP hPn hC hCn (hM.below hb) hl hd (by omega) hs,?_,?_⟩
   ·unfold someV;rw[if_neg h1,if_pos h2];rfl
   ·unfold someV;rw[if_neg h1,if_pos h2];exact fun p hp=>by cases hp
  | [a],hs,hr=>
   refine⟨_,_,fun wq B d hb hl hd hd2=>wd_spoil1 (x:=a) (a:=x) (b:=x) (r:=[]) h2 (hE.below hb) hP hPn hC hCn (hM.below hb) hl hd (by omega) hs,?_,?_⟩
   ·unfold someV;rw[if_neg h1,if_pos h2];show _=Option.isSome (if _ then _ else _);by_cases hc:0≤idxN P a
    ·rw[if_pos hc,decide_eq_true hc];rfl
    ·rw[if_neg hc,decide_eq_false hc];rfl
   ·unfold someV;rw[if_neg h1,if_pos h2];intro p hp;have hp:(if 0≤idxN P a then some ({ zeroO with kind:=2,prec:=idxN P a }:Opn) else none)=some p:=hp;split at hp
    ·injection hp with hp
    ·cases hp
  |a :: b :: t,hs,hr=>
   refine⟨_,_,fun wq B d hb hl hd hd2=>wd_spoil2 (x:=a) (a:=b) (b:=x) (r:=t) h2 (hE.below hb) hP hPn hC hCn (hM.below hb) hl hd (by omega) hs,?_,?_⟩
   ·unfold someV;rw[if_neg h1,if_pos h2];rfl
   ·unfold someV;rw[if_neg h1,if_pos h2];exact fun p hp=>by cases hp
 by_cases h3:x.toList=wAudit
 ·cases r with
  |nil=>
   refine⟨_,_,fun wq B d hb hl hd hd2=>wd_audit0 (x:=x) (a:=x) (b:=x) (r:=[]) h3 (hE.below hb) hP hPn hC hCn (hM.below hb) hl hd (by omega) hs,?_,?_⟩
   ·unfold someV;rw[if_neg h1,if_neg h2,if_pos h3];rfl
   ·unfold someV;rw[if_neg h1,if_neg h2,if_pos h3];exact fun p hp=>by cases hp
  |cons a t=>
   refine⟨_,_,fun wq B d hb hl hd hd2=>wd_audit1 (x:=a) (a:=x) (b:=x) (r:=t) h3 (hE.below hb) hP hPn hC hCn (hM.below hb) hl hd (by omega) hs,?_,?_⟩
   ·unfold someV;rw[if_neg h1,if_neg h2,if_pos h3];show _=Option.isSome (if _ then _ else _);by_cases hc:(numsV t).2=true∧(numsV t).1.length=1∧0≤idxN C a
    ·rw[if_pos hc,hc.1,decide_eq_true hc.2.1,decide_eq_true hc.2.2];rfl
    ·rw[if_neg hc];cases hq:((decide (0≤idxN C a) && (numsV t).2) && decide ((numsV t).1.length=1)) with
     |false=>rfl
     |true=>rw[Bool.and_eq_true,Bool.and_eq_true,decide_eq_true_eq,decide_eq_true_eq]at hq;exact absurd ⟨hq.1.2,hq.2,hq.1.1⟩ hc
   ·unfold someV;rw[if_neg h1,if_neg h2,if_pos h3];intro p hp;have hp:(if (numsV t).2=true∧(numsV t).1.length=1∧0≤idxN C a then some ({ zeroO with kind:=12,cont:=idxN C a,n:=(numsV t).1.getD 0 0 }:Opn) else none)=some p:=hp;split at hp
    ·rename_i hc;injection hp with hp;rw[if_pos ⟨by rw[hc.1,decide_eq_true hc.2.2];rfl,hc.2.1⟩];exact hp
    ·cases hp
 by_cases h4:x.toList=wRestart
 ·have hv:∀ r,someV P C x r=(match r with | [a,b]=>if (numsV [a]).2=true∧(bitsV b).2=true then some { zeroO with kind:=5,scan:=(numsV [a]).1.getD 0 0,keep:=(bitsV b).1 } else none|_=>none):=fun r=>by unfold someV;rw[if_neg h1,if_neg h2,if_neg h3,if_neg (by rw[h4];decide),if_neg (by rw[h4];decide),if_neg (by rw[h4];decide),if_neg (by rw[h4];decide),if_neg (by rw[h4];decide),if_pos h4];rfl
  match r,hs,hr with
  | [],hs,hr=>exact⟨_,_,fun wq B d hb hl hd hd2=>wd_restart0 (x:=x) (a:=x) (b:=x) (r:=[]) h4 (hE.below hb) hP hPn hC hCn (hM.below hb) hl hd (by omega) hs,by rw[hv];rfl,by rw[hv];exact fun p hp=>by cases hp⟩
  | [a],hs,hr=>exact⟨_,_,fun wq B d hb hl hd hd2=>wd_restart1 (x:=a) (a:=x) (b:=x) (r:=[]) h4 (hE.below hb) hP hPn hC hCn (hM.below hb) hl hd (by omega) hs,by rw[hv];rfl,by rw[hv];exact fun p hp=>by cases hp⟩
  | [a,b],hs,hr=>
   refine⟨_,_,fun wq B d hb hl hd hd2=>wd_restart2 (x:=a) (a:=b) (b:=x) (r:=[]) h4 (hE.below hb) hP hPn hC hCn (hM.below hb) hl hd (by omega) hs,?_,?_⟩
   ·rw[hv];show _=Option.isSome (if _ then _ else _);rw[numsV_one2];cases (numV a).2 <;> cases (bitsV b).2 <;> rfl
   ·rw[hv];intro p hp;have hp:(if (numsV [a]).2=true∧(bitsV b).2=true then some ({ zeroO with kind:=5,scan:=(numsV [a]).1.getD 0 0,keep:=(bitsV b).1 }:Opn) else none)=some p:=hp;split at hp
    ·rename_i hc;injection hp with hp;rw[numsV_one2]at hc;rw[← hp,numsV_one1 hc.1]
    ·cases hp
  |a :: b :: c :: t,hs,hr=>exact⟨_,_,fun wq B d hb hl hd hd2=>wd_restart3 (x:=a) (a:=b) (b:=c) (r:=t) h4 (hE.below hb) hP hPn hC hCn (hM.below hb) hl hd (by omega) hs,by rw[hv];rfl,by rw[hv];exact fun p hp=>by cases hp⟩
 by_cases h5:x.toList=wSend
 ·have hv:∀ r,someV P C x r=(match r with | []=>none|a :: t=>if (numsV [a]).2=true∧(flagsR t).2=true then some { (flagsR t).1 with kind:=7,scan:=(numsV [a]).1.getD 0 0 } else none):=fun r=>by unfold someV;rw[if_neg h1,if_neg h2,if_neg h3,if_neg (by rw[h5];decide),if_neg (by rw[h5];decide),if_neg (by rw[h5];decide),if_neg (by rw[h5];decide),if_neg (by rw[h5];decide),if_neg (by rw[h5];decide),if_pos h5];rfl
  cases r with
  |nil=>exact⟨_,_,fun wq B d hb hl hd hd2=>wd_send0 (x:=x) (a:=x) (b:=x) (r:=[]) h5 (hE.below hb) hP hPn hC hCn (hM.below hb) hl hd (by omega) hs,by rw[hv];rfl,by rw[hv];exact fun p hp=>by cases hp⟩
  |cons a t=>
   obtain⟨g1,g2⟩:=flags_agree t;refine⟨_,_,fun wq B d hb hl hd hd2=>wd_send1 (x:=a) (a:=x) (b:=x) (r:=t) h5 (hE.below hb) hP hPn hC hCn (hM.below hb) hl hd (by omega) hs,?_,?_⟩
   ·rw[hv];show _=Option.isSome (if _ then _ else _);rw[numsV_one2,g1];cases (numV a).2 <;> cases (flagsR t).2 <;> rfl
   ·rw[hv];intro p hp;have hp:(if (numsV [a]).2=true∧(flagsR t).2=true then some ({ (flagsR t).1 with kind:=7,scan:=(numsV [a]).1.getD 0 0 }:Opn) else none)=some p:=hp;split at hp
    ·rename_i hc;injection hp with hp;rw[numsV_one2]at hc;rw[← hp,numsV_one1 hc.1,g2 hc.2];rfl
    ·cases hp
 by_cases h6:x.toList=wLie
 ·have hv:∀ r,someV P C x r=(match r with | [a,b,c]=>if (numsV [a,b]).2=true∧1≤posS liesL c then some { zeroO with kind:=8,scan:=(numsV [a,b]).1.getD 0 0,n:=(numsV [a,b]).1.getD 1 0,lie:=posS liesL c } else none|_=>none):=fun r=>by unfold someV;rw[if_neg h1,if_neg h2,if_neg h3,if_neg (by rw[h6];decide),if_neg (by rw[h6];decide),if_neg (by rw[h6];decide),if_neg (by rw[h6];decide),if_neg (by rw[h6];decide),if_neg (by rw[h6];decide),if_neg (by rw[h6];decide),if_pos h6];rfl
  match r,hs,hr with
  | [],hs,hr=>exact⟨_,_,fun wq B d hb hl hd hd2=>wd_lie0 (x:=x) (a:=x) (b:=x) (r:=[]) h6 (hE.below hb) hP hPn hC hCn (hM.below hb) hl hd (by omega) hs,by rw[hv];rfl,by rw[hv];exact fun p hp=>by cases hp⟩
  | [a],hs,hr=>exact⟨_,_,fun wq B d hb hl hd hd2=>wd_lie1 (x:=a) (a:=x) (b:=x) (r:=[]) h6 (hE.below hb) hP hPn hC hCn (hM.below hb) hl hd (by omega) hs,by rw[hv];rfl,by rw[hv];exact fun p hp=>by cases hp⟩
  | [a,b],hs,hr=>exact⟨_,_,fun wq B d hb hl hd hd2=>wd_lie2 (x:=a) (a:=b) (b:=x) (r:=[]) h6 (hE.below hb) hP hPn hC hCn (hM.below hb) hl hd (by omega) hs,by rw[hv];rfl,by rw[hv];exact fun p hp=>by cases hp⟩
  | [a,b,c],hs,hr=>
   refine⟨_,_,fun wq B d hb hl hd hd2=>wd_lie3 (x:=a) (a:=b) (b:=c) (r:=[]) h6 (hE.below hb) hP hPn hC hCn (hM.below hb) hl hd (by omega) hs,?_,?_⟩
   ·rw[hv];show _=Option.isSome (if _ then _ else _);by_cases hc:(numsV [a,b]).2=true∧1≤posS liesL c
    ·rw[if_pos hc,hc.1,decide_eq_true (show 0 < posS liesL c by omega)];rfl
    ·rw[if_neg hc];cases hq:((numsV [a,b]).2 && decide (0 < posS liesL c)) with
     |false=>rfl
     |true=>rw[Bool.and_eq_true,decide_eq_true_eq]at hq;exact absurd ⟨hq.1,by omega⟩ hc
   ·rw[hv];intro p hp;have hp:(if (numsV [a,b]).2=true∧1≤posS liesL c then some ({ zeroO with kind:=8,scan:=(numsV [a,b]).1.getD 0 0,n:=(numsV [a,b]).1.getD 1 0,lie:=posS liesL c }:Opn) else none)=some p:=hp;split at hp
    ·rename_i hc;injection hp with hp;rw[if_pos hc.1,if_pos hc.1,if_pos hc.1];exact hp
    ·cases hp
  |a :: b :: c :: d' :: t,hs,hr=>exact⟨_,_,fun wq B d hb hl hd hd2=>wd_lie4 (x:=a) (a:=b) (b:=c) (c:=d') (r:=t) h6 (hE.below hb) hP hPn hC hCn (hM.below hb) hl hd (by omega) hs,by rw[hv];rfl,by rw[hv];exact fun p hp=>by cases hp⟩
 ·obtain⟨g1,g2⟩:=cnt_agree (P:=P) (C:=C) (r:=r) h1 h2 h3 h4 h5 h6;exact⟨_,_,fun wq B d hb hl hd hd2=>wd_else h1 h2 h3 h4 h5 h6 hl hr hs,g1,g2⟩
end
end Go.Proofs.YtnndaemmgbkjbaaGreatDoor
