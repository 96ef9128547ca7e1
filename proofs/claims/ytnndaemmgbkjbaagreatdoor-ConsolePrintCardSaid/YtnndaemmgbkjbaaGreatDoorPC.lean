/-
  parts of the proof: DigB Find AddB MulB R45A.
-/
import Derived.Lib.ItoaNum
import Derived.Test.YtnndaemmgbkjbaaGreatDoorPB
namespace Go.Proofs.YtnndaemmgbkjbaaGreatDoor
open Go.RowKit
open Nat renaming le_trans → lT, le_refl → lR, zero_le → zL
open Go.RowKit.Below renaming refl → bR
open _root_.Go.Proofs.Tryz renaming prog → pG
open Go.Value renaming int → vI, slice → vS, string → vT, bool → vB
open Go.IntKind renaming i64 → kI
set_option linter.unusedVariables false
set_option linter.unusedSimpArgs false
section
def digR (n:Nat):List UInt8:=if n=0 then [] else Lib.decDigits n
def digitOf (d:Nat):UInt8:=UInt8.ofNat (48+d)
theorem digR_step {n:Nat}(h:0 < n):digR n=digR (n / 10) ++ [digitOf (n % 10)]:=by
 unfold digR;rw[if_neg (by omega)];by_cases h10:n < 10
 ·rw[if_pos (by omega),Lib.decDigits_one h10,Nat.mod_eq_of_lt h10];rfl
 ·rw[if_neg (by omega),Lib.decDigits,dif_neg h10];rfl
theorem digR_pos {n:Nat}(h:0 < n):digR n=Lib.decDigits n:=if_neg (by omega)
theorem drop_small {r:List Bool}(k:Nat) (h:valB r < 10):valB (r.drop k) < 10:=by
 have h1:=valB_split r k;have h2:valB (r.drop k)≤2 ^ k * valB (r.drop k):=Nat.le_mul_of_pos_left _ (Nat.two_pow_pos k);omega
theorem conv_one (w:World) (d:Nat) (hd:d < 10):(convert 117 9 (vS (some ⟨w.heap.size,0,none⟩) 1 1)).run pG (w.alloc (.cells #[.int .u8 ((48+d:Nat):Int)] 5))=.ok (vT ⟨#[digitOf d]⟩) (w.alloc (.cells #[.int .u8 ((48+d:Nat):Int)] 5)):=by
 have h:=run_convert_bytes_arg (P:=pG) (w.alloc (.cells #[.int .u8 ((48+d:Nat):Int)] 5)) 117 5 Tryz.underlying117 Tryz.underlying5 w.heap.size 0 1 1 [((48+d:Nat):Int)] rfl (fun i hi=>by
  obtain rfl:i=0:=by omega
  rw[(Box.new w 5 #[.int .u8 ((48+d:Nat):Int)]).cell];rfl) 9 Tryz.underlying9
 rw[h];rfl
theorem cat_one (x:UInt8) (t:List UInt8):(⟨(x :: t).toArray⟩:ByteArray)=⟨#[x]⟩ ++ ⟨t.toArray⟩:=by
 apply ByteArray.ext;simp
set_option maxHeartbeats 8000000
set_option maxRecDepth 100000
theorem digits_any {A:Option Addr}{c:Nat}{a:List Bool}{w:World}(ha:Bools w A a) (hm:a.length≤100000) (hc:a.length≤c) (hn:NormB a) (hD:(Lib.decDigits (valB a)).length≤1000) :
  Calls pG 75 #[vS A a.length c] w fun e w'=>e=.returned (vT ⟨(Lib.decDigits (valB a)).toArray⟩)∧Below w.heap.size w w':=by
 rcases Nat.eq_zero_or_pos a.length with h0|h0
 ·obtain rfl:a=[]:=List.length_eq_zero_iff.1 h0;have e:Lib.decDigits (valB [])=[48]:=Lib.decDigits_one (i:=0) (by decide);rw[e];clear ha hm hc hn h0 e hD;go_enter Tryz.func75,Tryz.ntmps75;go_wp2_with fail;go_ret;exact⟨rfl,bR _ _⟩
 ·have HA:Hid (GcdA w (vS A a.length c) a):=⟨A,c,rfl,hc,ha,hm⟩;have HN:=hide hn;have HD0:=hide (digR_pos (norm_pos hn h0));have HDl:=hide hD;have hz0:((a.length:Int)==0)=false:=bN (by omega);clear hD;clear ha hn;go_enter Tryz.func75,Tryz.ntmps75;go_wp2_with fail;generalize hva:Value.slice A a.length c=va at *;go_loopw [0,3,4,5,6,7] (fun o s _ _ _ _ wr=>∃ (va:Value) (x:List Bool) (t:List UInt8),o=va∧s=vT ⟨t.toArray⟩∧Hid (GcdA wr va x)∧Hid (NormB x)∧Hid (digR (valB a)=digR (valB x) ++ t)∧Hid (Below w.heap.size w wr)) (fun o _ _ _ _ _ wr=>readB wr o);case atStart=>exact⟨_,a,[],rfl,rfl,HA,HN,(by rw[Hid,List.append_nil]),bR _ _⟩
  case round=>
   obtain⟨va,x,t,rfl,rfl,HX,HN,HT,HW⟩:=hrel;have HM:=hide (readB_eq HX.out);obtain⟨A1,c1,rfl,hc1,hx1,hm1⟩:=HX.out;rcases Nat.eq_zero_or_pos x.length with h0|h0
   ·obtain rfl:x=[]:=List.length_eq_zero_iff.1 h0;have e:=HT.out;have e2:digR (valB [])=[]:=rfl;rw[e2,List.nil_append,HD0.out]at e;have HE:=hide e;clear hx1 hc1 HX HN HT e e2;go_wp2_with fail;go_ret;exact⟨by rw[HE.out];rfl,HW.out⟩
   ·have hp:=norm_pos HN.out h0;have HS:=hide (small_any (n:=10) (w:=wr) (by decide));have HP:=hide hp;have HStep:=hide (digR_step hp);clear hc1 hp;go_wp2_with fail;refine HS.out.mono ?_;rintro e w1 ⟨v1,l1,rfl,hO1,hv1,hn1,hl1,hb1⟩;obtain⟨A2,c2,rfl,hc2,_,_⟩:=hO1.form;have HDv:=hide (divB_any (c:=c1) (d:=c2) (ListIn.below hx1 hb1) hO1.list hm1 (by omega) (by omega));have HV1:=hide hv1;have HB1:=hide hb1;clear hx1 hO1 hv1 hn1 hc2 hb1;go_wp2_with fail;refine HDv.out.mono ?_;rintro e w2 ⟨vq,vr,q,r,rfl,hq,hr,hvq,hvr,hnq,_,hlq,hlr,hb2⟩;rw[HV1.out]at hvq hvr;have HQ:=hide (GcdA.own hq (by omega));have HMq:=hide (readB_eq HQ.out);have HNq:=hide hnq;have HVq:=hide hvq;have HVr:=hide hvr;have HLt:Hid (valB r < 10):=by rw[Hid,hvr];exact Nat.mod_lt _ (by decide)
    obtain⟨A3,c3,rfl,_,_,_⟩:=hr.form;have HR:=hide hr.list;have HW2:=hide (below_then HW.out (below_then HB1.out hb2));clear hq hr hvq hvr hnq hlq hb2;go_wp2_with fail;go_loopw [6,7] (fun d i wi=>∃ k:Nat,k≤r.length∧i=vI kI ((k:Int) - 1)∧d=vI kI (valB (r.drop k):Nat)∧wi=w2) (fun _ i _=>(iOf i+1).toNat);case atStart=>exact⟨r.length,lR _,by first|rfl|go_num,(by rw[List.drop_length];rfl),rfl⟩
    case round=>
     obtain⟨k,hk,rfl,rfl,rfl⟩:=hrel;rcases Nat.eq_zero_or_pos k with h0|h0
     ·subst h0;have e0:((0:Nat):Int) - 1=-1:=by omega
      rw[e0,List.drop_zero];have HT2:Hid (digR (valB a)=digR (valB q) ++ (digitOf (valB r) :: t)):=by rw[Hid,HT.out,HStep.out,HVq.out,HVr.out,List.append_assoc];rfl
      have hlt:=HLt.out;have hs1:(⟨#[digitOf (valB r)]⟩:ByteArray).size=1:=rfl;have hs2:(⟨t.toArray⟩:ByteArray).size≤1000:=by have h1:=congrArg List.length HT.out;have h2:=HDl.out;rw[HD0.out,List.length_append]at h1;rw[Lib.size_eq];simp only[]at *;omega
      have hmlt:Hid (valB q < valB x):=by rw[Hid,HVq.out];have:=HP.out;omega
      generalize valB r=dv at *;have hcv:=conv_one wr dv hlt;rw[show ((48+dv:Nat):Int)=48+(dv:Int) by omega]at hcv;have hb3:=hide (HW2.out.alloc HW2.out.size (.cells #[.int .u8 (48+(dv:Int))] 5));have HQ3:=hide (HQ.out.below ((bR _ _).alloc (lR _) (.cells #[.int .u8 (48+(dv:Int))] 5)));have HMq3:=hide (readB_eq HQ3.out);generalize digitOf dv=x0 at *;go_wp2_with fail;go_roundw;case rel=>exact⟨_,q,x0 :: t,rfl,by rw[cat_one];rfl,HQ3.out,HNq.out,HT2.out,hb3.out⟩
      case measure=>rw[HM.out,HMq3.out];exact hmlt.out
     ·obtain⟨k,rfl⟩:∃ j,k=j+1:=⟨k - 1,by omega⟩;have e0:((k+1:Nat):Int) - 1=(k:Int):=by omega
      rw[e0];have hkr:k < r.length:=by omega
      obtain⟨b0,off,rfl,hbk,hcell⟩:=HR.out.at_ hkr;have hdr:=valB_drop r hkr;have hsm:=drop_small k HLt.out;have hyd:r.getD k default=r.getD k false:=rfl;rw[hyd]at hcell;generalize r.getD k false=y at *;generalize hv0:valB (r.drop k)=v0 at *;generalize valB (r.drop (k+1))=v1 at *;cases y with
      |true=>
       have e1:Hid ((2:Int) * (v1:Int)+1=(v0:Int)):=by have:true.toNat=1:=rfl;rw[Hid];omega
       have hv9:v1 < 10:=by omega
       have HV0:=hide hv0;clear hdr hsm hv0;go_wp2_with fail;go_roundw;case rel=>exact⟨k,by omega,by first|rfl|go_num,(by rw[HV0.out,← e1.out]),by first|rfl|trivial⟩
       case measure=>simp[iOf]
      |false=>
       have e1:Hid ((2:Int) * (v1:Int)=(v0:Int)):=by have:false.toNat=0:=rfl;rw[Hid];omega
       have hv9:v1 < 10:=by omega
       have HV0:=hide hv0;clear hdr hsm hv0;go_wp2_with fail;go_roundw;case rel=>exact⟨k,by omega,by first|rfl|go_num,(by rw[HV0.out,← e1.out]),by first|rfl|trivial⟩
       case measure=>simp[iOf]
end
section
def Says (v:Value) (P:Prop):Prop:=∃ b:Bool,v=vB b∧(b=true→P)
def posS (l:List ByteArray) (s:ByteArray):Int:=if l.findIdx (fun x=>decide (x=s)) < l.length then (l.findIdx (fun x=>decide (x=s)):Nat) else -1
theorem posS_bd (l:List ByteArray) (s:ByteArray):-1≤posS l s∧posS l s < l.length:=by
 unfold posS;split <;> omega
theorem posS_yes {l:List ByteArray}{s:ByteArray}{k:Nat}(hk:k < l.length) (h0:∀ j,j < k→l.getD j default≠s) (h:l.getD k default=s):posS l s=k:=by
 have e:l.findIdx (fun x=>decide (x=s))=k:=by
  rw[List.findIdx_eq hk];refine⟨?_,fun j hj=>?_⟩
  ·rw[List.getD_eq_getElem?_getD,List.getElem?_eq_getElem hk]at h;exact decide_eq_true h
  ·have:=h0 j hj;rw[List.getD_eq_getElem?_getD,List.getElem?_eq_getElem (by omega)]at this;exact decide_eq_false this
 unfold posS;rw[e,if_pos hk]
theorem posS_no {l:List ByteArray}{s:ByteArray}(h0:∀ j,j < l.length→l.getD j default≠s):posS l s=-1:=by
 have e:l.findIdx (fun x=>decide (x=s))=l.length:=by rw[List.findIdx_eq_length];intro x hx;obtain⟨j,hj,rfl⟩:=List.getElem_of_mem hx;have:=h0 j hj;rw[List.getD_eq_getElem?_getD,List.getElem?_eq_getElem hj]at this;exact decide_eq_false this
 unfold posS;rw[e,if_neg (Nat.lt_irrefl _)]
set_option maxHeartbeats 2000000
set_option maxRecDepth 100000
theorem find_any {A:Option Addr}{c:Nat}{l:List ByteArray}{s:ByteArray}{w:World}(h:Strs w A l) (hm:l.length≤1000000) :
  Calls pG 38 #[vS A l.length c,vT s] w fun e w'=>e=.returned (vI kI (posS l s))∧w'=w:=by
 have H:=hide h;have HY:=hide (fun k hk h0 h=>posS_yes (l:=l) (s:=s) (k:=k) hk h0 h);have HN:=hide (fun h0=>posS_no (l:=l) (s:=s) h0);clear h;obtain⟨r,hr⟩:∃ r,posS l s=r:=⟨_,rfl⟩;rw[hr]at HY HN ⊢;clear hr;go_enter Tryz.func38,Tryz.ntmps38;go_wp2_with fail;go_loopw [5] (fun i wr=>∃ k:Nat,k≤l.length∧i=vI kI k∧Hid (∀ j,j < k→l.getD j default≠s)∧wr=w) (fun i _=>l.length - (iOf i).toNat);case atStart=>exact⟨0,zL _,rfl,(fun j hj=>by omega),rfl⟩
 case round=>
  obtain⟨k,hk,rfl,HS,rfl⟩:=hrel;by_cases hlt:k < l.length
  ·obtain⟨b,off,rfl,hb,h1⟩:=H.out.at_ hlt;have HYk:=hide (HY.out k hlt HS.out);have HS1:Hid (l.getD k default≠s→∀ j,j < k+1→l.getD j default≠s):=fun e j hj=>by
    by_cases ej:j=k
    ·rw[ej];exact e
    ·exact HS.out j (by omega)
   generalize l.getD k default=x at *;by_cases hxy:x=s
   ·have hv:=hide (HYk.out hxy);have hne:(x.toList==s.toList)=true:=by rw[beq_bytes,decide_eq_true hxy]
    clear hxy;go_wp2_with fail;go_ret;exact⟨by rw[hv.out];rfl,rfl⟩
   ·have HS2:=hide (HS1.out hxy);have hne:(x.toList==s.toList)=false:=by rw[beq_bytes,decide_eq_false hxy]
    clear hxy;go_wp2_with fail;go_roundw;case rel=>exact⟨k+1,by omega,by go_num,HS2.out,by first|rfl|trivial⟩
    case measure=>simp[iOf];omega
  ·obtain rfl:k=l.length:=by omega
   have hv:=hide (HN.out HS.out);go_wp2_with fail;go_ret;exact⟨by rw[hv.out];rfl,rfl⟩
theorem place_any {A:Option Addr}{c:Nat}{l:List ByteArray}{s:ByteArray}{w:World}(h:Strs w A l) (hm:l.length≤1000000) :
  Calls pG 65 #[vS A l.length c,vT s] w fun e w'=>e=.returned (vI kI (posS l s))∧w'=w:=by
 have H:=hide h;have HY:=hide (fun k hk h0 h=>posS_yes (l:=l) (s:=s) (k:=k) hk h0 h);have HN:=hide (fun h0=>posS_no (l:=l) (s:=s) h0);clear h;obtain⟨r,hr⟩:∃ r,posS l s=r:=⟨_,rfl⟩;rw[hr]at HY HN ⊢;clear hr;go_enter Tryz.func65,Tryz.ntmps65;go_wp2_with fail;go_loopw [5] (fun i wr=>∃ k:Nat,k≤l.length∧i=vI kI k∧Hid (∀ j,j < k→l.getD j default≠s)∧wr=w) (fun i _=>l.length - (iOf i).toNat);case atStart=>exact⟨0,zL _,rfl,(fun j hj=>by omega),rfl⟩
 case round=>
  obtain⟨k,hk,rfl,HS,rfl⟩:=hrel;by_cases hlt:k < l.length
  ·obtain⟨b,off,rfl,hb,h1⟩:=H.out.at_ hlt;have HYk:=hide (HY.out k hlt HS.out);have HS1:Hid (l.getD k default≠s→∀ j,j < k+1→l.getD j default≠s):=fun e j hj=>by
    by_cases ej:j=k
    ·rw[ej];exact e
    ·exact HS.out j (by omega)
   generalize l.getD k default=x at *;by_cases hxy:x=s
   ·have hv:=hide (HYk.out hxy);have hne:(x.toList==s.toList)=true:=by rw[beq_bytes,decide_eq_true hxy]
    clear hxy;go_wp2_with fail;go_ret;exact⟨by rw[hv.out];rfl,rfl⟩
   ·have HS2:=hide (HS1.out hxy);have hne:(x.toList==s.toList)=false:=by rw[beq_bytes,decide_eq_false hxy]
    clear hxy;go_wp2_with fail;go_roundw;case rel=>exact⟨k+1,by omega,by go_num,HS2.out,by first|rfl|trivial⟩
    case measure=>simp[iOf];omega
  ·obtain rfl:k=l.length:=by omega
   have hv:=hide (HN.out HS.out);go_wp2_with fail;go_ret;exact⟨by rw[hv.out];rfl,rfl⟩
set_option maxHeartbeats 1000000
theorem name8_any {s:ByteArray}{w:World} :
  Calls pG 102 #[vT s] w fun e w'=>∃ v,e=.returned v∧Says v (s.size≤24)∧w'=w:=by
 by_cases h1:1≤s.size
 ·have h1':(1:Int)≤(s.size:Int):=by omega
  by_cases h2:s.size≤24
  ·have h2':(s.size:Int)≤24:=by omega
   have HP:=hide (plain_any (s:=s) (w:=w) (by omega));generalize plainS s=b at *;clear h1;go_enter Tryz.func102,Tryz.ntmps102;go_wp2_with fail;refine HP.out.mono ?_;rintro e w1 ⟨rfl,rfl⟩;go_wp2_with fail;go_ret;exact⟨_,rfl,⟨b,rfl,fun _=>h2⟩,rfl⟩
  ·have h2':¬ (s.size:Int)≤24:=by omega
   clear h1 h2;go_enter Tryz.func102,Tryz.ntmps102;go_wp2_with fail;go_ret;exact⟨_,rfl,⟨false,rfl,fun h=>by cases h⟩,rfl⟩
 ·have h1':¬ (1:Int)≤(s.size:Int):=by omega
  clear h1;go_enter Tryz.func102,Tryz.ntmps102;go_wp2_with fail;go_ret;exact⟨_,rfl,⟨false,rfl,fun h=>by cases h⟩,rfl⟩
set_option maxHeartbeats 200000
set_option maxRecDepth 512
theorem dec6 {s:ByteArray}(h:(numV s).2=true):s.size≤6∧s.data.toList.all isDig=true:=by
 rw[numV_snd]at h;unfold numOk at h;simp only[Bool.and_eq_true,decide_eq_true_eq]at h;exact⟨by rw[Lib.size_eq];exact h.1.1.2,h.2⟩
theorem wild_bd (n:Int) (k:Nat) (b:UInt8) (h:-1000 * 11 ^ k≤n∧n≤1000 * 11 ^ k):-1000 * 11 ^ (k+1)≤10 * n+((b.toNat:Int) - 48)∧10 * n+((b.toNat:Int) - 48)≤1000 * 11 ^ (k+1):=by
 have hb:=b.toNat_lt;have hp:(1:Int)≤11 ^ k:=by have:0 < (11:Int) ^ k:=Int.pow_pos (by decide);omega
 rw[Int.pow_succ];omega
theorem dec_wild (l:List UInt8):-1000 * 11 ^ l.length≤decVal l∧decVal l≤1000 * 11 ^ l.length:=by
 have key:∀ (l:List UInt8) (n:Int) (k:Nat),-1000 * 11 ^ k≤n∧n≤1000 * 11 ^ k→-1000 * 11 ^ (k+l.length)≤l.foldl (fun n b=>10 * n+((b.toNat:Int) - 48)) n∧l.foldl (fun n b=>10 * n+((b.toNat:Int) - 48)) n≤1000 * 11 ^ (k+l.length):=fun l=>by
  induction l with
  |nil=>exact fun n k h=>h
  |cons b r ih=>intro n k h;have:=ih _ (k+1) (wild_bd n k b h);rw[show k+(b :: r).length=k+1+r.length by simp;omega];exact this
 have:=key l 0 0 (by decide);rwa [Nat.zero_add]at this
theorem dec_wild6 (l:List UInt8) (h:l.length≤6):-10000000000≤decVal l∧decVal l≤10000000000:=by
 have h1:=dec_wild l;have h2:(11:Int) ^ l.length≤11 ^ 6:=by have:(11:Nat) ^ l.length≤11 ^ 6:=Nat.pow_le_pow_right (by decide) h;exact_mod_cast this
 omega
set_option maxHeartbeats 2000000
set_option maxRecDepth 100000
theorem number8_any {s:ByteArray}{w:World}(hs:s.size≤9223372036854775807) :
  Calls pG 123 #[vT s] w fun e w'=>∃ n:Int,e=.returned (.tuple #[vI kI n,vB (numV s).2])∧((numV s).2=true→0≤n∧n < 1000000)∧w'=w:=by
 have HNu:=hide (fun wq=>Number_any (w:=wq) hs);have HD:Hid ((numV s).2=true→0≤decVal (s.data.toList.take 6)∧decVal (s.data.toList.take 6) < 1000000):=fun h=>by
  obtain⟨h1,h2⟩:=dec6 h;rw[Lib.size_eq]at h1;have e:s.data.toList.take 6=s.data.toList.take s.data.toList.length:=by rw[List.take_length,List.take_of_length_le h1]
  rw[e];exact dec_bound (k:=s.data.toList.length) h1 (lR _) (by rw[List.take_length];exact h2)
 generalize (numV s).2=q at *;go_enter Tryz.func123,Tryz.ntmps123;go_wp2_with fail;go_loopw [4,5] (fun n i wr=>∃ k:Nat,k≤6∧k≤s.size∧i=vI kI k∧n=vI kI (decVal (s.data.toList.take k))∧wr=w) (fun _ i _=>6 - (iOf i).toNat);case atStart=>exact⟨0,by omega,by omega,rfl,by simp[decVal],rfl⟩
 case round=>
  obtain⟨k,hk6,hk,rfl,rfl,rfl⟩:=hrel;have hbd:=dec_wild6 (s.data.toList.take k) (by rw[List.length_take];omega);by_cases hlt:k < s.size
  ·by_cases h6:k < 6
   ·have hst:=dec_step hlt;have hx:0≤((s[k]'hlt).toNat:Int)∧((s[k]'hlt).toNat:Int)≤255:=⟨by omega,by have:=(s[k]'hlt).toNat_lt;omega⟩;have hki:(k:Int) < (s.size:Int):=by omega
    have hk6':(k:Int) < 6:=by omega
    have HSt:=hide hst;clear hst;generalize decVal (s.data.toList.take k)=n0 at *;have hst2:10 * n0+(((s[k]'hlt).toNat:Int) - 48)=10 * n0+((s[k]'hlt).toNat:Int) - 48:=by omega
    go_wp2_with fail;go_roundw;case rel=>exact⟨k+1,by omega,by omega,by go_num,by rw[HSt.out,hst2],by first|rfl|trivial⟩
    case measure=>simp[iOf];omega
   ·obtain rfl:k=6:=by omega
    have hd:=hide HD.out;have hki:((6:Nat):Int) < (s.size:Int):=by omega
    generalize decVal (s.data.toList.take 6)=n0 at *;go_wp2_with fail;refine(HNu.out _).mono ?_;rintro e w1 ⟨rfl,rfl⟩;go_wp2_with fail;go_ret2;exact⟨n0,rfl,hd.out,rfl⟩
  ·obtain rfl:k=s.size:=by omega
   have e:s.data.toList.take s.size=s.data.toList.take 6:=by rw[Lib.size_eq,List.take_length,List.take_of_length_le (by rw[← Lib.size_eq];omega)]
   have hd:Hid (q=true→0≤decVal (s.data.toList.take s.size)∧decVal (s.data.toList.take s.size) < 1000000):=by rw[Hid,e];exact HD.out
   clear e;generalize decVal (s.data.toList.take s.size)=n0 at *;go_wp2_with fail;refine(HNu.out _).mono ?_;rintro e w1 ⟨rfl,rfl⟩;go_wp2_with fail;go_ret2;exact⟨n0,rfl,hd.out,rfl⟩
set_option maxHeartbeats 1000000
theorem word8_any {A:Option Addr}{c:Nat}{l:List ByteArray}{n:Int}{w:World}(h:Strs w A l) (hm:l.length≤1000000) (hs:∀ s ∈ l,s.size≤100) :
  Calls pG 42 #[vI kI n,vS A l.length c] w fun e w'=>∃ s:ByteArray,e=.returned (vT s)∧s.size≤100∧w'=w:=by
 by_cases h1:n < 1
 ·clear h hs;go_enter Tryz.func42,Tryz.ntmps42;go_wp2_with fail;go_ret;exact⟨_,rfl,by decide,rfl⟩
 ·by_cases h2:(l.length:Int) < n
  ·clear h hs;go_enter Tryz.func42,Tryz.ntmps42;go_wp2_with fail;go_ret;exact⟨_,rfl,by decide,rfl⟩
  ·obtain⟨k,rfl⟩:∃ k:Nat,n=(k:Int)+1:=⟨(n - 1).toNat,by omega⟩;have hk:k < l.length:=by omega
   obtain⟨b,off,rfl,hb,h3⟩:=h.at_ hk;have HZ:=hide (hs _ (getD_memD hk));have e1:(k:Int)+1 - 1=(k:Int):=by omega
   have hki:(k:Int) < (l.length:Int):=by omega
   generalize l.getD k default=s at *;clear h hs;go_enter Tryz.func42,Tryz.ntmps42;go_wp2_with fail;go_ret;exact⟨_,rfl,HZ.out,rfl⟩
theorem dec8_any {n:Int}{w:World} :
  Calls pG 41 #[vI kI n] w fun e w'=>e=.returned (vT (if 0≤n∧n < 1000000 then ⟨(Lib.decDigits n.toNat).toArray⟩ else ⟨#[]⟩))∧Below w.heap.size w w':=by
 by_cases h1:0≤n∧n < 1000000
 ·rw[if_pos h1];obtain⟨k,rfl⟩:∃ k:Nat,n=(k:Int):=⟨n.toNat,by omega⟩;have h2:¬ (k:Int) < 0:=by omega
  have h3:¬ (999999:Int) < (k:Int):=by omega
  have HSm:=hide (small_any (n:=k) (w:=w) (by omega));have HL:Hid ((Lib.decDigits k).length≤1000):=by
   have hk:k < 1000000:=by omega
   have e:∀ m,m≤6→∀ n,n < 10 ^ m→(Lib.decDigits n).length≤m+1:=fun m=>by
    induction m with
    |zero=>intro _ n hn;rw[Lib.decDigits_one (by omega)];simp
    |succ m ih=>
     intro hm n hn;by_cases h10:n < 10
     ·rw[Lib.decDigits_one h10];simp
     ·rw[Lib.decDigits,dif_neg h10];have:=ih (by omega) (n / 10) (by rw[Nat.pow_succ]at hn;omega);simp;omega
   have:=e 6 (by decide) k hk;rw[Hid];omega
  have e0:((k:Int)).toNat=k:=by omega
  rw[e0];clear h1 e0;go_enter Tryz.func41,Tryz.ntmps41;go_wp2_with fail;refine HSm.out.mono ?_;rintro e w1 ⟨v1,l1,rfl,hO1,hv1,hn1,hl1,hb1⟩;obtain⟨A1,c1,rfl,hc1,_,_⟩:=hO1.form;have HD:=hide (digits_any (c:=c1) hO1.list (by omega) hc1 hn1 (by rw[hv1];exact HL.out));have HV:=hide hv1;have HB:=hide hb1;clear hO1 hv1 hn1 hl1 hb1 hc1;go_wp2_with fail;refine HD.out.mono ?_;rintro e w2 ⟨rfl,hb2⟩;have HB2:=hide (below_then HB.out hb2);clear hb2;go_wp2_with fail;go_ret;exact⟨by rw[HV.out];rfl,HB2.out⟩
 ·rw[if_neg h1];by_cases h2:n < 0
  ·clear h1;go_enter Tryz.func41,Tryz.ntmps41;go_wp2_with fail;go_ret;exact⟨rfl,bR _ _⟩
  ·have h3:(999999:Int) < n:=by omega
   clear h1;go_enter Tryz.func41,Tryz.ntmps41;go_wp2_with fail;go_ret;exact⟨rfl,bR _ _⟩
theorem dec45_any {n:Int}{w:World} :
  Calls pG 33 #[vI kI n] w fun e w'=>e=.returned (vT (if 0≤n∧n < 1000000 then ⟨(Lib.decDigits n.toNat).toArray⟩ else ⟨#[63]⟩))∧Below w.heap.size w w':=by
 by_cases h1:0≤n∧n < 1000000
 ·rw[if_pos h1];obtain⟨k,rfl⟩:∃ k:Nat,n=(k:Int):=⟨n.toNat,by omega⟩;have h2:¬ (k:Int) < 0:=by omega
  have h3:¬ (999999:Int) < (k:Int):=by omega
  have HSm:=hide (small_any (n:=k) (w:=w) (by omega));have HL:Hid ((Lib.decDigits k).length≤1000):=by
   have hk:k < 1000000:=by omega
   have e:∀ m,m≤6→∀ n,n < 10 ^ m→(Lib.decDigits n).length≤m+1:=fun m=>by
    induction m with
    |zero=>intro _ n hn;rw[Lib.decDigits_one (by omega)];simp
    |succ m ih=>
     intro hm n hn;by_cases h10:n < 10
     ·rw[Lib.decDigits_one h10];simp
     ·rw[Lib.decDigits,dif_neg h10];have:=ih (by omega) (n / 10) (by rw[Nat.pow_succ]at hn;omega);simp;omega
   have:=e 6 (by decide) k hk;rw[Hid];omega
  have e0:((k:Int)).toNat=k:=by omega
  rw[e0];clear h1 e0;go_enter Tryz.func33,Tryz.ntmps33;go_wp2_with fail;refine HSm.out.mono ?_;rintro e w1 ⟨v1,l1,rfl,hO1,hv1,hn1,hl1,hb1⟩;obtain⟨A1,c1,rfl,hc1,_,_⟩:=hO1.form;have HD:=hide (digits_any (c:=c1) hO1.list (by omega) hc1 hn1 (by rw[hv1];exact HL.out));have HV:=hide hv1;have HB:=hide hb1;clear hO1 hv1 hn1 hl1 hb1 hc1;go_wp2_with fail;refine HD.out.mono ?_;rintro e w2 ⟨rfl,hb2⟩;have HB2:=hide (below_then HB.out hb2);clear hb2;go_wp2_with fail;go_ret;exact⟨by rw[HV.out];rfl,HB2.out⟩
 ·rw[if_neg h1];by_cases h2:n < 0
  ·clear h1;go_enter Tryz.func33,Tryz.ntmps33;go_wp2_with fail;go_ret;exact⟨rfl,bR _ _⟩
  ·have h3:(999999:Int) < n:=by omega
   clear h1;go_enter Tryz.func33,Tryz.ntmps33;go_wp2_with fail;go_ret;exact⟨rfl,bR _ _⟩
set_option maxHeartbeats 200000
set_option maxRecDepth 512
theorem keysPost {w:World}{l:List ByteArray}{cs:Array Value}(hc:cs=(l.map Value.string).toArray):ListIn Value.string (fun b=>w.heap.size≤b∧b < (w.alloc (.cells cs 9)).heap.size) (w.alloc (.cells cs 9)) (some ⟨w.heap.size,0,none⟩) l:=fun hp=>by
 refine⟨w.heap.size,0,rfl,⟨lR _,by simp⟩,fun k hk=>?_⟩;rw[(Box.new w _ _).cell,hc,Nat.zero_add,List.getElem?_toArray,List.getElem?_map,List.getElem?_eq_getElem hk,List.getD_eq_getElem?_getD,List.getElem?_eq_getElem hk];rfl
set_option maxHeartbeats 4000000
set_option maxRecDepth 100000
theorem keys_any {s:ByteArray}{w:World} :
  Calls pG 78 #[vT s] w fun e w'=>∃ (A:Option Addr) (l:List ByteArray),e=.returned (vS A l.length l.length)∧(A=none∧l=[]∨A=some ⟨w.heap.size,0,none⟩∧0 < l.length)∧l.length≤8∧(∀ s ∈ l,s.size≤24)∧ListIn Value.string (fun b=>w.heap.size≤b∧b < w'.heap.size) w' A l∧Below w.heap.size w w':=by
 cases h0:(s.toList==[115,99,97,110]) with
 |true=>have HP:=hide (keysPost (w:=w) (l:=[⟨#[100,111,116,115]⟩,⟨#[98,108,97,110,107]⟩,⟨#[109,97,114,107,101,100]⟩]) rfl);go_enter Tryz.func78,Tryz.ntmps78;go_wp2_with fail;go_ret;exact⟨_,[⟨#[100,111,116,115]⟩,⟨#[98,108,97,110,107]⟩,⟨#[109,97,114,107,101,100]⟩],rfl,.inr ⟨rfl,by simp⟩,by simp,by simp;try decide,HP.out,(bR _ _).alloc (lR _) _⟩
 |false=>
  cases h1:(s.toList==[115,99,97,110,110,101,114,115]) with
  |true=>have HP:=hide (keysPost (w:=w) (l:=[⟨#[99,111,117,110,116]⟩,⟨#[98,97,116,99,104]⟩]) rfl);go_enter Tryz.func78,Tryz.ntmps78;go_wp2_with fail;go_ret;exact⟨_,[⟨#[99,111,117,110,116]⟩,⟨#[98,97,116,99,104]⟩],rfl,.inr ⟨rfl,by simp⟩,by simp,by simp;try decide,HP.out,(bR _ _).alloc (lR _) _⟩
  |false=>
   cases h2:(s.toList==[112,114,101,99,105,110,99,116,115]) with
   |true=>have HP:=hide (keysPost (w:=w) (l:=[⟨#[110,97,109,101,115]⟩]) rfl);go_enter Tryz.func78,Tryz.ntmps78;go_wp2_with fail;go_ret;exact⟨_,[⟨#[110,97,109,101,115]⟩],rfl,.inr ⟨rfl,by simp⟩,by simp,by simp;try decide,HP.out,(bR _ _).alloc (lR _) _⟩
   |false=>
    cases h3:(s.toList==[99,111,110,116,101,115,116]) with
    |true=>have HP:=hide (keysPost (w:=w) (l:=[⟨#[109,101,116,104,111,100]⟩,⟨#[115,101,97,116,115]⟩,⟨#[114,97,110,107,115]⟩,⟨#[100,105,103,105,116,115]⟩,⟨#[116,105,101,115]⟩,⟨#[111,118,101,114,118,111,116,101]⟩,⟨#[115,107,105,112]⟩,⟨#[99,97,110,100,105,100,97,116,101,115]⟩]) rfl);go_enter Tryz.func78,Tryz.ntmps78;go_wp2_with fail;go_ret;exact⟨_,[⟨#[109,101,116,104,111,100]⟩,⟨#[115,101,97,116,115]⟩,⟨#[114,97,110,107,115]⟩,⟨#[100,105,103,105,116,115]⟩,⟨#[116,105,101,115]⟩,⟨#[111,118,101,114,118,111,116,101]⟩,⟨#[115,107,105,112]⟩,⟨#[99,97,110,100,105,100,97,116,101,115]⟩],rfl,.inr ⟨rfl,by simp⟩,by simp,by simp;try decide,HP.out,(bR _ _).alloc (lR _) _⟩
    |false=>
     cases h4:(s.toList==[115,116,121,108,101]) with
     |true=>have HP:=hide (keysPost (w:=w) (l:=[⟨#[112,114,101,99,105,110,99,116,115]⟩,⟨#[99,111,110,116,101,115,116,115]⟩]) rfl);go_enter Tryz.func78,Tryz.ntmps78;go_wp2_with fail;go_ret;exact⟨_,[⟨#[112,114,101,99,105,110,99,116,115]⟩,⟨#[99,111,110,116,101,115,116,115]⟩],rfl,.inr ⟨rfl,by simp⟩,by simp,by simp;try decide,HP.out,(bR _ _).alloc (lR _) _⟩
     |false=>
      cases h5:(s.toList==[97,117,100,105,116]) with
      |true=>have HP:=hide (keysPost (w:=w) (l:=[⟨#[114,105,115,107]⟩,⟨#[115,101,101,100]⟩]) rfl);go_enter Tryz.func78,Tryz.ntmps78;go_wp2_with fail;go_ret;exact⟨_,[⟨#[114,105,115,107]⟩,⟨#[115,101,101,100]⟩],rfl,.inr ⟨rfl,by simp⟩,by simp,by simp;try decide,HP.out,(bR _ _).alloc (lR _) _⟩
      |false=>
       cases h6:(s.toList==[112,114,105,118,97,99,121]) with
       |true=>have HP:=hide (keysPost (w:=w) (l:=[⟨#[99,101,108,108]⟩]) rfl);go_enter Tryz.func78,Tryz.ntmps78;go_wp2_with fail;go_ret;exact⟨_,[⟨#[99,101,108,108]⟩],rfl,.inr ⟨rfl,by simp⟩,by simp,by simp;try decide,HP.out,(bR _ _).alloc (lR _) _⟩
       |false=>go_enter Tryz.func78,Tryz.ntmps78;go_wp2_with fail;go_ret;exact⟨none,[],rfl,.inl ⟨rfl,rfl⟩,by simp,by simp,ListIn.nil _ _ _ _,bR _ _⟩
end
section
set_option maxHeartbeats 4000000
set_option maxRecDepth 100000
theorem addB_any {A B:Option Addr}{c d:Nat}{a b:List Bool}{w:World}(ha:Bools w A a) (hb:Bools w B b) (hm:a.length≤100000) (hm2:b.length≤100000) :
  Calls pG 148 #[vS A a.length c,vS B b.length d] w fun e w'=>∃ v l,e=.returned v∧OwnB w.heap.size w' v l∧NormB l∧l.length≤max a.length b.length+1∧Below w.heap.size w w':=by
 have HA:=hide ha;have HB:=hide hb;obtain⟨M,hM⟩:∃ M,max a.length b.length=M:=⟨_,rfl⟩;have hMi:max (a.length:Int) (b.length:Int)=(M:Int):=by omega
 have hM1:M≤100000:=by omega
 rw[hM];clear ha hb hM;go_enter Tryz.func148,Tryz.ntmps148;go_wp2_with fail;go_loopw [5,6,7] (fun o q i wr=>∃ k:Nat,k≤M+1∧i=vI kI k∧∃ (bo:Bool) (v:Value) (out:List Bool),q=vB bo∧o=v∧Hid (OwnB w.heap.size wr v out)∧Hid (out.length=k)∧Hid (Below w.heap.size w wr)) (fun _ _ i _=>M+1 - (iOf i).toNat);case atStart=>exact⟨0,zL _,rfl,false,_,[],rfl,rfl,OwnE.nil _ _ _ _,rfl,bR _ _⟩
 case round=>
  obtain⟨k,hk,rfl,bo,v,out,rfl,rfl,HO,HI,HW⟩:=hrel;by_cases hlt:k≤M
  ·have hsw:=HW.out.size;have hlen:=HI.out;have hki:(k:Int)≤(M:Int):=by omega
   have HAk:=hide (at_any (c:=c) (ListIn.below HA.out HW.out) (by omega) k);have HBk:=hide (at_any (c:=d) (ListIn.below HB.out HW.out) (by omega) k);obtain⟨A4,c4,w4,hr4,hO4,hb4⟩:=push_bit HO.out hsw (by omega) 94 ((a.getD k false != b.getD k false) != bo);rw[hlen]at hr4 hO4;have HR4:=hide hr4;have HO4:=hide hO4;have HL4:Hid ((out ++ [(a.getD k false != b.getD k false) != bo]).length=k+1):=by rw[Hid,List.length_append,hlen];rfl
   have HW4:=hide (HW.out.trans hb4);clear hr4 hO4 hb4 hlen;generalize a.getD k false=x at *;generalize b.getD k false=y at *;obtain⟨z,hz⟩:∃ z,((x != y) != bo)=z:=⟨_,rfl⟩;rw[hz]at HR4 HO4 HL4;clear HI HO HW;cases x <;> cases y <;> cases bo <;> (
    simp at hz;subst hz;go_wp2_with fail;refine HAk.out.mono ?_;rintro e w1 ⟨rfl,rfl⟩;go_wp2_with fail;refine HBk.out.mono ?_;rintro e w1 ⟨rfl,rfl⟩;go_wp2_with ((with_reducible refine gV 32 (Value.slice A4 (k+1) c4) w4 ?_ ?_ ?_);rfl;exact gives_append rfl rfl rfl HR4.out);go_roundw;case rel=>exact⟨k+1,by omega,by go_num,_,_,_,rfl,rfl,HO4.out,HL4.out,HW4.out⟩
    case measure=>simp[iOf];omega)
  ·obtain rfl:k=M+1:=by omega
   obtain⟨A2,c2,rfl,hcc,_,_⟩:=HO.out.form;have hlen:=HI.out;have HT:=hide (trim_any (c:=c2) (OwnE.list HO.out) (by omega) hcc);have hsw:=HW.out.size;have hki:¬ ((M+1:Nat):Int)≤(M:Int):=by omega
   have hll:Hid ((trimB out).length≤M+1):=lT (trimB_length out) (Nat.le_of_eq hlen);clear hcc hlen;go_wp2_with fail;refine HT.out.mono ?_;rintro e w1 ⟨v1,rfl,hO1,hb1⟩;have HO1:=hide hO1;have HB1:=hide hb1;clear hO1 hb1;go_wp2_with fail;go_ret;exact⟨_,_,rfl,HO1.out.lower hsw,trimB_norm _,hll.out,below_then HW.out HB1.out⟩
set_option maxHeartbeats 2000000
theorem shift_any {A:Option Addr}{c n:Nat}{a:List Bool}{w:World}(ha:Bools w A a) (hm:a.length≤100000) (hn:n≤100000) :
  Calls pG 149 #[vS A a.length c,vI kI n] w fun e w'=>∃ v l,e=.returned v∧OwnB w.heap.size w' v l∧l.length=n+a.length∧Below w.heap.size w w':=by
 have hmk:(Instr.makeSlice 94 (vI kI n) (vI kI n)).run pG w=.ok (vS (some ⟨w.heap.size,0,none⟩) n n) (w.alloc (.cells (madeCells #[vB false] n) 4)):=
  run_make_row' 94 4 (.bool false) 1 Tryz.underlying94 boolinfo rfl .i64 .i64 n (by omega) (by omega) w
 have hB0:Below w.heap.size w (w.alloc (.cells (madeCells #[vB false] n) 4)):=(bR _ _).alloc (lR _) _;have hbox0:=box_made w n;obtain⟨w0,hw0⟩:∃ q,w.alloc (.cells (madeCells #[vB false] n) 4)=q:=⟨_,rfl⟩;rw[hw0]at hmk hB0 hbox0;have hO:OwnB w.heap.size w0 (vS (some ⟨w.heap.size,0,none⟩) n n) (List.replicate n false):=by refine⟨by simp,.inr ⟨w.heap.size,n,((List.replicate n false).map Value.bool).toArray,by simp,lR _,hbox0,?_,?_,?_,?_⟩⟩;all_goals first|omega|(simp;done)|(simp only[maxLen];omega)
 obtain⟨A4,d4,w4,hr4,hO4,hb4⟩:=push_bits hO (by have:=hB0.size;omega) (by simp;omega) 94 (ListIn.below ha hB0) c;rw[List.length_replicate]at hr4 hO4;have HMk:=hide hmk;have HR4:=hide hr4;have HO4:=hide hO4;have HB4:=hide (hB0.trans hb4);clear ha hmk hB0 hbox0 hw0 hO hr4 hO4 hb4;go_enter Tryz.func149,Tryz.ntmps149;go_wp2_with (first|((with_reducible refine wpList_gives (o:=⟨some 6,_,_,_,_,_⟩) (v:=Value.slice (some ⟨w.heap.size,0,none⟩) n n) (w':=w0) ?_ ?_ ?_);rfl;exact gives_make rfl rfl rfl HMk.out)|((with_reducible refine wpList_gives (o:=⟨some 8,_,_,_,_,_⟩) (v:=Value.slice A4 (n+a.length) d4) (w':=w4) ?_ ?_ ?_);rfl;exact gives_append rfl rfl rfl HR4.out));go_ret;exact⟨_,_,rfl,HO4.out,by simp,HB4.out⟩
end
section
set_option maxHeartbeats 4000000
set_option maxRecDepth 100000
theorem mulB_any {A B:Option Addr}{c d:Nat}{a b:List Bool}{w:World}(ha:Bools w A a) (hb:Bools w B b) (hm:a.length≤10000) (hm2:b.length≤10000) :
  Calls pG 139 #[vS A a.length c,vS B b.length d] w fun e w'=>∃ v l,e=.returned v∧OwnB w.heap.size w' v l∧NormB l∧l.length≤a.length+2 * b.length∧Below w.heap.size w w':=by
 have HA:=hide ha;have HB:=hide hb;clear ha hb;go_enter Tryz.func139,Tryz.ntmps139;go_wp2_with fail;go_loopw [5,6] (fun o i wr=>∃ k:Nat,k≤b.length∧i=vI kI k∧∃ (v:Value) (s:List Bool),o=v∧Hid (OwnB w.heap.size wr v s)∧Hid (s.length≤a.length+b.length+k)∧Hid (Below w.heap.size w wr)) (fun _ i _=>b.length - (iOf i).toNat);case atStart=>exact⟨0,zL _,rfl,_,[],rfl,OwnE.nil _ _ _ _,zL _,bR _ _⟩
 case round=>
  obtain⟨k,hk,rfl,v,s,rfl,HO,HL,HW⟩:=hrel;have hsl:=HL.out;have hsw:=HW.out.size;by_cases hlt:k < b.length
  ·obtain⟨b0,off,hB0,hbk,hcell⟩:=HB.out.at_ hlt;have hcell:=(HW.out.cell (p:=⟨b0,off+k,none⟩) hbk).trans hcell;subst hB0;generalize b.getD k default=y at *;cases y with
   |false=>
    have HL4:Hid (s.length≤a.length+b.length+(k+1)):=by rw[Hid];omega
    clear hsl;go_wp2_with fail;go_roundw;case rel=>exact⟨k+1,by omega,by go_num,_,s,rfl,HO.out,HL4.out,HW.out⟩
    case measure=>simp[iOf];omega
   |true=>
    obtain⟨A2,c2,rfl,hcc,_,_⟩:=HO.out.form;have HS:=hide (shift_any (c:=c) (n:=k) (ListIn.below HA.out HW.out) (by omega) (by omega));clear hcc;go_wp2_with fail;refine HS.out.mono ?_;rintro e w1 ⟨v1,l1,rfl,hO1,hl1,hb1⟩;obtain⟨A3,c3,rfl,_,_,_⟩:=hO1.form;have HD:=hide (addB_any (c:=c2) (d:=c3) (ListIn.below (OwnE.list HO.out) hb1) hO1.list (by omega) (by omega));have HW1:=hide (below_then HW.out hb1);have hs1:=hide hb1.size;have HL1:=hide hl1;have HLs:=hide hsl;clear hO1 hl1 hb1 hsl;go_wp2_with fail;refine HD.out.mono ?_;rintro e w2 ⟨v2,l2,rfl,hO2,_,hl2,hb2⟩;have HW2:=hide (below_then HW1.out hb2);have HO2:=hide (hO2.lower (show w.heap.size≤_ by have:=hs1.out;omega));have HL4:Hid (l2.length≤a.length+b.length+(k+1)):=by rw[Hid];have:=HL1.out;have:=HLs.out;omega
    clear hO2 hl2 hb2;go_wp2_with fail;go_roundw;case rel=>exact⟨k+1,by omega,by go_num,_,l2,rfl,HO2.out,HL4.out,HW2.out⟩
    case measure=>simp[iOf];omega
  ·obtain rfl:k=b.length:=by omega
   obtain⟨A2,c2,rfl,hcc,_,_⟩:=HO.out.form;have HT:=hide (trim_any (c:=c2) (OwnE.list HO.out) (by omega) hcc);have hll:Hid ((trimB s).length≤a.length+2 * b.length):=by rw[Hid];have:=trimB_length s;omega
   clear hcc hsl;go_wp2_with fail;refine HT.out.mono ?_;rintro e w1 ⟨v1,rfl,hO1,hb1⟩;have HO1:=hide hO1;have HB1:=hide hb1;clear hO1 hb1;go_wp2_with fail;go_ret;exact⟨_,_,rfl,HO1.out.lower hsw,trimB_norm _,hll.out,below_then HW.out HB1.out⟩
end
section
set_option maxHeartbeats 4000000
set_option maxRecDepth 100000
theorem contests45_any {e:EV}{p:Nat}{C:List ByteArray}{w:World}(h:Cons w e.ca C) (hm:C.length≤1000000) :
  Calls pG 35 #[.agg (e.cells p C.length)] w fun en w'=>∃ v,en=.returned v∧OwnE Value.string 9 w.heap.size w' v C∧Below w.heap.size w w':=by
 obtain⟨title,dots,blank,marked,pa,pc,ca,cc,sa,sn,sc,scanners,batch,neg,na,nn,nc,da,dn,dc,cell,seed⟩:=e;simp only[]at h;unfold EV.cells;simp only[];obtain⟨w1,hw1⟩:∃ x,x=w.alloc (.cells #[vT title,vI kI dots,vI kI blank,vI kI marked,vS pa p pc,vS ca C.length cc,vS sa sn sc,vI kI scanners,vI kI batch,vB neg,vS na nn nc,vS da dn dc,vI kI cell,vT seed] 30):=⟨_,rfl⟩;have hb1:Below w.heap.size w w1:=by rw[hw1];exact(bR _ _).alloc (lR _) _
 have hX:Box w1 w.heap.size 30 #[vT title,vI kI dots,vI kI blank,vI kI marked,vS pa p pc,vS ca C.length cc,vS sa sn sc,vI kI scanners,vI kI batch,vB neg,vS na nn nc,vS da dn dc,vI kI cell,vT seed]:=by rw[hw1];exact Box.new _ _ _
 have c5:=hX.cell 5;simp at c5;have H:=hide (Cons.below h hb1);have HB1:=hide hb1;have HW1:=hide hw1;clear h hb1 hX hw1;go_enter Tryz.func35,Tryz.ntmps35;go_upto_region 1 with (fail);rw[← HW1.out];go_wp2_with fail;go_loopw [3,5,9] (fun o _ i wr=>∃ k:Nat,k≤C.length∧i=vI kI k∧∃ v:Value,o=v∧Hid (OwnE Value.string 9 w1.heap.size wr v (C.take k))∧Hid (Below w1.heap.size w1 wr)) (fun _ _ i _=>C.length - (iOf i).toNat);case atStart=>exact⟨0,zL _,rfl,_,rfl,OwnE.nil _ _ _ _,bR _ _⟩
 case round=>
  obtain⟨k,hk,rfl,v,rfl,HO,HB⟩:=hrel;by_cases hlt:k < C.length
  ·obtain⟨b,off,rfl,hb,hc⟩:=H.out (by omega);obtain⟨A,n,c,x2,x3,x4,x5,x6,x7,x8,h0,h1,h2,h3,h4,h5,h6,h7,h8⟩:=hc k hlt;have h0:=(HB.out.cell (p:=⟨b,off+k * 9,none⟩) hb).trans h0;have h1:=(HB.out.cell (p:=⟨b,off+k * 9+1,none⟩) hb).trans h1;have h2:=(HB.out.cell (p:=⟨b,off+k * 9+2,none⟩) hb).trans h2;have h3:=(HB.out.cell (p:=⟨b,off+k * 9+3,none⟩) hb).trans h3;have h4:=(HB.out.cell (p:=⟨b,off+k * 9+4,none⟩) hb).trans h4;have h5:=(HB.out.cell (p:=⟨b,off+k * 9+5,none⟩) hb).trans h5;have h6:=(HB.out.cell (p:=⟨b,off+k * 9+6,none⟩) hb).trans h6;have h7:=(HB.out.cell (p:=⟨b,off+k * 9+7,none⟩) hb).trans h7;have h8:=(HB.out.cell (p:=⟨b,off+k * 9+8,none⟩) hb).trans h8;have hts:Hid (C.take (k+1)=C.take k ++ [C.getD k default]):=take_succD hlt;have hlen:(C.take k).length=k:=by rw[List.length_take];omega
   have hs1:=HB1.out.size;have hs2:=HB.out.size;clear hc;generalize C.getD k default=nm at *;obtain⟨w2,hw2⟩:∃ x,wr.alloc (.cells #[vT nm,vS A n c,vI kI x2,vI kI x3,vI kI x4,vI kI x5,vI kI x6,vI kI x7,vI kI x8] 74)=x:=⟨_,rfl⟩;have hb2:Below wr.heap.size wr w2:=by rw[← hw2];exact(bR _ _).alloc (lR _) _
   have hX2:Box w2 wr.heap.size 74 #[vT nm,vS A n c,vI kI x2,vI kI x3,vI kI x4,vI kI x5,vI kI x6,vI kI x7,vI kI x8]:=by rw[← hw2];exact Box.new _ _ _
   have d0:=hX2.cell 0;simp at d0;obtain⟨A4,c4,w4,hr4,hO4,hb4⟩:=push_str (HO.out.kept hb2) (by have:=hb2.size;omega) (by omega) 22 nm;rw[hlen]at hr4 hO4;rw[← hts.out]at hO4;have HR4:=hide hr4;have HO4:=hide hO4;have HB4:=hide ((HB.out.trans (hb2.mono hs2)).trans hb4);have HW2:=hide hw2;clear hb2 hX2 hr4 hO4 hb4 hw2;go_upto_region 5 with (fail);rw[HW2.out];go_wp2_with ((with_reducible refine gV 17 (Value.slice A4 (k+1) c4) w4 ?_ ?_ ?_);rfl;exact gives_append rfl rfl rfl HR4.out);go_roundw;case rel=>exact⟨k+1,by omega,by go_num,_,rfl,HO4.out,HB4.out⟩
   case measure=>simp[iOf];omega
  ·obtain rfl:k=C.length:=by omega
   have hO:=HO.out;rw[List.take_length]at hO;have HO:=hide hO;clear hO;go_wp2_with fail;go_ret;exact⟨_,rfl,HO.out.lower HB1.out.size,HB1.out.trans (HB.out.mono HB1.out.size)⟩
set_option maxHeartbeats 2000000
theorem bits45_any {s:ByteArray}{w:World}(hs:s.size≤1000000) :
  Calls pG 63 #[vT s] w fun e w'=>∃ v,e=.returned (.tuple #[v,vB (bitsV s).2])∧OwnE Value.bool 4 w.heap.size w' v (bitsV s).1∧Below w.heap.size w w':=by
 have hsz:=Lib.size_eq s;go_enter Tryz.func63,Tryz.ntmps63;cases hd:s.toList==[45] with
 |true=>have hn:=hide (bitsV_dash hd);clear hsz;go_wp2_with fail;go_ret2;exact⟨_,by rw[hn.out];rfl,by rw[hn.out];exact OwnE.nil _ _ _ _,bR _ _⟩
 |false=>
  have HY:=hide (fun h=>bitsV_yes hd h);have HN:=hide (fun k hk hb=>bitsV_no (k:=k) hd hk hb);have HSz:=hide hsz;have HEm:=hide (fun (h:0 < s.size)=>isEmpty_false h);clear hsz;go_wp2_with fail;go_loopw [4,5] (fun o i wr=>∃ k:Nat,k≤s.size∧i=vI kI k∧∃ v:Value,o=v∧Hid (OwnE Value.bool 4 w.heap.size wr v ((s.data.toList.take k).map bitB))∧Hid ((s.data.toList.take k).all isBit=true)∧Hid (Below w.heap.size w wr)) (fun _ i _=>s.size - (iOf i).toNat);case atStart=>exact⟨0,zL _,rfl,_,rfl,OwnE.nil _ _ _ _,(by rw[Hid];rfl),bR _ _⟩
  case round=>
   obtain⟨k,hk,rfl,v,rfl,HO,HA,HB⟩:=hrel;by_cases hlt:k < s.size
   ·have hsw:=HB.out.size;have hlen:((s.data.toList.take k).map bitB).length=k:=by have:=HSz.out;rw[List.length_map,List.length_take];omega
    have HNo:=hide (HN.out k hlt);have HYa:Hid (isBit (s[k]'hlt)=true→(s.data.toList.take (k+1)).all isBit=true):=fun e=>by rw[take_snocB (bget hlt),List.all_append,HA.out];simpa using e
    have HYo:Hid ((s.data.toList.take (k+1)).map bitB=((s.data.toList.take k).map bitB) ++ [bitB (s[k]'hlt)]):=by rw[Hid,take_snocB (bget hlt),List.map_append];rfl
    obtain⟨A4,c4,w4,hr4,hO4,hb4⟩:=push_bool HO.out hsw (by omega) 34 (bitB (s[k]'hlt));rw[hlen]at hr4 hO4;rw[← HYo.out]at hO4;have HO4:=hide hO4;have HB4:=hide (HB.out.trans hb4);clear hO4 hb4;by_cases h48:(s[k]'hlt).toNat=48
    ·have hx:((s[k]'hlt).toNat:Int)=48:=by omega
     have ha:=hide (HYa.out (by unfold isBit;rw[decide_eq_true h48];rfl));have hbb:bitB (s[k]'hlt)=false:=decide_eq_false (by omega);rw[hbb]at hr4;have HR4:=hide hr4;clear hbb;clear h48 hr4 HYa HNo HYo;go_wp2_with ((with_reducible refine gV 30 (Value.slice A4 (k+1) c4) w4 ?_ ?_ ?_);rfl;exact gives_append rfl rfl rfl HR4.out);go_roundw;case rel=>exact⟨k+1,by omega,by go_num,_,rfl,HO4.out,ha.out,HB4.out⟩
     case measure=>simp[iOf];omega
    ·by_cases h49:(s[k]'hlt).toNat=49
     ·have hx:((s[k]'hlt).toNat:Int)=49:=by omega
      have ha:=hide (HYa.out (by unfold isBit;rw[decide_eq_true h49];simp));have hbb:bitB (s[k]'hlt)=true:=decide_eq_true h49;rw[hbb]at hr4;have HR4:=hide hr4;clear hbb;clear h48 h49 hr4 HYa HNo HYo;go_wp2_with ((with_reducible refine gV 30 (Value.slice A4 (k+1) c4) w4 ?_ ?_ ?_);rfl;exact gives_append rfl rfl rfl HR4.out);go_roundw;case rel=>exact⟨k+1,by omega,by go_num,_,rfl,HO4.out,ha.out,HB4.out⟩
      case measure=>simp[iOf];omega
     ·have hx:(((s[k]'hlt).toNat:Int) != 48)=true:=bne_iff_ne.2 (by omega);have hx2:(((s[k]'hlt).toNat:Int) != 49)=true:=bne_iff_ne.2 (by omega);have hn:=hide (HNo.out (by unfold isBit;rw[decide_eq_false h48,decide_eq_false h49];rfl));clear h48 h49 hr4 HYa HNo HYo;go_wp2_with fail;go_ret2;exact⟨_,by rw[hn.out];rfl,by rw[hn.out];exact OwnE.nil _ _ _ _,HB.out⟩
   ·obtain rfl:k=s.size:=by omega
    have hA:=HA.out;have hO:=HO.out;rw[HSz.out,List.take_length]at hA hO;have hn:=hide (HY.out hA);have HO:=hide hO;obtain⟨A2,c2,rfl,_,_,_⟩:=hO.form;clear hA hO;by_cases h0:0 < s.size
    ·have hem:=HEm.out h0;go_wp2_with fail;go_ret2;exact⟨_,by rw[hn.out];simp only[hem];rfl,by rw[hn.out];exact HO.out,HB.out⟩
    ·have hem:=isEmpty_true (s:=s) (by omega);go_wp2_with fail;go_ret2;exact⟨_,by rw[hn.out];simp only[hem];rfl,by rw[hn.out];exact HO.out,HB.out⟩
set_option maxHeartbeats 200000
set_option maxRecDepth 512
def liesL:List ByteArray:=[⟨#[]⟩,⟨#[115,119,97,112]⟩,⟨#[98,108,97,110,107]⟩,⟨#[100,114,111,112]⟩,⟨#[105,109,112,114,105,110,116]⟩]
set_option maxHeartbeats 1000000
set_option maxRecDepth 100000
theorem lies45_any {w:World} :
  Calls pG 34 #[] w fun en w'=>en=.returned (vS (some ⟨w.heap.size,0,none⟩) 5 5)∧Strs w' (some ⟨w.heap.size,0,none⟩) liesL∧Below w.heap.size w w':=by
 have HP:=hide (keysPost (w:=w) (l:=liesL) rfl);unfold liesL at HP;go_enter Tryz.func34,Tryz.ntmps34;go_wp2_with fail;go_ret;exact⟨rfl,HP.out.mono fun i hi=>hi.2,(bR _ _).alloc (lR _) _⟩
end
end Go.Proofs.YtnndaemmgbkjbaaGreatDoor
