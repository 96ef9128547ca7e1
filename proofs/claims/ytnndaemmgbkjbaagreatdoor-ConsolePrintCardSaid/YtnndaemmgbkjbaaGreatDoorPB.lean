/-
  parts of the proof: Number Nums Bits Lex Eqs PlainB Trim CmpB SubB DivB GcdB SmallB Elec R45D R45E.
-/
import Derived.Lib.Strings
import Derived.Shelf.Spec.SlicesGrow
import Derived.Deep.RegionHeldLaw
import Derived.Test.YtnndaemmgbkjbaaGreatDoorPA
namespace Go.Proofs.YtnndaemmgbkjbaaGreatDoor
open Go.RowKit
open Go.World renaming cell?_of_block → cB
open Nat renaming lt_of_lt_of_le → lL, le_trans → lT, le_refl → lR, zero_le → zL
open Go.RowKit.Below renaming refl → bR
open _root_.Go.Proofs.Tryz renaming prog → pG
open Go.Value renaming int → vI, slice → vS, string → vT, bool → vB
open Go.IntKind renaming i64 → kI
set_option linter.unusedVariables false
set_option linter.unusedSimpArgs false
section
def isDig (b:UInt8):Bool:=decide (48≤b.toNat) && decide (b.toNat≤57)
def decVal (l:List UInt8):Int:=l.foldl (fun n b=>10 * n+((b.toNat:Int) - 48)) 0
def numOk (l:List UInt8):Bool:=decide (l≠[]) && decide (l.length≤6) && !(decide (l.head? = some 48) && decide (1 < l.length)) && l.all isDig
def numV (s:ByteArray):Int × Bool:=if numOk s.data.toList=true then (decVal s.data.toList,true) else (0,false)
theorem decVal_snoc (l:List UInt8) (b:UInt8):decVal (l ++ [b])=10 * decVal l+((b.toNat:Int) - 48):=by simp[decVal]
theorem decVal_bd {s:List UInt8}(ha:s.all isDig=true):∀ k,k≤s.length→0≤decVal (s.take k)∧decVal (s.take k) < 10 ^ k
 |0,_=>by simp[decVal]
 |k+1,hk=>by
  have h1:=decVal_bd ha k (by omega);have h2:isDig s[k]=true:=List.all_eq_true.1 ha _ (List.getElem_mem _);unfold isDig at h2;simp only[Bool.and_eq_true,decide_eq_true_eq]at h2;rw[List.take_add_one,List.getElem?_eq_getElem (by omega),Option.toList_some,decVal_snoc,Int.pow_succ];omega
theorem take_snocB {s:List UInt8}{k:Nat}{b:UInt8}(h:s[k]? = some b):s.take (k+1)=s.take k ++ [b]:=by
 rw[List.take_add_one,h];rfl
theorem bget {s:ByteArray}{k:Nat}(h:k < s.size):s.data.toList[k]? = some (s[k]'h):=by
 rw[List.getElem?_eq_getElem (by rw[← Lib.size_eq];exact h)];rfl
theorem isEmpty_false {s:ByteArray}(h:0 < s.size):s.toList.isEmpty=false:=by
 rw[Lib.toList_data];rw[Lib.size_eq]at h;cases hl:s.data.toList with
 |nil=>rw[hl]at h;simp at h
 |cons a l=>rfl
theorem isEmpty_true {s:ByteArray}(h:s.size=0):s.toList.isEmpty=true:=by
 rw[Lib.toList_data];rw[Lib.size_eq]at h;rw[List.length_eq_zero_iff.1 h];rfl
theorem numV_no {s:ByteArray}(h:numOk s.data.toList=false):numV s=(0,false):=by unfold numV;rw[if_neg (by rw[h];simp)]
theorem numOk_empty {s:ByteArray}(h:s.size=0):numOk s.data.toList=false:=by
 rw[Lib.size_eq]at h;rw[List.length_eq_zero_iff.1 h];rfl
theorem numOk_long {s:ByteArray}(h:6 < s.size):numOk s.data.toList=false:=by
 rw[Lib.size_eq]at h;unfold numOk;rw[decide_eq_false (p:=s.data.toList.length≤6) (by omega)];simp
theorem head_get {s:ByteArray}(h:0 < s.size):s.data.toList.head? = some (s[0]'h):=by
 rw[List.head?_eq_getElem?];exact bget h
theorem numOk_zero {s:ByteArray}(h:1 < s.size) (h0:(s[0]'(by omega)).toNat=48):numOk s.data.toList=false:=by
 have e:s.data.toList.head? = some 48:=by rw[head_get (by omega)];congr 1;exact UInt8.toNat_inj.1 h0
 rw[Lib.size_eq]at h;unfold numOk;rw[decide_eq_true (p:=s.data.toList.head? = some 48) e,decide_eq_true (p:=1 < s.data.toList.length) h];simp
theorem numOk_bad {s:ByteArray}{k:Nat}(h:k < s.size) (hb:isDig (s[k]'h)=false):numOk s.data.toList=false:=by
 have:s.data.toList.all isDig=false:=by rw[List.all_eq_false];refine⟨s[k]'h,?_,by rw[hb];simp⟩;exact List.mem_of_getElem? (bget h)
 unfold numOk;rw[this];simp
theorem numOk_good {s:ByteArray}(h1:0 < s.size) (h2:s.size≤6) (h3:¬ ((s[0]'h1).toNat=48∧1 < s.size)) (ha:s.data.toList.all isDig=true):numV s=(decVal s.data.toList,true):=by
 have hs:=Lib.size_eq s;unfold numV;rw[if_pos];unfold numOk;rw[ha,decide_eq_true (p:=s.data.toList≠[]) (fun e=>by rw[e,List.length_nil]at hs;omega),decide_eq_true (p:=s.data.toList.length≤6) (by omega)];simp only[Bool.true_and,Bool.and_true,Bool.not_eq_true'];rw[Bool.and_eq_false_iff];by_cases h:1 < s.size
 ·left;refine decide_eq_false fun e=>h3 ⟨?_,h⟩;rw[head_get h1]at e;injection e with e;rw[e];rfl
 ·right;exact decide_eq_false (by omega)
theorem digits_step {s:ByteArray}{k:Nat}(h:k < s.size) (ha:(s.data.toList.take k).all isDig=true) (hb:isDig (s[k]'h)=true):(s.data.toList.take (k+1)).all isDig=true:=by
 rw[take_snocB (bget h),List.all_append,ha];simp[hb]
theorem dec_step {s:ByteArray}{k:Nat}(h:k < s.size):decVal (s.data.toList.take (k+1))=10 * decVal (s.data.toList.take k)+(((s[k]'h).toNat:Int) - 48):=by
 rw[take_snocB (bget h),decVal_snoc]
theorem dec_bound {s:List UInt8}{k:Nat}(h6:k≤6) (hk:k≤s.length) (ha:(s.take k).all isDig=true):0≤decVal (s.take k)∧decVal (s.take k) < 1000000:=by
 have h:=decVal_bd ha k (by rw[List.length_take];omega);rw[List.take_take,Nat.min_self]at h;have hp:(10:Int) ^ k≤10 ^ 6:=by have:(10:Nat) ^ k≤10 ^ 6:=Nat.pow_le_pow_right (by decide) h6;exact_mod_cast this
 exact⟨h.1,by omega⟩
set_option maxHeartbeats 2000000
set_option maxRecDepth 100000
theorem number_any {s:ByteArray}{w:World}(hs:s.size≤1000000) :
  Calls pG 53 #[vT s] w fun e w'=>e=.returned (.tuple #[vI kI (numV s).1,vB (numV s).2])∧w'=w:=by
 go_enter Tryz.func53,Tryz.ntmps53;go_upto_region 1 with (fail);go_cut [22] (fun v wx=>∃ bb:Bool,v=vB bb∧Hid (bb=true→numV s=(0,false))∧Hid (bb=false→0 < s.size∧s.size≤6∧(s.data.toList.all isDig=true→numV s=(decVal s.data.toList,true)))∧wx=w);case first=>
  by_cases h0:s.size=0
  ·have e:=isEmpty_true h0;have hn:=hide (numV_no (numOk_empty h0));go_wp2_with fail;go_meet;exact⟨true,rfl,fun _=>hn.out,(fun h=>by cases h),rfl⟩
  have e:=isEmpty_false (s:=s) (by omega);by_cases h6:6 < s.size
  ·have hn:=hide (numV_no (numOk_long h6));go_wp2_with fail;go_meet;exact⟨true,rfl,fun _=>hn.out,(fun h=>by cases h),rfl⟩
  have hpos:0 < s.size:=by omega
  by_cases h48:(s[0]'hpos).toNat=48
  ·have h48':((s[0]'hpos).toNat:Int)=48:=by omega
   by_cases h1:1 < s.size
   ·have hn:=hide (numV_no (numOk_zero h1 h48));clear h48;go_wp2_with fail;go_meet;exact⟨true,by simp;omega,fun _=>hn.out,(fun h=>by cases h),rfl⟩
   ·have hg:=hide (fun h=>numOk_good hpos (by omega) (fun q=>h1 q.2) h);clear h48;go_wp2_with fail;go_meet;exact⟨false,by simp;omega,(fun h=>by cases h),(fun _=>⟨hpos,by omega,hg.out⟩),rfl⟩
  ·have h48':¬ ((s[0]'hpos).toNat:Int)=48:=by omega
   have hg:=hide (fun h=>numOk_good hpos (by omega) (fun q=>h48 q.1) h);clear h48;go_wp2_with fail;go_meet;exact⟨false,by simp;omega,(fun h=>by cases h),(fun _=>⟨hpos,by omega,hg.out⟩),rfl⟩
 case rest=>
  obtain⟨bb,rfl,hT,hF,rfl⟩:=hcut;cases bb with
  |true=>have hn:=hide (hT.out rfl);clear hT hF;go_wp2_with fail;go_ret2;exact⟨by rw[hn.out];rfl,rfl⟩
  |false=>
   obtain⟨hpos,h6,hG⟩:=hF.out rfl;have hsz:=Lib.size_eq s;have HSz:=hide hsz;have HG:=hide hG;clear hT hF hG hsz;go_wp2_with fail;go_loopw [4,5,25] (fun n _ i wq=>∃ k:Nat,k≤s.size∧i=vI kI k∧n=vI kI (decVal (s.data.toList.take k))∧Hid ((s.data.toList.take k).all isDig=true)∧wq=wc) (fun _ _ i _=>s.size - (iOf i).toNat);case atStart=>exact⟨0,zL _,rfl,by simp[decVal],(by rw[Hid];rfl),rfl⟩
   case round=>
    obtain⟨k,hk,rfl,rfl,HA,rfl⟩:=hrel;have hbd:=dec_bound (s:=s.data.toList) (k:=k) (by omega) (by have:=HSz.out;omega) HA.out;by_cases hlt:k < s.size
    ·have hst:=dec_step hlt;have HST:=hide (fun h=>digits_step hlt HA.out h);have HBad:=hide (fun h=>numV_no (numOk_bad hlt h));have hx:0≤((s[k]'hlt).toNat:Int)∧((s[k]'hlt).toNat:Int)≤255:=⟨by omega,by have:=(s[k]'hlt).toNat_lt;omega⟩;by_cases hdig:isDig (s[k]'hlt)=true
     ·have hd:=hdig;unfold isDig at hd;simp only[Bool.and_eq_true,decide_eq_true_eq]at hd;have hw1:IntKind.u8.wrap (((s[k]'hlt).toNat:Int) - 48)=((s[k]'hlt).toNat:Int) - 48:=IntWalk.u8_in _ (by omega);have HD:=hide (HST.out hdig);have HSt:=hide hst;clear HBad HST hst hdig;go_wp2_with fail;go_roundw;case rel=>exact⟨k+1,by omega,by go_num,by rw[HSt.out],HD.out,by first|rfl|trivial⟩
      case measure=>simp[iOf];omega
     ·have hn:=hide (HBad.out (by simpa using hdig));have hd:(s[k]'hlt).toNat < 48∨57 < (s[k]'hlt).toNat:=by unfold isDig at hdig;simp only[Bool.and_eq_true,decide_eq_true_eq]at hdig;omega
      clear HBad HST hst hdig;rcases hd with hd|hd
      ·go_wp2_with fail;go_ret2;exact⟨by rw[hn.out];rfl,rfl⟩
      ·go_wp2_with fail;go_ret2;exact⟨by rw[hn.out];rfl,rfl⟩
    ·obtain rfl:k=s.size:=by omega
     have hn:=hide (HG.out (by have:=HA.out;rwa [HSz.out,List.take_length]at this));have hv:decVal (s.data.toList.take s.size)=decVal s.data.toList:=by rw[HSz.out,List.take_length]
     rw[hv];clear hv;go_wp2_with fail;go_ret2;exact⟨by rw[hn.out];rfl,rfl⟩
end
section
def numsV (l:List ByteArray):List Int × Bool:=if l.all (fun s=>(numV s).2)=true then (l.map fun s=>(numV s).1,true) else ([],false)
theorem numsV_yes {l:List ByteArray}(h:l.all (fun s=>(numV s).2)=true):numsV l=(l.map fun s=>(numV s).1,true):=if_pos h
theorem numsV_no {l:List ByteArray}{k:Nat}(hk:k < l.length) (h:(numV (l.getD k default)).2=false):numsV l=([],false):=if_neg fun e=>by
 have:=List.all_eq_true.1 e (l.getD k default) (by rw[List.getD_eq_getElem?_getD,List.getElem?_eq_getElem hk,Option.getD_some];exact List.getElem_mem _);rw[h]at this;cases this
theorem take_succD {α:Type} [Inhabited α] {l:List α}{k:Nat}(hk:k < l.length):l.take (k+1)=l.take k ++ [l.getD k default]:=by
 rw[List.take_add_one,List.getElem?_eq_getElem hk,List.getD_eq_getElem?_getD,List.getElem?_eq_getElem hk];rfl
theorem getD_memD {α:Type} [Inhabited α] {l:List α}{k:Nat}(hk:k < l.length):l.getD k default ∈ l:=by
 rw[List.getD_eq_getElem?_getD,List.getElem?_eq_getElem hk,Option.getD_some];exact List.getElem_mem _
theorem push_int {B:Nat}{w:World}{v:Value}{l:List Int}(h:OwnE iv 3 B w v l) (hB:B≤w.heap.size) (hl:l.length≤1000000) (ot:TypeId) (y:Int) :
  ∃ A c w',(Builtin.append_ #[33,33] ot #[v,vS (some ⟨w.heap.size,0,none⟩) 1 1]).run pG (w.alloc (.cells #[vI kI y] 3))=.ok (vS A (l.length+1) c) w'∧OwnE iv 3 B w' (vS A (l.length+1) c) (l ++ [y])∧Below B w w':=by
 obtain⟨i0,hi,hz0,hz1,hz2⟩:=info_parts intinfo;exact OwnE.push Tryz.underlying33 hi hz0 hz1 hz2 rfl (by decide) h hB hl (fun x=>rfl) ot y
set_option maxHeartbeats 2000000
set_option maxRecDepth 100000
theorem numbers_any {A:Option Addr}{c:Nat}{l:List ByteArray}{w:World}(h:Strs w A l) (hm:l.length≤1000000) (hs:∀ s ∈ l,s.size≤1000000) :
  Calls pG 56 #[vS A l.length c] w fun e w'=>∃ v,e=.returned (.tuple #[v,vB (numsV l).2])∧OwnE iv 3 w.heap.size w' v (numsV l).1∧Below w.heap.size w w':=by
 have H:=hide h;have HS:=hide hs;clear h hs;go_enter Tryz.func56,Tryz.ntmps56;go_wp2_with fail;go_loopw [4,6,7,8,11] (fun o _ _ _ i wr=>∃ k:Nat,k≤l.length∧i=vI kI k∧∃ v:Value,o=v∧Hid (OwnE iv 3 w.heap.size wr v ((l.take k).map fun s=>(numV s).1))∧Hid ((l.take k).all (fun s=>(numV s).2)=true)∧Hid (Below w.heap.size w wr)) (fun _ _ _ _ i _=>l.length - (iOf i).toNat);case atStart=>exact⟨0,zL _,rfl,_,rfl,OwnE.nil _ _ _ _,(by rw[Hid];rfl),bR _ _⟩
 case round=>
  obtain⟨k,hk,rfl,v,rfl,HO,HA,HB⟩:=hrel;by_cases hlt:k < l.length
  ·obtain⟨b,off,rfl,hb,h0⟩:=H.out.at_ hlt;have h0:=(HB.out.cell (p:=⟨b,off+k,none⟩) hb).trans h0;have hsw:=HB.out.size;have hlen:((l.take k).map fun s=>(numV s).1).length=k:=by rw[List.length_map,List.length_take];omega
   have HN:=hide (fun wq=>number_any (w:=wq) (HS.out _ (getD_memD hlt)));have HNo:=hide (fun h=>numsV_no hlt h);have HYa:Hid ((numV (l.getD k default)).2=true→(l.take (k+1)).all (fun s=>(numV s).2)=true):=fun e=>by rw[take_succD hlt,List.all_append,HA.out];simpa using e
   have HYo:Hid ((l.take (k+1)).map (fun s=>(numV s).1)=((l.take k).map fun s=>(numV s).1) ++ [(numV (l.getD k default)).1]):=by rw[Hid,take_succD hlt,List.map_append];rfl
   obtain⟨A4,c4,w4,hr4,hO4,hb4⟩:=push_int HO.out hsw (by omega) 33 (numV (l.getD k default)).1;rw[hlen]at hr4 hO4;have HR4:=hide hr4;have HO4:=hide hO4;have HB4:=hide (HB.out.trans hb4);clear hr4 hO4 hb4;generalize l.getD k default=s at *;generalize numV s=q at *;obtain⟨n,ok⟩:=q;simp only[]at *;cases ok with
   |true=>
    go_wp2_with fail;refine(HN.out _).mono ?_;rintro e w1 ⟨rfl,rfl⟩;go_wp2_with ((with_reducible refine gV 25 (Value.slice A4 (k+1) c4) w4 ?_ ?_ ?_);rfl;exact gives_append rfl rfl rfl HR4.out);go_roundw;case rel=>exact⟨k+1,by omega,by go_num,_,rfl,by rw[HYo.out];exact HO4.out,HYa.out (by first|rfl|trivial),HB4.out⟩
    case measure=>simp[iOf];omega
   |false=>have hn:=hide (HNo.out (by first|rfl|trivial));go_wp2_with fail;refine(HN.out _).mono ?_;rintro e w1 ⟨rfl,rfl⟩;go_wp2_with fail;go_ret2;exact⟨_,by rw[hn.out];rfl,by rw[hn.out];exact OwnE.nil _ _ _ _,HB.out⟩
  ·obtain rfl:k=l.length:=by omega
   have hA:=HA.out;have hO:=HO.out;rw[List.take_length]at hA hO;have HV:=hide (numsV_yes hA);have HO:=hide hO;clear hA hO;go_wp2_with fail;go_ret2;exact⟨_,by rw[HV.out];rfl,by rw[HV.out];exact HO.out,HB.out⟩
end
section
def isBit (b:UInt8):Bool:=decide (b.toNat=48) || decide (b.toNat=49)
def bitB (b:UInt8):Bool:=decide (b.toNat=49)
def bitsV (s:ByteArray):List Bool × Bool:=if s.toList==[45] then ([],true) else if s.data.toList.all isBit=true then (s.data.toList.map bitB,!s.toList.isEmpty) else ([],false)
theorem bitsV_dash {s:ByteArray}(h:(s.toList==[45])=true):bitsV s=([],true):=if_pos h
theorem bitsV_yes {s:ByteArray}(h:(s.toList==[45])=false) (ha:s.data.toList.all isBit=true):bitsV s=(s.data.toList.map bitB,!s.toList.isEmpty):=by unfold bitsV;rw[if_neg (by rw[h];simp),if_pos ha]
theorem bitsV_no {s:ByteArray}{k:Nat}(h:(s.toList==[45])=false) (hk:k < s.size) (hb:isBit (s[k]'hk)=false):bitsV s=([],false):=by
 unfold bitsV;rw[if_neg (by rw[h];simp),if_neg];intro e;have:=List.all_eq_true.1 e _ (List.mem_of_getElem? (bget hk));rw[hb]at this;cases this
theorem boolinfo:(pG.info? 4).map (fun i=>(i.zero,i.size,i.bytes))=some (some (vB false),1,1):=by kernel_rfl
theorem push_bool {B:Nat}{w:World}{v:Value}{l:List Bool}(h:OwnE Value.bool 4 B w v l) (hB:B≤w.heap.size) (hl:l.length≤1000000) (ot:TypeId) (y:Bool) :
  ∃ A c w',(Builtin.append_ #[34,34] ot #[v,vS (some ⟨w.heap.size,0,none⟩) 1 1]).run pG (w.alloc (.cells #[vB y] 4))=.ok (vS A (l.length+1) c) w'∧OwnE Value.bool 4 B w' (vS A (l.length+1) c) (l ++ [y])∧Below B w w':=by
 obtain⟨i0,hi,hz0,hz1,hz2⟩:=info_parts boolinfo;exact OwnE.push Tryz.underlying34 hi hz0 hz1 hz2 rfl (by decide) h hB hl (fun x=>rfl) ot y
set_option maxHeartbeats 2000000
set_option maxRecDepth 100000
theorem bits_any {s:ByteArray}{w:World}(hs:s.size≤1000000) :
  Calls pG 54 #[vT s] w fun e w'=>∃ v,e=.returned (.tuple #[v,vB (bitsV s).2])∧OwnE Value.bool 4 w.heap.size w' v (bitsV s).1∧Below w.heap.size w w':=by
 have hsz:=Lib.size_eq s;go_enter Tryz.func54,Tryz.ntmps54;cases hd:s.toList==[45] with
 |true=>have hn:=hide (bitsV_dash hd);clear hsz;go_wp2_with fail;go_ret2;exact⟨_,by rw[hn.out];rfl,by rw[hn.out];exact OwnE.nil _ _ _ _,bR _ _⟩
 |false=>
  have HY:=hide (fun h=>bitsV_yes hd h);have HN:=hide (fun k hk hb=>bitsV_no (k:=k) hd hk hb);have HSz:=hide hsz;have HEm:=hide (fun (h:0 < s.size)=>isEmpty_false h);clear hsz;go_wp2_with fail;go_loopw [4,5,10] (fun o _ i wr=>∃ k:Nat,k≤s.size∧i=vI kI k∧∃ v:Value,o=v∧Hid (OwnE Value.bool 4 w.heap.size wr v ((s.data.toList.take k).map bitB))∧Hid ((s.data.toList.take k).all isBit=true)∧Hid (Below w.heap.size w wr)) (fun _ _ i _=>s.size - (iOf i).toNat);case atStart=>exact⟨0,zL _,rfl,_,rfl,OwnE.nil _ _ _ _,(by rw[Hid];rfl),bR _ _⟩
  case round=>
   obtain⟨k,hk,rfl,v,rfl,HO,HA,HB⟩:=hrel;by_cases hlt:k < s.size
   ·have hsw:=HB.out.size;have hlen:((s.data.toList.take k).map bitB).length=k:=by have:=HSz.out;rw[List.length_map,List.length_take];omega
    have HNo:=hide (HN.out k hlt);have HYa:Hid (isBit (s[k]'hlt)=true→(s.data.toList.take (k+1)).all isBit=true):=fun e=>by rw[take_snocB (bget hlt),List.all_append,HA.out];simpa using e
    have HYo:Hid ((s.data.toList.take (k+1)).map bitB=((s.data.toList.take k).map bitB) ++ [bitB (s[k]'hlt)]):=by rw[Hid,take_snocB (bget hlt),List.map_append];rfl
    obtain⟨A4,c4,w4,hr4,hO4,hb4⟩:=push_bool HO.out hsw (by omega) 34 (bitB (s[k]'hlt));rw[hlen]at hr4 hO4;rw[← HYo.out]at hO4;have HO4:=hide hO4;have HB4:=hide (HB.out.trans hb4);clear hO4 hb4;by_cases h48:(s[k]'hlt).toNat=48
    ·have hx:((s[k]'hlt).toNat:Int)=48:=by omega
     have ha:=hide (HYa.out (by unfold isBit;rw[decide_eq_true h48];rfl));have hbb:bitB (s[k]'hlt)=false:=decide_eq_false (by omega);rw[hbb]at hr4;have HR4:=hide hr4;clear hbb;clear h48 hr4 HYa HNo HYo;go_wp2_with ((with_reducible refine gV 29 (Value.slice A4 (k+1) c4) w4 ?_ ?_ ?_);rfl;exact gives_append rfl rfl rfl HR4.out);go_roundw;case rel=>exact⟨k+1,by omega,by go_num,_,rfl,HO4.out,ha.out,HB4.out⟩
     case measure=>simp[iOf];omega
    ·by_cases h49:(s[k]'hlt).toNat=49
     ·have hx:((s[k]'hlt).toNat:Int)=49:=by omega
      have ha:=hide (HYa.out (by unfold isBit;rw[decide_eq_true h49];simp));have hbb:bitB (s[k]'hlt)=true:=decide_eq_true h49;rw[hbb]at hr4;have HR4:=hide hr4;clear hbb;clear h48 h49 hr4 HYa HNo HYo;go_wp2_with ((with_reducible refine gV 29 (Value.slice A4 (k+1) c4) w4 ?_ ?_ ?_);rfl;exact gives_append rfl rfl rfl HR4.out);go_roundw;case rel=>exact⟨k+1,by omega,by go_num,_,rfl,HO4.out,ha.out,HB4.out⟩
      case measure=>simp[iOf];omega
     ·have hx:(((s[k]'hlt).toNat:Int) != 48)=true:=bne_iff_ne.2 (by omega);have hx2:(((s[k]'hlt).toNat:Int) != 49)=true:=bne_iff_ne.2 (by omega);have hn:=hide (HNo.out (by unfold isBit;rw[decide_eq_false h48,decide_eq_false h49];rfl));clear h48 h49 hr4 HYa HNo HYo;go_wp2_with fail;go_ret2;exact⟨_,by rw[hn.out];rfl,by rw[hn.out];exact OwnE.nil _ _ _ _,HB.out⟩
   ·obtain rfl:k=s.size:=by omega
    have hA:=HA.out;have hO:=HO.out;rw[HSz.out,List.take_length]at hA hO;have hn:=hide (HY.out hA);have HO:=hide hO;obtain⟨A2,c2,rfl,_,_,_⟩:=hO.form;clear hA hO;by_cases h0:0 < s.size
    ·have hem:=HEm.out h0;go_wp2_with fail;go_ret2;exact⟨_,by rw[hn.out];simp only[hem];rfl,by rw[hn.out];exact HO.out,HB.out⟩
    ·have hem:=isEmpty_true (s:=s) (by omega);go_wp2_with fail;go_ret2;exact⟨_,by rw[hn.out];simp only[hem];rfl,by rw[hn.out];exact HO.out,HB.out⟩
end
section
def isLow (b:UInt8):Bool:=decide (97≤b.toNat) && decide (b.toNat≤122)
def isPlain (b:UInt8):Bool:=decide (32≤b.toNat) && decide (b.toNat≤126)
def plainS (s:ByteArray):Bool:=s.data.toList.all isPlain
set_option maxRecDepth 100000
theorem letter_any (x:UInt8) {w:World}:Calls pG 120 #[.int .u8 (x.toNat:Int)] w fun e w'=>e=.returned (vB (isLow x))∧w'=w:=by
 unfold isLow;by_cases h1:97≤x.toNat
 ·have h1':(97:Int)≤(x.toNat:Int):=by omega
  by_cases h2:x.toNat≤122
  ·have h2':(x.toNat:Int)≤122:=by omega
   rw[decide_eq_true h1,decide_eq_true h2];clear h1 h2;go_enter Tryz.func120,Tryz.ntmps120;go_wp2_with fail;go_ret;exact⟨rfl,rfl⟩
  ·have h2':¬ (x.toNat:Int)≤122:=by omega
   rw[decide_eq_true h1,decide_eq_false h2];clear h1 h2;go_enter Tryz.func120,Tryz.ntmps120;go_wp2_with fail;go_ret;exact⟨rfl,rfl⟩
 ·have h1':¬ (97:Int)≤(x.toNat:Int):=by omega
  rw[decide_eq_false h1];clear h1;go_enter Tryz.func120,Tryz.ntmps120;go_wp2_with fail;go_ret;exact⟨rfl,rfl⟩
theorem digit_any (x:UInt8) {w:World}:Calls pG 114 #[.int .u8 (x.toNat:Int)] w fun e w'=>e=.returned (vB (isDig x))∧w'=w:=by
 unfold isDig;by_cases h1:48≤x.toNat
 ·have h1':(48:Int)≤(x.toNat:Int):=by omega
  by_cases h2:x.toNat≤57
  ·have h2':(x.toNat:Int)≤57:=by omega
   rw[decide_eq_true h1,decide_eq_true h2];clear h1 h2;go_enter Tryz.func114,Tryz.ntmps114;go_wp2_with fail;go_ret;exact⟨rfl,rfl⟩
  ·have h2':¬ (x.toNat:Int)≤57:=by omega
   rw[decide_eq_true h1,decide_eq_false h2];clear h1 h2;go_enter Tryz.func114,Tryz.ntmps114;go_wp2_with fail;go_ret;exact⟨rfl,rfl⟩
 ·have h1':¬ (48:Int)≤(x.toNat:Int):=by omega
  rw[decide_eq_false h1];clear h1;go_enter Tryz.func114,Tryz.ntmps114;go_wp2_with fail;go_ret;exact⟨rfl,rfl⟩
theorem tail_any (x:UInt8) {w:World}:Calls pG 137 #[.int .u8 (x.toNat:Int)] w fun e w'=>∃ b:Bool,e=.returned (vB b)∧w'=w:=by
 have HL:=hide (fun wq=>letter_any x (w:=wq));have HD:=hide (fun wq=>digit_any x (w:=wq));generalize isLow x=p at *;generalize isDig x=q at *;generalize (x.toNat:Int)=n at *;cases p with
 |true=>go_enter Tryz.func137,Tryz.ntmps137;go_wp2_with fail;refine(HL.out _).mono ?_;rintro e w1 ⟨rfl,rfl⟩;go_wp2_with fail;go_ret;exact⟨_,rfl,rfl⟩
 |false=>
  cases q with
  |true=>go_enter Tryz.func137,Tryz.ntmps137;go_wp2_with fail;refine(HL.out _).mono ?_;rintro e w1 ⟨rfl,rfl⟩;go_wp2_with fail;refine(HD.out _).mono ?_;rintro e w1 ⟨rfl,rfl⟩;go_wp2_with fail;go_ret;exact⟨_,rfl,rfl⟩
  |false=>go_enter Tryz.func137,Tryz.ntmps137;go_wp2_with fail;refine(HL.out _).mono ?_;rintro e w1 ⟨rfl,rfl⟩;go_wp2_with fail;refine(HD.out _).mono ?_;rintro e w1 ⟨rfl,rfl⟩;go_wp2_with fail;go_ret;exact⟨_,rfl,rfl⟩
set_option maxHeartbeats 1000000
theorem run_any {s:ByteArray}{w:World}(hs:s.size≤9223372036854775807) :
  Calls pG 121 #[vT s] w fun e w'=>∃ k:Nat,k≤s.size∧e=.returned (vI kI k)∧w'=w:=by
 go_enter Tryz.func121,Tryz.ntmps121;go_wp2_with fail;go_loopw [3] (fun i wq=>∃ k:Nat,k≤s.size∧i=vI kI k∧wq=w) (fun i _=>s.size - (iOf i).toNat);case atStart=>exact⟨0,zL _,rfl,rfl⟩
 case round=>
  obtain⟨k,hk,rfl,rfl⟩:=hrel;by_cases hlt:k < s.size
  ·have HT:=hide (fun wq=>tail_any (s[k]'hlt) (w:=wq));go_wp2_with fail;refine(HT.out _).mono ?_;rintro e w1 ⟨b,rfl,rfl⟩;cases b with
   |true=>
    go_wp2_with fail;go_roundw;case rel=>exact⟨k+1,by omega,by go_num,by first|rfl|trivial⟩
    case measure=>simp[iOf];omega
   |false=>go_wp2_with fail;go_ret;exact⟨k,hk,rfl,rfl⟩
  ·obtain rfl:k=s.size:=by omega
   go_wp2_with fail;go_ret;exact⟨_,hk,rfl,rfl⟩
theorem word_any {s:ByteArray}{w:World}(hs:s.size≤9223372036854775807) :
  Calls pG 99 #[vT s] w fun e w'=>∃ b:Bool,e=.returned (vB b)∧w'=w:=by
 have HR:=hide (fun wq=>run_any (w:=wq) hs);by_cases h0:s.size=0
 ·have e:=isEmpty_true h0;go_enter Tryz.func99,Tryz.ntmps99;go_wp2_with fail;go_ret;exact⟨_,rfl,rfl⟩
 ·have e:=isEmpty_false (s:=s) (by omega);have hpos:0 < s.size:=by omega
  have HL:=hide (fun wq=>letter_any (s[0]'hpos) (w:=wq));generalize isLow (s[0]'hpos)=p at *;go_enter Tryz.func99,Tryz.ntmps99;go_wp2_with fail;refine(HL.out _).mono ?_;rintro e w1 ⟨rfl,rfl⟩;cases p with
  |true=>go_wp2_with fail;refine(HR.out _).mono ?_;rintro e w1 ⟨k,hk,rfl,rfl⟩;go_wp2_with fail;go_ret;exact⟨_,rfl,rfl⟩
  |false=>go_wp2_with fail;go_ret;exact⟨_,rfl,rfl⟩
set_option maxHeartbeats 200000
set_option maxRecDepth 512
theorem numOk_split (s:ByteArray) (ha:s.data.toList.all isDig=true):numOk s.data.toList=(decide (1≤s.size) && (decide (s.size≤6) && (decide (s.size=1) || !decide (s.data.toList.head? = some 48)))):=by
 have hs:=Lib.size_eq s;unfold numOk;rw[ha,Bool.and_true,hs];cases hl:s.data.toList with
 |nil=>rfl
 |cons a l=>simp only[List.length_cons,List.head?_cons];by_cases h6:l.length+1≤6 <;> by_cases h1:l.length=0 <;> by_cases h48:a=48 <;> simp[h6,h1,h48] <;> omega
theorem numV_snd (s:ByteArray):(numV s).2=numOk s.data.toList:=by
 unfold numV;cases h:numOk s.data.toList
 ·rfl
 ·rfl
set_option maxHeartbeats 2000000
set_option maxRecDepth 100000
theorem Number_any {s:ByteArray}{w:World}(hs:s.size≤9223372036854775807) :
  Calls pG 93 #[vT s] w fun e w'=>e=.returned (vB (numV s).2)∧w'=w:=by
 rw[numV_snd];obtain⟨r,hr⟩:∃ r,numOk s.data.toList=r:=⟨_,rfl⟩;have HR:=hide hr;rw[hr];clear hr;go_enter Tryz.func93,Tryz.ntmps93;go_wp2_with fail;go_loopw [3] (fun i wq=>∃ k:Nat,k≤s.size∧i=vI kI k∧Hid ((s.data.toList.take k).all isDig=true)∧wq=w) (fun i _=>s.size - (iOf i).toNat);case atStart=>exact⟨0,zL _,rfl,(by rw[Hid];rfl),rfl⟩
 case round=>
  obtain⟨k,hk,rfl,HA,rfl⟩:=hrel;by_cases hlt:k < s.size
  ·have HT:=hide (fun wq=>digit_any (s[k]'hlt) (w:=wq));have HST:=hide (fun h=>digits_step hlt HA.out h);have HBad:=hide (fun h=>numOk_bad hlt h);generalize isDig (s[k]'hlt)=b at *;cases b with
   |true=>
    go_wp2_with fail;refine(HT.out _).mono ?_;rintro e w1 ⟨rfl,rfl⟩;have HD:=hide (HST.out (by first|rfl|trivial));go_wp2_with fail;go_roundw;case rel=>exact⟨k+1,by omega,by go_num,HD.out,by first|rfl|trivial⟩
    case measure=>simp[iOf];omega
   |false=>go_wp2_with fail;refine(HT.out _).mono ?_;rintro e w1 ⟨rfl,rfl⟩;have HD:=hide (HBad.out (by first|rfl|trivial));go_wp2_with fail;go_ret;exact⟨by rw[← HR.out,HD.out];rfl,rfl⟩
  ·obtain rfl:k=s.size:=by omega
   have ha:s.data.toList.all isDig=true:=by have:=HA.out;rwa [Lib.size_eq,List.take_length]at this
   have HS:=hide (HR.out.symm.trans (numOk_split s ha));clear HA ha;by_cases h1:1≤s.size
   ·have h1':(1:Int)≤(s.size:Int):=by omega
    by_cases h6:s.size≤6
    ·have h6':(s.size:Int)≤6:=by omega
     by_cases h2:s.size=1
     ·have h2':((s.size:Int)==1)=true:=beq_iff_eq.2 (by omega);have hv:Hid (r=true):=by rw[Hid,HS.out,decide_eq_true h1,decide_eq_true h6,decide_eq_true h2];rfl
      clear h1 h6 h2;go_wp2_with fail;go_ret;exact⟨by rw[hv.out];rfl,rfl⟩
     ·have h2':((s.size:Int)==1)=false:=bN (by omega);have hpos:0 < s.size:=by omega
      have hh:=head_get hpos;by_cases h48:(s[0]'hpos).toNat=48
      ·have h48':((s[0]'hpos).toNat:Int)=48:=by omega
       have e:s.data.toList.head? = some 48:=by rw[hh];congr 1;exact UInt8.toNat_inj.1 h48
       have hv:Hid (r=false):=by rw[Hid,HS.out,decide_eq_true h1,decide_eq_true h6,decide_eq_false h2,decide_eq_true e];rfl
       clear h1 h6 h2 hh h48 e;go_wp2_with fail;go_ret;exact⟨by rw[hv.out];rfl,rfl⟩
      ·have h48':(((s[0]'hpos).toNat:Int) != 48)=true:=by simp;omega
       have e:¬ s.data.toList.head? = some 48:=by rw[hh];intro e;injection e with e;exact h48 (by rw[e];rfl)
       have hv:Hid (r=true):=by rw[Hid,HS.out,decide_eq_true h1,decide_eq_true h6,decide_eq_false h2,decide_eq_false e];rfl
       clear h1 h6 h2 hh h48 e;go_wp2_with fail;go_ret;exact⟨by rw[hv.out];rfl,rfl⟩
    ·have h6':¬ (s.size:Int)≤6:=by omega
     have hv:Hid (r=false):=by rw[Hid,HS.out,decide_eq_true h1,decide_eq_false h6];rfl
     clear h1 h6;go_wp2_with fail;go_ret;exact⟨by rw[hv.out];rfl,rfl⟩
   ·have h1':¬ (1:Int)≤(s.size:Int):=by omega
    have hv:Hid (r=false):=by rw[Hid,HS.out,decide_eq_false h1];rfl
    clear h1;go_wp2_with fail;go_ret;exact⟨by rw[hv.out];rfl,rfl⟩
set_option maxHeartbeats 200000
set_option maxRecDepth 512
theorem plain_step {s:ByteArray}{k:Nat}(h:k < s.size) (ha:(s.data.toList.take k).all isPlain=true) (h1:32≤(s[k]'h).toNat) (h2:(s[k]'h).toNat≤126):(s.data.toList.take (k+1)).all isPlain=true:=by
 rw[take_snocB (bget h),List.all_append,ha];simp[isPlain,h1,h2]
theorem plain_bad {s:ByteArray}{k:Nat}(h:k < s.size) (h1:(s[k]'h).toNat < 32∨126 < (s[k]'h).toNat):plainS s=false:=by
 unfold plainS;rw[List.all_eq_false];refine⟨s[k]'h,List.mem_of_getElem? (bget h),?_⟩;unfold isPlain;simp only[Bool.and_eq_true,decide_eq_true_eq];omega
set_option maxHeartbeats 1000000
set_option maxRecDepth 100000
theorem plain_any {s:ByteArray}{w:World}(hs:s.size≤9223372036854775807) :
  Calls pG 25 #[vT s] w fun e w'=>e=.returned (vB (plainS s))∧w'=w:=by
 go_enter Tryz.func25,Tryz.ntmps25;go_wp2_with fail;go_loopw [3] (fun i wq=>∃ k:Nat,k≤s.size∧i=vI kI k∧Hid ((s.data.toList.take k).all isPlain=true)∧wq=w) (fun i _=>s.size - (iOf i).toNat);case atStart=>exact⟨0,zL _,rfl,(by rw[Hid];rfl),rfl⟩
 case round=>
  obtain⟨k,hk,rfl,HA,rfl⟩:=hrel;by_cases hlt:k < s.size
  ·have HS:=hide (fun h1 h2=>plain_step hlt HA.out h1 h2);have HBad:=hide (fun h=>plain_bad hlt h);by_cases h1:32≤(s[k]'hlt).toNat
   ·have h1':¬ ((s[k]'hlt).toNat:Int) < 32:=by omega
    by_cases h2:(s[k]'hlt).toNat≤126
    ·have h2':¬ (126:Int) < ((s[k]'hlt).toNat:Int):=by omega
     have HA2:=hide (HS.out h1 h2);clear HS HBad h1 h2;go_wp2_with fail;go_roundw;case rel=>exact⟨k+1,by omega,by go_num,HA2.out,by first|rfl|trivial⟩
     case measure=>simp[iOf];omega
    ·have h2':(126:Int) < ((s[k]'hlt).toNat:Int):=by omega
     have hn:=hide (HBad.out (.inr (by omega)));clear HS HBad h1 h2;go_wp2_with fail;go_ret;exact⟨by rw[hn.out];rfl,rfl⟩
   ·have h1':((s[k]'hlt).toNat:Int) < 32:=by omega
    have hn:=hide (HBad.out (.inl (by omega)));clear HS HBad h1;go_wp2_with fail;go_ret;exact⟨by rw[hn.out];rfl,rfl⟩
  ·obtain rfl:k=s.size:=by omega
   have hp:Hid (plainS s=true):=by have:=HA.out;rwa [Lib.size_eq,List.take_length]at this
   go_wp2_with fail;go_ret;exact⟨by rw[hp.out];rfl,rfl⟩
end
section
theorem list_eq {α:Type} [Inhabited α] {l m:List α}(h:l.length=m.length) (hs:∀ k,k < l.length→l.getD k default=m.getD k default):l=m:=by
 apply List.ext_getElem h;intro i h1 h2;have:=hs i h1;rwa [List.getD_eq_getElem?_getD,List.getD_eq_getElem?_getD,List.getElem?_eq_getElem h1,List.getElem?_eq_getElem h2,Option.getD_some,Option.getD_some]at this
theorem bytes_eq {x y:ByteArray}(h:x.toList=y.toList):x=y:=by
 rw[Lib.toList_data,Lib.toList_data]at h;exact ByteArray.ext (Array.toList_inj.1 h)
theorem beq_bytes (x y:ByteArray):(x.toList==y.toList)=decide (x=y):=by
 by_cases h:x=y
 ·rw[decide_eq_true h,h];exact beq_iff_eq.2 rfl
 ·rw[decide_eq_false h];exact bN fun e=>h (bytes_eq e)
set_option maxHeartbeats 2000000
set_option maxRecDepth 100000
theorem eqStrs_any {A B:Option Addr}{c d:Nat}{a b:List ByteArray}{w:World}(ha:Strs w A a) (hb:Strs w B b) (hm:a.length≤1000000) (hm2:b.length≤1000000) :
  Calls pG 47 #[vS A a.length c,vS B b.length d] w fun e w'=>e=.returned (vB (decide (a=b)))∧Drew w w':=by
 have HA:=hide ha;have HB:=hide hb;clear ha hb;by_cases hl:a.length=b.length
 ·have hl':((a.length:Int) != (b.length:Int))=false:=by rw[hl];simp
  have HL:=hide hl;have HY:=hide (fun g=>decide_eq_true (list_eq hl g));have HN:Hid (∀ k,a.getD k default≠b.getD k default→decide (a=b)=false):=fun k hk=>decide_eq_false fun e=>hk (by rw[e]);obtain⟨r,hr⟩:∃ r,decide (a=b)=r:=⟨_,rfl⟩;rw[hr]at HY HN ⊢;clear hl hr;go_enter Tryz.func47,Tryz.ntmps47;go_wp2_with fail;go_loopw [5] (fun i wr=>∃ k:Nat,k≤a.length∧i=vI kI k∧Hid (∀ j,j < k→a.getD j default=b.getD j default)∧Hid (Drew w wr)) (fun i _=>a.length - (iOf i).toNat);case atStart=>exact⟨0,zL _,rfl,(fun j hj=>by omega),Drew.refl _⟩
  case round=>
   obtain⟨k,hk,rfl,HS,HD⟩:=hrel;by_cases hlt:k < a.length
   ·obtain⟨b1,off1,rfl,hb1,h1⟩:=HA.out.at_ hlt;obtain⟨b2,off2,rfl,hb2,h2⟩:=HB.out.at_ (k:=k) (by have:=HL.out;omega);have h1:=(HD.out.below.cell (p:=⟨b1,off1+k,none⟩) hb1).trans h1;have h2:=(HD.out.below.cell (p:=⟨b2,off2+k,none⟩) hb2).trans h2;have hkb:(k:Int) < (b.length:Int):=by have:=HL.out;omega
    have HNk:=hide (HN.out k);have HS1:Hid (a.getD k default=b.getD k default→∀ j,j < k+1→a.getD j default=b.getD j default):=fun e j hj=>by
     by_cases ej:j=k
     ·rw[ej];exact e
     ·exact HS.out j (by omega)
    generalize a.getD k default=x at *;generalize b.getD k default=y at *;by_cases hxy:x=y
    ·subst hxy;have HS2:=hide (HS1.out rfl);go_wp2_with (fail);go_quiet (fail);go_wp2_with fail;go_roundw;case rel=>exact⟨k+1,by omega,by go_num,HS2.out,HD.out.drew _⟩
     case measure=>simp[iOf];omega
    ·have hv:=hide (HNk.out hxy);have hne:(x.toList==y.toList)=false:=by rw[beq_bytes,decide_eq_false hxy]
     clear hxy;go_wp2_with (fail);go_quiet (fail);go_wp2_with fail;go_ret;exact⟨by rw[hv.out];rfl,HD.out.drew _⟩
   ·obtain rfl:k=a.length:=by omega
    have hv:=hide (HY.out HS.out);go_wp2_with fail;go_ret;exact⟨by rw[hv.out];rfl,HD.out⟩
 ·have hl':((a.length:Int)==(b.length:Int))=false:=bN (by omega);rw[decide_eq_false (p:=a=b) (fun e=>hl (by rw[e]))];clear hl;go_enter Tryz.func47,Tryz.ntmps47;go_wp2_with fail;go_ret;exact⟨rfl,Drew.refl _⟩
theorem eqInts_any {A B:Option Addr}{c d:Nat}{a b:List Int}{w:World}(ha:Ints w A a) (hb:Ints w B b) (hm:a.length≤1000000) (hm2:b.length≤1000000) :
  Calls pG 28 #[vS A a.length c,vS B b.length d] w fun e w'=>e=.returned (vB (decide (a=b)))∧Drew w w':=by
 have HA:=hide ha;have HB:=hide hb;clear ha hb;by_cases hl:a.length=b.length
 ·have hl':((a.length:Int) != (b.length:Int))=false:=by rw[hl];simp
  have HL:=hide hl;have HY:=hide (fun g=>decide_eq_true (list_eq hl g));have HN:Hid (∀ k,a.getD k default≠b.getD k default→decide (a=b)=false):=fun k hk=>decide_eq_false fun e=>hk (by rw[e]);obtain⟨r,hr⟩:∃ r,decide (a=b)=r:=⟨_,rfl⟩;rw[hr]at HY HN ⊢;clear hl hr;go_enter Tryz.func28,Tryz.ntmps28;go_wp2_with fail;go_loopw [5] (fun i wr=>∃ k:Nat,k≤a.length∧i=vI kI k∧Hid (∀ j,j < k→a.getD j default=b.getD j default)∧Hid (Drew w wr)) (fun i _=>a.length - (iOf i).toNat);case atStart=>exact⟨0,zL _,rfl,(fun j hj=>by omega),Drew.refl _⟩
  case round=>
   obtain⟨k,hk,rfl,HS,HD⟩:=hrel;by_cases hlt:k < a.length
   ·obtain⟨b1,off1,rfl,hb1,h1⟩:=HA.out.at_ hlt;obtain⟨b2,off2,rfl,hb2,h2⟩:=HB.out.at_ (k:=k) (by have:=HL.out;omega);have h1:=(HD.out.below.cell (p:=⟨b1,off1+k,none⟩) hb1).trans h1;have h2:=(HD.out.below.cell (p:=⟨b2,off2+k,none⟩) hb2).trans h2;have hkb:(k:Int) < (b.length:Int):=by have:=HL.out;omega
    have HNk:=hide (HN.out k);have HS1:Hid (a.getD k default=b.getD k default→∀ j,j < k+1→a.getD j default=b.getD j default):=fun e j hj=>by
     by_cases ej:j=k
     ·rw[ej];exact e
     ·exact HS.out j (by omega)
    unfold iv at h1 h2;generalize a.getD k default=x at *;generalize b.getD k default=y at *;by_cases hxy:x=y
    ·subst hxy;have HS2:=hide (HS1.out rfl);go_wp2_with (fail);go_quiet (fail);go_wp2_with fail;go_roundw;case rel=>exact⟨k+1,by omega,by go_num,HS2.out,HD.out.drew _⟩
     case measure=>simp[iOf];omega
    ·have hv:=hide (HNk.out hxy);go_wp2_with (fail);go_quiet (fail);go_wp2_with fail;go_ret;exact⟨by rw[hv.out];rfl,HD.out.drew _⟩
   ·obtain rfl:k=a.length:=by omega
    have hv:=hide (HY.out HS.out);go_wp2_with fail;go_ret;exact⟨by rw[hv.out];rfl,HD.out⟩
 ·have hl':((a.length:Int)==(b.length:Int))=false:=bN (by omega);rw[decide_eq_false (p:=a=b) (fun e=>hl (by rw[e]))];clear hl;go_enter Tryz.func28,Tryz.ntmps28;go_wp2_with fail;go_ret;exact⟨rfl,Drew.refl _⟩
end
section
def valB:List Bool→Nat
 | []=>0
 |b :: r=>b.toNat+2 * valB r
def trimB:List Bool→List Bool
 | []=>[]
 |b :: r=>if b=false∧trimB r=[] then [] else b :: trimB r
def NormB (l:List Bool):Prop:=trimB l=l
theorem trimB_trimB (l:List Bool):trimB (trimB l)=trimB l:=by
 induction l with
 |nil=>rfl
 |cons b r ih=>
  show trimB (if b=false∧trimB r=[] then [] else b :: trimB r)=(if b=false∧trimB r=[] then [] else b :: trimB r);by_cases h:b=false∧trimB r=[]
  ·rw[if_pos h];rfl
  ·rw[if_neg h];show (if b=false∧trimB (trimB r)=[] then [] else b :: trimB (trimB r))=_;rw[ih,if_neg h]
theorem trimB_norm (l:List Bool):NormB (trimB l):=trimB_trimB l
theorem valB_trimB (l:List Bool):valB (trimB l)=valB l:=by
 induction l with
 |nil=>rfl
 |cons b r ih=>
  unfold trimB;split
  ·rename_i h;obtain⟨rfl,h2⟩:=h;rw[h2]at ih;show 0=0+2 * valB r;have:valB r=0:=ih.symm;omega
  ·show b.toNat+2 * valB (trimB r)=b.toNat+2 * valB r;rw[ih]
theorem trimB_length (l:List Bool):(trimB l).length≤l.length:=by
 induction l with
 |nil=>exact lR _
 |cons b r ih=>
  unfold trimB;split
  ·exact zL _
  ·simp only[List.length_cons];omega
theorem trimB_zero {l:List Bool}(h:valB l=0):trimB l=[]:=by
 induction l with
 |nil=>rfl
 |cons b r ih=>have h':b.toNat+2 * valB r=0:=h;unfold trimB;rw[if_pos ⟨by cases b <;> simp_all,ih (by omega)⟩]
theorem norm_zero {l:List Bool}(hn:NormB l) (h:valB l=0):l=[]:=hn.symm.trans (trimB_zero h)
theorem norm_pos {l:List Bool}(hn:NormB l) (h:0 < l.length):0 < valB l:=by
 rcases Nat.eq_zero_or_pos (valB l) with h0|h0
 ·rw[norm_zero hn h0]at h;exact absurd h (by simp)
 ·exact h0
theorem trimB_take:∀ {l:List Bool}{n:Nat},n≤l.length→(∀ i,n≤i→l.getD i false=false)→(∀ k,n=k+1→l.getD k false=true)→trimB l=l.take n
 | [],n,_,_,_=>by simp[trimB]
 |b :: r,0,h,h1,h2=>by
  have hb:b=false:=h1 0 (lR _);have hr:trimB r=[]:=trimB_take (n:=0) (zL _) (fun i _=>h1 (i+1) (zL _)) (fun k e=>by cases e);unfold trimB;rw[if_pos ⟨hb,hr⟩];rfl
 |b :: r,n+1,h,h1,h2=>by
  have hr:trimB r=r.take n:=trimB_take (by simpa using h) (fun i hi=>h1 (i+1) (by omega)) (fun k e=>h2 (k+1) (by omega));unfold trimB;rw[hr,if_neg]
  ·rfl
  ·rintro⟨hb,hr0⟩;have hn:n=0:=by
    rcases Nat.eq_zero_or_pos n with h0|h0
    ·exact h0
    ·have:=congrArg List.length hr0;rw[List.length_take]at this;simp only[List.length_cons,List.length_nil]at h this;omega
   subst hn;have:=h2 0 rfl;rw[hb]at this;cases this
theorem valB_lt:∀ (l:List Bool),valB l < 2 ^ l.length
 | []=>by decide
 |b :: r=>by
  have h:=valB_lt r;show b.toNat+2 * valB r < 2 ^ (r.length+1);rw[Nat.pow_succ];cases b <;> simp <;> omega
theorem valB_snoc (l:List Bool) (b:Bool):valB (l ++ [b])=valB l+2 ^ l.length * b.toNat:=by
 induction l with
 |nil=>show b.toNat+2 * 0=0+2 ^ 0 * b.toNat;omega
 |cons c r ih=>show c.toNat+2 * valB (r ++ [b])=(c.toNat+2 * valB r)+2 ^ (r.length+1) * b.toNat;rw[ih,Nat.pow_succ,Nat.mul_add,← Nat.mul_assoc,Nat.mul_comm (2 ^ r.length) 2];omega
theorem valB_take_succ (l:List Bool) (k:Nat):valB (l.take (k+1))=valB (l.take k)+2 ^ k * (l.getD k false).toNat:=by
 by_cases h:k < l.length
 ·rw[List.take_add_one,List.getElem?_eq_getElem h,List.getD_eq_getElem?_getD,List.getElem?_eq_getElem h];show valB (l.take k ++ [l[k]])=_;rw[valB_snoc,List.length_take,Nat.min_eq_left (by omega)];rfl
 ·rw[List.take_of_length_le (by omega),List.take_of_length_le (by omega),List.getD_eq_getElem?_getD,List.getElem?_eq_none (by omega)];show _=_+2 ^ k * 0;omega
theorem valB_drop (l:List Bool) {k:Nat}(h:k < l.length):valB (l.drop k)=(l.getD k false).toNat+2 * valB (l.drop (k+1)):=by
 rw[List.drop_eq_getElem_cons h,List.getD_eq_getElem?_getD,List.getElem?_eq_getElem h];rfl
theorem norm_snoc_true (l:List Bool):NormB (l ++ [true]):=by
 induction l with
 |nil=>rfl
 |cons b r ih=>show (if b=false∧trimB (r ++ [true])=[] then [] else b :: trimB (r ++ [true]))=_;have ih':trimB (r ++ [true])=r ++ [true]:=ih;rw[ih',if_neg (fun h=>by have:=h.2;simp at this)];rfl
theorem take_eqB {a b:List Bool}{i:Nat}(h:∀ j,i≤j→a.getD j false=b.getD j false):valB a+valB (b.take i)=valB b+valB (a.take i):=by
 have key:∀ n,valB (a.take (i+n))+valB (b.take i)=valB (b.take (i+n))+valB (a.take i):=fun n=>by
  induction n with
  |zero=>exact Nat.add_comm _ _
  |succ n ih=>rw[← Nat.add_assoc,valB_take_succ,valB_take_succ,h (i+n) (by omega)];omega
 have h1:=key (a.length+b.length);rw[List.take_of_length_le (l:=a) (by omega),List.take_of_length_le (l:=b) (i:=i+(a.length+b.length)) (by omega)]at h1;exact h1
theorem take_ltB (l:List Bool) (i:Nat):valB (l.take i) < 2 ^ i:=by
 refine lL (valB_lt _) (Nat.pow_le_pow_right (by decide) ?_);rw[List.length_take];omega
def cmpB (x y:Nat):Int:=if x < y then -1 else if y < x then 1 else 0
theorem cmpB_eq {a b:List Bool}(h:∀ i,a.getD i false=b.getD i false):cmpB (valB a) (valB b)=0:=by
 have h1:=take_eqB (i:=0) fun j _=>h j;have:valB a=valB b:=h1;unfold cmpB;rw[this,if_neg (Nat.lt_irrefl _),if_neg (Nat.lt_irrefl _)]
theorem gtB {a b:List Bool}{i:Nat}(ha:a.getD i false=true) (hb:b.getD i false=false) (h:∀ j,i < j→a.getD j false=b.getD j false):valB b < valB a:=by
 have h1:=take_eqB (i:=i+1) fun j hj=>h j hj;rw[valB_take_succ,valB_take_succ,ha,hb]at h1;have h2:=take_ltB b i;have e1:true.toNat=1:=rfl;have e2:false.toNat=0:=rfl;rw[e1,e2]at h1;omega
theorem cmpB_gt {a b:List Bool}{i:Nat}(ha:a.getD i false=true) (hb:b.getD i false=false) (h:∀ j,i < j→a.getD j false=b.getD j false):cmpB (valB a) (valB b)=1:=by
 have:=gtB ha hb h;unfold cmpB;rw[if_neg (by omega),if_pos this]
theorem cmpB_lt {a b:List Bool}{i:Nat}(ha:a.getD i false=false) (hb:b.getD i false=true) (h:∀ j,i < j→a.getD j false=b.getD j false):cmpB (valB a) (valB b)=-1:=by
 have:=gtB hb ha fun j hj=>(h j hj).symm;unfold cmpB;rw[if_pos this]
theorem sub_stepB {O A B p:Nat}{x y c:Bool}(h:O+B=A+p * c.toNat) :
  O+p * ((x != y) != c).toNat+(B+p * y.toNat)=A+p * x.toNat+(2 * p) * ((!x && y) || ((!x && c) || (y && c))).toNat:=by
 cases x <;> cases y <;> cases c <;> simp_all <;> omega
theorem sub_endB {O a b p:Nat}{c:Bool}(h:O+b=a+p * c.toNat) (hO:O < p) (hb:b≤a):O=a - b:=by
 cases c
 ·simp at h;omega
 ·simp at h;omega
end
section
theorem run_append_none2 {w:World}(base:Nat) (t ty e:TypeId) (i:TypeInfo) (size:Nat) (ht:pG.underlying t=some (.slice e)) (hi:pG.info? e=some i)
  (v:Value) (n:Nat) (xs:List Value) (hown:w.ownsRow base e size v n xs) (c:Nat) :
  (Builtin.append_ #[t,t] ty #[v,vS none 0 c]).run pG w=.ok v w:=by
 rcases hown.2 with ⟨rfl,rfl⟩|⟨g,cap,cur,rfl,_,_,hnc,_⟩
 ·simp[Builtin.append_,run_underlying ht,sizeOf,typeInfo,hi,Builtin.lenOf,Builtin.firstCells]
 ·simp[Builtin.append_,run_underlying ht,sizeOf,typeInfo,hi,Builtin.lenOf,Builtin.firstCells,hnc,storeCells]
section
variable {α:Type} [Inhabited α] {enc:α→Value}{ty:TypeId}{B:Nat}{w w':World}{v:Value}{l ys:List α}
theorem OwnE.pushL {t:TypeId}{i:TypeInfo}{z:Value}{bytes:Nat}(ht:pG.underlying t=some (.slice ty)) (hi:pG.info? ty=some i) (hz:i.zero=some z) (hs:i.size=1) (hby:i.bytes=bytes) (hzs:z.cells.size=1) (hb48:bytes≤48)
  (h:OwnE enc ty B w v l) (hB:B≤w.heap.size) (hl:l.length+ys.length≤1000000) (he:∀ x,(enc x).oneCell'=true) (ot:TypeId) {A0:Option Addr}(hy:ListIn enc (All w) w A0 ys) (c:Nat) :
  ∃ A d w',(Builtin.append_ #[t,t] ot #[v,vS A0 ys.length c]).run pG w=.ok (vS A (l.length+ys.length) d) w'∧OwnE enc ty B w' (vS A (l.length+ys.length) d) (l ++ ys)∧Below B w w':=by
 cases A0 with
 |none=>
  have h0:ys=[]:=by
   cases ys with
   |nil=>rfl
   |cons a r=>obtain⟨_,_,e,_⟩:=hy (by simp);cases e
  subst h0;obtain⟨A,d,hv',_,_⟩:=h.form;have hr:=run_append_none2 B t ot ty i 1 ht hi v l.length (l.map enc) h c;rw[hv']at hr;refine⟨A,d,w,?_,?_,bR _ _⟩
  ·rw[hv'];exact hr
  ·rw[List.append_nil];rw[hv']at h;exact h
 |some ad=>
  have hnews:∀ j u,(ys.map enc)[j]? = some u→w.cell? (ad.add j)=some u:=fun j u hu=>by
   have hj:j < ys.length:=by
    rcases Nat.lt_or_ge j ys.length with h|h
    ·exact h
    ·rw[List.getElem?_eq_none (by simpa using h)]at hu;cases hu
   obtain⟨b,off,e,_,hc⟩:=hy.at_ hj;cases e;rw[add_off,hc];rw[List.getElem?_map,List.getElem?_eq_getElem hj]at hu;rw[← hu,List.getD_eq_getElem?_getD,List.getElem?_eq_getElem hj];rfl
  obtain⟨v',w',hr,ho,hg,_,hor⟩:=run_append_own_at (P:=pG) w B t ot ty i z 1 bytes ht hi hz hs hby hzs (by decide) v l.length (l.map enc) h ad ys.length c (ys.map enc) (by simp) hnews (by intro u hu;rw[List.mem_map]at hu;obtain⟨x,_,rfl⟩:=hu;exact he x) (by unfold maxLen;omega) (lT (Nat.mul_le_mul (show l.length+ys.length≤1000001 by omega) hb48) (by decide)) hB;have ho':OwnE enc ty B w' v' (l ++ ys):=by unfold OwnE;rw[List.length_append,List.map_append];exact ho
  obtain⟨A,d,rfl,_⟩:=ho'.form;rw[List.length_append]at hr ho';exact⟨A,d,w',hr,ho',own_by hB h.lo hg⟩
end
abbrev OwnB (B:Nat) (w:World) (v:Value) (l:List Bool):Prop:=OwnE Value.bool 4 B w v l
theorem push_bit {B:Nat}{w:World}{v:Value}{l:List Bool}(h:OwnB B w v l) (hB:B≤w.heap.size) (hl:l.length≤1000000) (ot:TypeId) (y:Bool) :
  ∃ A c w',(Builtin.append_ #[94,94] ot #[v,vS (some ⟨w.heap.size,0,none⟩) 1 1]).run pG (w.alloc (.cells #[vB y] 4))=.ok (vS A (l.length+1) c) w'∧OwnB B w' (vS A (l.length+1) c) (l ++ [y])∧Below B w w':=by
 obtain⟨i0,hi,hz0,hz1,hz2⟩:=info_parts boolinfo;exact OwnE.push Tryz.underlying94 hi hz0 hz1 hz2 rfl (by decide) h hB hl (fun x=>rfl) ot y
theorem push_bits {B:Nat}{w:World}{v:Value}{l ys:List Bool}(h:OwnB B w v l) (hB:B≤w.heap.size) (hl:l.length+ys.length≤1000000) (ot:TypeId) {A0:Option Addr}(hy:Bools w A0 ys) (c:Nat) :
  ∃ A d w',(Builtin.append_ #[94,94] ot #[v,vS A0 ys.length c]).run pG w=.ok (vS A (l.length+ys.length) d) w'∧OwnB B w' (vS A (l.length+ys.length) d) (l ++ ys)∧Below B w w':=by
 obtain⟨i0,hi,hz0,hz1,hz2⟩:=info_parts boolinfo;exact OwnE.pushL Tryz.underlying94 hi hz0 hz1 hz2 rfl (by decide) h hB hl (fun x=>rfl) ot hy c
theorem copy_bits {w:World}{ys:List Bool}(hl:ys.length≤1000000) (ot:TypeId) {A0:Option Addr}(hy:Bools w A0 ys) (c:Nat) :
  ∃ A d w',(Builtin.append_ #[94,94] ot #[vS none 0 0,vS A0 ys.length c]).run pG w=.ok (vS A ys.length d) w'∧OwnB w.heap.size w' (vS A ys.length d) ys∧Below w.heap.size w w':=by
 obtain⟨A,d,w',h1,h2,h3⟩:=push_bits (OwnE.nil Value.bool 4 w.heap.size w) (lR _) (by simpa using hl) ot hy c;rw[List.length_nil,Nat.zero_add]at h1 h2;rw[List.nil_append]at h2;exact⟨A,d,w',h1,h2,h3⟩
set_option maxHeartbeats 2000000
set_option maxRecDepth 100000
theorem trim_any {A:Option Addr}{c:Nat}{l:List Bool}{w:World}(h:Bools w A l) (hm:l.length≤1000000) (hc:l.length≤c) :
  Calls pG 107 #[vS A l.length c] w fun e w'=>∃ v,e=.returned v∧OwnB w.heap.size w' v (trimB l)∧Below w.heap.size w w':=by
 have H:=hide h;have HK:=hide (fun n hn h1 h2=>trimB_take (l:=l) (n:=n) hn h1 h2);clear h;go_enter Tryz.func107,Tryz.ntmps107;go_wp2_with fail;go_loopw [3] (fun i wr=>∃ n:Nat,n≤l.length∧i=vI kI n∧Hid (∀ i,n≤i→l.getD i false=false)∧wr=w) (fun i _=>(iOf i).toNat);case atStart=>exact⟨l.length,lR _,rfl,(fun i hi=>by rw[List.getD_eq_getElem?_getD,List.getElem?_eq_none hi];rfl),rfl⟩
 case round=>
  obtain⟨n,hn,rfl,HZ,rfl⟩:=hrel;have fin:(n=0∨∃ k,n=k+1∧l.getD k false=true)→∃ A' d w',(Builtin.append_ #[94,94] 94 #[vS none 0 0,vS A n c]).run pG wr=.ok (vS A' n d) w'∧OwnB wr.heap.size w' (vS A' n d) (trimB l)∧Below wr.heap.size wr w':=fun hq=>by
   have e:=HK.out n hn HZ.out (fun k ek=>by
    rcases hq with h0|⟨k',h1,h2⟩
    ·omega
    ·obtain rfl:k=k':=by omega
     exact h2)
   have hlen:(l.take n).length=n:=by rw[List.length_take];omega
   have h1:=copy_bits (w:=wr) (ys:=l.take n) (by omega) 94 (ListIn.take H.out n) c;rw[hlen]at h1;rw[e];exact h1
  rcases Nat.eq_zero_or_pos n with h0|h0
  ·subst h0;obtain⟨A',d,w4,hr4,hO4,hb4⟩:=fin (.inl rfl);have HR4:=hide hr4;have HO4:=hide hO4;have HB4:=hide hb4;clear fin hr4 hO4 hb4;go_wp2_with ((with_reducible refine gV 21 (Value.slice A' 0 d) w4 ?_ ?_ ?_);rfl;exact gives_append rfl rfl rfl HR4.out);go_ret;exact⟨_,rfl,HO4.out,HB4.out⟩
  ·obtain⟨k,rfl⟩:∃ k,n=k+1:=⟨n - 1,by omega⟩;obtain⟨b,off,rfl,hb,hcell⟩:=H.out.at_ (k:=k) (by omega);have e0:((k+1:Nat):Int) - 1=(k:Int):=by omega
   cases hv:l.getD k default with
   |true=>rw[hv]at hcell;obtain⟨A',d,w4,hr4,hO4,hb4⟩:=fin (.inr ⟨k,rfl,hv⟩);have HR4:=hide hr4;have HO4:=hide hO4;have HB4:=hide hb4;clear fin hr4 hO4 hb4 hv;go_wp2_with ((with_reducible refine gV 21 (Value.slice A' (k+1) d) w4 ?_ ?_ ?_);rfl;exact gives_append rfl rfl rfl HR4.out);go_ret;exact⟨_,rfl,HO4.out,HB4.out⟩
   |false=>
    rw[hv]at hcell;have HZ':Hid (∀ i,k≤i→l.getD i false=false):=fun i hi=>by
     rcases Nat.lt_or_ge k i with h|h
     ·exact HZ.out i h
     ·obtain rfl:i=k:=by omega
      exact hv
    clear fin hv;go_wp2_with fail;go_roundw;case rel=>exact⟨k,by omega,by go_num,HZ',by first|rfl|trivial⟩
    case measure=>simp[iOf]
set_option maxHeartbeats 1000000
theorem at_any {A:Option Addr}{c:Nat}{l:List Bool}{w:World}(h:Bools w A l) (hm:l.length≤1000000) (i:Nat) :
  Calls pG 105 #[vS A l.length c,vI kI i] w fun e w'=>e=.returned (vB (l.getD i false))∧w'=w:=by
 by_cases hi:i < l.length
 ·obtain⟨b,off,rfl,hb,hcell⟩:=h.at_ hi;have e:l.getD i default=l.getD i false:=rfl;rw[e]at hcell;generalize l.getD i false=x at *;have h0:(0:Int)≤(i:Int):=by omega
  have h1:(i:Int) < (l.length:Int):=by omega
  clear h;go_enter Tryz.func105,Tryz.ntmps105;go_wp2_with fail;go_ret;exact⟨rfl,rfl⟩
 ·have e:l.getD i false=false:=by rw[List.getD_eq_getElem?_getD,List.getElem?_eq_none (by omega)];rfl
  rw[e];have h0:(0:Int)≤(i:Int):=by omega
  have h1:¬ (i:Int) < (l.length:Int):=by omega
  clear h e;go_enter Tryz.func105,Tryz.ntmps105;go_wp2_with fail;go_ret;exact⟨rfl,rfl⟩
end
section
set_option maxHeartbeats 2000000
set_option maxRecDepth 100000
theorem cmp_any {A B:Option Addr}{c d:Nat}{a b:List Bool}{w:World}(ha:Bools w A a) (hb:Bools w B b) (hm:a.length≤1000000) (hm2:b.length≤1000000) :
  Calls pG 82 #[vS A a.length c,vS B b.length d] w fun e w'=>e=.returned (vI kI (cmpB (valB a) (valB b)))∧w'=w:=by
 have HA:=hide (fun i=>at_any (c:=c) ha hm i);have HB:=hide (fun i=>at_any (c:=d) hb hm2 i);have H0:=hide (fun h=>cmpB_eq (a:=a) (b:=b) h);have H1:=hide (fun i h1 h2 h=>cmpB_gt (a:=a) (b:=b) (i:=i) h1 h2 h);have H2:=hide (fun i h1 h2 h=>cmpB_lt (a:=a) (b:=b) (i:=i) h1 h2 h);generalize cmpB (valB a) (valB b)=r at *;clear ha hb;go_enter Tryz.func82,Tryz.ntmps82;go_wp2_with fail;go_loopw [5] (fun i wr=>∃ z:Int,-1≤z∧z≤1000000∧i=vI kI z∧Hid (∀ j:Nat,z < (j:Int)→a.getD j false=b.getD j false)∧wr=w) (fun i _=>(iOf i+1).toNat);case atStart=>
  refine⟨_,?_,?_,rfl,?_,rfl⟩
  ·omega
  ·omega
  ·intro j hj;rw[List.getD_eq_getElem?_getD,List.getD_eq_getElem?_getD,List.getElem?_eq_none (by omega),List.getElem?_eq_none (by omega)]
 case round=>
  obtain⟨z,hz,hz2,rfl,HE,rfl⟩:=hrel;by_cases h0:0≤z
  ·obtain⟨k,rfl⟩:=Int.eq_ofNat_of_zero_le h0;have HAk:=hide (HA.out k);have HBk:=hide (HB.out k);have HEk:Hid (a.getD k false=b.getD k false→∀ j:Nat,(k:Int) - 1 < (j:Int)→a.getD j false=b.getD j false):=fun h j hj=>by
    rcases Nat.lt_or_ge k j with hl|hl
    ·exact HE.out j (by omega)
    ·obtain rfl:j=k:=by omega
     exact h
   have HG:=hide (fun h1 h2=>H1.out k h1 h2 fun j hj=>HE.out j (by omega));have HL:=hide (fun h1 h2=>H2.out k h1 h2 fun j hj=>HE.out j (by omega));generalize a.getD k false=x at *;generalize b.getD k false=y at *;cases x <;> cases y
   ·have he:=hide (HEk.out rfl);go_wp2_with fail;refine HAk.out.mono ?_;rintro e w1 ⟨rfl,rfl⟩;go_wp2_with fail;refine HBk.out.mono ?_;rintro e w1 ⟨rfl,rfl⟩;go_wp2_with fail;go_roundw;case rel=>exact⟨_,by omega,by omega,rfl,he.out,by first|rfl|trivial⟩
    case measure=>simp[iOf]
   ·have he:=HL.out rfl rfl;subst he;go_wp2_with fail;refine HAk.out.mono ?_;rintro e w1 ⟨rfl,rfl⟩;go_wp2_with fail;refine HBk.out.mono ?_;rintro e w1 ⟨rfl,rfl⟩;go_wp2_with fail;refine HAk.out.mono ?_;rintro e w1 ⟨rfl,rfl⟩;go_wp2_with fail;go_ret;exact⟨rfl,rfl⟩
   ·have he:=HG.out rfl rfl;subst he;go_wp2_with fail;refine HAk.out.mono ?_;rintro e w1 ⟨rfl,rfl⟩;go_wp2_with fail;refine HBk.out.mono ?_;rintro e w1 ⟨rfl,rfl⟩;go_wp2_with fail;refine HAk.out.mono ?_;rintro e w1 ⟨rfl,rfl⟩;go_wp2_with fail;go_ret;exact⟨rfl,rfl⟩
   ·have he:=hide (HEk.out rfl);go_wp2_with fail;refine HAk.out.mono ?_;rintro e w1 ⟨rfl,rfl⟩;go_wp2_with fail;refine HBk.out.mono ?_;rintro e w1 ⟨rfl,rfl⟩;go_wp2_with fail;go_roundw;case rel=>exact⟨_,by omega,by omega,rfl,he.out,by first|rfl|trivial⟩
    case measure=>simp[iOf]
  ·have he:=H0.out fun i=>HE.out i (by omega);subst he;go_wp2_with fail;go_ret;exact⟨rfl,rfl⟩
end
section
theorem valB_split:∀ (l:List Bool) (k:Nat),valB l=valB (l.take k)+2 ^ k * valB (l.drop k)
 | [],k=>by simp[valB]
 |b :: r,0=>by show _=0+2 ^ 0 * _;rw[Nat.pow_zero,Nat.one_mul,Nat.zero_add];rfl
 |b :: r,k+1=>by
  show b.toNat+2 * valB r=(b.toNat+2 * valB (r.take k))+2 ^ (k+1) * valB (r.drop k);rw[valB_split r k,Nat.pow_succ,Nat.mul_comm (2 ^ k) 2,Nat.mul_assoc];omega
theorem take_smallB {l:List Bool}{k:Nat}(h:valB l < 2 ^ k):valB (l.take k)=valB l:=by
 have h1:=valB_split l k;rcases Nat.eq_zero_or_pos (valB (l.drop k)) with h0|h0
 ·rw[h0]at h1;omega
 ·have:=Nat.le_mul_of_pos_right (2 ^ k) h0;omega
def SubI (a b out:List Bool) (k:Nat) (c:Bool):Prop:=out.length=k∧valB out+valB (b.take k)=valB (a.take k)+2 ^ k * c.toNat
theorem SubI.nil (a b:List Bool):SubI a b [] 0 false:=⟨rfl,by simp[valB]⟩
theorem SubI.step {a b out:List Bool}{k:Nat}{c:Bool}(h:SubI a b out k c):SubI a b (out ++ [(a.getD k false != b.getD k false) != c]) (k+1) ((!a.getD k false && b.getD k false) || ((!a.getD k false && c) || (b.getD k false && c))):=by
 obtain⟨h1,h2⟩:=h;refine⟨by rw[List.length_append,h1];rfl,?_⟩;rw[valB_snoc,h1,valB_take_succ,valB_take_succ,Nat.pow_succ,Nat.mul_comm (2 ^ k) 2];exact sub_stepB h2
theorem SubI.fin {a b out:List Bool}{c:Bool}(h:SubI a b out a.length c) (hb:valB b≤valB a):valB (trimB out)=valB a - valB b:=by
 obtain⟨h1,h2⟩:=h;rw[List.take_length]at h2;have hlt:=valB_lt out;rw[h1]at hlt;rw[valB_trimB];rw[take_smallB (Nat.lt_of_le_of_lt hb (valB_lt a))]at h2;exact sub_endB h2 hlt hb
set_option maxHeartbeats 4000000
set_option maxRecDepth 100000
theorem subB_any {A B:Option Addr}{c d:Nat}{a b:List Bool}{w:World}(ha:Bools w A a) (hb:Bools w B b) (hm:a.length≤100000) (hm2:b.length≤100000) (hle:valB b≤valB a) :
  Calls pG 119 #[vS A a.length c,vS B b.length d] w fun e w'=>∃ v l,e=.returned v∧OwnB w.heap.size w' v l∧valB l=valB a - valB b∧NormB l∧l.length≤a.length∧Below w.heap.size w w':=by
 have HA:=hide ha;have HB:=hide hb;have HF:=hide (fun out c (h:SubI a b out a.length c)=>h.fin hle);clear ha hb hle;go_enter Tryz.func119,Tryz.ntmps119;go_wp2_with fail;go_loopw [5,6,7] (fun o q i wr=>∃ k:Nat,k≤a.length∧i=vI kI k∧∃ (bo:Bool) (v:Value) (out:List Bool),q=vB bo∧o=v∧Hid (OwnB w.heap.size wr v out)∧Hid (SubI a b out k bo)∧Hid (Below w.heap.size w wr)) (fun _ _ i _=>a.length - (iOf i).toNat);case atStart=>exact⟨0,zL _,rfl,false,_,[],rfl,rfl,OwnE.nil _ _ _ _,SubI.nil a b,bR _ _⟩
 case round=>
  obtain⟨k,hk,rfl,bo,v,out,rfl,rfl,HO,HI,HW⟩:=hrel;by_cases hlt:k < a.length
  ·have hsw:=HW.out.size;have hlen:=HI.out.1;have HAk:=hide (at_any (c:=c) (ListIn.below HA.out HW.out) (by omega) k);have HBk:=hide (at_any (c:=d) (ListIn.below HB.out HW.out) (by omega) k);have HI4:=hide (HI.out.step);obtain⟨A4,c4,w4,hr4,hO4,hb4⟩:=push_bit HO.out hsw (by omega) 94 ((a.getD k false != b.getD k false) != bo);rw[hlen]at hr4 hO4;have HR4:=hide hr4;have HO4:=hide hO4;have HW4:=hide (HW.out.trans hb4);clear hr4 hO4 hb4 hlen;generalize a.getD k false=x at *;generalize b.getD k false=y at *;obtain⟨z,hz⟩:∃ z,((x != y) != bo)=z:=⟨_,rfl⟩;obtain⟨z2,hz2⟩:∃ z,((!x && y) || ((!x && bo) || (y && bo)))=z:=⟨_,rfl⟩;rw[hz]at HR4 HO4 HI4;rw[hz2]at HI4;clear HI HO HW;cases x <;> cases y <;> cases bo <;> (
    simp at hz hz2;subst hz;subst hz2;go_wp2_with fail;refine HAk.out.mono ?_;rintro e w1 ⟨rfl,rfl⟩;go_wp2_with fail;refine HBk.out.mono ?_;rintro e w1 ⟨rfl,rfl⟩;go_wp2_with ((with_reducible refine gV 29 (Value.slice A4 (k+1) c4) w4 ?_ ?_ ?_);rfl;exact gives_append rfl rfl rfl HR4.out);go_roundw;case rel=>exact⟨k+1,by omega,by go_num,_,_,_,rfl,rfl,HO4.out,HI4.out,HW4.out⟩
    case measure=>simp[iOf];omega)
  ·obtain rfl:k=a.length:=by omega
   obtain⟨A2,c2,rfl,hcc,_,_⟩:=HO.out.form;have hlen:=HI.out.1;have HT:=hide (trim_any (c:=c2) (OwnE.list HO.out) (by omega) hcc);have HFv:=hide (HF.out _ _ HI.out);have hsw:=HW.out.size;have hll:Hid ((trimB out).length≤a.length):=lT (trimB_length out) (Nat.le_of_eq hlen);clear hcc hlen;go_wp2_with fail;refine HT.out.mono ?_;rintro e w1 ⟨v1,rfl,hO1,hb1⟩;have HO1:=hide hO1;have HB1:=hide hb1;clear hO1 hb1;go_wp2_with fail;go_ret;exact⟨_,_,rfl,HO1.out.lower hsw,HFv.out,trimB_norm _,hll.out,below_then HW.out HB1.out⟩
end
section
structure DivP (a b:List Bool) (k:Nat) (q r:List Bool):Prop where
 len:q.length=a.length
 zero:∀ j,j < k→q.getD j false=false
 val:valB (a.drop k)=valB (q.drop k) * valB b+valB r
 lt:valB r < valB b
 norm:NormB r
 room:r.length+k≤a.length
theorem DivP.start {a b:List Bool}(hb:0 < valB b):DivP a b a.length (List.replicate a.length false) [] where
 len:=by simp
 zero:=fun j hj=>by simp[List.getD_eq_getElem?_getD,hj]
 val:=by rw[List.drop_of_length_le (by simp),List.drop_of_length_le (by simp)];simp[valB]
 lt:=hb
 norm:=rfl
 room:=by simp
theorem div_arith {y Q B R:Nat}:y+2 * (Q * B+R)=(2 * Q) * B+(y+2 * R):=by
 rw[Nat.mul_add,Nat.mul_assoc];omega
theorem DivP.no {a b q r:List Bool}{k:Nat}(h:DivP a b (k+1) q r) (hk:k < a.length) (hlt:valB (a.getD k false :: r) < valB b):DivP a b k q (trimB (a.getD k false :: r)) where
 len:=h.len
 zero:=fun j hj=>h.zero j (by omega)
 val:=by
  rw[valB_drop a hk,valB_drop q (by rw[h.len];exact hk),h.zero k (by omega),h.val,valB_trimB]
  show _=(0+2 * _) * _+((a.getD k false).toNat+2 * valB r)
  rw[Nat.zero_add]
  exact div_arith
 lt:=by rw[valB_trimB];exact hlt
 norm:=trimB_norm _
 room:=by have:=trimB_length (a.getD k false :: r);have:=h.room;simp only[List.length_cons]at *;omega
theorem DivP.yes {a b q r r2:List Bool}{k:Nat}(h:DivP a b (k+1) q r) (hk:k < a.length) (hle:valB b≤valB (a.getD k false :: r)) (hv:valB r2=valB (trimB (a.getD k false :: r)) - valB b) (hn:NormB r2) (hl:r2.length≤(trimB (a.getD k false :: r)).length):DivP a b k (q.set k true) r2 where
 len:=by rw[List.length_set];exact h.len
 zero:=fun j hj=>by
  have:=h.zero j (by omega)
  rw[List.getD_eq_getElem?_getD,List.getElem?_set_ne (by omega),← List.getD_eq_getElem?_getD]
  exact this
 val:=by
  have hkq:k < q.length:=by rw[h.len];exact hk
  rw[valB_drop a hk,valB_drop (q.set k true) (by rw[List.length_set];exact hkq),h.val,hv,valB_trimB]
  have e1:(q.set k true).getD k false=true:=by simp[List.getD_eq_getElem?_getD,hkq]
  have e2:(q.set k true).drop (k+1)=q.drop (k+1):=List.drop_set_of_lt (by omega)
  rw[e1,e2]
  have hle':valB b≤(a.getD k false).toNat+2 * valB r:=hle
  show _=(1+2 * _) * _+((a.getD k false).toNat+2 * valB r - valB b)
  rw[Nat.add_mul,Nat.one_mul,div_arith]
  omega
 lt:=by
  have h1:=h.lt
  have h2:valB (a.getD k false :: r)=(a.getD k false).toNat+2 * valB r:=rfl
  have h3:(a.getD k false).toNat≤1:=Bool.toNat_le _
  rw[hv,valB_trimB,h2]
  omega
 norm:=hn
 room:=by have:=trimB_length (a.getD k false :: r);have:=h.room;simp only[List.length_cons]at *;omega
theorem DivP.fin {a b q r:List Bool}(h:DivP a b 0 q r):valB (trimB q)=valB a / valB b∧valB r=valB a % valB b:=by
 have h1:=h.val;rw[List.drop_zero,List.drop_zero]at h1;rw[valB_trimB];have h2:=h.lt;rw[Nat.mul_comm]at h1;constructor
 ·rw[h1,Nat.mul_add_div (by omega),Nat.div_eq_of_lt h2,Nat.add_zero]
 ·rw[h1,Nat.mul_add_mod,Nat.mod_eq_of_lt h2]
theorem cmpB_ge {x y:Nat}(h:y≤x):0≤cmpB x y:=by
 unfold cmpB;rw[if_neg (by omega)];split <;> omega
theorem cmpB_neg {x y:Nat}(h:x < y):¬ 0≤cmpB x y:=by
 unfold cmpB;rw[if_pos h];omega
theorem OwnE.single {α:Type} [Inhabited α] (enc:α→Value) (ty:TypeId) (w:World) (y:α):OwnE enc ty w.heap.size (w.alloc (.cells #[enc y] ty)) (vS (some ⟨w.heap.size,0,none⟩) 1 1) [y]:=
 ⟨rfl,.inr ⟨w.heap.size,1,#[enc y],rfl,lR _,heap_alloc_new _ _,lR _,by decide,rfl,rfl⟩⟩
theorem box_made (w:World) (n:Nat):Box (w.alloc (.cells (madeCells #[vB false] n) 4)) w.heap.size 4 ((List.replicate n false).map Value.bool).toArray:=by
 have e:madeCells #[Value.bool false] n=((List.replicate n false).map Value.bool).toArray:=by apply Array.ext';rw[toList_madeCells_one];simp
 rw[← e];exact Box.new _ _ _
theorem Box.list {α:Type} [Inhabited α] {enc:α→Value}{w:World}{g:Nat}{t:TypeId}{l:List α}(h:Box w g t (l.map enc).toArray):ListIn enc (fun i=>i=g) w (some ⟨g,0,none⟩) l:=fun hp=>
 ⟨g,0,rfl,rfl,fun k hk=>by
  rw[h.cell];simp[List.getD_eq_getElem?_getD,hk]⟩
theorem div_front {B:Nat}{w:World}{v:Value}{r:List Bool}(h:OwnB B w v r) (hr:r.length≤100000) (y:Bool) (ot:TypeId) :
  ∃ A2 c2 A4 n4 d4 w4,v=vS A2 r.length c2∧(Builtin.append_ #[94,94] ot #[vS (some ⟨w.heap.size,0,none⟩) 1 1,vS A2 r.length c2]).run pG (w.alloc (.cells #[vB y] 4))=.ok (vS A4 n4 d4) w4∧Below w.heap.size w w4∧w.heap.size≤w4.heap.size∧
   Calls pG 107 #[vS A4 n4 d4] w4 fun e w'=>∃ v,e=.returned v∧OwnB w4.heap.size w' v (trimB (y :: r))∧Below w4.heap.size w4 w':=by
 have hb1:Below w.heap.size w (w.alloc (.cells #[vB y] 4)):=(bR _ _).alloc (lR _) _;obtain⟨A2,c2,rfl,_,_,_⟩:=h.form;obtain⟨A4,d4,w4,h1,h2,h3⟩:=push_bits (OwnE.single Value.bool 4 w y) (by have:=hb1.size;omega) (by simp only[List.length_singleton];omega) ot (ListIn.below h.list hb1) c2;have hb4:=hb1.trans h3;have e:[y].length+r.length=(y :: r).length:=by simp only[List.length_cons,List.length_nil];omega
 rw[e]at h1 h2;have h2':OwnB w.heap.size w4 (vS A4 (y :: r).length d4) (y :: r):=h2;obtain⟨_,_,e2,hcc,_,_⟩:=h2'.form;injection e2 with e3 e4 e5;subst e5;have ht:=trim_any (l:=y :: r) h2'.list (by simp only[List.length_cons];omega) hcc;generalize (y :: r).length=n at *;exact⟨A2,c2,A4,n,d4,w4,rfl,h1,hb4,hb4.size,ht⟩
theorem set_bool {q:List Bool}{k:Nat}:((q.set k true).map Value.bool).toArray=((q.map Value.bool).toArray).setIfInBounds k (vB true):=by
 apply Array.ext';simp[List.map_set]
set_option maxHeartbeats 8000000
set_option maxRecDepth 100000
theorem divB_any {A B:Option Addr}{c d:Nat}{a b:List Bool}{w:World}(ha:Bools w A a) (hb:Bools w B b) (hm:a.length≤100000) (hm2:b.length≤100000) (hpos:0 < valB b) :
  Calls pG 98 #[vS A a.length c,vS B b.length d] w fun e w'=>∃ vq vr q r,e=.returned (.tuple #[vq,vr])∧OwnB w.heap.size w' vq q∧OwnB w.heap.size w' vr r∧valB q=valB a / valB b∧valB r=valB a % valB b∧NormB q∧NormB r∧q.length≤a.length∧r.length≤a.length∧Below w.heap.size w w':=by
 have hmk:(Instr.makeSlice 94 (vI kI a.length) (vI kI a.length)).run pG w=.ok (vS (some ⟨w.heap.size,0,none⟩) a.length a.length) (w.alloc (.cells (madeCells #[vB false] a.length) 4)):=
  run_make_row' 94 4 (.bool false) 1 Tryz.underlying94 boolinfo rfl .i64 .i64 a.length (by omega) (by omega) w
 have hB0:Below w.heap.size w (w.alloc (.cells (madeCells #[vB false] a.length) 4)):=(bR _ _).alloc (lR _) _;have hbox0:=box_made w a.length;have hg0:(w.alloc (.cells (madeCells #[vB false] a.length) 4)).heap.size=w.heap.size+1:=by simp
 obtain⟨w0,hw0⟩:∃ q,w.alloc (.cells (madeCells #[vB false] a.length) 4)=q:=⟨_,rfl⟩;rw[hw0]at hmk hB0 hbox0 hg0;have HA:=hide ha;have HB:=hide hb;have HMk:=hide hmk;have HB0:=hide hB0;have HX0:=hide hbox0;have HG0:=hide hg0;have HS:=hide (DivP.start (a:=a) hpos);clear ha hb hmk hB0 hbox0 hg0 hw0;go_enter Tryz.func98,Tryz.ntmps98;go_wp2_with ((with_reducible refine gV 11 (Value.slice (some ⟨w.heap.size,0,none⟩) a.length a.length) w0 ?_ ?_ ?_);rfl;exact gives_make rfl rfl rfl HMk.out);go_loopw [7,8] (fun o i wr=>∃ k:Nat,k≤a.length∧i=vI kI ((k:Int) - 1)∧∃ (v:Value) (q r:List Bool),o=v∧Hid (OwnB (w.heap.size+1) wr v r)∧Hid (Box wr w.heap.size 4 (q.map Value.bool).toArray)∧Hid (DivP a b k q r)∧Hid (Below w.heap.size w wr)) (fun _ i _=>(iOf i+1).toNat);case atStart=>exact⟨a.length,lR _,by first|rfl|go_num,_,_,[],rfl,OwnE.nil _ _ _ _,HX0.out,HS.out,HB0.out⟩
 case round=>
  obtain⟨k,hk,rfl,v,q,r,rfl,HO,HX,HI,HW⟩:=hrel;rcases Nat.eq_zero_or_pos k with h0|h0
  ·subst h0;have e0:((0:Nat):Int) - 1=-1:=by omega
   rw[e0];have hql:=HI.out.len;have hX:=HX.out;have HT:=hide (trim_any (c:=a.length) (show Bools _ (some ⟨w.heap.size,0,none⟩) q from hX.list.mono fun i e=>by rw[e];exact hX.lt) (by omega) (by omega));rw[hql]at HT;have HF:=hide HI.out.fin;have HN:=hide HI.out.norm;have HL:=hide HI.out.room;have HQ:=hide (trimB_length q);rw[hql]at HQ;have hsw:=HW.out.size;clear hX hql HX;go_wp2_with fail;refine HT.out.mono ?_;rintro e w1 ⟨v1,rfl,hO1,hb1⟩;have HO1:=hide hO1;have HB1:=hide hb1;clear hO1 hb1;go_wp2_with fail;go_ret2;exact⟨_,_,_,_,rfl,HO1.out.lower hsw,(HO.out.kept HB1.out).lower (by omega),HF.out.1,HF.out.2,trimB_norm _,HN.out,HQ.out,HL.out,below_then HW.out HB1.out⟩
  ·obtain⟨k,rfl⟩:∃ j,k=j+1:=⟨k - 1,by omega⟩;have e0:((k+1:Nat):Int) - 1=(k:Int):=by omega
   rw[e0];have hka:k < a.length:=by omega
   obtain⟨b0,off,hA0,hbk,hcell⟩:=HA.out.at_ hka;have hcell:=(HW.out.cell (p:=⟨b0,off+k,none⟩) hbk).trans hcell;subst hA0;have HNo:=hide (fun h=>HI.out.no hka h);have HYes:=hide (fun r2 h1 h2 h3 h4=>HI.out.yes (r2:=r2) hka h1 h2 h3 h4);have hroom:=HI.out.room;have hqk:k < q.length:=by rw[HI.out.len];exact hka
   have hyd:a.getD k default=a.getD k false:=rfl;rw[hyd]at hcell;generalize a.getD k false=y at *;have hsw:=HW.out.size;obtain⟨A2,c2,A4,n4,d4,w4,rfl,hr4,hb4,hs4,hT⟩:=div_front HO.out (by omega) y 94;have HR4:=hide hr4;have HT:=hide hT;have HW4:=hide (HW.out.trans (hb4.mono hsw));have HX4:=hide (HX.out.kept hb4);have hs4':=hide hs4;have HGL:=hide (HX.out.lt);clear hr4 hT hb4 hs4 HO HX HI;go_wp2_with ((with_reducible refine gV 25 (Value.slice A4 n4 d4) w4 ?_ ?_ ?_);rfl;exact gives_append rfl rfl rfl HR4.out);refine HT.out.mono ?_;rintro e w5 ⟨v5,rfl,hO5,hb5⟩;obtain⟨A5,c5,rfl,_,_,_⟩:=hO5.form;have htl:=trimB_length (y :: r);have HV:Hid (valB (trimB (y :: r))=valB (y :: r)):=valB_trimB _;generalize trimB (y :: r)=t at *;simp only[List.length_cons]at htl;have HW5:=hide (below_then HW4.out hb5);have HX5:=hide (HX4.out.kept hb5);have HCm:=hide (cmp_any (c:=c5) (d:=d) (OwnE.list hO5) (ListIn.below HB.out HW5.out) (by omega) (by omega));have HO5:=hide hO5;have hs5:=hide (lT hs4'.out hb5.size);clear hO5 hb5;by_cases hle:valB b≤valB t
   ·have hz:=cmpB_ge hle;have HSb:=hide (subB_any (c:=c5) (d:=d) (OwnE.list HO5.out) (ListIn.below HB.out HW5.out) (by omega) (by omega) hle);have hle':=HV.out ▸ hle;have HY2:=hide (fun r2 h2 h3 h4=>HYes.out r2 hle' h2 h3 h4);generalize cmpB (valB t) (valB b)=z at *;clear hle hle';go_wp2_with fail;refine HCm.out.mono ?_;rintro e w1 ⟨rfl,rfl⟩;go_wp2_with fail;refine HSb.out.mono ?_;rintro e w6 ⟨v6,r2,rfl,hO6,hv6,hn6,hl6,hb6⟩;have HX6:=hide (HX5.out.kept hb6);have HW6:=hide (below_then HW5.out hb6);have HD:=hide (HY2.out r2 hv6 hn6 hl6);have HO6:=hide hO6;have hfz:=HX6.out.frozen k;have hc6:=HX6.out.cell k;rw[List.getElem?_toArray,List.getElem?_map,List.getElem?_eq_getElem hqk]at hc6;have hlo:=HO6.out.lo;have hsw6:=hide HW6.out.size;clear hO6 hv6 hn6 hl6 hb6;go_wp2_with fail;go_roundw;case rel=>
     refine⟨k,by omega,by first|rfl|go_num,_,_,r2,rfl,?_,?_,HD.out,?_⟩
     ·refine ownsRow_of (HO6.out.lower (show w.heap.size+1≤_ by have:=HGL.out;have:=hs5.out;have:=hs4'.out;omega)) fun g hg hl=>Below.heap_setCell _ _ _ g (fun e=>?_);have:=hlo g hg;have:=HGL.out;have:=hs5.out;simp only at e;omega
     ·rw[set_bool];exact HX6.out.set k _
     ·exact HW6.out.setCell (lR _) _
    case measure=>simp[iOf]
   ·have hz:=cmpB_neg (show valB t < valB b by omega);have HD:=hide (HNo.out (by have:=HV.out;omega));generalize cmpB (valB t) (valB b)=z at *;clear hle;go_wp2_with fail;refine HCm.out.mono ?_;rintro e w1 ⟨rfl,rfl⟩;go_wp2_with fail;go_roundw;case rel=>exact⟨k,by omega,by first|rfl|go_num,_,q,_,rfl,HO5.out.lower (by have:=HGL.out;have:=hs4'.out;omega),HX5.out,HD.out,HW5.out⟩
    case measure=>simp[iOf]
end
section
def GcdA (w:World) (v:Value) (l:List Bool):Prop:=∃ A c,v=vS A l.length c∧l.length≤c∧Bools w A l∧l.length≤100000
theorem GcdA.below {w w':World}{v:Value}{l:List Bool}(h:GcdA w v l) (hb:Below w.heap.size w w'):GcdA w' v l:=by
 obtain⟨A,c,e,hc,hl,hn⟩:=h;exact⟨A,c,e,hc,ListIn.below hl hb,hn⟩
theorem GcdA.own {B:Nat}{w:World}{v:Value}{l:List Bool}(h:OwnB B w v l) (hn:l.length≤100000):GcdA w v l:=by
 obtain⟨A,c,rfl,hc,_,_⟩:=h.form;exact⟨A,c,rfl,hc,h.list,hn⟩
theorem GcdA.unique {w:World}{v:Value}{l m:List Bool}(h:GcdA w v l) (k:GcdA w v m):l=m:=by
 obtain⟨A,c,rfl,_,hl,_⟩:=h;obtain⟨A',c',e,_,hm,_⟩:=k;injection e with e1 e2 e3;subst e1;refine List.ext_getElem e2 fun i h1 h2=>?_;obtain⟨b,off,rfl,_,c1⟩:=hl.at_ h1;obtain⟨b',off',e,_,c2⟩:=hm.at_ h2;cases e;rw[c1]at c2;have c3:l.getD i default=m.getD i default:=by injection c2 with c2;injection c2
 rw[List.getD_eq_getElem?_getD,List.getD_eq_getElem?_getD,List.getElem?_eq_getElem h1,List.getElem?_eq_getElem h2]at c3;exact c3
noncomputable def readB (w:World) (v:Value):Nat:=by
 classical
 exact if h:∃ y,GcdA w v y then valB h.choose else 0
theorem readB_eq {w:World}{v:Value}{l:List Bool}(h:GcdA w v l):readB w v=valB l:=by
 have hx:∃ y,GcdA w v y:=⟨l,h⟩;unfold readB;rw[dif_pos hx,hx.choose_spec.unique h]
set_option maxHeartbeats 4000000
set_option maxRecDepth 100000
theorem gcd_any {A B:Option Addr}{c d:Nat}{a b:List Bool}{w:World}(ha:Bools w A a) (hb:Bools w B b) (hm:a.length≤100000) (hm2:b.length≤100000) (hc:a.length≤c) (hd:b.length≤d) (hpos:0 < valB a) (hnb:NormB b) :
  Calls pG 106 #[vS A a.length c,vS B b.length d] w fun e w'=>∃ v g,e=.returned v∧OwnB w.heap.size w' v g∧0 < valB g∧NormB g∧g.length≤100000∧Below w.heap.size w w':=by
 have HA:Hid (GcdA w (vS A a.length c) a):=⟨A,c,rfl,hc,ha,hm⟩;have HB:Hid (GcdA w (vS B b.length d) b):=⟨B,d,rfl,hd,hb,hm2⟩;have HP:=hide hpos;have HN:=hide hnb;clear ha hb hc hd hpos hnb;generalize hva:Value.slice A a.length c=va at *;generalize hvb:Value.slice B b.length d=vb at *;go_enter Tryz.func106,Tryz.ntmps106;go_wp2_with fail;go_loopw [0,1,5,6] (fun o q _ _ wr=>∃ (va vb:Value) (x y:List Bool),o=va∧q=vb∧Hid (GcdA wr va x)∧Hid (GcdA wr vb y)∧Hid (0 < valB x)∧Hid (NormB y)∧Hid (Below w.heap.size w wr)) (fun _ q _ _ wr=>readB wr q);case atStart=>exact⟨_,_,a,b,rfl,rfl,HA,HB,HP,HN,bR _ _⟩
 case round=>
  obtain⟨va,vb,x,y,rfl,rfl,HX,HY,HP,HN,HW⟩:=hrel;have HM:=hide (readB_eq HY.out);obtain⟨A1,c1,rfl,hc1,hx1,hm1⟩:=HX.out;obtain⟨A2,c2,rfl,hc2,hy2,hm2⟩:=HY.out;rcases Nat.eq_zero_or_pos y.length with h0|h0
  ·have hy0:y=[]:=List.length_eq_zero_iff.1 h0;subst hy0;have HT:=hide (trim_any hx1 (by omega) hc1);have HV:Hid (0 < valB (trimB x)):=by rw[Hid,valB_trimB];exact HP.out
   have HL:Hid ((trimB x).length≤100000):=lT (trimB_length x) hm1;have hsw:=HW.out.size;clear hx1 hy2 hc1 hc2 HX HY HP HN;go_wp2_with fail;refine HT.out.mono ?_;rintro e w1 ⟨v1,rfl,hO1,hb1⟩;have HO1:=hide hO1;have HB1:=hide hb1;clear hO1 hb1;go_wp2_with fail;go_ret;exact⟨_,_,rfl,HO1.out.lower hsw,HV.out,trimB_norm _,HL.out,below_then HW.out HB1.out⟩
  ·have hp:=norm_pos HN.out h0;have HD:=hide (divB_any (c:=c1) (d:=c2) hx1 hy2 hm1 hm2 hp);have HP2:=hide hp;clear hx1 hy2 hc1 hc2 HX HP HN hp;go_wp2_with fail;refine HD.out.mono ?_;rintro e w1 ⟨vq,vr,q,r,rfl,_,hr,_,hv,_,hn,_,hl,hb1⟩;have HR:=hide (GcdA.own hr (by omega));have HYb:=hide (HY.out.below hb1);have HNr:=hide hn;have HMr:=hide (readB_eq HR.out);have HLt:Hid (valB r < valB y):=by rw[Hid,hv];exact Nat.mod_lt _ HP2.out
   have HW1:=hide (below_then HW.out hb1);clear hr hv hn hl hb1;go_wp2_with fail;go_roundw;case rel=>exact⟨_,_,y,r,rfl,rfl,HYb.out,HR.out,HP2.out,HNr.out,HW1.out⟩
   case measure=>rw[HM.out,HMr.out];exact HLt.out
end
section
theorem small_step {n0 n p V:Nat}(h:n0=V+p * n):n0=V+p * (decide (n % 2=1)).toNat+(p * 2) * (n / 2):=by
 have h2:n=2 * (n / 2)+n % 2:=by omega
 have h3:(decide (n % 2=1)).toNat=n % 2:=by
  by_cases h:n % 2=1
  ·rw[decide_eq_true h,h];rfl
  ·rw[decide_eq_false h];show 0=n % 2;omega
 rw[h3,h,Nat.mul_assoc,Nat.add_assoc,← Nat.mul_add];congr 2;omega
set_option maxHeartbeats 2000000
set_option maxRecDepth 100000
theorem small_any {n:Nat}{w:World}(hn:n < 2 ^ 63) :
  Calls pG 76 #[vI kI n] w fun e w'=>∃ v l,e=.returned v∧OwnB w.heap.size w' v l∧valB l=n∧NormB l∧l.length≤64∧Below w.heap.size w w':=by
 go_enter Tryz.func76,Tryz.ntmps76;go_wp2_with fail;go_loopw [0,3] (fun i o wr=>∃ m:Nat,i=vI kI m∧m < 2 ^ 63∧∃ (v:Value) (l:List Bool),o=v∧Hid (OwnB w.heap.size wr v l)∧Hid (n=valB l+2 ^ l.length * m)∧Hid (m * 2 ^ l.length < 2 ^ 63∧(0 < m∨NormB l)∧l.length≤64)∧Hid (Below w.heap.size w wr)) (fun i _ _=>(iOf i).toNat);case atStart=>exact⟨n,rfl,hn,_,[],rfl,OwnE.nil _ _ _ _,(by show n=0+1 * n;omega),⟨by simpa using hn,.inr rfl,by simp⟩,bR _ _⟩
 case round=>
  obtain⟨m,rfl,hm,v,l,rfl,HO,HV,HN,HB⟩:=hrel;by_cases h0:0 < m
  ·have hsw:=HB.out.size;have hl:=HN.out.2.2;obtain⟨A4,c4,w4,hr4,hO4,hb4⟩:=push_bit HO.out hsw (by omega) 94 (decide (m % 2=1));have e1:((m:Int) % 2==1)=decide (m % 2=1):=by
    by_cases h:m % 2=1
    ·rw[decide_eq_true h];exact beq_iff_eq.2 (by omega)
    ·rw[decide_eq_false h];exact bN (by omega)
   have e2:(m:Int) / 2=((m / 2:Nat):Int):=by omega
   have HV4:Hid (n=valB (l ++ [decide (m % 2=1)])+2 ^ (l ++ [decide (m % 2=1)]).length * (m / 2)):=by rw[Hid,valB_snoc,List.length_append,List.length_singleton,Nat.pow_succ];exact small_step HV.out
   have HN4:Hid ((m / 2) * 2 ^ (l ++ [decide (m % 2=1)]).length < 2 ^ 63∧(0 < m / 2∨NormB (l ++ [decide (m % 2=1)]))∧(l ++ [decide (m % 2=1)]).length≤64):=by
    obtain⟨k1,_,_⟩:=HN.out;rw[Hid,List.length_append,List.length_singleton];refine⟨?_,?_,?_⟩
    ·rw[Nat.pow_succ];have h3:m / 2 * (2 ^ l.length * 2)=(m / 2 * 2) * 2 ^ l.length:=by rw[Nat.mul_comm (2 ^ l.length) 2,Nat.mul_assoc]
     rw[h3];exact Nat.lt_of_le_of_lt (Nat.mul_le_mul_right _ (by omega)) k1
    ·rcases Nat.eq_zero_or_pos (m / 2) with h|h
     ·refine .inr ?_;rw[decide_eq_true (show m % 2=1 by omega)];exact norm_snoc_true l
     ·exact .inl h
    ·have h4:2 ^ l.length < 2 ^ 63:=Nat.lt_of_le_of_lt (Nat.le_mul_of_pos_left _ h0) k1;have:=(Nat.pow_lt_pow_iff_right (by decide:1 < 2)).1 h4;omega
   have HO4:=hide hO4;have HB4:=hide (HB.out.trans hb4);have HR4:=hide hr4;have HE1:=hide e1;have HE2:=hide e2;have hz:(0:Int) < (m:Int):=by omega
   have hm2:m / 2 < 2 ^ 63:=by omega
   have hms:Hid ((m / 2) < m):=by rw[Hid];omega
   generalize hq:m / 2=q at *;generalize l ++ [decide (m % 2=1)]=l4 at *;generalize decide (m % 2=1)=x at *;clear hr4 hO4 hb4 e1 e2 HO HV HN hq;have E1:=HE1.out;have E2:=HE2.out;go_wp2_with ((with_reducible refine gV 13 (Value.slice A4 (l.length+1) c4) w4 ?_ ?_ ?_);rfl;exact gives_append rfl rfl rfl HR4.out);go_roundw;case rel=>exact⟨q,rfl,hm2,_,l4,rfl,HO4.out,HV4.out,HN4.out,HB4.out⟩
   case measure=>have:=hms.out;simp[iOf];omega
  ·obtain rfl:m=0:=by omega
   have hv:valB l=n:=by have:=HV.out;omega
   obtain⟨_,hnn,hl⟩:=HN.out;have HNn:=hide (hnn.resolve_left (by omega));have HVv:=hide hv;have hl':=hide hl;clear hv hnn hl HV HN;go_wp2_with fail;go_ret;exact⟨_,l,rfl,HO.out,HVv.out,HNn.out,hl'.out,HB.out⟩
end
section
structure EV where
 title:ByteArray
 dots:Int
 blank:Int
 marked:Int
 pa:Option Addr
 pc:Nat
 ca:Option Addr
 cc:Nat
 sa:Option Addr
 sn:Nat
 sc:Nat
 scanners:Int
 batch:Int
 neg:Bool
 na:Option Addr
 nn:Nat
 nc:Nat
 da:Option Addr
 dn:Nat
 dc:Nat
 cell:Int
 seed:ByteArray
def EV.cells (e:EV) (p c:Nat):Array Value:=#[vT e.title,vI kI e.dots,vI kI e.blank,vI kI e.marked,vS e.pa p e.pc,vS e.ca c e.cc,vS e.sa e.sn e.sc,vI kI e.scanners,vI kI e.batch,vB e.neg,vS e.na e.nn e.nc,vS e.da e.dn e.dc,vI kI e.cell,vT e.seed]
def ConsIn (F:Nat→Prop) (w:World) (B:Option Addr) (C:List ByteArray):Prop:=
 0 < C.length→∃ b off,B=some ⟨b,off,none⟩∧F b∧∀ k,k < C.length→∃ (A:Option Addr) (n c:Nat) (x2 x3 x4 x5 x6 x7 x8:Int),w.cell? ⟨b,off+k * 9,none⟩=some (vT (C.getD k default))∧w.cell? ⟨b,off+k * 9+1,none⟩=some (vS A n c)∧w.cell? ⟨b,off+k * 9+2,none⟩=some (vI kI x2)∧w.cell? ⟨b,off+k * 9+3,none⟩=some (vI kI x3)∧
  w.cell? ⟨b,off+k * 9+4,none⟩=some (vI kI x4)∧w.cell? ⟨b,off+k * 9+5,none⟩=some (vI kI x5)∧w.cell? ⟨b,off+k * 9+6,none⟩=some (vI kI x6)∧w.cell? ⟨b,off+k * 9+7,none⟩=some (vI kI x7)∧w.cell? ⟨b,off+k * 9+8,none⟩=some (vI kI x8)
theorem ConsIn.agree {F:Nat→Prop}{a b:World}{B:Option Addr}{C:List ByteArray}(h:ConsIn F a B C) (hg:Agree F a b):ConsIn F b B C:=fun hp=>by
 obtain⟨g,off,e,hF,hc⟩:=h hp;refine⟨g,off,e,hF,fun k hk=>?_⟩;obtain⟨A,n,c,x2,x3,x4,x5,x6,x7,x8,h0,h1,h2,h3,h4,h5,h6,h7,h8⟩:=hc k hk;exact⟨A,n,c,x2,x3,x4,x5,x6,x7,x8,(cB (hg g hF)).trans h0,(cB (hg g hF)).trans h1,(cB (hg g hF)).trans h2,(cB (hg g hF)).trans h3,(cB (hg g hF)).trans h4,(cB (hg g hF)).trans h5,(cB (hg g hF)).trans h6,(cB (hg g hF)).trans h7,(cB (hg g hF)).trans h8⟩
abbrev Cons (w:World) (B:Option Addr) (C:List ByteArray):Prop:=ConsIn (All w) w B C
theorem Cons.below {w w':World}{B:Option Addr}{C:List ByteArray}(h:Cons w B C) (hb:Below w.heap.size w w'):Cons w' B C:=fun hp=>by
 obtain⟨g,off,e,hF,hc⟩:=ConsIn.agree h (Agree.all hb) hp;exact⟨g,off,e,lL hF hb.size,hc⟩
def Elec (w:World) (e:EV) (P C:List ByteArray):Prop:=Strs w e.pa P∧Cons w e.ca C
theorem Elec.below {w w':World}{e:EV}{P C:List ByteArray}(h:Elec w e P C) (hb:Below w.heap.size w w'):Elec w' e P C:=⟨ListIn.below h.1 hb,Cons.below h.2 hb⟩
theorem strinfo:(pG.info? 9).map (fun i=>(i.zero,i.size,i.bytes))=some (some (vT ⟨#[]⟩),1,16):=by kernel_rfl
theorem push_str {B:Nat}{w:World}{v:Value}{l:List ByteArray}(h:OwnE Value.string 9 B w v l) (hB:B≤w.heap.size) (hl:l.length≤1000000) (ot:TypeId) (y:ByteArray) :
  ∃ A c w',(Builtin.append_ #[22,22] ot #[v,vS (some ⟨w.heap.size,0,none⟩) 1 1]).run pG (w.alloc (.cells #[vT y] 9))=.ok (vS A (l.length+1) c) w'∧OwnE Value.string 9 B w' (vS A (l.length+1) c) (l ++ [y])∧Below B w w':=by
 obtain⟨i0,hi,hz0,hz1,hz2⟩:=info_parts strinfo;exact OwnE.push Tryz.underlying22 hi hz0 hz1 hz2 rfl (by decide) h hB hl (fun x=>rfl) ot y
set_option maxHeartbeats 4000000
set_option maxRecDepth 100000
theorem contests_any {e:EV}{p:Nat}{C:List ByteArray}{w:World}(h:Cons w e.ca C) (hm:C.length≤1000000) :
  Calls pG 52 #[.agg (e.cells p C.length)] w fun en w'=>∃ v,en=.returned v∧OwnE Value.string 9 w.heap.size w' v C∧Below w.heap.size w w':=by
 obtain⟨title,dots,blank,marked,pa,pc,ca,cc,sa,sn,sc,scanners,batch,neg,na,nn,nc,da,dn,dc,cell,seed⟩:=e;simp only[]at h;unfold EV.cells;simp only[];obtain⟨w1,hw1⟩:∃ x,x=w.alloc (.cells #[vT title,vI kI dots,vI kI blank,vI kI marked,vS pa p pc,vS ca C.length cc,vS sa sn sc,vI kI scanners,vI kI batch,vB neg,vS na nn nc,vS da dn dc,vI kI cell,vT seed] 30):=⟨_,rfl⟩;have hb1:Below w.heap.size w w1:=by rw[hw1];exact(bR _ _).alloc (lR _) _
 have hX:Box w1 w.heap.size 30 #[vT title,vI kI dots,vI kI blank,vI kI marked,vS pa p pc,vS ca C.length cc,vS sa sn sc,vI kI scanners,vI kI batch,vB neg,vS na nn nc,vS da dn dc,vI kI cell,vT seed]:=by rw[hw1];exact Box.new _ _ _
 have c5:=hX.cell 5;simp at c5;have H:=hide (Cons.below h hb1);have HB1:=hide hb1;have HW1:=hide hw1;clear h hb1 hX hw1;go_enter Tryz.func52,Tryz.ntmps52;go_upto_region 1 with (fail);rw[← HW1.out];go_wp2_with fail;go_loopw [3,5,9] (fun o _ i wr=>∃ k:Nat,k≤C.length∧i=vI kI k∧∃ v:Value,o=v∧Hid (OwnE Value.string 9 w1.heap.size wr v (C.take k))∧Hid (Below w1.heap.size w1 wr)) (fun _ _ i _=>C.length - (iOf i).toNat);case atStart=>exact⟨0,zL _,rfl,_,rfl,OwnE.nil _ _ _ _,bR _ _⟩
 case round=>
  obtain⟨k,hk,rfl,v,rfl,HO,HB⟩:=hrel;by_cases hlt:k < C.length
  ·obtain⟨b,off,rfl,hb,hc⟩:=H.out (by omega);obtain⟨A,n,c,x2,x3,x4,x5,x6,x7,x8,h0,h1,h2,h3,h4,h5,h6,h7,h8⟩:=hc k hlt;have h0:=(HB.out.cell (p:=⟨b,off+k * 9,none⟩) hb).trans h0;have h1:=(HB.out.cell (p:=⟨b,off+k * 9+1,none⟩) hb).trans h1;have h2:=(HB.out.cell (p:=⟨b,off+k * 9+2,none⟩) hb).trans h2;have h3:=(HB.out.cell (p:=⟨b,off+k * 9+3,none⟩) hb).trans h3;have h4:=(HB.out.cell (p:=⟨b,off+k * 9+4,none⟩) hb).trans h4;have h5:=(HB.out.cell (p:=⟨b,off+k * 9+5,none⟩) hb).trans h5;have h6:=(HB.out.cell (p:=⟨b,off+k * 9+6,none⟩) hb).trans h6;have h7:=(HB.out.cell (p:=⟨b,off+k * 9+7,none⟩) hb).trans h7;have h8:=(HB.out.cell (p:=⟨b,off+k * 9+8,none⟩) hb).trans h8;have hts:Hid (C.take (k+1)=C.take k ++ [C.getD k default]):=take_succD hlt;have hlen:(C.take k).length=k:=by rw[List.length_take];omega
   have hs1:=HB1.out.size;have hs2:=HB.out.size;clear hc;generalize C.getD k default=nm at *;obtain⟨w2,hw2⟩:∃ x,wr.alloc (.cells #[vT nm,vS A n c,vI kI x2,vI kI x3,vI kI x4,vI kI x5,vI kI x6,vI kI x7,vI kI x8] 74)=x:=⟨_,rfl⟩;have hb2:Below wr.heap.size wr w2:=by rw[← hw2];exact(bR _ _).alloc (lR _) _
   have hX2:Box w2 wr.heap.size 74 #[vT nm,vS A n c,vI kI x2,vI kI x3,vI kI x4,vI kI x5,vI kI x6,vI kI x7,vI kI x8]:=by rw[← hw2];exact Box.new _ _ _
   have d0:=hX2.cell 0;simp at d0;obtain⟨A4,c4,w4,hr4,hO4,hb4⟩:=push_str (HO.out.kept hb2) (by have:=hb2.size;omega) (by omega) 22 nm;rw[hlen]at hr4 hO4;rw[← hts.out]at hO4;have HR4:=hide hr4;have HO4:=hide hO4;have HB4:=hide ((HB.out.trans (hb2.mono hs2)).trans hb4);have HW2:=hide hw2;clear hb2 hX2 hr4 hO4 hb4 hw2;go_upto_region 5 with (fail);rw[HW2.out];go_wp2_with ((with_reducible refine gV 17 (Value.slice A4 (k+1) c4) w4 ?_ ?_ ?_);rfl;exact gives_append rfl rfl rfl HR4.out);go_roundw;case rel=>exact⟨k+1,by omega,by go_num,_,rfl,HO4.out,HB4.out⟩
   case measure=>simp[iOf];omega
  ·obtain rfl:k=C.length:=by omega
   have hO:=HO.out;rw[List.take_length]at hO;have HO:=hide hO;clear hO;go_wp2_with fail;go_ret;exact⟨_,rfl,HO.out.lower HB1.out.size,HB1.out.trans (HB.out.mono HB1.out.size)⟩
end
section
theorem numV_yes {s:ByteArray}(h:(numV s).2=true):(numV s).1=decVal s.data.toList∧s.size≤6∧s.data.toList.all isDig=true:=by
 have h':=h;rw[numV_snd]at h';refine⟨?_,?_,?_⟩
 ·unfold numV;rw[if_pos h']
 ·unfold numOk at h';simp only[Bool.and_eq_true,decide_eq_true_eq]at h';rw[Lib.size_eq];exact h'.1.1.2
 ·unfold numOk at h';simp only[Bool.and_eq_true,decide_eq_true_eq]at h';exact h'.2
theorem all_take {s:List UInt8}(h:s.all isDig=true) (k:Nat):(s.take k).all isDig=true:=by
 rw[List.all_eq_true]at h ⊢;exact fun x hx=>h x (List.mem_of_mem_take hx)
set_option maxHeartbeats 4000000
set_option maxRecDepth 100000
theorem numbers45_any {A:Option Addr}{c:Nat}{l:List ByteArray}{w:World}(h:Strs w A l) (hm:l.length≤1000000) (hs:∀ s ∈ l,s.size≤1000000) :
  Calls pG 60 #[vS A l.length c] w fun e w'=>∃ v,e=.returned (.tuple #[v,vB (numsV l).2])∧OwnE iv 3 w.heap.size w' v (numsV l).1∧Below w.heap.size w w':=by
 have H:=hide h;have HS:=hide hs;clear h hs;go_enter Tryz.func60,Tryz.ntmps60;go_wp2_with fail;go_loopw [4,6,7,8,11] (fun o _ _ _ i wr=>∃ k:Nat,k≤l.length∧i=vI kI k∧∃ v:Value,o=v∧Hid (OwnE iv 3 w.heap.size wr v ((l.take k).map fun s=>(numV s).1))∧Hid ((l.take k).all (fun s=>(numV s).2)=true)∧Hid (Below w.heap.size w wr)) (fun _ _ _ _ i _=>l.length - (iOf i).toNat);case atStart=>exact⟨0,zL _,rfl,_,rfl,OwnE.nil _ _ _ _,(by rw[Hid];rfl),bR _ _⟩
 case round=>
  obtain⟨k,hk,rfl,v,rfl,HO,HA,HB⟩:=hrel;by_cases hlt:k < l.length
  ·obtain⟨b,off,rfl,hb,h0⟩:=H.out.at_ hlt;have h0:=(HB.out.cell (p:=⟨b,off+k,none⟩) hb).trans h0;have hsw:=HB.out.size;have hlen:((l.take k).map fun s=>(numV s).1).length=k:=by rw[List.length_map,List.length_take];omega
   have HNo:=hide (fun h=>numsV_no hlt h);have HYa:Hid ((numV (l.getD k default)).2=true→(l.take (k+1)).all (fun s=>(numV s).2)=true):=fun e=>by rw[take_succD hlt,List.all_append,HA.out];simpa using e
   have HYo:Hid ((l.take (k+1)).map (fun s=>(numV s).1)=((l.take k).map fun s=>(numV s).1) ++ [(numV (l.getD k default)).1]):=by rw[Hid,take_succD hlt,List.map_append];rfl
   have hsz1:=HS.out _ (getD_memD hlt);generalize l.getD k default=s at *;have HNu:=hide (fun wq=>Number_any (s:=s) (w:=wq) (by omega));cases hq:(numV s).2 with
   |false=>have hn:=hide (HNo.out hq);rw[hq]at HNu;clear HYa HYo hq;go_wp2_with fail;refine(HNu.out _).mono ?_;rintro e w1 ⟨rfl,rfl⟩;go_wp2_with fail;go_ret2;exact⟨_,by rw[hn.out];rfl,by rw[hn.out];exact OwnE.nil _ _ _ _,HB.out⟩
   |true=>
    obtain⟨hv1,hs6,hdg⟩:=numV_yes hq;obtain⟨A4,c4,w4,hr4,hO4,hb4⟩:=push_int HO.out hsw (by omega) 33 (numV s).1;rw[hlen]at hr4 hO4;rw[hv1]at hr4;have HR4:=hide hr4;have HO4:=hide hO4;have HB4:=hide (HB.out.trans hb4);have HAy:=hide (HYa.out hq);have HDg:=hide hdg;have HSz:=hide (Lib.size_eq s);rw[hq]at HNu;clear hr4 hO4 hb4 HYa HNo hq hv1 hdg;generalize (numV s).1=nv at *;go_wp2_with fail;refine(HNu.out _).mono ?_;rintro e w1 ⟨rfl,hw1⟩;go_wp2_with fail;go_loopw [7,8] (fun n i wx=>∃ j:Nat,j≤s.size∧i=vI kI j∧n=vI kI (decVal (s.data.toList.take j))∧wx=wr) (fun _ i _=>s.size - (iOf i).toNat);case atStart=>exact⟨0,zL _,rfl,by simp[decVal],by first|rfl|exact hw1⟩
    case round=>
     obtain⟨j,hj,rfl,rfl,rfl⟩:=hrel;have hbd:=dec_bound (s:=s.data.toList) (k:=j) (by omega) (by have:=HSz.out;omega) (all_take HDg.out j);by_cases hlt2:j < s.size
     ·have hst:=dec_step hlt2;have hd:isDig (s[j]'hlt2)=true:=List.all_eq_true.1 HDg.out _ (List.mem_of_getElem? (bget hlt2));unfold isDig at hd;simp only[Bool.and_eq_true,decide_eq_true_eq]at hd;have hx:0≤((s[j]'hlt2).toNat:Int)∧((s[j]'hlt2).toNat:Int)≤255:=⟨by omega,by omega⟩;have hw1:IntKind.u8.wrap (((s[j]'hlt2).toNat:Int) - 48)=((s[j]'hlt2).toNat:Int) - 48:=IntWalk.u8_in _ (by omega);have HSt:=hide hst;clear hst;go_wp2_with fail;go_roundw;case rel=>exact⟨j+1,by omega,by go_num,by rw[HSt.out],by first|rfl|trivial⟩
      case measure=>simp[iOf];omega
     ·obtain rfl:j=s.size:=by omega
      have e1:s.data.toList.take s.size=s.data.toList:=by rw[HSz.out,List.take_length]
      rw[e1];clear hbd e1;go_wp2_with ((with_reducible refine gV 35 (Value.slice A4 (k+1) c4) w4 ?_ ?_ ?_);rfl;exact gives_append rfl rfl rfl HR4.out);go_roundw;case rel=>exact⟨k+1,by omega,by go_num,_,rfl,by rw[HYo.out];exact HO4.out,HAy.out,HB4.out⟩
      case measure=>simp[iOf];omega
  ·obtain rfl:k=l.length:=by omega
   have hA:=HA.out;have hO:=HO.out;rw[List.take_length]at hA hO;have HV:=hide (numsV_yes hA);have HO:=hide hO;clear hA hO;go_wp2_with fail;go_ret2;exact⟨_,by rw[HV.out];rfl,by rw[HV.out];exact HO.out,HB.out⟩
end
section
set_option maxHeartbeats 2000000
set_option maxRecDepth 100000
theorem plain45_any {A:Option Addr}{c:Nat}{x:ByteArray}{r:List ByteArray}{want:Int}{w:World}(h:Strs w A (x :: r)) (hc:r.length+1≤c) (hm:r.length≤1000000) (hs:∀ s ∈ r,s.size≤1000000) :
  Calls pG 62 #[vS A (r.length+1) c,vI kI want] w fun e w'=>∃ v,e=.returned (.tuple #[v,vB ((numsV r).2 && decide (((numsV r).1.length:Int)=want))])∧OwnE iv 3 w.heap.size w' v (numsV r).1∧Below w.heap.size w w':=by
 obtain⟨b,off,rfl,ht⟩:=h.tail;have fin:∀ (B:Option Addr) (d:Nat),Strs w B r→Calls pG 60 #[vS B r.length d] w fun e w'=>∃ v,e=.returned (.tuple #[v,vB (numsV r).2])∧OwnE iv 3 w.heap.size w' v (numsV r).1∧Below w.heap.size w w':=fun B d hB=>numbers45_any hB hm hs;have HF:=hide fin;have HT:=hide ht;clear h hs fin ht;generalize numsV r=q at *;obtain⟨ns,ok⟩:=q;simp only[]at HF ⊢;rcases Nat.eq_or_lt_of_le (show 1≤c by omega) with h1|h1
 ·subst h1;obtain rfl:r=[]:=List.length_eq_zero_iff.1 (by omega);have HN:=hide (HF.out (some ⟨b,off,none⟩) 0 (ListIn.nil _ _ _ _));clear HF HT hm hc;go_enter Tryz.func62,Tryz.ntmps62;go_wp2_with fail;refine HN.out.mono ?_;rintro e w1 ⟨v,rfl,hO,hb⟩;obtain⟨A2,c2,rfl,_,_,_⟩:=hO.form;have HO:=hide hO;have HB:=hide hb;clear hO hb;cases ok with
  |true=>go_wp2_with fail;go_ret2;exact⟨_,by simp[Bool.beq_eq_decide_eq],HO.out,HB.out⟩
  |false=>go_wp2_with fail;go_ret2;exact⟨_,rfl,HO.out,HB.out⟩
 ·have HN:=hide (HF.out (some ⟨b,off+1,none⟩) (c - 1) HT.out);clear HF HT;have hci:(1:Int)≤(c:Int):=by omega
  have hrl:(1:Int)≤((r.length+1:Nat):Int):=by omega
  go_enter Tryz.func62,Tryz.ntmps62;go_wp2_with fail;refine HN.out.mono ?_;rintro e w1 ⟨v,rfl,hO,hb⟩;obtain⟨A2,c2,rfl,_,_,_⟩:=hO.form;have HO:=hide hO;have HB:=hide hb;clear hO hb;cases ok with
  |true=>go_wp2_with fail;go_ret2;exact⟨_,by simp[Bool.beq_eq_decide_eq],HO.out,HB.out⟩
  |false=>go_wp2_with fail;go_ret2;exact⟨_,rfl,HO.out,HB.out⟩
end
end Go.Proofs.YtnndaemmgbkjbaaGreatDoor
