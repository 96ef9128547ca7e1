/-
  parts of the proof: R45B R45F R45G R45H R45C.
-/
import Derived.Lib.IndexBytes
import Derived.Test.YtnndaemmgbkjbaaGreatDoorPC
import Derived.Test.YtnndaemmgbkjbaaGreatDoorPJ
import Derived.Test.YtnndaemmgbkjbaaGreatDoorPK
namespace Go.Proofs.YtnndaemmgbkjbaaGreatDoor
open Go.RowKit
open Nat renaming le_refl → lR, zero_le → zL
open Go.RowKit.Below renaming refl → bR
open _root_.Go.Proofs.Tryz renaming prog → pG
open Go.Value renaming int → vI, slice → vS, string → vT, bool → vB
open Go.IntKind renaming i64 → kI
set_option linter.unusedVariables false
set_option linter.unusedSimpArgs false
section
def escB (b:UInt8):List UInt8:=if b=32 then [37,50,48] else if b=37 then [37,50,53] else [b]
theorem escL_snoc (l:List UInt8) (b:UInt8):escL (l ++ [b])=escL l ++ escB b:=by
 unfold escL escB;rw[subst_append,subst_append];congr 1;by_cases h1:b=32
 ·subst h1;rfl
 ·by_cases h2:b=37
  ·subst h2;rfl
  ·rw[if_neg h1,if_neg h2];simp[subst,h1,h2]
theorem escB_len (b:UInt8):(escB b).length≤3:=by
 unfold escB;split
 ·simp
 ·split <;> simp
theorem escL_len (l:List UInt8):∀ k,k≤l.length→(escL (l.take k)).length≤3 * k:=fun k=>by
 induction k with
 |zero=>intro _;simp[escL,subst]
 |succ k ih=>intro hk;rw[List.take_add_one,List.getElem?_eq_getElem (by omega),Option.toList_some,escL_snoc,List.length_append];have:=ih (by omega);have:=escB_len (l[k]'(by omega));omega
theorem extract_one {s:ByteArray}{k:Nat}(h:k < s.size):s.extract k (k+1)=⟨#[s[k]'h]⟩:=by
 apply ByteArray.ext;rw[ByteArray.data_extract];apply Array.ext
 ·simp;have:s.data.size=s.size:=rfl;omega
 ·intro i h1 h2;have hi:i=0:=by simp at h2;omega
  subst hi;simp;rfl
theorem cat_list (a b:List UInt8):(⟨a.toArray⟩:ByteArray) ++ ⟨b.toArray⟩=⟨(a ++ b).toArray⟩:=by
 apply ByteArray.ext;simp
set_option maxHeartbeats 2000000
set_option maxRecDepth 100000
theorem name45_any {s:ByteArray}{w:World}(hs:s.size≤3000000) :
  Calls pG 74 #[vT s] w fun e w'=>e=.returned (vT (escS s))∧w'=w:=by
 have hsz:=Lib.size_eq s;have HSz:=hide hsz;have HE:Hid (escS s=⟨(escL (s.data.toList.take s.size)).toArray⟩):=by rw[Hid,hsz,List.take_length];rfl
 clear hsz;obtain⟨r,hr⟩:∃ r,escS s=r:=⟨_,rfl⟩;rw[hr]at HE ⊢;clear hr;go_enter Tryz.func74,Tryz.ntmps74;go_wp2_with fail;go_loopw [3,4,21,25] (fun t i _ _ wr=>∃ k:Nat,k≤s.size∧i=vI kI k∧(∃ q:ByteArray,t=vT q∧Hid (q=⟨(escL (s.data.toList.take k)).toArray⟩))∧wr=w) (fun _ i _ _ _=>s.size - (iOf i).toNat);case atStart=>exact⟨0,zL _,rfl,⟨_,rfl,rfl⟩,rfl⟩
 case round=>
  obtain⟨k,hk,rfl,⟨q,rfl,HQ⟩,rfl⟩:=hrel;by_cases hlt:k < s.size
  ·have hql:q.size≤9000000:=by rw[HQ.out,Lib.size_eq];have:=escL_len s.data.toList k (by have:=HSz.out;omega);simp only[];omega
   have HSt:Hid (escL (s.data.toList.take (k+1))=escL (s.data.toList.take k) ++ escB (s[k]'hlt)):=by rw[Hid,take_snocB (bget hlt),escL_snoc]
   have HX:=hide (extract_one hlt);have hx3:(⟨#[37,50,48]⟩:ByteArray).size=3:=rfl;have hx4:(⟨#[37,50,53]⟩:ByteArray).size=3:=rfl;have hx5:(s.extract k (k+1)).size=1:=by rw[extract_one hlt];rfl
   by_cases h32:s[k]'hlt=32
   ·have h32':((s[k]'hlt).toNat:Int)=32:=by rw[h32];rfl
    have HN:Hid (q ++ ⟨#[37,50,48]⟩=⟨(escL (s.data.toList.take (k+1))).toArray⟩):=by rw[Hid,HSt.out,HQ.out,show escB (s[k]'hlt)=[37,50,48] by rw[h32];rfl];exact cat_list _ _
    clear h32;go_wp2_with fail;go_roundw;case rel=>exact⟨k+1,by omega,by go_num,⟨_,rfl,HN.out⟩,by first|rfl|trivial⟩
    case measure=>simp[iOf];omega
   ·have h32':¬ ((s[k]'hlt).toNat:Int)=32:=fun e=>h32 (UInt8.toNat_inj.1 (by have:(s[k]'hlt).toNat=32:=(by omega);rw[this];rfl));have h32b:(((s[k]'hlt).toNat:Int)==32)=false:=bN h32';by_cases h37:s[k]'hlt=37
    ·have h37':((s[k]'hlt).toNat:Int)=37:=by rw[h37];rfl
     have HN:Hid (q ++ ⟨#[37,50,53]⟩=⟨(escL (s.data.toList.take (k+1))).toArray⟩):=by rw[Hid,HSt.out,HQ.out,show escB (s[k]'hlt)=[37,50,53] by rw[h37];rfl];exact cat_list _ _
     clear h32 h37 h32' h32b;go_wp2_with fail;go_roundw;case rel=>exact⟨k+1,by omega,by go_num,⟨_,rfl,HN.out⟩,by first|rfl|trivial⟩
     case measure=>simp[iOf];omega
    ·have h37':¬ ((s[k]'hlt).toNat:Int)=37:=fun e=>h37 (UInt8.toNat_inj.1 (by have:(s[k]'hlt).toNat=37:=(by omega);rw[this];rfl));have h37b:(((s[k]'hlt).toNat:Int)==37)=false:=bN h37';have HN:Hid (q ++ s.extract k (k+1)=⟨(escL (s.data.toList.take (k+1))).toArray⟩):=by rw[Hid,HSt.out,HQ.out,HX.out,show escB (s[k]'hlt)=[s[k]'hlt] by unfold escB;rw[if_neg h32,if_neg h37]];exact cat_list _ _
     clear h32 h37 h32' h37';go_wp2_with fail;go_roundw;case rel=>exact⟨k+1,by omega,by go_num,⟨_,rfl,HN.out⟩,by first|rfl|trivial⟩
     case measure=>simp[iOf];omega
  ·obtain rfl:k=s.size:=by omega
   have hv:Hid (r=q):=by rw[Hid,HE.out,HQ.out]
   go_wp2_with fail;go_ret;exact⟨by rw[hv.out];rfl,rfl⟩
end
section
def wstep (l:List ByteArray) (b:UInt8):List ByteArray:=if b=32 then l ++ [⟨#[]⟩] else l.dropLast ++ [l.getLastD ⟨#[]⟩ ++ ⟨#[b]⟩]
def wordsL (s:List UInt8):List ByteArray:=s.foldl wstep [⟨#[]⟩]
theorem wordsL_snoc (s:List UInt8) (b:UInt8):wordsL (s ++ [b])=wstep (wordsL s) b:=by simp[wordsL]
theorem OwnE.setE {α:Type} [Inhabited α] {enc:α→Value}{ty:TypeId}{B:Nat}{w:World}{g n c i:Nat}{l:List α}(h:OwnE enc ty B w (vS (some ⟨g,0,none⟩) n c) l) (x:α) :
  OwnE enc ty B (w.setCell ⟨g,i,none⟩ (enc x)) (vS (some ⟨g,0,none⟩) n c) (l.set i x)∧Below B w (w.setCell ⟨g,i,none⟩ (enc x))∧w.frozen? ⟨g,i,none⟩=false∧g < w.heap.size:=by
 obtain⟨h1,h2⟩:=h;rcases h2 with ⟨hv,_⟩|⟨g',cap,cur,hv,hb,hg,hn,hm,hz,ht⟩
 ·cases hv
 ·injection hv with hv _ _;injection hv with hv;injection hv with hv;subst hv;have hbx:Box w g ty cur:=hg;refine⟨⟨by simp,.inr ⟨g,cap,cur.setIfInBounds i (enc x),?_,hb,hbx.set i _,?_,hm,by simpa using hz,?_⟩⟩,(bR _ _).setCell hb _,hbx.frozen i,hbx.lt⟩
  ·rename_i hv2 hv3;rw[List.length_set];simp_all
  ·rw[List.length_set];exact hn
  ·rw[List.length_set,Array.toList_setIfInBounds,List.take_set,ht,List.map_set]
set_option maxHeartbeats 2000000
set_option maxRecDepth 100000
theorem words45_any {s:ByteArray}{w:World}(hs:s.size≤900000) :
  Calls pG 26 #[vT s] w fun e w'=>∃ v,e=.returned v∧OwnE Value.string 9 w.heap.size w' v (wordsL s.data.toList)∧Below w.heap.size w w':=by
 have HSz:=hide (Lib.size_eq s);obtain⟨w1,hw1⟩:∃ q,w.alloc (.cells #[vT ⟨#[]⟩] 9)=q:=⟨_,rfl⟩;have hO1:OwnE Value.string 9 w.heap.size w1 (vS (some ⟨w.heap.size,0,none⟩) 1 1) [⟨#[]⟩]:=by rw[← hw1];exact⟨rfl,.inr ⟨w.heap.size,1,#[vT ⟨#[]⟩],rfl,lR _,Box.new w _ _,by decide,by unfold maxLen;omega,rfl,rfl⟩⟩
 have hb1:Below w.heap.size w w1:=by rw[← hw1];exact(bR _ _).alloc (lR _) _
 have HO1:=hide hO1;have HB1:=hide hb1;have HW1:=hide hw1;clear hO1 hb1 hw1;go_enter Tryz.func26,Tryz.ntmps26;go_upto_region 2 with (fail);rw[HW1.out];go_wp2_with fail;go_loopw [3,4] (fun o i wr=>∃ k:Nat,k≤s.size∧i=vI kI k∧∃ (v:Value) (ini:List ByteArray) (last:ByteArray),o=v∧Hid (OwnE Value.string 9 w.heap.size wr v (ini ++ [last]))∧Hid (wordsL (s.data.toList.take k)=ini ++ [last])∧last.size≤k∧ini.length≤k∧Hid (Below w.heap.size w wr)) (fun _ i _=>s.size - (iOf i).toNat);case atStart=>exact⟨0,zL _,rfl,_,[],⟨#[]⟩,rfl,HO1.out,rfl,by decide,by decide,HB1.out⟩
 case round=>
  obtain⟨k,hk,rfl,v,ini,last,rfl,HO,HWd,hls,hil,HB⟩:=hrel;by_cases hlt:k < s.size
  ·have hstep:wordsL (s.data.toList.take (k+1))=wstep (ini ++ [last]) (s[k]'hlt):=by rw[take_snocB (bget hlt),wordsL_snoc,HWd.out]
   by_cases h32:s[k]'hlt=32
   ·have h32':((s[k]'hlt).toNat:Int)=32:=by rw[h32];rfl
    have HN:Hid (wordsL (s.data.toList.take (k+1))=(ini ++ [last]) ++ [⟨#[]⟩]):=by rw[Hid,hstep,h32];rfl
    have hlen:(ini ++ [last]).length=ini.length+1:=by simp
    obtain⟨i0,hi,hz0,hz1,hz2⟩:=info_parts strinfo;obtain⟨A4,c4,w4,hr4,hO4,hb4⟩:=OwnE.push (t:=22) Tryz.underlying22 hi hz0 hz1 hz2 rfl (by decide) HO.out HB.out.size (by omega) (fun x=>rfl) 22 (⟨#[]⟩:ByteArray);rw[hlen]at hr4 hO4;have HR4:=hide hr4;have HO4:=hide hO4;have HB4:=hide (HB.out.trans hb4);have HLn:=hide hlen;clear hr4 hO4 hb4 h32 hstep hlen hi hz0 hz1 hz2;go_wp2_with ((with_reducible refine gV 18 (Value.slice A4 (ini.length+1+1) c4) w4 ?_ ?_ ?_);rfl;exact gives_append rfl rfl rfl HR4.out);go_roundw;case rel=>exact⟨k+1,by omega,by go_num,_,ini ++ [last],⟨#[]⟩,rfl,HO4.out,HN.out,by show 0≤k+1;omega,by have:=HLn.out;omega,HB4.out⟩
    case measure=>simp[iOf];omega
   ·have h32':(((s[k]'hlt).toNat:Int)==32)=false:=bN fun e=>h32 (UInt8.toNat_inj.1 (by rw[show (s[k]'hlt).toNat=32 by omega];rfl));have HX:=hide (extract_one hlt);have HN:Hid (wordsL (s.data.toList.take (k+1))=ini ++ [last ++ s.extract k (k+1)]):=by rw[Hid,hstep,HX.out];unfold wstep;rw[if_neg h32];simp
    obtain⟨A2,c2,rfl,hcc,hli,hq⟩:=HO.out.form;have hn:(ini ++ [last]).length=ini.length+1:=by simp
    obtain⟨b,off,rfl,_,hcl⟩:=hli.at_ (k:=ini.length) (by omega);have hoff:off=0:=by
     obtain⟨_,h2⟩:=HO.out;rcases h2 with ⟨hv,_⟩|⟨_,_,_,hv,_⟩
     ·cases hv
     ·injection hv with hv _ _;injection hv with hv;injection hv with _ hv _
    subst hoff;have hlast:(ini ++ [last]).getD ini.length default=last:=by simp[List.getD_eq_getElem?_getD]
    rw[hlast,Nat.zero_add]at hcl;obtain⟨hset,hbl,hfz,hbw⟩:=HO.out.setE (i:=ini.length) (last ++ s.extract k (k+1));have hset2:(ini ++ [last]).set ini.length (last ++ s.extract k (k+1))=ini ++ [last ++ s.extract k (k+1)]:=by simp
    rw[hset2]at hset;have hex:(s.extract k (k+1)).size=1:=by rw[extract_one hlt];rfl
    have hcs:Hid ((last ++ s.extract k (k+1)).size≤k+1):=by rw[Hid,ByteArray.size_append,hex];omega
    have HSet:=hide hset;have HBl:=hide (HB.out.trans hbl);have hni:(((ini ++ [last]).length:Int) - 1)=(ini.length:Int):=by omega
    have hlt3:(ini.length:Int) < ((ini ++ [last]).length:Int):=by omega
    clear h32 hstep hli hq hset hset2 hbl hlast;go_wp2_with (fail);go_region;all_goals
     go_wp2_with fail
     go_roundw
     case rel=>exact⟨k+1,by omega,by go_num,_,ini,last ++ s.extract k (k+1),rfl,OwnE.kept HSet.out (below_drew (bR _ _) 1),HN.out,hcs.out,by omega,below_drew HBl.out 1⟩
     case measure=>simp[iOf];omega
  ·obtain rfl:k=s.size:=by omega
   have hv:Hid (wordsL s.data.toList=ini ++ [last]):=by have:=HWd.out;rwa [HSz.out,List.take_length]at this
   go_wp2_with fail;go_ret;exact⟨_,rfl,by rw[hv.out];exact HO.out,HB.out⟩
end
section
def wl:List UInt8→List UInt8→List (List UInt8)
 |cur,[]=>[cur]
 |cur,b :: t=>if b=32 then cur :: wl [] t else wl (cur ++ [b]) t
def bOf (l:List UInt8):ByteArray:=⟨l.toArray⟩
theorem wstep_blank (ini:List ByteArray) (c:ByteArray):wstep (ini ++ [c]) 32=(ini ++ [c]) ++ [bOf []]:=by unfold wstep;rw[if_pos rfl];rfl
theorem wstep_byte (ini:List ByteArray) (cur:List UInt8) {b:UInt8}(h:¬ b=32):wstep (ini ++ [bOf cur]) b=ini ++ [bOf (cur ++ [b])]:=by
 unfold wstep;rw[if_neg h,List.dropLast_concat];congr 2;have e:(ini ++ [bOf cur]).getLastD ⟨#[]⟩=bOf cur:=by simp[List.getLastD_eq_getLast?]
 rw[e];apply ByteArray.ext;simp[bOf,ByteArray.data_append]
theorem foldl_wl:∀ (s:List UInt8) (ini:List ByteArray) (cur:List UInt8),s.foldl wstep (ini ++ [bOf cur])=ini ++ (wl cur s).map bOf
 | [],ini,cur=>rfl
 |b :: t,ini,cur=>by
  rw[List.foldl_cons];by_cases h:b=32
  ·subst h;rw[wstep_blank,foldl_wl t,wl,if_pos rfl];simp
  ·rw[wstep_byte ini cur h,foldl_wl t,wl,if_neg h]
theorem wordsL_wl (s:List UInt8):wordsL s=(wl [] s).map bOf:=foldl_wl s [] []
theorem wl_mem:∀ (s:List UInt8) (cur:List UInt8),¬ (32:UInt8) ∈ s→wl cur s=[cur ++ s]
 | [],cur,_=>by simp[wl]
 |b :: t,cur,h=>by
  have h1:¬ b=32:=fun e=>h (by simp[e]);have h2:¬ (32:UInt8) ∈ t:=fun e=>h (by simp[e]);rw[wl,if_neg h1,wl_mem t _ h2];simp
theorem wl_cut:∀ (a t:List UInt8) (cur:List UInt8),¬ (32:UInt8) ∈ a→wl cur (a ++ 32 :: t)=(cur ++ a) :: wl [] t
 | [],t,cur,_=>by simp[wl]
 |b :: a,t,cur,h=>by
  have h1:¬ b=32:=fun e=>h (by simp[e]);have h2:¬ (32:UInt8) ∈ a:=fun e=>h (by simp[e]);rw[List.cons_append,wl,if_neg h1,wl_cut a t _ h2];simp
theorem index_no:∀ s:List UInt8,¬ (32:UInt8) ∈ s→Lib.index s [32]=-1:=by
 intro s h;rw[Lib.index_one];induction s with
 |nil=>rfl
 |cons b t ih=>have h1:¬ (b==32)=true:=fun e=>h (by simp[beq_iff_eq.1 e]);have h2:¬ (32:UInt8) ∈ t:=fun e=>h (by simp[e]);rw[Lib.indexByte,if_neg h1,ih h2];rfl
theorem index_at (a t:List UInt8) (h:¬ (32:UInt8) ∈ a):Lib.index (a ++ 32 :: t) [32]=a.length:=by
 refine Lib.index_first (by simp) ?_ fun j hj=>?_
 ·simp[Lib.occAt,List.isPrefixOf]
 ·have e:(a ++ 32 :: t).drop j=a[j] :: (a.drop (j+1) ++ 32 :: t):=by rw[List.drop_append_of_le_length (by omega),List.drop_eq_getElem_cons hj];rfl
  have h1:¬ (32:UInt8)=a[j]:=fun e=>h (e ▸ List.getElem_mem hj);unfold Lib.occAt;rw[e];simp[List.isPrefixOf,h1]
theorem splitK_wl:∀ (n:Nat) (s:List UInt8),s.length≤n→Lib.splitK [32] 0 (Lib.count s [32]) s=wl [] s
 |n,s,hn=>by
  by_cases h:(32:UInt8) ∈ s
  ·obtain⟨a,t,rfl,ha⟩:=List.eq_append_cons_of_mem h;have hi:=index_at a t ha;have hd:(a ++ 32 :: t).drop (a.length+[(32:UInt8)].length)=t:=by simp
   rw[Lib.count_hit (by decide) hi,hd,Nat.add_comm,Lib.splitK,hi,if_neg (by simp <;> omega),wl_cut a t _ ha];cases n with
   |zero=>simp at hn
   |succ n=>
    have e:((a.length:Int).toNat+[(32:UInt8)].length)=a.length+[(32:UInt8)].length:=by simp
    rw[e,hd,splitK_wl n t (by simp at hn;omega)];simp
  ·rw[Lib.count_miss (index_no s h),Lib.splitK,wl_mem s _ h];rfl
theorem wl_data:∀ (l:List ByteArray),(l.map (·.data.toList)).map bOf=l
 | []=>rfl
 |b :: l=>by rw[List.map_cons,List.map_cons,wl_data l];rfl
theorem wordsL_splitW (s:ByteArray):wordsL s.data.toList=splitW s:=by
 rw[wordsL_wl,← splitK_wl _ _ (lR _)];have h:=Lib.splitB_data ⟨#[32]⟩ 0 (Lib.countB s ⟨#[32]⟩) s;show _=Lib.splitB ⟨#[32]⟩ 0 (Lib.countB s ⟨#[32]⟩) s;rw[← wl_data (Lib.splitB ⟨#[32]⟩ 0 (Lib.countB s ⟨#[32]⟩) s)  ,h]
end
section
def flagAll:List ByteArray:=[sLose,sDeaf,sTwice]
def flF (last:Int) (a b c:Bool):List ByteArray→Option (Bool × Bool × Bool)
 | []=>some (a,b,c)
 |s :: t=>if posS flagAll s≤last then none else flF (posS flagAll s) (a || posS flagAll s==0) (b || posS flagAll s==1) (c || posS flagAll s==2) t
def opF (a b c:Bool):Opn:={ zeroO with lose:=a,deaf:=b,twice:=c }
def flagsR (l:List ByteArray):Opn × Bool:=match flF (-1) false false false l with
 |some (a,b,c)=>(opF a b c,true)
 |none=>(zeroO,false)
set_option maxHeartbeats 16000000
set_option maxRecDepth 100000
theorem flags45_any {A:Option Addr}{n:Nat}{l:List ByteArray}{w:World}(h:Strs w A l) (hm:l.length≤1000000) :
  Calls pG 64 #[vS A l.length n] w fun e w'=>e=.returned (.tuple #[.agg ((flagsR l).1.cells none 0 none 0),.bool (flagsR l).2])∧Below w.heap.size w w':=by
 obtain⟨w1,hw1⟩:∃ q,((w.alloc (.cells (zeroO.cells none 0 none 0) 36)).alloc (.cells (zeroO.cells none 0 none 0) 36)).alloc (.cells #[vT sLose,vT sDeaf,vT sTwice] 9)=q:=⟨_,rfl⟩;have hb1:Below w.heap.size w w1:=by rw[← hw1];exact(((bR _ _).alloc (lR _) _).alloc (by simp) _).alloc (by simp;omega) _
 have x2:Box w1 w.heap.size 36 (zeroO.cells none 0 none 0):=by rw[← hw1];exact((Box.new w _ _).alloc _).alloc _
 have x4:Box w1 (w.heap.size+1) 36 ((opF false false false).cells none 0 none 0):=by rw[← hw1];have:=(Box.new (w.alloc (.cells (zeroO.cells none 0 none 0) 36)) 36 (zeroO.cells none 0 none 0)).alloc (.cells #[vT sLose,vT sDeaf,vT sTwice] 9);rwa [World.size_alloc]at this
 have x5:Box w1 (w.heap.size+1+1) 9 #[vT sLose,vT sDeaf,vT sTwice]:=by rw[← hw1];have:=Box.new ((w.alloc (.cells (zeroO.cells none 0 none 0) 36)).alloc (.cells (zeroO.cells none 0 none 0) 36)) 9 #[vT sLose,vT sDeaf,vT sTwice];rwa [World.size_alloc,World.size_alloc]at this
 have hF0:∀ (wr:World),Box wr (w.heap.size+1+1) 9 #[vT sLose,vT sDeaf,vT sTwice]→Strs wr (some ⟨w.heap.size+1+1,0,none⟩) flagAll:=fun wr hx _=>⟨_,0,rfl,hx.lt,fun k hk=>by
  rw[hx.cell];rcases (show k=0∨k=1∨k=2 by simp[flagAll]at hk;omega) with rfl|rfl|rfl <;> rfl⟩
 have HF0:=hide hF0;have H:=hide h;have HB1:=hide hb1;have HX2:=hide x2;have HX4:=hide x4;have HX5:=hide x5;simp only[Opn.cells,zeroO,sLose,sDeaf,sTwice,List.length_nil]at hw1;have HW1:=hide hw1;clear h hb1 x2 x4 x5 hw1 hF0;go_enter Tryz.func64,Tryz.ntmps64;go_upto_region 3 with (fail);rw[HW1.out];go_wp2_with fail;go_loopw [6,13] (fun r6 i wr=>∃ k:Nat,k≤l.length∧i=vI kI k∧∃ (last:Int) (a b c:Bool),r6=vI kI last∧-1≤last∧Hid (flF last a b c (l.drop k)=flF (-1) false false false l)∧Hid (Below w.heap.size w wr)∧Hid (Box wr w.heap.size 36 (zeroO.cells none 0 none 0))∧Hid (Box wr (w.heap.size+1) 36 ((opF a b c).cells none 0 none 0))∧Hid (Box wr (w.heap.size+1+1) 9 #[vT sLose,vT sDeaf,vT sTwice])) (fun _ i _=>l.length - (iOf i).toNat);case atStart=>exact⟨0,zL _,rfl,-1,false,false,false,rfl,by decide,rfl,HB1.out,HX2.out,HX4.out,HX5.out⟩
 case round=>
  obtain⟨k,hk,rfl,last,a,b,c,rfl,hlast,HFl,HB,HY2,HY4,HY5⟩:=hrel;clear HB1 HX2 HX4 HX5 HW1;by_cases hlt:k < l.length
  ·have hki:(k:Int) < (l.length:Int):=by omega
   have hl:=ListIn.below H.out HB.out;obtain⟨bs,off,rfl,hbs,hsc⟩:=hl.at_ hlt;have hbs:bs < wr.heap.size:=hbs;have hdrop:l.drop k=l.getD k default :: l.drop (k+1):=by rw[List.drop_eq_getElem_cons hlt,List.getD_eq_getElem?_getD,List.getElem?_eq_getElem hlt];rfl
   have HD:=hide hdrop;clear hl hdrop;generalize l.getD k default=s at *;have HPl:=hide (place_any (c:=3) (s:=s) (HF0.out _ HY5.out) (by decide));obtain⟨hr1,hr2⟩:=posS_bd flagAll s;have hr2:posS flagAll s < 3:=hr2;have HE:Hid (flF last a b c (s :: l.drop (k+1))=flF (-1) false false false l):=by rw[← HD.out];exact HFl.out
   clear HFl HD;have hfl3:flagAll.length=3:=rfl;rw[hfl3]at HPl;obtain⟨r,hr⟩:∃ r,posS flagAll s=r:=⟨_,rfl⟩;rw[hr]at HPl hr1 hr2;have HR:=hide hr;clear hr hfl3;go_wp2_with fail;refine HPl.out.mono ?_;rintro en w5 ⟨rfl,hw5⟩;have hw5:=hw5.symm;subst hw5;try dsimp only
   by_cases hle:r≤last
   ·have hn:flagsR l=(zeroO,false):=by have:=HE.out;rw[flF,HR.out,if_pos hle]at this;unfold flagsR;rw[← this]
    obtain⟨w6,hs6,hx6,hg6⟩:=box_store aggOp HY2.out rfl rfl (Opn.one zeroO none 0 none 0);have HB6:=hide (below_grown HB.out hg6 (lR _));have HX6:=hide hx6;simp only[Opn.cells,zeroO,List.length_nil]at hs6;have HS6:=hide hs6;have HN:=hide hn;clear hx6 hg6 hs6 hn;go_wp2_with ((with_reducible refine dS w6 ?_ ?_ ?_);rfl;exact does_store rfl rfl rfl HS6.out);refine bodyPost_ret (v:=.tuple #[.agg (zeroO.cells none 0 none 0),vB false]) (by refine results_ct (p:=2) (q:=3) ?_ ?_ (box_load aggOp HX6.out rfl) <;> rfl) rfl ?_;exact⟨by rw[HN.out],HB6.out⟩
   ·have hn:flF r (a || r==0) (b || r==1) (c || r==2) (l.drop (k+1))=flF (-1) false false false l:=by have:=HE.out;rw[flF,HR.out,if_neg hle]at this;exact this
    have HN:=hide hn;have f8:wr.cell? ⟨w.heap.size+1,8,none⟩=some (.bool a):=HY4.out.cell 8;have f9:wr.cell? ⟨w.heap.size+1,9,none⟩=some (.bool b):=HY4.out.cell 9;have f10:wr.cell? ⟨w.heap.size+1,10,none⟩=some (.bool c):=HY4.out.cell 10;have z8:=HY4.out.frozen 8;have z9:=HY4.out.frozen 9;have z10:=HY4.out.frozen 10;have hl4:=HY4.out.lt;have HKeep:Hid (∀ a' b' c':Bool,Box (((wr.setCell ⟨w.heap.size+1,8,none⟩ (.bool a')).setCell ⟨w.heap.size+1,9,none⟩ (.bool b')).setCell ⟨w.heap.size+1,10,none⟩ (.bool c')) (w.heap.size+1) 36 ((opF a' b' c').cells none 0 none 0)∧Box (((wr.setCell ⟨w.heap.size+1,8,none⟩ (.bool a')).setCell ⟨w.heap.size+1,9,none⟩ (.bool b')).setCell ⟨w.heap.size+1,10,none⟩ (.bool c')) w.heap.size 36 (zeroO.cells none 0 none 0)∧Box (((wr.setCell ⟨w.heap.size+1,8,none⟩ (.bool a')).setCell ⟨w.heap.size+1,9,none⟩ (.bool b')).setCell ⟨w.heap.size+1,10,none⟩ (.bool c')) (w.heap.size+1+1) 9 #[vT sLose,vT sDeaf,vT sTwice]∧Below w.heap.size w (((wr.setCell ⟨w.heap.size+1,8,none⟩ (.bool a')).setCell ⟨w.heap.size+1,9,none⟩ (.bool b')).setCell ⟨w.heap.size+1,10,none⟩ (.bool c'))):=fun a' b' c'=>⟨((HY4.out.set 8 (.bool a')).set 9 (.bool b')).set 10 (.bool c'),((HY2.out.far (by show w.heap.size≠w.heap.size+1;omega) _).far (by show w.heap.size≠w.heap.size+1;omega) _).far (by show w.heap.size≠w.heap.size+1;omega) _,((HY5.out.far (by show w.heap.size+1+1≠w.heap.size+1;omega) _).far (by show w.heap.size+1+1≠w.heap.size+1;omega) _).far (by show w.heap.size+1+1≠w.heap.size+1;omega) _,((HB.out.setCell (by show w.heap.size≤w.heap.size+1;omega) _).setCell (by show w.heap.size≤w.heap.size+1;omega) _).setCell (by show w.heap.size≤w.heap.size+1;omega) _⟩;clear HE HR hn HY4 HY2 HY5;rcases (show r=0∨r=1∨r=2 by omega) with rfl|rfl|rfl;all_goals
     cases a <;> cases b <;> cases c
    all_goals
     go_wp2_with fail
     go_roundw
     case rel=>exact⟨k+1,by omega,by go_num,_,_,_,_,rfl,by decide,HN.out,(HKeep.out _ _ _).2.2.2,(HKeep.out _ _ _).2.1,(HKeep.out _ _ _).1,(HKeep.out _ _ _).2.2.1⟩
     case measure=>simp[iOf];omega
  ·obtain rfl:k=l.length:=by omega
   have hn:flagsR l=(opF a b c,true):=by have:=HFl.out;rw[List.drop_length,flF]at this;unfold flagsR;rw[← this]
   obtain⟨w6,hs6,hx6,hg6⟩:=box_store (cs':=(opF a b c).cells none 0 none 0) aggOp HY2.out rfl rfl (Opn.one _ none 0 none 0);have HB6:=hide (below_grown HB.out hg6 (lR _));have HX6:=hide hx6;have HLd:=hide (box_load aggOp HY4.out rfl);have HS6:=hide hs6;have HN:=hide hn;clear hx6 hg6 hs6 hn HFl HY2 HY4 HY5;generalize hcs:(opF a b c).cells none 0 none 0=cs at *;have HCs:=hide hcs;clear hcs;go_wp2_with (first|((with_reducible refine gV 47 (.agg cs) wr ?_ ?_ ?_);rfl;exact gives_load rfl rfl HLd.out)|((with_reducible refine dS w6 ?_ ?_ ?_);rfl;exact does_store rfl rfl rfl HS6.out));refine bodyPost_ret (v:=.tuple #[.agg cs,vB true]) (by refine results_ct (p:=2) (q:=3) ?_ ?_ (box_load aggOp HX6.out (by rw[← HCs.out];rfl)) <;> rfl) rfl ?_;exact⟨by rw[HN.out,← HCs.out],HB6.out⟩
end
section
set_option maxHeartbeats 2000000
set_option maxRecDepth 100000
theorem find45_any {A:Option Addr}{c:Nat}{l:List ByteArray}{s:ByteArray}{w:World}(h:Strs w A l) (hm:l.length≤1000000) (hz:∀ x ∈ l,x.size≤3000000) :
  Calls pG 61 #[vS A l.length c,vT s] w fun e w'=>e=.returned (vI kI (idxN l s))∧w'=w:=by
 have H:=hide h;have HZ:=hide hz;have HY:=hide (fun k hk h0 h=>idxN_at (names:=l) (s:=s) (k:=k) hk h0 h);have HN:=hide (fun h0=>idxN_none (names:=l) (s:=s) h0);clear h hz;obtain⟨r,hr⟩:∃ r,idxN l s=r:=⟨_,rfl⟩;rw[hr]at HY HN ⊢;clear hr;go_enter Tryz.func61,Tryz.ntmps61;go_wp2_with fail;go_loopw [5] (fun i wr=>∃ k:Nat,k≤l.length∧i=vI kI k∧Hid (∀ j,j < k→((escS (l.getD j default)).toList==s.toList)=false)∧wr=w) (fun i _=>l.length - (iOf i).toNat);case atStart=>exact⟨0,zL _,rfl,(fun j hj=>by omega),rfl⟩
 case round=>
  obtain⟨k,hk,rfl,HS,rfl⟩:=hrel;by_cases hlt:k < l.length
  ·obtain⟨b,off,rfl,hb,h1⟩:=H.out.at_ hlt;have HYk:=hide (HY.out k hlt HS.out);have HS1:Hid (((escS (l.getD k default)).toList==s.toList)=false→∀ j,j < k+1→((escS (l.getD j default)).toList==s.toList)=false):=fun e j hj=>by
    by_cases ej:j=k
    ·rw[ej];exact e
    ·exact HS.out j (by omega)
   have hzk:=HZ.out _ (getD_memD hlt);generalize l.getD k default=x at *;have HNm:=hide (fun wq=>name45_any (s:=x) (w:=wq) hzk);cases hxy:((escS x).toList==s.toList) with
   |true=>have hv:=hide (HYk.out hxy);generalize escS x=y at *;go_wp2_with fail;refine(HNm.out _).mono ?_;rintro en w1 ⟨rfl,rfl⟩;go_wp2_with fail;go_ret;exact⟨by rw[hv.out];rfl,rfl⟩
   |false=>
    have HS2:=hide (HS1.out hxy);clear HS1 HYk;generalize escS x=y at *;go_wp2_with fail;refine(HNm.out _).mono ?_;rintro en w1 ⟨rfl,rfl⟩;go_wp2_with fail;go_roundw;case rel=>exact⟨k+1,by omega,by go_num,HS2.out,by first|rfl|trivial⟩
    case measure=>simp[iOf];omega
  ·obtain rfl:k=l.length:=by omega
   have hv:=hide (HN.out HS.out);go_wp2_with fail;go_ret;exact⟨by rw[hv.out];rfl,rfl⟩
set_option maxHeartbeats 1000000
theorem at45_any {A:Option Addr}{c:Nat}{l:List ByteArray}{n:Int}{w:World}(h:Strs w A l) (hm:l.length≤1000000) (hz:∀ x ∈ l,x.size≤3000000) :
  Calls pG 32 #[vS A l.length c,vI kI n] w fun e w'=>e=.returned (vT (if 0≤n∧n < l.length then escS (l.getD n.toNat default) else ⟨#[63]⟩))∧w'=w:=by
 by_cases h1:n < 0
 ·rw[if_neg (by omega)];clear h hz;go_enter Tryz.func32,Tryz.ntmps32;go_wp2_with fail;go_ret;exact⟨rfl,rfl⟩
 ·by_cases h2:(l.length:Int)≤n
  ·rw[if_neg (by omega)];clear h hz;go_enter Tryz.func32,Tryz.ntmps32;go_wp2_with fail;go_ret;exact⟨rfl,rfl⟩
  ·rw[if_pos (by omega)];obtain⟨k,rfl⟩:∃ k:Nat,n=(k:Int):=⟨n.toNat,by omega⟩;have hk:k < l.length:=by omega
   obtain⟨b,off,rfl,hb,h3⟩:=h.at_ hk;have HNm:=hide (fun wq=>name45_any (s:=l.getD k default) (w:=wq) (hz _ (getD_memD hk)));have hki:(k:Int) < (l.length:Int):=by omega
   have e0:((k:Int)).toNat=k:=by omega
   rw[e0];generalize l.getD k default=x at *;generalize escS x=y at *;clear h hz e0;go_enter Tryz.func32,Tryz.ntmps32;go_wp2_with fail;refine(HNm.out _).mono ?_;rintro en w1 ⟨rfl,rfl⟩;go_wp2_with fail;go_ret;exact⟨rfl,rfl⟩
end
end Go.Proofs.YtnndaemmgbkjbaaGreatDoor
