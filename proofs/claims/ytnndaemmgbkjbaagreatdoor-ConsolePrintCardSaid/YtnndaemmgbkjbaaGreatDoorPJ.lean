/-
  parts of the proof: PlainE Lib Index Named Flags.
-/
import Derived.Deep.RegionHeldLaw
import Derived.Shelf.Spec.SlicesGrow
import Derived.Test.YtnndaemmgbkjbaaGreatDoorPA
import Derived.Test.YtnndaemmgbkjbaaGreatDoorShelf
import Derived.Test.YtnndaemmgbkjbaaGreatDoorPB
namespace Go.Proofs.YtnndaemmgbkjbaaGreatDoor
open Go.RowKit
open Nat renaming lt_of_lt_of_le → lL, le_trans → lT, le_refl → lR, zero_le → zL
open Go.RowKit.Below renaming refl → bR
open _root_.Go.Proofs.Tryz renaming prog → pG
open Go.Value renaming int → vI, slice → vS, string → vT, bool → vB, pointer → vP
open Go.IntKind renaming i64 → kI
set_option linter.unusedVariables false
set_option linter.unusedSimpArgs false
section
def subst (c:UInt8) (new:List UInt8) (l:List UInt8):List UInt8:=l.flatMap fun b=>if b=c then new else [b]
theorem subst_nil (c:UInt8) (new:List UInt8):subst c new []=[]:=rfl
theorem subst_cons (c:UInt8) (new:List UInt8) (b:UInt8) (l:List UInt8):subst c new (b :: l)=(if b=c then new else [b]) ++ subst c new l:=by simp[subst]
theorem subst_append (c:UInt8) (new:List UInt8) (a b:List UInt8):subst c new (a ++ b)=subst c new a ++ subst c new b:=by simp[subst]
theorem index_cons_eq (c:UInt8) (l:List UInt8):Lib.index (c :: l) [c]=0:=by
 unfold Lib.index;simp
theorem index_cons_ne {b c:UInt8}(l:List UInt8) (h:b≠c):Lib.index (b :: l) [c]=if Lib.index l [c]==-1 then -1 else Lib.index l [c]+1:=by
 have h':¬ c=b:=fun e=>h e.symm;rw[Lib.index];simp[h']
theorem replaceK_subst (c:UInt8) (new:List UInt8):∀ l:List UInt8,Lib.replaceK [c] new (Lib.count l [c]) l=subst c new l
 | []=>by
  rw[Lib.count_one];rfl
 |b :: l=>by
  have ih:=replaceK_subst c new l;by_cases h:b=c
  ·subst h;rw[Lib.count_cons_eq,Nat.add_comm,Lib.replaceK_hit [b] new _ _ 0 (index_cons_eq b l),subst_cons,if_pos rfl];simpa using ih
  ·rw[Lib.count_cons_ne b c l h,subst_cons,if_neg h];rw[← ih];cases hk:Lib.count l [c] with
   |zero=>rfl
   |succ k=>
    obtain⟨i,hi⟩:=Lib.index_of_count (s:=l) (old:=[c]) (by omega);have e1:Lib.index (b :: l) [c]=((i+1:Nat):Int):=by
     have hne:¬ ((i:Int)=-1):=by omega
     rw[index_cons_ne l h,hi];simp[hne]
    rw[Lib.replaceK_hit [c] new k _ _ e1,Lib.replaceK_hit [c] new k _ _ hi];simp
theorem replaceAll_subst {c:UInt8}{new:List UInt8}(hn:new≠[c]) (l:List UInt8):Lib.replaceAll l [c] new=subst c new l:=by
 unfold Lib.replaceAll Lib.replace Lib.replaceNum;rw[if_neg (by simpa using fun e=>hn e.symm),if_pos (.inl (by decide))];exact replaceK_subst c new l
theorem subst_length (c:UInt8) {new:List UInt8}(h:new.length=3):∀ l:List UInt8,l.length≤(subst c new l).length∧(subst c new l).length≤3 * l.length
 | []=>by simp[subst_nil]
 |b :: l=>by
  have:=subst_length c h l;rw[subst_cons,List.length_append,List.length_cons];split
  ·omega
  ·simp;omega
def escL (l:List UInt8):List UInt8:=subst 32 [37,50,48] (subst 37 [37,50,53] l)
def escS (s:ByteArray):ByteArray:=⟨(escL s.data.toList).toArray⟩
def splitW (s:ByteArray):List ByteArray:=Lib.splitB ⟨#[32]⟩ 0 (Lib.countB s ⟨#[32]⟩) s
theorem splitW_length (s:ByteArray):(splitW s).length=Lib.countB s ⟨#[32]⟩+1:=Lib.splitB_all ⟨#[32]⟩ (by decide) 0 _ s rfl
theorem count_le_size (s:ByteArray) (c:UInt8):Lib.countB s ⟨#[c]⟩≤s.size:=Lib.countB_le ⟨#[c]⟩ (by simp[ByteArray.size]) s.size s (lR _)
end
section
def Max (w:World):Prop:=∃ m,w.cell? ⟨0,0,none⟩=some (vI kI m)
theorem Max.lt {w:World}(h:Max w):0 < w.heap.size:=by
 obtain⟨m,h⟩:=h;exact World.block_lt_of_cell? w _ h
theorem Max.below {w w':World}(h:Max w) (hb:Below w.heap.size w w'):Max w':=by
 obtain⟨m,h'⟩:=id h;exact⟨m,(hb.cell (p:=⟨0,0,none⟩) h.lt).trans h'⟩
theorem Max.drewN {w:World}(h:Max w) (n:Nat):Max (w.drewN n):=h.below (below_drew (bR _ _) n)
set_option maxRecDepth 100000
theorem split_any {s:ByteArray}{w:World}(hs:s.size≤1000000) (hM:Max w) :
  Calls pG 23 #[vT s,vT ⟨#[32]⟩] w fun e w'=>∃ b,e=.returned (vS (some ⟨b,0,none⟩) (splitW s).length (splitW s).length)∧Strs w' (some ⟨b,0,none⟩) (splitW s)∧Below w.heap.size w w':=by
 obtain⟨m,hm⟩:=hM;refine(Tryz.strings_Split s ⟨#[32]⟩ m w (by omega) hm (by decide)).mono ?_;rintro e w' ⟨rfl,rfl⟩;refine⟨w.heap.size,by rw[splitW_length],fun hp=>⟨w.heap.size,0,rfl,by simp[All],fun k hk=>?_⟩,(bR _ _).alloc (lR _) _⟩;rw[(Box.new w _ _).cell];have:(splitW s)[k]? = some ((splitW s).getD k default):=by simp[List.getD_eq_getElem?_getD,hk]
 show ((splitW s).map Value.string).toArray[0+k]? = _;rw[Nat.zero_add,List.getElem?_toArray,List.getElem?_map,this];rfl
theorem replace_any {s:ByteArray}{c:UInt8}{new:ByteArray}{w:World}(hs:s.size≤10000000) (hn:new.data.toList≠[c]) (h3:new.data.toList.length=3) (hM:Max w) :
  Calls pG 118 #[vT s,vT ⟨#[c]⟩,vT new] w fun e w'=>e=.returned (vT ⟨(subst c new.data.toList s.data.toList).toArray⟩)∧Below w.heap.size w w':=by
 obtain⟨m,hm⟩:=hM;have hc:=count_le_size s c;have hn3:new.size=3:=by rw[Lib.size_eq];exact h3
 refine(Tryz.strings_ReplaceAll s ⟨#[c]⟩ new m w (by omega) hm (by show 1≤(#[c]:Array UInt8).size;simp) (by rw[hn3];omega)).mono ?_;rintro e w' ⟨rfl,hb⟩;exact⟨by rw[← replaceAll_subst hn],hb⟩
set_option maxHeartbeats 1000000
theorem escape_any {s:ByteArray}{w:World}(hs:s.size≤3000000) (hM:Max w) :
  Calls pG 97 #[vT s] w fun e w'=>e=.returned (vT (escS s))∧Below w.heap.size w w':=by
 have H1:=hide (replace_any (s:=s) (c:=37) (new:=⟨#[37,50,53]⟩) (w:=w) (by omega) (by decide) rfl hM);have hl:=(subst_length 37 (new:=[37,50,53]) rfl s.data.toList).2;have hs2:(⟨(subst 37 [37,50,53] s.data.toList).toArray⟩:ByteArray).size≤10000000:=by rw[Lib.size_eq]at hs ⊢;simp;omega
 have H2:=hide (fun (wq:World) (hb:Below w.heap.size w wq)=>replace_any (s:=⟨(subst 37 [37,50,53] s.data.toList).toArray⟩) (c:=32) (new:=⟨#[37,50,48]⟩) (w:=wq) hs2 (by decide) rfl (hM.below hb));clear hs hs2 hl;go_enter Tryz.func97,Tryz.ntmps97;go_wp2_with fail;refine H1.out.mono ?_;rintro e w1 ⟨rfl,hb1⟩;have H3:=hide (H2.out w1 hb1);have HB1:=hide hb1;clear hb1 H2;go_wp2_with fail;refine H3.out.mono ?_;rintro e w2 ⟨rfl,hb2⟩;have HB2:=hide (below_then HB1.out hb2);clear hb2;go_wp2_with fail;go_ret;exact⟨rfl,HB2.out⟩
end
section
def idxN (names:List ByteArray) (s:ByteArray):Int:=if names.findIdx (fun n=>(escS n).toList==s.toList)=names.length then -1 else (names.findIdx (fun n=>(escS n).toList==s.toList):Nat)
theorem idxN_none {names:List ByteArray}{s:ByteArray}(h:∀ j,j < names.length→((escS (names.getD j default)).toList==s.toList)=false):idxN names s=-1:=by
 have:names.findIdx (fun n=>(escS n).toList==s.toList)=names.length:=by rw[List.findIdx_eq_length];intro x hx;obtain⟨j,hj,rfl⟩:=List.getElem_of_mem hx;have:=h j hj;rwa [List.getD_eq_getElem?_getD,List.getElem?_eq_getElem hj,Option.getD_some]at this
 unfold idxN;rw[if_pos this]
theorem idxN_at {names:List ByteArray}{s:ByteArray}{k:Nat}(hk:k < names.length) (h:∀ j,j < k→((escS (names.getD j default)).toList==s.toList)=false) (he:((escS (names.getD k default)).toList==s.toList)=true):idxN names s=(k:Int):=by
 have:names.findIdx (fun n=>(escS n).toList==s.toList)=k:=by rw[List.getD_eq_getElem?_getD,List.getElem?_eq_getElem hk,Option.getD_some]at he;rw[List.findIdx_eq hk];refine⟨he,fun j hj=>?_⟩;have:=h j hj;rwa [List.getD_eq_getElem?_getD,List.getElem?_eq_getElem (by omega),Option.getD_some]at this
 unfold idxN;rw[if_neg (by omega),this]
set_option maxHeartbeats 2000000
set_option maxRecDepth 100000
theorem iclos_any {n s:ByteArray}{g:Nat}{w:World}(hn:n.size≤3000000) (hM:Max w) (hg:w.cell? ⟨g,0,none⟩=some (vT s)) :
  Calls pG 113 #[vT n,vP (some ⟨g,0,none⟩)] w fun e w'=>e=.returned (vB ((escS n).toList==s.toList))∧Below w.heap.size w w':=by
 have hlt:=World.block_lt_of_cell? w _ hg;have HE:=hide (fun (wq:World) (hd:Drew w wq)=>(escape_any (w:=wq) hn (hM.below hd.below)).mono (fun e w2 (h:e=.returned (vT (escS n))∧Below wq.heap.size wq w2)=>(show e=.returned (vT (escS n))∧w2.cell? ⟨g,0,none⟩=some (vT s)∧Hid (Below w.heap.size w w2) from
  have hb:=below_then hd.below h.2
  ⟨h.1,(hb.cell (p:=⟨g,0,none⟩) hlt).trans hg,hb⟩)))
 clear hM hn;generalize escS n=m at *;go_enter Tryz.func113,Tryz.ntmps113;go_wp2_with fail;go_region_held_law (fun w'=>w'.cell? ⟨g,0,none⟩=some (vT s))
  (first|assumption|go_keep)
  (first|(go_at_call 97;refine(HE.out _ ((Drew.refl _).drew 1)).mono ?_;rintro e w2 ⟨rfl,h2,hb2⟩))
 go_wp2_with fail;go_ret;exact⟨rfl,hb2.out⟩
theorem idxf_any {A:Option Addr}{c:Nat}{names:List ByteArray}{s:ByteArray}{g:Nat}{w:World}(h:Strs w A names) (hm:names.length≤1000000) (hn:∀ n ∈ names,n.size≤3000000) (hM:Max w) (hg:w.cell? ⟨g,0,none⟩=some (vT s)) :
  Calls pG 112 #[vS A names.length c,.func (.func 113) #[] #[vP (some ⟨g,0,none⟩)]] w fun e w'=>e=.returned (vI kI (idxN names s))∧Below w.heap.size w w':=by
 have hlt:=World.block_lt_of_cell? w _ hg;have H:=hide h;have HC:=hide (fun (n:ByteArray) (h:n ∈ names) (wq:World) (hb:Below w.heap.size w wq)=>iclos_any (w:=wq) (hn n h) (hM.below hb) ((hb.cell (p:=⟨g,0,none⟩) hlt).trans hg));clear h hn hM;go_enter Tryz.func112,Tryz.ntmps112;go_wp2_with fail;go_loopw [5,8] (fun _ i wr=>∃ k:Nat,k≤names.length∧i=vI kI k∧Hid (∀ j,j < k→((escS (names.getD j default)).toList==s.toList)=false)∧Hid (Below w.heap.size w wr)) (fun _ i _=>names.length - (iOf i).toNat);case atStart=>exact⟨0,zL _,rfl,(fun j hj=>absurd hj (by omega)),bR _ _⟩
 case round=>
  obtain⟨k,hk,rfl,HA,HB⟩:=hrel;by_cases hlk:k < names.length
  ·obtain⟨b,off,rfl,hb,h0⟩:=H.out.at_ hlk;have h0:=(HB.out.cell (p:=⟨b,off+k,none⟩) hb).trans h0;have HC1:=hide (HC.out _ (getD_memD hlk) wr HB.out);have HY:=hide (fun h=>idxN_at hlk HA.out h);have HN:Hid (((escS (names.getD k default)).toList==s.toList)=false→∀ j,j < k+1→((escS (names.getD j default)).toList==s.toList)=false):=fun h j hj=>by
    by_cases e:j=k
    ·rw[e];exact h
    ·exact HA.out j (by omega)
   generalize names.getD k default=nm at *;cases hz:(escS nm).toList==s.toList with
   |true=>rw[hz]at HC1;have hy:=hide (HY.out hz);clear hz;go_wp2_with fail;refine HC1.out.mono ?_;rintro e w1 ⟨rfl,hb1⟩;have HB1:=hide (below_then HB.out hb1);clear hb1;go_wp2_with fail;go_ret;exact⟨by rw[hy.out];rfl,HB1.out⟩
   |false=>
    rw[hz]at HC1;have hnn:=hide (HN.out hz);clear hz;go_wp2_with fail;refine HC1.out.mono ?_;rintro e w1 ⟨rfl,hb1⟩;have HB1:=hide (below_then HB.out hb1);clear hb1;go_wp2_with fail;go_roundw;case rel=>exact⟨k+1,by omega,by go_num,hnn.out,HB1.out⟩
    case measure=>simp[iOf];omega
  ·obtain rfl:k=names.length:=by omega
   have hy:=hide (idxN_none HA.out);go_wp2_with fail;go_ret;exact⟨by rw[hy.out];rfl,HB.out⟩
theorem index_any {A:Option Addr}{c:Nat}{names:List ByteArray}{s:ByteArray}{w:World}(h:Strs w A names) (hm:names.length≤1000000) (hn:∀ n ∈ names,n.size≤3000000) (hM:Max w) :
  Calls pG 91 #[vS A names.length c,vT s] w fun e w'=>e=.returned (.tuple #[vI kI (idxN names s),vB (decide (0≤idxN names s))])∧Below w.heap.size w w':=by
 have hb1:Below w.heap.size w (w.alloc (.cells #[vT s] 9)):=(bR _ _).alloc (lR _) _;have HF:=hide (idxf_any (c:=c) (s:=s) (g:=w.heap.size) (ListIn.below h hb1) hm hn (hM.below hb1) ((Box.new w 9 #[vT s]).cell 0));have HB1:=hide hb1;clear h hn hM hb1;generalize idxN names s=r at *;go_enter Tryz.func91,Tryz.ntmps91;go_wp2_with fail;refine HF.out.mono ?_;rintro e w1 ⟨rfl,hb2⟩;have HB2:=hide (below_then HB1.out hb2);clear hb2;go_wp2_with fail;go_ret2;exact⟨rfl,HB2.out⟩
end
section
theorem frozen_below {w w':World}{g o:Nat}(hb:Below w.heap.size w w') (hlt:g < w.heap.size) (hf:w.frozen? ⟨g,o,none⟩=false):w'.frozen? ⟨g,o,none⟩=false:=by
 unfold World.frozen? at hf ⊢;rw[hb.block g hlt];exact hf
set_option maxHeartbeats 2000000
set_option maxRecDepth 100000
theorem named_nil {vn p:Value}{B:Option Addr}{d:Nat}{w:World} :
  Calls pG 51 #[vn,vS B 0 d,p] w fun e w'=>e=.returned (.tuple #[vS none 0 0,vB false])∧w'=w:=by
 go_enter Tryz.func51,Tryz.ntmps51;go_wp2_with fail;go_ret2;exact⟨rfl,rfl⟩
theorem named_cons {A B:Option Addr}{c d g o:Nat}{u:Value}{names r:List ByteArray}{x:ByteArray}{w:World}(h:Strs w A names) (hm:names.length≤1000000) (hn:∀ n ∈ names,n.size≤3000000) (hM:Max w) (hr:Strs w B (x :: r)) (hd:r.length+1≤d) (hd2:d≤1000000) (hx:∀ s ∈ r,s.size≤1000000)
  (hc:w.cell? ⟨g,o,none⟩=some u) (hf:w.frozen? ⟨g,o,none⟩=false) :
  Calls pG 51 #[vS A names.length c,vS B (r.length+1) d,vP (some ⟨g,o,none⟩)] w fun e w'=>∃ v w1,e=.returned (.tuple #[v,vB (decide (0≤idxN names x) && (numsV r).2)])∧w'=w1.setCell ⟨g,o,none⟩ (vI kI (idxN names x))∧OwnE iv 3 w.heap.size w1 v (numsV r).1∧Below w.heap.size w w1:=by
 have hlt:=World.block_lt_of_cell? w _ hc;obtain⟨b,off,rfl,hb,h0⟩:=hr.at_ (k:=0) (by simp);obtain⟨b',off',e,ht⟩:=hr.tail;cases e;have h0:w.cell? ⟨b,off,none⟩=some (vT x):=h0;have HI:=hide (index_any (c:=c) (s:=x) h hm hn hM);have HN1:=hide (fun (wq:World) (hq:Below w.heap.size w wq)=>numbers_any (c:=d - 1) (ListIn.below ht hq) (by omega) hx);have HN0:=hide (fun (wq:World) (A:Option Addr) (c:Nat)=>numbers_any (w:=wq) (c:=c) (A:=A) (l:=[]) (ListIn.nil _ _ _ _) (by simp) (fun s hs=>by cases hs));have HR:Hid (r.length=0→r=[]):=fun e=>List.length_eq_zero_iff.1 e;clear h hn hM hr ht hx;generalize idxN names x=i at *;generalize hq:numsV r=q at *;have HQ:=hide hq;clear hq;obtain⟨ns,ok⟩:=q;simp only[]at *;go_enter Tryz.func51,Tryz.ntmps51;go_wp2_with fail;refine HI.out.mono ?_;rintro e w1 ⟨rfl,hb1⟩;have h0:=(hb1.cell (p:=⟨b,off,none⟩) hb).trans h0;have HB1:=hide hb1;clear hb1;by_cases hd1:d=1
 ·subst hd1;obtain rfl:=HR.out (by omega);have HN:=hide (HN0.out w1 (some ⟨b,off,none⟩) 0);rw[HQ.out]at HN;simp only[]at HN;go_wp2_with fail;refine HN.out.mono ?_;rintro e w2 ⟨v2,rfl,hO2,hb2⟩;have hb3:=below_then HB1.out hb2;have hc2:=(hb3.cell (p:=⟨g,o,none⟩) hlt).trans hc;have hf2:=frozen_below hb3 hlt hf;have HO2:=hide (hO2.lower HB1.out.size);have HB3:=hide hb3;obtain⟨A2,c2,rfl,_,_,_⟩:=hO2.form;clear hb2 hb3 hO2;cases hi:decide (0≤i) with
  |true=>have hi2:=of_decide_eq_true hi;have HI2:=hide hi;clear hi;go_wp2_with fail;go_ret2;exact⟨_,w2,by rw[HI2.out];rfl,rfl,HO2.out,HB3.out⟩
  |false=>have hi2:=of_decide_eq_false hi;have HI2:=hide hi;clear hi;go_wp2_with fail;go_ret2;exact⟨_,w2,by rw[HI2.out];rfl,rfl,HO2.out,HB3.out⟩
 ·have hd3:1 < d:=by omega
  have HN:=hide (HN1.out w1 HB1.out);go_wp2_with fail;refine HN.out.mono ?_;rintro e w2 ⟨v2,rfl,hO2,hb2⟩;have hb3:=below_then HB1.out hb2;have hc2:=(hb3.cell (p:=⟨g,o,none⟩) hlt).trans hc;have hf2:=frozen_below hb3 hlt hf;have HO2:=hide (hO2.lower HB1.out.size);have HB3:=hide hb3;obtain⟨A2,c2,rfl,_,_,_⟩:=hO2.form;clear hb2 hb3 hO2;cases hi:decide (0≤i) with
  |true=>have hi2:=of_decide_eq_true hi;have HI2:=hide hi;clear hi;go_wp2_with fail;go_ret2;exact⟨_,w2,by rw[HI2.out];rfl,rfl,HO2.out,HB3.out⟩
  |false=>have hi2:=of_decide_eq_false hi;have HI2:=hide hi;clear hi;go_wp2_with fail;go_ret2;exact⟨_,w2,by rw[HI2.out];rfl,rfl,HO2.out,HB3.out⟩
end
section
def takeB (s:ByteArray):List ByteArray→Bool × List ByteArray
 | []=>(false,[])
 |x :: r=>if x.toList==s.toList then (true,r) else (false,x :: r)
theorem takeB_hit {s x:ByteArray}{r:List ByteArray}(h:(x.toList==s.toList)=true):takeB s (x :: r)=(true,r):=if_pos h
theorem takeB_miss {s x:ByteArray}{r:List ByteArray}(h:(x.toList==s.toList)=false):takeB s (x :: r)=(false,x :: r):=if_neg (by rw[h];simp)
theorem grown_set (w:World) (g j:Nat) (v:Value):w.grownBy (w.setCell ⟨g,j,none⟩ v) (some g):=
 ⟨rfl,rfl,rfl,by simp[World.setCell],fun i _ hr=>Below.heap_setCell _ _ _ i fun e=>hr (congrArg some e)⟩
theorem box_set1 {w:World}{g:Nat}{t:TypeId}{u:Value}(h:Box w g t #[u]) (v:Value):Box (w.setCell ⟨g,0,none⟩ v) g t #[v]:=by
 have:=h.set 0 v;simpa using this
theorem list_set {α:Type} [Inhabited α] {enc:α→Value}{F:Nat→Prop}{w:World}{A:Option Addr}{l:List α}(h:ListIn enc F w A l) {g:Nat}(hg:¬ F g) (j:Nat) (v:Value):ListIn enc F (w.setCell ⟨g,j,none⟩ v) A l:=
 h.agree fun i hi=>Below.heap_setCell _ _ _ i fun e=>hg (by have e2:i=g:=e;rwa [e2]at hi)
set_option maxHeartbeats 2000000
set_option maxRecDepth 100000
theorem fclos_any {F:Nat→Prop}{A:Option Addr}{c bl:Nat}{l:List ByteArray}{s:ByteArray}{w:World}(h:ListIn Value.string F w A l) (hc:l.length≤c) (hc2:c≤1000000) (hX:Box w bl 22 #[vS A l.length c]) (hF:¬ F bl) :
  Calls pG 92 #[vT s,vP (some ⟨bl,0,none⟩)] w fun e w'=>∃ A' c',e=.returned (vB (takeB s l).1)∧Box w' bl 22 #[vS A' (takeB s l).2.length c']∧ListIn Value.string F w' A' (takeB s l).2∧(takeB s l).2.length≤c'∧c'≤1000000∧w.grownBy w' (some bl):=by
 have b0:=hX.cell 0;have bf:=hX.frozen 0;simp at b0;have HX:=hide hX;cases l with
 |nil=>go_enter Tryz.func92,Tryz.ntmps92;go_wp2_with fail;go_ret;exact⟨A,c,rfl,HX.out,ListIn.nil _ _ _ _,zL _,hc2,grown_refl _ _⟩
 |cons x r=>
  obtain⟨b,off,rfl,hb,h0⟩:=h.at_ (k:=0) (by simp);obtain⟨b',off',e,ht⟩:=h.tail;cases e;have h0:w.cell? ⟨b,off,none⟩=some (vT x):=h0;have H:=hide h;have HT:=hide ht;rw[List.length_cons]at b0 hc HX;have HL:Hid (r.length=0→r=[]):=fun e=>List.length_eq_zero_iff.1 e;clear h ht hX;cases hz:x.toList==s.toList with
  |false=>
   have hz':(!(x.toList==s.toList))=true:=by rw[hz];rfl
   have hl0:((r.length:Int)+1==0)=false:=bN (by omega);have HM:=hide (takeB_miss (r:=r) hz);clear hz;go_enter Tryz.func92,Tryz.ntmps92;go_wp2_with fail;go_ret;rw[HM.out];exact⟨_,c,rfl,HX.out,H.out,hc,hc2,grown_refl _ _⟩
  |true=>
   have hz':(!(x.toList==s.toList))=false:=by rw[hz];rfl
   have hl0:((r.length:Int)+1==0)=false:=bN (by omega);have HM:=hide (takeB_hit (r:=r) hz);clear hz;go_enter Tryz.func92,Tryz.ntmps92;by_cases hc1:c=1
   ·subst hc1;obtain rfl:=HL.out (by omega);go_wp2_with fail;go_ret;rw[HM.out];first|first|first|exact⟨_,0,rfl,box_set1 HX.out _,ListIn.nil _ _ _ _,zL _,by omega,grown_set _ _ _ _⟩|exact⟨rfl,_,0,box_set1 HX.out _,ListIn.nil _ _ _ _,zL _,by omega,grown_set _ _ _ _⟩|exact⟨rfl,_,0,box_set1 HX.out _,ListIn.nil _ _ _ _,zL _,by omega,grown_set _ _ _ _⟩|exact⟨rfl,_,0,box_set1 HX.out _,ListIn.nil _ _ _ _,zL _,by omega,grown_set _ _ _ _⟩
   ·have hc3:1 < c:=by omega
    go_wp2_with fail;go_ret;rw[HM.out];exact⟨_,c - 1,rfl,box_set1 HX.out _,list_set HT.out hF _ _,by show r.length≤c - 1;omega,by omega,grown_set _ _ _ _⟩
set_option maxHeartbeats 200000
set_option maxRecDepth 512
theorem flag_grow {w a b:World}{g bl:Nat}(h:w.grownBy a (some g)) (k:a.grownBy b (some bl)) (hbl:w.heap.size≤bl):w.grownBy b (some g):=
 ⟨k.os.trans h.os,k.tape.trans h.tape,k.output.trans h.output,lT h.size k.size,fun i hi hr=>(k.block i (lL hi h.size) (fun e=>by have:=Option.some.inj e;omega)).trans (h.block i hi hr)⟩
def sLose:ByteArray:=⟨#[108,111,115,101]⟩
def sDeaf:ByteArray:=⟨#[100,101,97,102]⟩
def sTwice:ByteArray:=⟨#[116,119,105,99,101]⟩
def fl1 (l:List ByteArray):Bool × List ByteArray:=takeB sLose l
def fl2 (l:List ByteArray):Bool × List ByteArray:=takeB sDeaf (fl1 l).2
def fl3 (l:List ByteArray):Bool × List ByteArray:=takeB sTwice (fl2 l).2
set_option maxHeartbeats 4000000
set_option maxRecDepth 100000
theorem flags_any {F:Nat→Prop}{A:Option Addr}{c g:Nat}{l:List ByteArray}{t:TypeId}{cs:Array Value}{w:World}(h:ListIn Value.string F w A l) (hc:l.length≤c) (hc2:c≤1000000) (hX:Box w g t cs) (hcs:cs.size=12) (hF:¬ F g) (hF2:∀ i,F i→i < w.heap.size) :
  Calls pG 55 #[vP (some ⟨g,0,none⟩),vS A l.length c] w fun e w'=>e=.returned (vB (((fl3 l).2.length:Int)==0))∧Box w' g t (((cs.setIfInBounds 8 (vB (fl1 l).1)).setIfInBounds 9 (vB (fl2 l).1)).setIfInBounds 10 (vB (fl3 l).1))∧w.grownBy w' (some g):=by
 have hg:=hX.lt;have hb1:Below w.heap.size w (w.alloc (.cells #[vS A l.length c] 22)):=(bR _ _).alloc (lR _) _;have hY1:=Box.new w 22 #[vS A l.length c];have hX1:=hX.alloc (.cells #[vS A l.length c] 22);have hL1:=h.agree (Agree.of_below hb1 hF2);have hnF:¬ F w.heap.size:=fun e=>by have:=hF2 _ e;omega
 have hne:some g≠some w.heap.size:=fun e=>by have:=Option.some.inj e;omega
 have HC1:=hide (fclos_any (s:=sLose) hL1 hc hc2 hY1 hnF);have HX1:=hide hX1;have HG1:=hide (grown_of_below hb1 (some g));clear h hX hb1 hY1 hX1 hL1;go_enter Tryz.func55,Tryz.ntmps55;have e8:∃ u,cs[8]? = some u:=⟨_,Array.getElem?_eq_getElem (by omega)⟩;have e9:∃ u,cs[9]? = some u:=⟨_,Array.getElem?_eq_getElem (by omega)⟩;have e10:∃ u,cs[10]? = some u:=⟨_,Array.getElem?_eq_getElem (by omega)⟩;obtain⟨u8,e8⟩:=e8;obtain⟨u9,e9⟩:=e9;obtain⟨u10,e10⟩:=e10;go_upto_region 2 with (fail);go_wp2_with fail;refine HC1.out.mono ?_;rintro e wa0 ⟨A2,c2,rfl,hY,hL,hcl0,hcm0,hgr⟩;have hXa:=HX1.out.grown hgr hne;have x0:=hXa.cell 8;have xf:=hXa.frozen 8;rw[e8]at x0;obtain⟨wb0,hwb0⟩:∃ q,wa0.setCell ⟨g,8,none⟩ (vB (fl1 l).1)=q:=⟨_,rfl⟩;have hXb:=hXa.set 8 (vB (fl1 l).1);have hYb:=hY.far (p:=⟨g,8,none⟩) (fun e=>hne (congrArg some e.symm)) (vB (fl1 l).1);have hLb:=list_set hL hF 8 (vB (fl1 l).1);have hgb:=grown_set wa0 g 8 (vB (fl1 l).1);rw[hwb0]at hXb hYb hLb hgb;have HC2:=hide (fclos_any (s:=sDeaf) hLb hcl0 hcm0 hYb hnF);have HX2:=hide hXb;have HGa0:=hide hgr;have HG2:=hide (grown_trans (flag_grow HG1.out hgr (by omega)) hgb);have HWb0:=hide hwb0;clear hY hL hgr hXa hXb hYb hLb hgb hwb0;go_upto_region 3 with (fail);rw[show wa0.setCell ⟨g,8,none⟩ (vB (takeB sLose l).1)=wb0 from HWb0.out];go_wp2_with fail;refine HC2.out.mono ?_;rintro e wa1 ⟨A3,c3,rfl,hY,hL,hcl1,hcm1,hgr⟩;have hXa:=HX2.out.grown hgr hne;have x0:=hXa.cell 9;have xf:=hXa.frozen 9;rw[Array.getElem?_setIfInBounds_ne (by decide),e9]at x0;obtain⟨wb1,hwb1⟩:∃ q,wa1.setCell ⟨g,9,none⟩ (vB (fl2 l).1)=q:=⟨_,rfl⟩;have hXb:=hXa.set 9 (vB (fl2 l).1);have hYb:=hY.far (p:=⟨g,9,none⟩) (fun e=>hne (congrArg some e.symm)) (vB (fl2 l).1);have hLb:=list_set hL hF 9 (vB (fl2 l).1);have hgb:=grown_set wa1 g 9 (vB (fl2 l).1);rw[hwb1]at hXb hYb hLb hgb;have HC3:=hide (fclos_any (s:=sTwice) hLb hcl1 hcm1 hYb hnF);have HX3:=hide hXb;have HGa1:=hide hgr;have HG3:=hide (grown_trans (flag_grow HG2.out hgr (by omega)) hgb);have HWb1:=hide hwb1;clear hY hL hgr hXa hXb hYb hLb hgb hwb1;go_upto_region 4 with (fail);rw[show wa1.setCell ⟨g,9,none⟩ (vB (takeB sDeaf (takeB sLose l).2).1)=wb1 from HWb1.out];go_wp2_with fail;refine HC3.out.mono ?_;rintro e wa2 ⟨A4,c4,rfl,hY,hL,hcl2,hcm2,hgr⟩;have hXa:=HX3.out.grown hgr hne;have x0:=hXa.cell 10;have xf:=hXa.frozen 10;rw[Array.getElem?_setIfInBounds_ne (by decide),Array.getElem?_setIfInBounds_ne (by decide),e10]at x0;obtain⟨wb2,hwb2⟩:∃ q,wa2.setCell ⟨g,10,none⟩ (vB (fl3 l).1)=q:=⟨_,rfl⟩;have hXb:=hXa.set 10 (vB (fl3 l).1);have hYb:=hY.far (p:=⟨g,10,none⟩) (fun e=>hne (congrArg some e.symm)) (vB (fl3 l).1);have hLb:=list_set hL hF 10 (vB (fl3 l).1);have hgb:=grown_set wa2 g 10 (vB (fl3 l).1);rw[hwb2]at hXb hYb hLb hgb;have HX5:=hide hXb;have HY5:=hide hYb;have HGa2:=hide hgr;have HG4:=hide (grown_trans (flag_grow HG3.out hgr (by omega)) hgb);have HWb2:=hide hwb2;clear hY hL hgr hXa hXb hYb hLb hgb hwb2;go_upto_region 5 with (fail);rw[show wa2.setCell ⟨g,10,none⟩ (vB (takeB sTwice (takeB sDeaf (takeB sLose l).2).2).1)=wb2 from HWb2.out];have y0:=HY5.out.cell 0;simp at y0;go_wp2_with fail;go_ret;exact⟨rfl,HX5.out,HG4.out⟩
end
end Go.Proofs.YtnndaemmgbkjbaaGreatDoor
