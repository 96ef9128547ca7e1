/-
  parts of the proof: PlainR R45R0 R45S0 R45T0 R45U0 PrtC0.
-/
import Derived.Lib.ItoaMem
import Derived.Lib.ItoaLen
import Derived.Lib.LaidTab
import Derived.Test.YtnndaemmgbkjbaaGreatDoorPS
import Derived.Test.YtnndaemmgbkjbaaGreatDoorPK
import Derived.Test.YtnndaemmgbkjbaaGreatDoorPB
import Derived.Test.YtnndaemmgbkjbaaGreatDoorPA
namespace Go.Proofs.YtnndaemmgbkjbaaGreatDoor
open Go.RowKit
open Nat renaming le_refl → lR, zero_le → zL
open Go.RowKit.Below renaming refl → bR
open _root_.Go.Proofs.Tryz renaming prog → pG
open Go.Value renaming string → vT
set_option linter.unusedVariables false
set_option linter.unusedSimpArgs false
section
theorem snoc_ind {P:List UInt8→Prop}(h0:P []) (h1:∀ l b,P l→P (l ++ [b])) (l:List UInt8):P l:=by
 have h:∀ r:List UInt8,P r.reverse:=fun r=>by
  induction r with
  |nil=>exact h0
  |cons b r ih=>rw[List.reverse_cons];exact h1 _ _ ih
 have:=h l.reverse;rwa [List.reverse_reverse]at this
theorem toList_inj {s t:ByteArray}(h:s.toList=t.toList):s=t:=by
 rw[Lib.toList_data,Lib.toList_data]at h;exact ByteArray.ext (Array.toList_inj.1 h)
theorem of_toList {s:ByteArray}{l:List UInt8}(h:s.toList=l):s=bOf l:=by
 rw[Lib.toList_data]at h;subst h;rfl
theorem join_cons2 (x:List UInt8) {r:List (List UInt8)}(h:r≠[]):Lib.join (x :: r) [32]=x ++ 32 :: Lib.join r [32]:=by
 cases r with
 |nil=>exact absurd rfl h
 |cons y r=>rw[Lib.join_cons,Lib.join_cons];simp[Lib.joinTail]
theorem wl_ne (cur s:List UInt8):wl cur s≠[]:=by
 cases s with
 |nil=>simp[wl]
 |cons b t=>
  unfold wl;split
  ·simp
  ·exact wl_ne _ t
theorem join_wl:∀ (s cur:List UInt8),Lib.join (wl cur s) [32]=cur ++ s
 | [],cur=>by simp[wl,Lib.join_one]
 |b :: t,cur=>by
  by_cases h:b=32
  ·subst h;rw[wl,if_pos rfl,join_cons2 _ (wl_ne _ _),join_wl t];rfl
  ·rw[wl,if_neg h,join_wl t];simp
theorem map_bOf_data (l:List (List UInt8)):(l.map bOf).map (·.data.toList)=l:=by
 rw[List.map_map];conv=>rhs;rw[← List.map_id l]
 rfl
theorem splitW_wl (s:ByteArray):splitW s=(wl [] s.data.toList).map bOf:=by rw[← wordsL_splitW,wordsL_wl]
theorem joinS_splitW (s:ByteArray):joinS (splitW s)=s:=by
 unfold joinS;rw[splitW_wl,map_bOf_data,join_wl];rfl
theorem dig_of {b:UInt8}(h:isDig b=true):48≤b.toNat∧b.toNat≤57:=by
 unfold isDig at h;simpa using h
theorem decVal_nonneg:∀ (l:List UInt8),l.all isDig=true→0≤decVal l:=by
 intro l;induction l using snoc_ind with
 |h0=>intro _;exact Int.le_refl _
 |h1 l b ih=>intro h;rw[List.all_append]at h;simp only[Bool.and_eq_true,List.all_cons,List.all_nil,Bool.and_true]at h;have:=ih h.1;have:=dig_of h.2;rw[decVal_snoc];omega
theorem decVal_pos:∀ (l:List UInt8),l.all isDig=true→l≠[]→l.head? ≠ some 48→0 < decVal l:=by
 intro l;induction l using snoc_ind with
 |h0=>intro _ h _;exact absurd rfl h
 |h1 l b ih=>
  intro h _ h0;rw[List.all_append]at h;simp only[Bool.and_eq_true,List.all_cons,List.all_nil,Bool.and_true]at h;have hb:=dig_of h.2;rw[decVal_snoc];by_cases hl:l=[]
  ·subst hl;have hne:b.toNat≠48:=fun e=>h0 (by
    simp only[List.nil_append,List.head?_cons,Option.some.injEq];exact UInt8.toNat_inj.1 e)
   show 0 < 10 * (0:Int)+_;omega
  ·have:=ih h.1 hl (fun e=>h0 (by rw[List.head?_append,e];rfl));omega
theorem decVal_lt (l:List UInt8):l.all isDig=true→decVal l < 10 ^ l.length:=by
 induction l using snoc_ind with
 |h0=>intro _;decide
 |h1 l b ih=>intro h;rw[List.all_append]at h;simp only[Bool.and_eq_true,List.all_cons,List.all_nil,Bool.and_true]at h;have:=ih h.1;have:=dig_of h.2;rw[decVal_snoc,List.length_append,List.length_singleton,Int.pow_succ];omega
theorem itoa_dec:∀ (l:List UInt8),l.all isDig=true→l≠[]→¬ (l.head? = some 48∧1 < l.length)→Lib.decDigits (decVal l).toNat=l:=by
 intro l;induction l using snoc_ind with
 |h0=>intro _ h _;exact absurd rfl h
 |h1 l b ih=>
  intro h _ h0;have h2:=h;rw[List.all_append]at h2;simp only[Bool.and_eq_true,List.all_cons,List.all_nil,Bool.and_true]at h2;have hb:=dig_of h2.2;have eb:UInt8.ofNat (48+(b.toNat - 48))=b:=by rw[show 48+(b.toNat - 48)=b.toNat by omega];exact UInt8.ofNat_toNat
  rw[decVal_snoc];by_cases hl:l=[]
  ·subst hl;have e:(10 * decVal []+((b.toNat:Int) - 48)).toNat=b.toNat - 48:=by show (10 * (0:Int)+_).toNat=_;omega
   rw[e,Lib.decDigits,dif_pos (by omega),eb];rfl
  ·have h3:l.head? ≠ some 48:=fun e=>h0 ⟨by rw[List.head?_append,e];rfl,by
    have:=List.length_pos_iff.2 hl;rw[List.length_append,List.length_singleton];omega⟩
   have hp:=decVal_pos l h2.1 hl h3;have e1:(10 * decVal l+((b.toNat:Int) - 48)).toNat / 10=(decVal l).toNat:=by omega
   have e2:(10 * decVal l+((b.toNat:Int) - 48)).toNat % 10=b.toNat - 48:=by omega
   rw[Lib.decDigits,dif_neg (by omega),e1,e2,eb,ih h2.1 hl (fun q=>h3 q.1)]
theorem numOk_parts {l:List UInt8}(h:numOk l=true):l≠[]∧l.length≤6∧¬ (l.head? = some 48∧1 < l.length)∧l.all isDig=true:=by
 unfold numOk at h;simp only[Bool.and_eq_true,decide_eq_true_eq,Bool.not_eq_true',Bool.and_eq_false_iff,decide_eq_false_iff_not]at h;exact⟨h.1.1.1,h.1.1.2,(fun q=>h.1.2.elim (fun e=>e q.1) (fun e=>e q.2)),h.2⟩
def numIn (n:Int):Prop:=0≤n∧n < 1000000
theorem numV_in {s:ByteArray}(h:(numV s).2=true):numIn (numV s).1∧itS (numV s).1=s:=by
 unfold numV at h ⊢;by_cases hk:numOk s.data.toList=true
 ·rw[if_pos hk]at h ⊢;obtain⟨h1,h2,h3,h4⟩:=numOk_parts hk;have h5:=decVal_nonneg _ h4;have h6:=decVal_lt _ h4;have h7:(10:Int) ^ s.data.toList.length≤10 ^ 6:=by have:(10:Nat) ^ s.data.toList.length≤10 ^ 6:=Nat.pow_le_pow_right (by decide) h2;exact_mod_cast this
  have h8:=itoa_dec _ h4 h1 h3;refine⟨⟨h5,by omega⟩,?_⟩;show itS (decVal s.data.toList)=s;unfold itS;obtain⟨k,hk⟩:∃ k:Nat,decVal s.data.toList=(k:Int):=⟨(decVal s.data.toList).toNat,by omega⟩;rw[hk]at h8 ⊢;rw[Lib.itoa_nonneg,show k=((k:Int)).toNat from rfl,h8]
 ·rw[if_neg hk]at h;cases h
theorem numsV_parts {l:List ByteArray}(h:(numsV l).2=true):(numsV l).1=l.map (fun s=>(numV s).1)∧(∀ s ∈ l,(numV s).2=true):=by
 unfold numsV at h ⊢;by_cases hk:l.all (fun s=>(numV s).2)=true
 ·rw[if_pos hk]at h ⊢;exact⟨rfl,List.all_eq_true.1 hk⟩
 ·rw[if_neg hk]at h;cases h
theorem numsV_in {l:List ByteArray}(h:(numsV l).2=true):(∀ n ∈ (numsV l).1,numIn n)∧(numsV l).1.map itS=l∧(numsV l).1.length=l.length:=by
 obtain⟨e,ha⟩:=numsV_parts h;rw[e];refine⟨fun n hn=>?_,?_,List.length_map ..⟩
 ·obtain⟨s,hs,rfl⟩:=List.mem_map.1 hn;exact(numV_in (ha s hs)).1
 ·rw[List.map_map];conv=>rhs;rw[← List.map_id l]
  exact List.map_congr_left fun s hs=>(numV_in (ha s hs)).2
theorem findIdx_get {α:Type} [Inhabited α] {l:List α}{p:α→Bool}(h:l.findIdx p < l.length):p (l.getD (l.findIdx p) default)=true:=by
 rw[List.getD_eq_getElem?_getD,List.getElem?_eq_getElem h];exact List.findIdx_getElem
theorem idxN_in {P:List ByteArray}{s:ByteArray}(h:0≤idxN P s):idxN P s < P.length∧nameV P (idxN P s)=s:=by
 have hle:=List.findIdx_le_length (xs:=P) (p:=fun n=>(escS n).toList==s.toList);unfold idxN at h ⊢;split at h
 ·omega
 ·rename_i hne;rw[if_neg hne];have hlt:P.findIdx (fun n=>(escS n).toList==s.toList) < P.length:=by omega
  refine⟨by omega,?_⟩;have hg:=findIdx_get hlt;unfold nameV;rw[if_neg (by omega)];exact toList_inj (beq_iff_eq.1 hg)
theorem posS_in {l:List ByteArray}{s:ByteArray}{k:Nat}(h:posS l s=k):k < l.length∧l.getD k default=s:=by
 unfold posS at h;split at h
 ·rename_i hlt;obtain rfl:l.findIdx (fun x=>decide (x=s))=k:=by omega
  exact⟨hlt,of_decide_eq_true (findIdx_get (l:=l) (p:=fun x=>decide (x=s)) hlt)⟩
 ·omega
theorem lie_name {c:ByteArray}(h:1≤posS liesL c):posS liesL c < 5∧nameV liesL (posS liesL c)=c:=by
 have hb:=(posS_bd liesL c).2;have hb:posS liesL c < 5:=hb;obtain⟨k,hk⟩:∃ k:Nat,posS liesL c=(k:Int):=⟨(posS liesL c).toNat,by omega⟩;obtain⟨h1,h2⟩:=posS_in hk;rw[hk];refine⟨by omega,?_⟩;rw[← h2];rcases (show k=1∨k=2∨k=3∨k=4 by omega) with rfl|rfl|rfl|rfl <;> decide +kernel
def chB (x:Bool):UInt8:=if x then 49 else 48
def choicesS (l:List Bool):ByteArray:=if l=[] then bOf [45] else bOf (l.map chB)
theorem ch_bit {b:UInt8}(h:isBit b=true):chB (bitB b)=b:=by
 unfold isBit at h;unfold chB bitB;simp only[Bool.or_eq_true,decide_eq_true_eq]at h;rcases h with h|h
 ·rw[decide_eq_false (by omega)];exact(UInt8.toNat_inj.1 h).symm
 ·rw[decide_eq_true h];exact(UInt8.toNat_inj.1 h).symm
theorem bitsV_in {s:ByteArray}(h:(bitsV s).2=true):choicesS (bitsV s).1=s∧(bitsV s).1.length≤s.size:=by
 unfold bitsV at h ⊢;by_cases h1:(s.toList==[45])=true
 ·rw[if_pos h1];exact⟨(of_toList (beq_iff_eq.1 h1)).symm,zL _⟩
 ·rw[if_neg h1]at h ⊢;by_cases h2:s.data.toList.all isBit=true
  ·rw[if_pos h2]at h ⊢;refine⟨?_,by rw[List.length_map];exact lR _⟩;unfold choicesS;rw[if_neg (fun e=>by
    rw[List.map_eq_nil_iff]at e;rw[Lib.toList_data,e]at h;cases h),List.map_map]
   have:s.data.toList.map (chB ∘ bitB)=s.data.toList:=by
    conv=>rhs;rw[← List.map_id s.data.toList]
    exact List.map_congr_left fun b hb=>ch_bit (List.all_eq_true.1 h2 b hb)
   rw[this];rfl
  ·rw[if_neg h2]at h;cases h
def flagW (a b c:Bool):List ByteArray:=(if a then [sLose] else []) ++ ((if b then [sDeaf] else []) ++ (if c then [sTwice] else []))
theorem flagAll_at {s:ByteArray}{k:Nat}(h:posS flagAll s=k):k < 3∧flagAll.getD k default=s:=posS_in h
theorem fl_2 {a b c a' b' c':Bool}{t:List ByteArray}(h:flF 2 a b c t=some (a',b',c')):t=[]∧a=a'∧b=b'∧c=c':=by
 cases t with
 |nil=>have h:some (a,b,c)=some (a',b',c'):=h;injection h with h;injection h with h1 h;injection h with h2 h3;exact⟨rfl,h1,h2,h3⟩
 |cons s t=>have hb:=(posS_bd flagAll s).2;have hb:posS flagAll s < 3:=hb;rw[flF,if_pos (by omega)]at h;cases h
theorem fl_1 {a b a' b' c':Bool}{t:List ByteArray}(h:flF 1 a b false t=some (a',b',c')):t=(if c' then [sTwice] else [])∧a=a'∧b=b':=by
 cases t with
 |nil=>have h:some (a,b,false)=some (a',b',c'):=h;injection h with h;injection h with h1 h;injection h with h2 h3;exact⟨by rw[← h3];rfl,h1,h2⟩
 |cons s t=>
  have hb:posS flagAll s < 3:=(posS_bd flagAll s).2;rw[flF]at h;by_cases hp:posS flagAll s≤1
  ·rw[if_pos hp]at h;cases h
  ·have hp2:posS flagAll s=((2:Nat):Int):=by omega
   rw[if_neg hp,hp2]at h;obtain⟨rfl,h1,h2,h3⟩:=fl_2 h;have e:=(flagAll_at hp2).2;refine⟨?_,by simpa using h1,by simpa using h2⟩;rw[← h3,← e];rfl
theorem fl_0 {a a' b' c':Bool}{t:List ByteArray}(h:flF 0 a false false t=some (a',b',c')):t=(if b' then [sDeaf] else []) ++ (if c' then [sTwice] else [])∧a=a':=by
 cases t with
 |nil=>have h:some (a,false,false)=some (a',b',c'):=h;injection h with h;injection h with h1 h;injection h with h2 h3;exact⟨by rw[← h2,← h3];rfl,h1⟩
 |cons s t=>
  have hb:posS flagAll s < 3:=(posS_bd flagAll s).2;rw[flF]at h;by_cases hp:posS flagAll s≤0
  ·rw[if_pos hp]at h;cases h
  ·rw[if_neg hp]at h;rcases (show posS flagAll s=((1:Nat):Int)∨posS flagAll s=((2:Nat):Int) by omega) with hp2|hp2
   ·rw[hp2]at h;obtain⟨rfl,h1,h2⟩:=fl_1 h;have e:=(flagAll_at hp2).2;refine⟨?_,by simpa using h1⟩;rw[← h2,← e];rfl
   ·rw[hp2]at h;obtain⟨rfl,h1,h2,h3⟩:=fl_2 h;have e:=(flagAll_at hp2).2;refine⟨?_,by simpa using h1⟩;rw[← h2,← h3,← e];rfl
theorem fl_all {a' b' c':Bool}{t:List ByteArray}(h:flF (-1) false false false t=some (a',b',c')):t=flagW a' b' c':=by
 unfold flagW;cases t with
 |nil=>have h:some (false,false,false)=some (a',b',c'):=h;injection h with h;injection h with h1 h;injection h with h2 h3;rw[← h1,← h2,← h3];rfl
 |cons s t=>
  have hb:posS flagAll s < 3:=(posS_bd flagAll s).2;rw[flF]at h;by_cases hp:posS flagAll s≤-1
  ·rw[if_pos hp]at h;cases h
  ·rw[if_neg hp]at h;rcases (show posS flagAll s=((0:Nat):Int)∨posS flagAll s=((1:Nat):Int)∨posS flagAll s=((2:Nat):Int) by omega) with hp2|hp2|hp2
   ·rw[hp2]at h;obtain⟨rfl,h1⟩:=fl_0 h;have e:=(flagAll_at hp2).2;rw[← h1,← e];rfl
   ·rw[hp2]at h;obtain⟨rfl,h1,h2⟩:=fl_1 h;have e:=(flagAll_at hp2).2;rw[← h1,← h2,← e];rfl
   ·rw[hp2]at h;obtain⟨rfl,h1,h2,h3⟩:=fl_2 h;have e:=(flagAll_at hp2).2;rw[← h1,← h2,← h3,← e];rfl
theorem flagsR_in {t:List ByteArray}(h:(flagsR t).2=true):∃ a b c,(flagsR t).1=opF a b c∧t=flagW a b c:=by
 unfold flagsR at h ⊢;cases hf:flF (-1) false false false t with
 |none=>rw[hf]at h;cases h
 |some q=>obtain⟨a,b,c⟩:=q;exact⟨a,b,c,rfl,fl_all hf⟩
def wordsG (nm:List ByteArray→Int→ByteArray) (it:Int→ByteArray) (P C:List ByteArray) (o:Opn):List ByteArray:=
 if o.kind=1 then [sIssue,nm P o.prec] ++ o.marks.map it
 else if o.kind=2 then [bOf wSpoil,nm P o.prec]
 else if o.kind=3 then [bOf wFeed,it o.scan,it o.n]
 else if o.kind=4 then [bOf wFuse,it o.scan,it o.n]
 else if o.kind=5 then [bOf wRestart,it o.scan,choicesS o.keep]
 else if o.kind=6 then (if o.n=1 then [bOf wFinal,it o.scan] else [bOf wClose,it o.scan])
 else if o.kind=7 then [bOf wSend,it o.scan] ++ flagW o.lose o.deaf o.twice
 else if o.kind=8 then [bOf wLie,it o.scan,it o.n,nm liesL o.lie]
 else if o.kind=9 then [bOf wVanish,it o.n]
 else if o.kind=10 then [bOf wCount]
 else if o.kind=11 then [bOf [115,101,101,100],o.text]
 else if o.kind=12 then [bOf wAudit,nm C o.cont,it o.n]
 else if o.kind=13 then [bOf wFinish]
 else []
structure Good (P C:List ByteArray) (o:Opn):Prop where
 scan:numIn o.scan
 n:numIn o.n
 marks:∀ m ∈ o.marks,numIn m
 prec:o.kind=1∨o.kind=2→0≤o.prec∧o.prec < P.length
 cont:o.kind=12→0≤o.cont∧o.cont < C.length
 lie:o.kind=8→0≤o.lie∧o.lie < 5
 ml:o.marks.length≤200
 kl:o.keep.length≤200
 tl:o.text.size≤200
theorem in0:numIn 0:=⟨by decide,by decide⟩
theorem in1:numIn 1:=⟨by decide,by decide⟩
theorem inD {l:List Int}(h:∀ n ∈ l,numIn n) (k:Nat):numIn (l.getD k 0):=by
 rw[List.getD_eq_getElem?_getD];by_cases hk:k < l.length
 ·rw[List.getElem?_eq_getElem hk];exact h _ (List.getElem_mem _)
 ·rw[List.getElem?_eq_none (by omega)];exact in0
theorem good0 (P C:List ByteArray) {k:Int}(h1:k≠1) (h2:k≠2) (h8:k≠8) (h12:k≠12) {s n:Int}(hs:numIn s) (hn:numIn n) (a b c:Bool):Good P C { zeroO with kind:=k,scan:=s,n:=n,lose:=a,deaf:=b,twice:=c }:=
 ⟨hs,hn,(fun _ h=>by cases h),(fun h=>h.elim (fun e=>absurd e h1) (fun e=>absurd e h2)),(fun h=>absurd h h12),(fun h=>absurd h h8),zL _,zL _,zL _⟩
def Back (P C:List ByteArray) (x:ByteArray) (r:List ByteArray) (o:Opn):Prop:=Good P C o∧wordsG nameV itS P C o=x :: r
theorem two_at {l:List Int}(h:l.length=2):l=[l.getD 0 0,l.getD 1 0]:=by
 match l,h with
 | [a,b],_=>rfl
theorem one_at {l:List Int}(h:l.length=1):l=[l.getD 0 0]:=by
 match l,h with
 | [a],_=>rfl
theorem two_back {P C:List ByteArray}{x:ByteArray}{r:List ByteArray}{k:Int}{o:Opn}{w:List UInt8}(hx:x.toList=w) (h:twoV k r=some o) (hk:k=3∧w=wFeed∨k=4∧w=wFuse):Back P C x r o:=by
 unfold twoV at h;by_cases hc:(numsV r).2=true∧(numsV r).1.length=2
 ·rw[if_pos hc]at h;injection h with h;obtain⟨hi,hm,_⟩:=numsV_in hc.1;have hr:r=[itS ((numsV r).1.getD 0 0),itS ((numsV r).1.getD 1 0)]:=by
   conv=>lhs;rw[← hm,two_at hc.2]
   rfl
  have hxe:=of_toList hx;subst h;rcases hk with ⟨rfl,rfl⟩|⟨rfl,rfl⟩
  ·exact⟨good0 P C (by decide) (by decide) (by decide) (by decide) (inD hi 0) (inD hi 1) false false false,by
    conv=>rhs;rw[hr,hxe]
    rfl⟩
  ·exact⟨good0 P C (by decide) (by decide) (by decide) (by decide) (inD hi 0) (inD hi 1) false false false,by
    conv=>rhs;rw[hr,hxe]
    rfl⟩
 ·rw[if_neg hc]at h;cases h
theorem one_back {r:List ByteArray}{f:Int→Opn}{o:Opn}(h:oneV r f=some o):∃ n,numIn n∧r=[itS n]∧o=f n∧numsV r=([n],true):=by
 unfold oneV at h;by_cases hc:(numsV r).2=true∧(numsV r).1.length=1
 ·rw[if_pos hc]at h;injection h with h;obtain⟨hi,hm,_⟩:=numsV_in hc.1;refine⟨(numsV r).1.getD 0 0,inD hi 0,?_,h.symm,?_⟩
  ·conv=>lhs;rw[← hm,one_at hc.2]
   rfl
  ·rw[← one_at hc.2,← hc.1]
 ·rw[if_neg hc]at h;cases h
theorem some_back {P C:List ByteArray}{x:ByteArray}{r:List ByteArray}{o:Opn}(h:someV P C x r=some o) (hr:r.length≤200) (hs:∀ s ∈ r,s.size≤200):Back P C x r o:=by
 unfold someV at h;by_cases h1:x.toList=wIssue
 ·rw[if_pos h1]at h;cases r with
  |nil=>cases h
  |cons s t=>
   simp only[]at h;by_cases hc:(numsV t).2=true∧0≤idxN P s
   ·rw[if_pos hc]at h;injection h with h;obtain⟨hi,hm,hl⟩:=numsV_in hc.1;obtain⟨h2,h3⟩:=idxN_in hc.2;subst h;refine⟨⟨in0,in0,hi,fun _=>⟨hc.2,h2⟩,(fun e=>by cases e),(fun e=>by cases e),by show (numsV t).1.length≤200;rw[hl];simp at hr;omega,zL _,zL _⟩,?_⟩;show [sIssue,nameV P (idxN P s)] ++ (numsV t).1.map itS=x :: s :: t;rw[h3,hm,of_toList h1];rfl
   ·rw[if_neg hc]at h;cases h
 rw[if_neg h1]at h;by_cases h2:x.toList=wSpoil
 ·rw[if_pos h2]at h;match r,h with
  | [s],h=>
   simp only[]at h;by_cases hc:0≤idxN P s
   ·rw[if_pos hc]at h;injection h with h;obtain⟨h4,h3⟩:=idxN_in hc;subst h;refine⟨⟨in0,in0,(fun _ h=>by cases h),fun _=>⟨hc,h4⟩,(fun e=>by cases e),(fun e=>by cases e),zL _,zL _,zL _⟩,?_⟩;show [bOf wSpoil,nameV P (idxN P s)]=[x,s];rw[h3,of_toList h2]
   ·rw[if_neg hc]at h;cases h
 rw[if_neg h2]at h;by_cases h3:x.toList=wAudit
 ·rw[if_pos h3]at h;cases r with
  |nil=>cases h
  |cons s t=>
   simp only[]at h;by_cases hc:(numsV t).2=true∧(numsV t).1.length=1∧0≤idxN C s
   ·rw[if_pos hc]at h;injection h with h;obtain⟨hi,hm,hl⟩:=numsV_in hc.1;obtain⟨h4,h5⟩:=idxN_in hc.2.2;subst h;refine⟨⟨in0,inD hi 0,(fun _ h=>by cases h),(fun e=>by rcases e with e|e <;> cases e),fun _=>⟨hc.2.2,h4⟩,(fun e=>by cases e),zL _,zL _,zL _⟩,?_⟩;have ht:t=[itS ((numsV t).1.getD 0 0)]:=by
     conv=>lhs;rw[← hm,one_at hc.2.1]
     rfl
    show [bOf wAudit,nameV C (idxN C s),itS ((numsV t).1.getD 0 0)]=x :: s :: t;conv=>rhs;rw[ht,of_toList h3]
    rw[h5]
   ·rw[if_neg hc]at h;cases h
 rw[if_neg h3]at h;by_cases h4:x.toList=wFeed
 ·rw[if_pos h4]at h;exact two_back h4 h (.inl ⟨rfl,rfl⟩)
 rw[if_neg h4]at h;by_cases h5:x.toList=wFuse
 ·rw[if_pos h5]at h;exact two_back h5 h (.inr ⟨rfl,rfl⟩)
 rw[if_neg h5]at h;by_cases h6:x.toList=wClose
 ·rw[if_pos h6]at h;obtain⟨n,hn,rfl,rfl,_⟩:=one_back h;refine⟨good0 P C (by decide) (by decide) (by decide) (by decide) hn in0 false false false,?_⟩;rw[of_toList h6];rfl
 rw[if_neg h6]at h;by_cases h7:x.toList=wFinal
 ·rw[if_pos h7]at h;obtain⟨n,hn,rfl,rfl,_⟩:=one_back h;refine⟨good0 P C (by decide) (by decide) (by decide) (by decide) hn in1 false false false,?_⟩;rw[of_toList h7];rfl
 rw[if_neg h7]at h;by_cases h8:x.toList=wVanish
 ·rw[if_pos h8]at h;obtain⟨n,hn,rfl,rfl,_⟩:=one_back h;refine⟨good0 P C (by decide) (by decide) (by decide) (by decide) in0 hn false false false,?_⟩;rw[of_toList h8];rfl
 rw[if_neg h8]at h;by_cases h9:x.toList=wRestart
 ·rw[if_pos h9]at h;match r,h with
  | [a,b],h=>
   simp only[]at h;by_cases hc:(numsV [a]).2=true∧(bitsV b).2=true
   ·rw[if_pos hc]at h;injection h with h;obtain⟨hi,hm,hl⟩:=numsV_in hc.1;obtain⟨hb1,hb2⟩:=bitsV_in hc.2;have hbs:=hs b (by simp);subst h;refine⟨⟨inD hi 0,in0,(fun _ h=>by cases h),(fun e=>by rcases e with e|e <;> cases e),(fun e=>by cases e),(fun e=>by cases e),zL _,by show (bitsV b).1.length≤200;omega,zL _⟩,?_⟩;have ha:[a]=[itS ((numsV [a]).1.getD 0 0)]:=by
     conv=>lhs;rw[← hm,one_at (l:=(numsV [a]).1) (by rw[hl];rfl)]
     rfl
    have ha:=List.head_eq_of_cons_eq ha;show [bOf wRestart,itS ((numsV [a]).1.getD 0 0),choicesS (bitsV b).1]=[x,a,b];rw[hb1,← ha,of_toList h9]
   ·rw[if_neg hc]at h;cases h
 rw[if_neg h9]at h;by_cases h10:x.toList=wSend
 ·rw[if_pos h10]at h;cases r with
  |nil=>cases h
  |cons a t=>
   simp only[]at h;by_cases hc:(numsV [a]).2=true∧(flagsR t).2=true
   ·rw[if_pos hc]at h;injection h with h;obtain⟨hi,hm,hl⟩:=numsV_in hc.1;obtain⟨f1,f2,f3,hf,ht⟩:=flagsR_in hc.2;subst h;rw[hf];have ha:[a]=[itS ((numsV [a]).1.getD 0 0)]:=by
     conv=>lhs;rw[← hm,one_at (l:=(numsV [a]).1) (by rw[hl];rfl)]
     rfl
    have ha:=List.head_eq_of_cons_eq ha;refine⟨good0 P C (by decide) (by decide) (by decide) (by decide) (inD hi 0) in0 f1 f2 f3,?_⟩;show [bOf wSend,itS ((numsV [a]).1.getD 0 0)] ++ flagW f1 f2 f3=x :: a :: t;rw[← ht,← ha,of_toList h10];rfl
   ·rw[if_neg hc]at h;cases h
 rw[if_neg h10]at h;by_cases h11:x.toList=wLie
 ·rw[if_pos h11]at h;match r,h with
  | [a,b,c],h=>
   simp only[]at h;by_cases hc:(numsV [a,b]).2=true∧1≤posS liesL c
   ·rw[if_pos hc]at h;injection h with h;obtain⟨hi,hm,hl⟩:=numsV_in hc.1;obtain⟨hb1,hb2⟩:=lie_name hc.2;subst h;refine⟨⟨inD hi 0,inD hi 1,(fun _ h=>by cases h),(fun e=>by rcases e with e|e <;> cases e),(fun e=>by cases e),(fun e=>⟨by have:=hc.2;show 0≤posS liesL c;omega,hb1⟩),zL _,zL _,zL _⟩,?_⟩;have ha:[a,b]=[itS ((numsV [a,b]).1.getD 0 0),itS ((numsV [a,b]).1.getD 1 0)]:=by
     conv=>lhs;rw[← hm,two_at (l:=(numsV [a,b]).1) (by rw[hl];rfl)]
     rfl
    injection ha with ha1 ha2;injection ha2 with ha2 _;show [bOf wLie,itS ((numsV [a,b]).1.getD 0 0),itS ((numsV [a,b]).1.getD 1 0),nameV liesL (posS liesL c)]=[x,a,b,c];rw[← ha1,← ha2,hb2,of_toList h11]
   ·rw[if_neg hc]at h;cases h
 rw[if_neg h11]at h;by_cases h12:x.toList=wCount
 ·rw[if_pos h12]at h;by_cases hc:r=[]
  ·rw[if_pos hc]at h;injection h with h;subst h hc;refine⟨good0 P C (by decide) (by decide) (by decide) (by decide) in0 in0 false false false,?_⟩;rw[of_toList h12];rfl
  ·rw[if_neg hc]at h;cases h
 rw[if_neg h12]at h;by_cases h13:x.toList=wFinish
 ·rw[if_pos h13]at h;by_cases hc:r=[]
  ·rw[if_pos hc]at h;injection h with h;subst h hc;refine⟨good0 P C (by decide) (by decide) (by decide) (by decide) in0 in0 false false false,?_⟩;rw[of_toList h13];rfl
  ·rw[if_neg hc]at h;cases h
 rw[if_neg h13]at h;cases h
def parseV (P C:List ByteArray) (line:ByteArray):Option Opn:=
 if 200 < line.size then none
 else if Lib.hasPrefix line.data.toList [115,101,101,100,32]=true then
  (if plainS (line.extract 5 line.size)=true then some { zeroO with kind:=11,text:=line.extract 5 line.size } else none)
 else match splitW line with
  | []=>none
  |x :: r=>someV P C x r
theorem prefix_cat {s:ByteArray}(h:Lib.hasPrefix s.data.toList [115,101,101,100,32]=true):s=joinS [bOf [115,101,101,100],s.extract 5 s.size]:=by
 unfold joinS;show s=⟨(Lib.join [[115,101,101,100],(s.extract 5 s.size).data.toList] [32]).toArray⟩;rw[join_cons2 _ (by simp),Lib.join_one];unfold Lib.hasPrefix at h;obtain⟨t,ht⟩:=List.isPrefixOf_iff_prefix.1 h;have e:(s.extract 5 s.size).data.toList=t:=by
  rw[ByteArray.data_extract,Array.toList_extract,← ht];have:s.size=5+t.length:=by show s.data.size=_;rw[← Array.length_toList,← ht];simp;omega
  simp[List.extract,this]
 rw[e];apply ByteArray.ext;apply Array.toList_inj.1;rw[← ht];simp
theorem mem_size {l:List ByteArray}{s:ByteArray}(h:s ∈ l):s.size≤(joinS l).size:=by
 induction l with
 |nil=>cases h
 |cons a t ih=>
  have hc:(joinS (a :: t)).size=(Lib.join (a.data.toList :: t.map (·.data.toList)) [32]).length:=by show (Lib.join _ [32]).toArray.size=_;simp
  have hj:(joinS t).size=(Lib.join (t.map (·.data.toList)) [32]).length:=by show (Lib.join _ [32]).toArray.size=_;simp
  have ha:a.size=a.data.toList.length:=(Array.length_toList).symm;by_cases ht:t=[]
  ·subst ht;rcases List.mem_cons.1 h with rfl|h
   ·rw[hc,List.map_nil,Lib.join_one];omega
   ·cases h
  ·rw[hc,join_cons2 _ (by simpa using ht)];rcases List.mem_cons.1 h with rfl|h
   ·simp
   ·have:=ih h;simp;omega
theorem length_joinS:∀ (l:List ByteArray),l.length≤(joinS l).size+1
 | []=>zL _
 | [a]=>by simp
 |a :: b :: t=>by
  have ih:=length_joinS (b :: t);have hj:(joinS (b :: t)).size=(Lib.join ((b :: t).map (·.data.toList)) [32]).length:=by show (Lib.join _ [32]).toArray.size=_;simp
  have hc:(joinS (a :: b :: t)).size=(Lib.join (a.data.toList :: (b :: t).map (·.data.toList)) [32]).length:=by show (Lib.join _ [32]).toArray.size=_;simp
  rw[hc,join_cons2 _ (by simp)];rw[hj]at ih;simp at ih ⊢;omega
theorem parse_back {P C:List ByteArray}{line:ByteArray}{o:Opn}(h:parseV P C line=some o):Good P C o∧joinS (wordsG nameV itS P C o)=line:=by
 unfold parseV at h;by_cases h1:200 < line.size
 ·rw[if_pos h1]at h;cases h
 rw[if_neg h1]at h;by_cases h2:Lib.hasPrefix line.data.toList [115,101,101,100,32]=true
 ·rw[if_pos h2]at h;by_cases h3:plainS (line.extract 5 line.size)=true
  ·rw[if_pos h3]at h;injection h with h;subst h;refine⟨⟨in0,in0,(fun _ h=>by cases h),(fun e=>by rcases e with e|e <;> cases e),(fun e=>by cases e),(fun e=>by cases e),zL _,zL _,?_⟩,?_⟩
   ·show (line.extract 5 line.size).size≤200;rw[ByteArray.size_extract];omega
   ·exact(prefix_cat h2).symm
  ·rw[if_neg h3]at h;cases h
 ·rw[if_neg h2]at h;have hj:=joinS_splitW line;cases hs:splitW line with
  |nil=>rw[hs]at h;cases h
  |cons x r=>
   rw[hs]at h hj;have hl:=length_joinS (x :: r);rw[hj]at hl;obtain⟨hg,hw⟩:=some_back h (by simp at hl;omega) (fun s hm=>by
    have:=mem_size (l:=x :: r) (s:=s) (List.mem_cons_of_mem _ hm);rw[hj]at this;omega)
   exact⟨hg,by rw[hw,hj]⟩
def atS (l:List ByteArray) (i:Int):ByteArray:=if 0≤i∧i < l.length then escS (l.getD i.toNat default) else ⟨#[63]⟩
def decS (n:Int):ByteArray:=if 0≤n∧n < 1000000 then ⟨(Lib.decDigits n.toNat).toArray⟩ else ⟨#[63]⟩
def cutO (o:Opn):Opn:={ o with marks:=o.marks.take 200,keep:=o.keep.take 200,text:=o.text.extract 0 (min o.text.size 200) }
theorem Good.cut {P C:List ByteArray}{o:Opn}(h:Good P C o):cutO o=o:=by
 unfold cutO;rw[List.take_of_length_le h.ml,List.take_of_length_le h.kl,show min o.text.size 200=o.text.size from Nat.min_eq_left h.tl];have:o.text.extract 0 o.text.size=o.text:=by apply ByteArray.ext;rw[ByteArray.data_extract];exact Array.extract_size
 rw[this]
theorem dec_in {n:Int}(h:numIn n):decS n=itS n:=by
 unfold decS;rw[if_pos (show 0≤n∧n < 1000000 from h)];unfold itS Lib.itoa;rw[if_neg (by have:=h.1;omega)]
theorem at_in {l:List ByteArray}{i:Int}(h:0≤i∧i < l.length):atS l i=nameV l i:=by
 unfold atS nameV;rw[if_pos h,if_neg (by omega)]
theorem Good.same {P C:List ByteArray}{o:Opn}(h:Good P C o):wordsG atS decS P C (cutO o)=wordsG nameV itS P C o:=by
 rw[h.cut];have hm:o.marks.map decS=o.marks.map itS:=List.map_congr_left fun m hm=>dec_in (h.marks m hm);unfold wordsG;rw[hm,dec_in h.scan,dec_in h.n];by_cases h1:o.kind=1
 ·rw[if_pos h1,if_pos h1,at_in (h.prec (.inl h1))]
 rw[if_neg h1,if_neg h1];by_cases h2:o.kind=2
 ·rw[if_pos h2,if_pos h2,at_in (h.prec (.inr h2))]
 rw[if_neg h2,if_neg h2];by_cases h8:o.kind=8
 ·rw[at_in (l:=liesL) (h.lie h8)];by_cases h12:o.kind=12
  ·omega
  ·rw[if_neg h12,if_neg h12]
 ·rw[if_neg h8,if_neg h8];by_cases h12:o.kind=12
  ·rw[at_in (h.cont h12)]
  ·rw[if_neg h12,if_neg h12]
def PrintsTo (P C ws:List ByteArray) (o:Opn) (t:ByteArray) (q:Bool):Prop:=(q=true↔parseV P C (joinS ws)=some o)∧t=if q=true then joinS ws else ⟨#[]⟩
theorem prints_same {P C:List ByteArray}{o:Opn}{t t':ByteArray}{q q':Bool}(h:PrintsTo P C (wordsG nameV itS P C o) o t q) (h':PrintsTo P C (wordsG atS decS P C (cutO o)) o t' q'):q=q'∧t=t':=by
 obtain⟨h1,h2⟩:=h;obtain⟨h3,h4⟩:=h';have e:q=q':=by
  rw[Bool.eq_iff_iff];refine⟨fun e=>?_,fun e=>?_⟩
  ·have hp:=h1.1 e;rw[h3,(parse_back hp).1.same];exact hp
  ·have hp:=h3.1 e;rw[h1,← (parse_back hp).1.same];exact hp
 subst e;refine⟨rfl,?_⟩;rw[h2,h4];cases q with
 |false=>rfl
 |true=>rw[if_pos rfl,if_pos rfl,(parse_back (h1.1 rfl)).1.same]
end
section
def SomeTo (w:World) (o:Option Opn) (en:Ending) (w':World):Prop:=∃ v q,en=.returned (.tuple #[v,.bool q])∧SomeP o w w' v q
theorem some_boxes {w:World}{e:EV}{p c:Nat}:∃ w1,(w.alloc (.cells (e.cells p c) 30)).alloc (.cells (zeroO.cells none 0 none 0) 36)=w1∧w1.heap.size=w.heap.size+1+1∧Below w.heap.size w w1∧
  Box w1 w.heap.size 30 (e.cells p c)∧Box w1 (w.heap.size+1) 36 (zeroO.cells none 0 none 0):=by
 refine⟨_,rfl,by simp,((bR _ _).alloc (lR _) _).alloc (by simp) _,?_,?_⟩
 ·exact(Box.new _ _ _).alloc _
 ·have:=Box.new (w.alloc (.cells (e.cells p c) 30)) 36 (zeroO.cells none 0 none 0);rwa [World.size_alloc]at this
end
section
theorem pre_size {s:ByteArray}(h:Lib.hasPrefix s.data.toList [115,101,101,100,32]=true):5≤s.size:=by
 unfold Lib.hasPrefix at h;have:=(List.isPrefixOf_iff_prefix.1 h).length_le;rw[Lib.size_eq];exact this
theorem Agg12.one {v:Value}(h:Agg12 v):∃ cs:Array Value,v=.agg cs∧cs.size=12∧OneC cs:=by
 obtain⟨cs,rfl,h1,h2⟩:=h;exact⟨cs,rfl,h1,fun u hu=>List.all_eq_true.1 h2 u hu⟩
theorem agg12_one {cs:Array Value}(h1:cs.size=12) (h2:OneC cs):Agg12 (.agg cs):=⟨cs,rfl,h1,List.all_eq_true.2 h2⟩
def ParseTo (w:World) (O:Option Opn) (en:Ending) (w':World):Prop:=∃ v q,en=.returned (.tuple #[v,.bool q])∧q=O.isSome∧OpV (fun i=>w.heap.size≤i∧i < w'.heap.size) w' v (O.getD zeroO)∧Below w.heap.size w w'
theorem OpV.agg12 {F:Nat→Prop}{w:World}{v:Value}{o:Opn}(h:OpV F w v o):Agg12 v:=by
 obtain⟨A,c,B,d,rfl,_⟩:=h;exact agg12_one rfl (Opn.one o A c B d)
theorem ParseTo.toSome {w w':World}{O:Option Opn}{en:Ending}(h:ParseTo w O en w'):SomeTo w O en w':=by
 obtain⟨v,q,h1,h2,h3,h4⟩:=h;exact⟨v,q,h1,h2,fun p hp=>(by rw[hp]at h3;exact h3),h4,h3.agg12⟩
end
section
def PrintTo (P C ws:List ByteArray) (o:Opn) (w:World) (en:Ending) (w':World):Prop:=∃ t q,en=.returned (.tuple #[vT t,.bool q])∧PrintsTo P C ws o t q∧Below w.heap.size w w'
end
section
theorem escS_size (s:ByteArray):(escS s).size≤3 * s.size:=by
 have h:=escL_len s.data.toList s.data.toList.length (lR _);rw[List.take_length]at h;show (escL s.data.toList).toArray.size≤_;rw[Lib.size_eq];simpa using h
theorem pr_boxes {w:World}{ecs ocs:Array Value}:∃ w1,(w.alloc (.cells ecs 30)).alloc (.cells ocs 36)=w1∧Below w.heap.size w w1∧Box w1 w.heap.size 30 ecs∧Box w1 (w.heap.size+1) 36 ocs:=by
 refine⟨_,rfl,((bR _ _).alloc (lR _) _).alloc (by simp) _,(Box.new _ _ _).alloc _,?_⟩;have:=Box.new (w.alloc (.cells ecs 30)) 36 ocs;rwa [World.size_alloc]at this
structure PrD where
 e:EV
 PP:List ByteArray
 CC:List ByteArray
 prec:Int
 cont:Int
 scan:Int
 n:Int
 lie:Int
 marks:List Int
 keep:List Bool
 lose:Bool
 deaf:Bool
 twice:Bool
 text:ByteArray
 A:Option Addr
 D:Option Addr
 c:Nat
 d:Nat
 w:World
end
section
open Go.Sort
abbrev Tab10 (w : World) : Prop := Lib.TabIs pG w "internal/strconv.uint64pow10" .u64 Lib.pow10Tab
theorem Tab10.below {w w':World}(h:Tab10 w) (hb:Below w.heap.size w w'):Tab10 w':=by
 unfold Tab10 Lib.TabIs World.var? at h ⊢;rw[Option.bind_eq_some_iff]at h ⊢;obtain⟨g,hg,h⟩:=h;refine⟨g,hg,?_⟩;have hlt:g < w.heap.size:=by
  rcases Nat.lt_or_ge g w.heap.size with q|q
  ·exact q
  ·rw[Array.getElem?_eq_none q]at h;cases h
 rw[hb.block g hlt];exact h
end
end Go.Proofs.YtnndaemmgbkjbaaGreatDoor
