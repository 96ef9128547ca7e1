/-
  parts of the proof: Prs.
-/
import Derived.Laws.RangeString
import Derived.Test.YtnndaemmgbkjbaaGreatDoorPX
import Derived.Test.YtnndaemmgbkjbaaGreatDoorPW
namespace Go.Proofs.YtnndaemmgbkjbaaGreatDoor
open Go.RowKit
open Nat renaming le_refl → lR, zero_le → zL
open Go.RowKit.Below renaming refl → bR
open _root_.Go.Proofs.Tryz renaming prog → pG
open Go.Value renaming int → vI, slice → vS, string → vT, bool → vB
open Go.IntKind renaming i64 → kI
set_option linter.unusedVariables false
set_option linter.unusedSimpArgs false
section
def badR (x:Nat):Bool:=decide (x < 32) || decide (126 < x)
theorem decode_high (s:ByteArray) (pos:Nat) (h:pos < s.size) (ha:128≤(s[pos]'h).toNat):128≤(Utf8.decode s pos).1:=by
 have e:s.get! (pos+0)=s[pos]'h:=by show s.get! pos=_;simp[ByteArray.get!,getElem!_pos,h];rfl
 unfold Utf8.decode;simp only[e];rw[if_neg (by omega)];split
 ·split
  ·assumption
  ·decide
 ·split
  ·split
   ·rename_i h2;simp only[ge_iff_le,Bool.and_eq_true,decide_eq_true_eq]at h2;show 128≤_;omega
   ·decide
  ·split
   ·split
    ·rename_i h2;simp only[ge_iff_le,Bool.and_eq_true,decide_eq_true_eq]at h2;show 128≤_;omega
    ·decide
   ·decide
theorem idxF_plain (s:ByteArray):∀ (f pos:Nat),s.size≤pos+f→(0≤Lib.idxFuncFrom badR true s f pos↔∃ j,∃ h:j < s.size,pos≤j∧isPlain (s[j]'h)=false)
 |0,pos,hf=>by
  refine⟨fun h=>?_,fun ⟨j,h,hj,_⟩=>absurd h (by omega)⟩;unfold Lib.idxFuncFrom at h;omega
 |f+1,pos,hf=>by
  unfold Lib.idxFuncFrom;by_cases hp:pos < s.size
  ·rw[if_pos hp];by_cases ha:(s[pos]'hp).toNat < 128
   ·rw[decode_ascii s pos hp ha];by_cases hb:badR (s[pos]'hp).toNat=true
    ·rw[if_pos hb];refine⟨fun _=>⟨pos,hp,lR _,?_⟩,fun _=>by omega⟩;unfold badR at hb;unfold isPlain;simp only[Bool.or_eq_true,decide_eq_true_eq]at hb;rcases hb with hb|hb
     ·rw[decide_eq_false (by omega)];rfl
     ·rw[decide_eq_false (p:=(s[pos]'hp).toNat≤126) (by omega),Bool.and_false]
    ·rw[if_neg hb,idxF_plain s f (pos+1) (by omega)];refine⟨fun ⟨j,h,hj,hq⟩=>⟨j,h,by omega,hq⟩,fun ⟨j,h,hj,hq⟩=>⟨j,h,?_,hq⟩⟩;rcases Nat.eq_or_lt_of_le hj with rfl|hlt
     ·exfalso;unfold badR at hb;unfold isPlain at hq;simp only[Bool.or_eq_true,decide_eq_true_eq,not_or]at hb;rw[decide_eq_true (show 32≤(s[pos]'hp).toNat by omega),decide_eq_true (show (s[pos]'hp).toNat≤126 by omega)]at hq;cases hq
     ·exact hlt
   ·have hd:=decode_high s pos hp (by omega);have hb:badR (Utf8.decode s pos).1=true:=by unfold badR;rw[decide_eq_true (show 126 < (Utf8.decode s pos).1 by omega),Bool.or_true]
    rw[if_pos hb];refine⟨fun _=>⟨pos,hp,lR _,?_⟩,fun _=>by omega⟩;unfold isPlain;rw[decide_eq_false (p:=(s[pos]'hp).toNat≤126) (by omega),Bool.and_false]
  ·rw[if_neg hp];exact⟨fun h=>by omega,fun ⟨j,h,hj,_⟩=>absurd h (by omega)⟩
theorem idx_plain (s:ByteArray):decide (0≤Lib.idxFunc badR true s)=!plainS s:=by
 have h:=idxF_plain s s.size 0 (by omega);unfold Lib.idxFunc;cases hp:plainS s with
 |true=>refine decide_eq_false fun h0=>?_;obtain⟨j,hj,_,hq⟩:=h.1 h0;have:=List.all_eq_true.1 hp _ (List.mem_of_getElem? (bget hj));rw[hq]at this;cases this
 |false=>
  refine decide_eq_true (h.2 ?_);unfold plainS at hp;rw[List.all_eq_false]at hp;obtain⟨b,hb,hq⟩:=hp;obtain⟨j,hj,rfl⟩:=List.getElem_of_mem hb;have q:isPlain (s.data[j]'(by rw[← Array.length_toList];exact hj))=false:=by simpa using hq
  exact⟨j,by rw[Lib.size_eq];exact hj,zL _,q⟩
set_option maxHeartbeats 1000000
set_option maxRecDepth 100000
theorem pclos_any {x:Nat}{w:World}(hx:x≤1114111):Calls pG 22 (#[encR x] ++ #[]) w fun e w'=>e=.returned (.bool (badR x))∧Below w.heap.size w w':=by
 show Calls pG 22 #[.int .i32 (x:Int)] w fun e w'=>e=.returned (.bool (badR x))∧Below w.heap.size w w';have hi:(x:Int)≤1114111:=by omega
 by_cases h1:x < 32
 ·have h1':(x:Int) < 32:=by omega
  have hv:Hid (badR x=true):=by unfold badR;rw[Hid,decide_eq_true h1];rfl
  clear h1;go_enter Tryz.func22,Tryz.ntmps22;go_wp2_with fail;go_ret;exact⟨by rw[hv.out];rfl,bR _ _⟩
 ·have h1':¬ (x:Int) < 32:=by omega
  by_cases h2:126 < x
  ·have h2':(126:Int) < (x:Int):=by omega
   have hv:Hid (badR x=true):=by unfold badR;rw[Hid,decide_eq_true h2,Bool.or_true]
   clear h1 h2;go_enter Tryz.func22,Tryz.ntmps22;go_wp2_with fail;go_ret;exact⟨by rw[hv.out];rfl,bR _ _⟩
  ·have h2':¬ (126:Int) < (x:Int):=by omega
   have hv:Hid (badR x=false):=by unfold badR;rw[Hid,decide_eq_false h1,decide_eq_false h2];rfl
   clear h1 h2;go_enter Tryz.func22,Tryz.ntmps22;go_wp2_with fail;go_ret;exact⟨by rw[hv.out];rfl,bR _ _⟩
set_option maxHeartbeats 200000
set_option maxRecDepth 512
theorem contains_any {s:ByteArray}{w:World}:Calls pG 21 #[vT s,.func (.func 22) #[] #[]] w fun e w'=>e=.returned (.bool (!plainS s))∧Below w.heap.size w w':=by
 rw[← idx_plain];exact Tryz.strings_ContainsFunc_grows 22 #[] (fun _ _=>by kernel_rfl) badR s w (fun W x hx _=>pclos_any hx)
theorem trim_extract {s:ByteArray}(h:Lib.hasPrefix s.data.toList [115,101,101,100,32]=true):(⟨(Lib.trimPrefix s.data.toList [115,101,101,100,32]).toArray⟩:ByteArray)=s.extract 5 s.size:=by
 have hs:=pre_size h;apply ByteArray.ext;apply Array.toList_inj.1;unfold Lib.trimPrefix;rw[if_pos h,ByteArray.data_extract,Array.toList_extract];show s.data.toList.drop 5=(s.data.toList.drop 5).take (s.size - 5);exact(List.take_of_length_le (by rw[List.length_drop,← Lib.size_eq];exact lR _)).symm
set_option maxHeartbeats 8000000
set_option maxRecDepth 1000000
theorem prs_long {e:EV}{PP CC:List ByteArray}{line:ByteArray}{w:World}(h1:200 < line.size) :
  Calls pG 8 #[.agg (e.cells PP.length CC.length),vT line] w (ParseTo w (parseV PP CC line)):=by
 obtain⟨w1,hw1,hs1,hb1,hx2,hx4⟩:=some_boxes (w:=w) (e:=e) (p:=PP.length) (c:=CC.length);have hv:Hid (parseV PP CC line=none):=by unfold parseV;exact if_pos h1
 have HW1:=hide hw1;have HX4:=hide hx4;have HB1:=hide hb1;have hq4:w.heap.size≤w.heap.size+1:=by omega
 have hl:(200:Int) < (line.size:Int):=by omega
 clear hw1 hs1 hb1 hx2 hx4 h1;obtain⟨ecs,hecs⟩:∃ q,e.cells PP.length CC.length=q:=⟨_,rfl⟩;rw[hecs]at HW1 ⊢;clear hecs;go_enter Tryz.func8,Tryz.ntmps8;go_upto_region 1 with (fail);rw[show (w.alloc (.cells ecs 30)).alloc (.cells #[vI kI 0,vI kI 0,vI kI 0,vI kI 0,vI kI 0,vI kI 0,vS none 0 0,vS none 0 0,vB false,vB false,vB false,vT ⟨#[]⟩] 36)=w1 from HW1.out];obtain⟨wz,hsz,hxz,hgz⟩:=box_store aggOp HX4.out rfl rfl (Opn.one zeroO none 0 none 0);have HBz:=hide (below_growB HB1.out hgz hq4);have HXz:=hide hxz;have HSz:=hide hsz;clear hxz hgz hsz;go_wp2_with ((with_reducible refine dS wz ?_ ?_ ?_);rfl;exact does_store rfl rfl rfl HSz.out);refine bodyPost_ret (v:=.tuple #[.agg (zeroO.cells none 0 none 0),vB false]) (by refine results_ct (p:=4) (q:=5) ?_ ?_ (box_load aggOp HXz.out rfl) <;> rfl) rfl ?_;exact⟨_,false,rfl,by rw[hv.out];rfl,by rw[hv.out];exact opv_nil rfl rfl,HBz.out⟩
theorem prs_seed {e:EV}{PP CC:List ByteArray}{line:ByteArray}{w:World}(h1:line.size≤200) (h2:Lib.hasPrefix line.data.toList [115,101,101,100,32]=true) :
  Calls pG 8 #[.agg (e.cells PP.length CC.length),vT line] w (ParseTo w (parseV PP CC line)):=by
 obtain⟨w1,hw1,hs1,hb1,hx2,hx4⟩:=some_boxes (w:=w) (e:=e) (p:=PP.length) (c:=CC.length);have hv:Hid (parseV PP CC line=if plainS (line.extract 5 line.size)=true then some { zeroO with kind:=11,text:=line.extract 5 line.size } else none):=by unfold parseV;rw[Hid,if_neg (by omega),if_pos h2]
 have HCut:=hide (Tryz.strings_CutPrefix line sSeed w1);rw[show Lib.hasPrefix line.data.toList sSeed.data.toList=true from h2,show (⟨(Lib.trimPrefix line.data.toList sSeed.data.toList).toArray⟩:ByteArray)=line.extract 5 line.size from trim_extract h2]at HCut;have HW1:=hide hw1;have HX4:=hide hx4;have HB1:=hide hb1;have hq4:w.heap.size≤w.heap.size+1:=by omega
 have hl:¬ (200:Int) < (line.size:Int):=by omega
 obtain⟨tx,htx⟩:∃ q,line.extract 5 line.size=q:=⟨_,rfl⟩;rw[htx]at hv HCut;have HPl:=hide (contains_any (s:=tx) (w:=w1));obtain⟨qp,hqp⟩:∃ q,plainS tx=q:=⟨_,rfl⟩;rw[hqp]at HPl hv;clear hqp htx hw1 hs1 hb1 hx2 hx4 h1 h2;obtain⟨ecs,hecs⟩:∃ q,e.cells PP.length CC.length=q:=⟨_,rfl⟩;rw[hecs]at HW1 ⊢;clear hecs;go_enter Tryz.func8,Tryz.ntmps8;go_upto_region 1 with (fail);rw[show (w.alloc (.cells ecs 30)).alloc (.cells #[vI kI 0,vI kI 0,vI kI 0,vI kI 0,vI kI 0,vI kI 0,vS none 0 0,vS none 0 0,vB false,vB false,vB false,vT ⟨#[]⟩] 36)=w1 from HW1.out];go_wp2_with fail;refine HCut.out.mono ?_;rintro en wz ⟨rfl,hwz⟩;have hwz:=hwz.symm;subst hwz;cases qp with
 |false=>have hv:Hid (parseV PP CC line=none):=hv.out.trans (if_neg (by simp));go_wp2_with fail;refine HPl.out.mono ?_;rintro en w3 ⟨rfl,hb3⟩;obtain⟨wy,hsz,hxz,hgz⟩:=box_store aggOp (HX4.out.kept hb3) rfl rfl (Opn.one zeroO none 0 none 0);have HBz:=hide (below_growB (HB1.out.trans (hb3.mono HB1.out.size)) hgz hq4);have HXz:=hide hxz;have HSz:=hide hsz;clear hxz hgz hsz hb3;go_wp2_with ((with_reducible refine dS wy ?_ ?_ ?_);rfl;exact does_store rfl rfl rfl HSz.out);refine bodyPost_ret (v:=.tuple #[.agg (zeroO.cells none 0 none 0),vB false]) (by refine results_ct (p:=4) (q:=5) ?_ ?_ (box_load aggOp HXz.out rfl) <;> rfl) rfl ?_;exact⟨_,false,rfl,by rw[hv.out];rfl,by rw[hv.out];exact opv_nil rfl rfl,HBz.out⟩
 |true=>have hv:Hid (parseV PP CC line=some { zeroO with kind:=11,text:=tx }):=hv.out.trans (if_pos rfl);go_wp2_with fail;refine HPl.out.mono ?_;rintro en w3 ⟨rfl,hb3⟩;obtain⟨wy,hsz,hxz,hgz⟩:=box_store (cs':=#[vI kI 11,vI kI 0,vI kI 0,vI kI 0,vI kI 0,vI kI 0,vS none 0 0,vS none 0 0,vB false,vB false,vB false,vT tx]) aggOp (HX4.out.kept hb3) rfl rfl (Opn.one ({ zeroO with kind:=11,text:=tx }) none 0 none 0);have HBz:=hide (below_growB (HB1.out.trans (hb3.mono HB1.out.size)) hgz hq4);have HXz:=hide hxz;have HSz:=hide hsz;clear hxz hgz hsz hb3;go_wp2_with ((with_reducible refine dS wy ?_ ?_ ?_);rfl;exact does_store rfl rfl rfl HSz.out);refine bodyPost_ret (v:=.tuple #[.agg #[vI kI 11,vI kI 0,vI kI 0,vI kI 0,vI kI 0,vI kI 0,vS none 0 0,vS none 0 0,vB false,vB false,vB false,vT tx],vB true]) (by refine results_ct (p:=4) (q:=5) ?_ ?_ (box_load aggOp HXz.out rfl) <;> rfl) rfl ?_;exact⟨_,true,rfl,by rw[hv.out];rfl,by rw[hv.out];exact opv_nil (o:={ zeroO with kind:=11,text:=tx }) rfl rfl,HBz.out⟩
set_option maxHeartbeats 200000
set_option maxRecDepth 512
theorem parse_to {e:EV}{PP CC:List ByteArray}{line:ByteArray}{w:World}(hE:Elec w e PP CC) (hP:PP.length≤1000) (hPn:∀ s ∈ PP,s.size≤3000000) (hC:CC.length≤1000) (hCn:∀ s ∈ CC,s.size≤3000000) (hM:Max w) :
  Calls pG 8 #[.agg (e.cells PP.length CC.length),vT line] w (ParseTo w (parseV PP CC line)):=by
 by_cases h1:200 < line.size
 ·exact prs_long h1
 ·cases h2:Lib.hasPrefix line.data.toList [115,101,101,100,32] with
  |true=>exact prs_seed (by omega) h2
  |false=>
   obtain⟨x,r,hsp⟩:∃ x r,splitW line=x :: r:=by
    cases h:splitW line with
    |nil=>have:=splitW_length line;rw[h]at this;simp at this
    |cons x r=>exact⟨x,r,rfl⟩
   have hj:=joinS_splitW line;rw[hsp]at hj;have hrl:r.length≤1000000:=by have:=length_joinS (x :: r);rw[hj]at this;simp at this;omega
   have hrs:∀ s ∈ r,s.size≤1000000:=fun s hs=>by have:=mem_size (l:=x :: r) (List.mem_cons_of_mem _ hs);rw[hj]at this;omega
   have hv:parseV PP CC line=someV PP CC x r:=by unfold parseV;rw[if_neg h1,if_neg (by rw[h2];simp),hsp]
   obtain⟨o,ok,hW,hok,ho⟩:=words_any (x:=x) (r:=r) hE (by omega) hPn (by omega) hCn hM hrs hrl;refine(parse_words (P:=PP) (C:=CC) (by omega) h2 hsp hM hW).mono ?_;rintro en w' ⟨v,rfl,hV,hb⟩;rw[hv];refine⟨v,ok,rfl,hok,?_,hb⟩;cases hO:someV PP CC x r with
   |none=>
    have e1:ok=false:=by rw[hok,hO];rfl
    rw[e1,if_neg (by simp)]at hV;exact hV
   |some p=>
    have e1:ok=true:=by rw[hok,hO];rfl
    rw[if_pos e1,ho p hO]at hV;exact hV
theorem parse_any {e:EV}{PP CC:List ByteArray}{line:ByteArray}{w:World}(hE:Elec w e PP CC) (hP:PP.length≤1000) (hPn:∀ s ∈ PP,s.size≤3000000) (hC:CC.length≤1000) (hCn:∀ s ∈ CC,s.size≤3000000) (hM:Max w) :
 Calls pG 8 #[.agg (e.cells PP.length CC.length),vT line] w (SomeTo w (parseV PP CC line)):=(parse_to hE hP hPn hC hCn hM).mono fun _ _ h=>h.toSome
end
end Go.Proofs.YtnndaemmgbkjbaaGreatDoor
