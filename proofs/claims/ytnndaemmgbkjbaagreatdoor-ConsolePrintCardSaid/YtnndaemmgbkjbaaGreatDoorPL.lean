/-
  parts of the proof: SrcT PickT.
-/
import Derived.Test.YtnndaemmgbkjbaaGreatDoorPE
import Derived.Test.YtnndaemmgbkjbaaGreatDoorPG
import Derived.Test.YtnndaemmgbkjbaaGreatDoorPD
import Derived.Test.YtnndaemmgbkjbaaGreatDoorPJ
namespace Go.Proofs.YtnndaemmgbkjbaaGreatDoor
open Go.RowKit
open Nat renaming lt_of_lt_of_le → lL, le_trans → lT, le_refl → lR, zero_le → zL
open Go.RowKit.Below renaming refl → bR
open _root_.Go.Proofs.Tryz renaming prog → pG
open Go.Value renaming int → vI, slice → vS, string → vT
open Go.IntKind renaming i64 → kI
set_option linter.unusedVariables false
set_option linter.unusedSimpArgs false
section
section
variable {M:Nat→Prop}{B:Nat}{S:Ty}{w w':World}
theorem one_ty {key value:ByteArray}(hk:key.size≤24) (hv:value.size≤big) (hw:TW B S w) (hB:B≤w.heap.size) :
  Calls pG 40 #[vT key,vT value] w fun en w'=>∃ A c T,en=.returned (.agg #[vT key,vS A 1 c,vI kI 0])∧Stp No B S w T w'∧Sl T .str 1 (vS A 1 c):=by
 refine(one_any (key:=key) (value:=value) (w:=w)).mono ?_;rintro en w' ⟨h1,h2,h3⟩;have hn:S (w.heap.size+1)=none:=hw.none_ge (by omega);have hl:=h2.lt;refine⟨_,_,S.add (w.heap.size+1) .str 1,h1,(Stp.of_below hw h3).add (by omega) (by omega) hn h2 rfl (TC.strs (l:=[value]) (by simpa using hv)),⟨_,_,rfl,by omega,lR _,by unfold maxLen;omega,.inr ⟨_,rfl,Ty.add_new _ _ _ _⟩⟩⟩
theorem dec8_ty {n:Int}(hw:TW B S w) :
  Calls pG 41 #[vI kI n] w fun en w'=>∃ s:ByteArray,en=.returned (vT s)∧s.size≤100∧Stp No B S w S w':=by
 refine(dec8_any (n:=n) (w:=w)).mono ?_;rintro en w' ⟨h1,h2⟩;refine⟨_,h1,?_,Stp.of_below hw h2⟩;split
 ·rename_i h;have:=decDigits_len 20 n.toNat (by omega);rw[Lib.size_eq];show (Lib.decDigits n.toNat).length≤100;omega
 ·decide
theorem word8_ty {A:Option Addr}{n c:Nat}{x:Int}(hs:Sl S .short n (vS A n c)) (hw:TW B S w) :
  Calls pG 42 #[vI kI x,vS A n c] w fun en w'=>∃ s:ByteArray,en=.returned (vT s)∧s.size≤100∧Stp No B S w S w':=by
 obtain⟨l,l1,l2,l3⟩:=hs.shorts hw;obtain⟨_,_,_,_,hm⟩:=hs.form;have:=word8_any (c:=c) (n:=x) (l2.mono fun i hi=>hi.1) (by omega) fun s hs=>by have:=l3 s hs;omega
 rw[l1]at this;refine this.mono ?_;rintro en w' ⟨s,h1,h2,rfl⟩;exact⟨s,h1,h2,Stp.refl hw⟩
theorem blk_push {n m c:Nat}{v:Value}{kind name:ByteArray}{A:Option Addr}(hw:TW B S w) (hB:B≤w.heap.size) (hs:Sl S .blk n v) (hn:n < 1000) (hk:kind.size≤24) (hm:name.size≤big) (hf:Sl S .fld m (vS A m c)) (ot:TypeId) :
  ∃ A' c' w' T,(Builtin.append_ #[51,51] ot #[v,vS (some ⟨w.heap.size,0,none⟩) 1 1]).run pG (w.alloc (.cells #[vT kind,vT name,vS A m c,vI kI 0] 86))=.ok (vS A' (n+1) c') w'∧Stp M B S w T w'∧Sl T .blk (n+1) (vS A' (n+1) c'):=
 push_elem (k:=.blk) Tryz.underlying51 hw hB hs ot (l:=[.string kind,.string name,.slice A m c,.int .i64 0]) rfl rfl (TC.ofList rfl fun j hj v hv=>by
  have hj:j < 4:=hj;rcases (show j=0∨j=1∨j=2∨j=3 by omega) with rfl|rfl|rfl|rfl
  ·simp at hv;subst hv;exact⟨_,rfl,hk⟩
  ·simp at hv;subst hv;exact⟨_,rfl,hm⟩
  ·simp at hv;subst hv;exact⟨m,hf⟩
  ·simp at hv;subst hv;exact⟨0,rfl⟩) hn (bR _ _)
theorem TC.fld {key:ByteArray}{A:Option Addr}{m c:Nat}(hk:key.size≤24) (hs:Sl S .str m (vS A m c)):TC S .fld [vT key,vS A m c,vI kI 0]:=TC.ofList rfl fun j hj v hv=>by
 have hj:j < 3:=hj;rcases (show j=0∨j=1∨j=2 by omega) with rfl|rfl|rfl
 ·simp at hv;subst hv;exact⟨_,rfl,hk⟩
 ·simp at hv;subst hv;exact⟨m,hs⟩
 ·simp at hv;subst hv;exact⟨0,rfl⟩
theorem TC.fld2 {a b:List Value}(ha:TC S .fld a) (h1:a.length=3) (hb:TC S .fld b):TC S .fld (a ++ b):=TC.append (n:=1) ha (by rw[h1];rfl) hb
theorem TC.fld3 {a b c:List Value}(ha:TC S .fld a) (h1:a.length=3) (hb:TC S .fld b) (h2:b.length=3) (hc:TC S .fld c):TC S .fld (a ++ (b ++ c)):=TC.fld2 ha h1 (TC.fld2 hb h2 hc)
theorem fld_new {m:Nat}{cs:Array Value}(hw:TW B S w) (hB:B≤w.heap.size) (hz:cs.size=m * 3) (hm:m≤1000) (ht:TC S .fld cs.toList) :
  ∃ T,Stp M B S w T (w.alloc (.cells cs 89))∧Sl T .fld m (vS (some ⟨w.heap.size,0,none⟩) m m):=
 ⟨_,Stp.alloc (k:=.fld) (c:=m) hw hB hz ht,⟨_,_,rfl,hm,lR _,by unfold maxLen;omega,.inr ⟨_,rfl,Ty.add_new _ _ _ _⟩⟩⟩
theorem shorts_new {l:List ByteArray}(hw:TW B S w) (hB:B≤w.heap.size) (hm:l.length≤1000) (hs:∀ s ∈ l,s.size≤24) :
  ∃ T,Stp M B S w T (w.alloc (.cells (l.map Value.string).toArray 9))∧Sl T .short l.length (vS (some ⟨w.heap.size,0,none⟩) l.length l.length):=by
 refine⟨_,Stp.alloc (k:=.short) (c:=l.length) hw hB (by rw[List.size_toArray,List.length_map];exact(Nat.mul_one _).symm) (fun i v e=>?_),⟨_,_,rfl,hm,lR _,by unfold maxLen;omega,.inr ⟨_,rfl,Ty.add_new _ _ _ _⟩⟩⟩;rw[show Kd.short.len=1 from rfl,Nat.mod_one];rw[List.getElem?_map]at e;obtain⟨s,h1,rfl⟩:=Option.map_eq_some_iff.1 e;exact⟨s,rfl,hs s (List.mem_of_getElem? h1)⟩
theorem fld_push {n m:Nat}{v:Value}{cs:Array Value}(hw:TW B S w) (hB:B≤w.heap.size) (hs:Sl S .fld n v) (hn:n+m≤1000) (h0:0 < m) (hz:cs.size=m * 3) (ht:TC S .fld cs.toList) (ot:TypeId) :
  ∃ A' c' w' T,(Builtin.append_ #[84,84] ot #[v,vS (some ⟨w.heap.size,0,none⟩) m m]).run pG (w.alloc (.cells cs 89))=.ok (vS A' (n+m) c') w'∧Stp M B S w T w'∧Sl T .fld (n+m) (vS A' (n+m) c'):=by
 have hb:Below w.heap.size w (w.alloc (.cells cs 89)):=(bR _ _).alloc (lR _) _;have s1:Stp M B S w S (w.alloc (.cells cs 89)):=Stp.of_below hw hb;obtain⟨A',c',w',T,hr,hst,hk⟩:=Sl.append (M:=M) (k:=.fld) Tryz.underlying84 s1.tw (lT hB s1.size) hs ot ⟨w.heap.size,0,none⟩ m m cs.toList (by rw[Array.length_toList];exact hz) (fun j u hu=>by
  rw[add_off,(Box.new w _ cs).cell,Nat.zero_add];simpa using hu) ht hn h0
 exact⟨A',c',w',T,hr,s1.trans hst,hk⟩
end
structure SQ where
 q1:Nat
 q2:Nat
 q3:Nat
 B:Nat
 w:World
 e:EV
 P:List ByteArray
 C:List ByteArray
structure SP (b:SQ) (n:Nat) (T:Ty) (w:World):Prop where
 tw:TW b.B T w
 x1:Box w b.q1 30 (b.e.cells b.P.length b.C.length)
 x2:∃ cs,Box w b.q2 53 cs∧cs.size=2
 x3:∃ v,Box w b.q3 53 #[vT b.e.title,v]∧Sl T .blk n v
 u:T b.q1=none∧T b.q2=none∧T b.q3=none
 d:b.q1≠b.q3∧b.q2≠b.q3
 lo:b.B≤b.q2∧b.B≤b.q3∧b.B≤w.heap.size∧b.w.heap.size=b.B
 be:Below b.B b.w w
section
variable {b:SQ}{n:Nat}{T T2:Ty}{w w2:World}
theorem SP.step (h:SP b n T w) (hs:Stp No b.B T w T2 w2):SP b n T2 w2:=by
 obtain⟨c2,x2,z2⟩:=h.x2;obtain⟨v,x3,k3⟩:=h.x3;obtain⟨u1,u2,u3⟩:=h.u;exact⟨hs.tw,hs.box h.x1 u1 id,⟨c2,hs.box x2 u2 id,z2⟩,⟨v,hs.box x3 u3 id,k3.mono hs.le⟩,⟨hs.none h.x1.lt u1,hs.none x2.lt u2,hs.none x3.lt u3⟩,h.d,⟨h.lo.1,h.lo.2.1,lT h.lo.2.2.1 hs.size,h.lo.2.2.2⟩,h.be.trans (hs.below h.tw h.lo.2.2.1 fun i _ e=>e.elim)⟩
theorem SP.put (h:SP b n T w) {m:Nat}{v:Value}(hv:Sl T .blk m v):SP b m T (w.setCell ⟨b.q3,1,none⟩ v):=by
 obtain⟨c2,x2,z2⟩:=h.x2;obtain⟨v0,x3,k3⟩:=h.x3;obtain⟨u1,u2,u3⟩:=h.u;have hs:Stp (fun i=>i=b.q3) b.B T w T (w.setCell ⟨b.q3,1,none⟩ v):=Stp.wrote h.tw u3 rfl (grown_set1 _ _ _ _);exact⟨hs.tw,hs.box h.x1 u1 h.d.1,⟨c2,hs.box x2 u2 h.d.2,z2⟩,⟨v,x3.set 1 v,hv⟩,h.u,h.d,⟨h.lo.1,h.lo.2.1,lT h.lo.2.2.1 hs.size,h.lo.2.2.2⟩,h.be.trans (hs.below h.tw h.lo.2.2.1 fun i hi e=>by have:=h.lo.2.1;omega)⟩
end
end
section
theorem Sl.str_size {S:Ty}{n c k B b:Nat}{w:World}{s:ByteArray}(hs:Sl S .str n (vS (some ⟨b,0,none⟩) n c)) (h:TW B S w) (hk:k < n) (hc:w.cell? ⟨b,k,none⟩=some (vT s)):s.size≤big:=by
 obtain⟨q,e,hb,_,_,hq⟩:=hs.at_ h hk;obtain rfl:b=q:=congrArg Addr.block (Option.some.inj e);obtain⟨_,h1,t,rfl,hz⟩:=hq 0 (by decide);rw[show k * Kd.str.len+0=k from Nat.mul_one k,hc]at h1;injection h1 with h1;injection h1 with h1;rw[h1];exact hz
set_option maxHeartbeats 4000000
set_option maxRecDepth 100000
theorem pick_ty {A D:Option Addr}{c d B n:Nat}{ix:List Int}{S:Ty}{w:World}(hl:Sl S .str n (vS A n c)) (hx:ListIn iv (fun b=>b < B) w D ix) (hm:n≤1000) (hm2:ix.length≤900) (hT:TW B S w) (hB:B≤w.heap.size) :
  Calls pG 43 #[vS A n c,vS D ix.length d] w fun en w'=>∃ v T,en=.returned v∧Stp No B S w T w'∧Sl T .str ix.length v:=by
 have HL:=hide hl;have HX:=hide hx;have HT:=hide hT;have HBB:=hide hB;clear hl hx hT hB;go_enter Tryz.func43,Tryz.ntmps43;go_wp2_with fail;go_loopw [5,6] (fun o i wr=>∃ k:Nat,k≤ix.length∧i=vI kI k∧∃ (v:Value) (T:Ty),o=v∧Hid (Stp No B S w T wr)∧Hid (Sl T .str k v)) (fun _ i _=>ix.length - (iOf i).toNat);case atStart=>exact⟨0,zL _,rfl,_,S,rfl,Stp.refl HT.out,Sl.nil _ _⟩
 case round=>
  obtain⟨k,hk,rfl,v,T,rfl,HS,HV⟩:=hrel;have HBl:Hid (Below B w wr):=HS.out.below HT.out HBB.out (fun i _ h=>h);by_cases hlt:k < ix.length
  ·obtain⟨b,off,rfl,hb,h0⟩:=HX.out.at_ hlt;have h0:=(HBl.out.cell (p:=⟨b,off+k,none⟩) hb).trans h0;unfold iv at h0;have hbw:b < wr.heap.size:=lL (lL hb HBB.out) HS.out.size;generalize ix.getD k default=a at *;have HP:=hide (fun (s:ByteArray) (hs:s.size≤big)=>push_elem (M:=No) (k:=.str) Tryz.underlying22 HS.out.tw (lT HBB.out HS.out.size) HV.out 22 (l:=[.string s]) rfl rfl (TC.strs (l:=[s]) (by simpa using hs)) (by omega) (bR _ _));obtain⟨KA,kc,rfl,_,_⟩:=HV.out.form;by_cases hn:a < 0
   ·obtain⟨A4,c4,w4,T4,hr4,hs4,hk4⟩:=HP.out ⟨#[]⟩ (by decide);have HR4:=hide hr4;have HS4:=hide (HS.out.trans hs4);have HK4:=hide hk4;clear hr4 hs4 hk4 HP;go_wp2_with ((with_reducible refine gV 29 (Value.slice A4 (k+1) c4) w4 ?_ ?_ ?_);rfl;exact gives_append rfl rfl rfl HR4.out);go_roundw;case rel=>exact⟨k+1,by omega,by go_num,_,T4,rfl,HS4.out,HK4.out⟩
    case measure=>simp[iOf];omega
   ·by_cases hge:(n:Int)≤a
    ·obtain⟨A4,c4,w4,T4,hr4,hs4,hk4⟩:=HP.out ⟨#[]⟩ (by decide);have HR4:=hide hr4;have HS4:=hide (HS.out.trans hs4);have HK4:=hide hk4;clear hr4 hs4 hk4 HP;go_wp2_with ((with_reducible refine gV 29 (Value.slice A4 (k+1) c4) w4 ?_ ?_ ?_);rfl;exact gives_append rfl rfl rfl HR4.out);go_roundw;case rel=>exact⟨k+1,by omega,by go_num,_,T4,rfl,HS4.out,HK4.out⟩
     case measure=>simp[iOf];omega
    ·obtain⟨m,rfl⟩:∃ m:Nat,a=(m:Int):=⟨a.toNat,by omega⟩;obtain⟨b2,s,rfl,hbw2,h2⟩:=Sl.str_at (HL.out.mono HS.out.le) HS.out.tw (show m < n by omega);have hz2:s.size≤big:=Sl.str_size (HL.out.mono HS.out.le) HS.out.tw (show m < n by omega) h2;obtain⟨A4,c4,w4,T4,hr4,hs4,hk4⟩:=HP.out s hz2;have HR4:=hide hr4;have HS4:=hide (HS.out.trans hs4);have HK4:=hide hk4;have hmi:(m:Int) < (n:Int):=by omega
     clear hr4 hs4 hk4 HP hz2;go_wp2_with ((with_reducible refine gV 39 (Value.slice A4 (k+1) c4) w4 ?_ ?_ ?_);rfl;exact gives_append rfl rfl rfl HR4.out);go_roundw;case rel=>exact⟨k+1,by omega,by go_num,_,T4,rfl,HS4.out,HK4.out⟩
     case measure=>simp[iOf];omega
  ·obtain rfl:k=ix.length:=by omega
   go_wp2_with fail;go_ret;exact⟨_,T,rfl,HS.out,HV.out⟩
structure SC (b:SQ) (n k:Nat) (CA:Option Addr) (cC:Nat) (q6:Nat) (s:ByteArray) (D:Option Addr) (l:List ByteArray) (d:Nat) (x2 x3 x4 x5 x6 x7 x8:Int) (T:Ty) (w:World):Prop where
 sp:SP b n T w
 box:Box w q6 74 #[vT s,vS D l.length d,vI kI x2,vI kI x3,vI kI x4,vI kI x5,vI kI x6,vI kI x7,vI kI x8]
 un:T q6=none
 ne:q6≠b.q3
 con:Sl T .str k (vS CA k cC)
set_option maxHeartbeats 200000
set_option maxRecDepth 512
theorem SC.step {b:SQ}{n k:Nat}{CA:Option Addr}{cC:Nat}{q6:Nat}{s:ByteArray}{D:Option Addr}{l:List ByteArray}{d:Nat}{x2 x3 x4 x5 x6 x7 x8:Int}{T T2:Ty}{w w2:World}(h:SC b n k CA cC q6 s D l d x2 x3 x4 x5 x6 x7 x8 T w) (hs:Stp No b.B T w T2 w2):SC b n k CA cC q6 s D l d x2 x3 x4 x5 x6 x7 x8 T2 w2:=
 ⟨h.sp.step hs,hs.box h.box h.un id,hs.none h.box.lt h.un,h.ne,h.con.mono hs.le⟩
theorem SP.pre {b:SQ}{n:Nat}{T:Ty}{w:World}(h:SP b n T w) {A:Option Addr}{l:List ByteArray}(hl:Strs b.w A l):Strs w A l:=ListIn.below hl (by rw[h.lo.2.2.2];exact h.be)
theorem SP.preB {α:Type} [Inhabited α] {enc:α→Value}{b:SQ}{n:Nat}{T:Ty}{w:World}(h:SP b n T w) {A:Option Addr}{l:List α}(hl:ListIn enc (All b.w) b.w A l):ListIn enc (fun i=>i < b.B) w A l:=by
 have e:=h.lo.2.2.2;have h1:ListIn enc (fun i=>i < b.B) b.w A l:=hl.mono fun i (hi:i < b.w.heap.size)=>by omega
 exact h1.agree fun i hi=>h.be.block i hi
end
end Go.Proofs.YtnndaemmgbkjbaaGreatDoor
