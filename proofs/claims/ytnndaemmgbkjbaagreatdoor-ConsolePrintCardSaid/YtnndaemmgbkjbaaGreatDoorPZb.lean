/-
  parts of the proof: Wri Wri7 PrtC.
-/
import Derived.Lib.LaidTab
import Derived.Lib.ItoaLen
import Derived.Test.YtnndaemmgbkjbaaGreatDoorPW
import Derived.Test.YtnndaemmgbkjbaaGreatDoorPK
import Derived.Test.YtnndaemmgbkjbaaGreatDoorPX
import Derived.Test.YtnndaemmgbkjbaaGreatDoorPYc
namespace Go.Proofs.YtnndaemmgbkjbaaGreatDoor
open Go.RowKit
open Go.Act renaming put → aP
open List renaming setIfInBounds_toArray → aS, set_cons_zero → aZ, set_cons_succ → aU
open Go.World renaming cell?_of_block → cB
open Nat renaming lt_of_lt_of_le → lL, le_trans → lT, le_refl → lR, zero_le → zL
open Go.RowKit.Below renaming refl → bR
open _root_.Go.Proofs.Tryz renaming prog → pG
open Go.Value renaming int → vI, slice → vS, string → vT, pointer → vP
open Go.IntKind renaming i64 → kI
set_option linter.unusedVariables false
set_option linter.unusedSimpArgs false
section
variable {u0 u1 u2 u4 u5 u6 u7 u8 u9 yA zA fA mF lF oF pF vF sF nA rA mA lA oA pA vA sA tA uA aA bA cA dA eA hA iA kA jB qB yB zB fB gB nB rB mB lB oB pB sB tB uB aB bB dB eB hB iB kB jC qC yC zC fC gC nC rC mC lC oC pC vC sC tC uC aC bC cC dC eC iC kC jD qD yD zD fD gD nD rD mD lD oD pD vD sD tD uD aD bD cD dD eD hD iD kD jE qE yE zE fE gE nE rE mE lE oE pE vE sE tE uE aE bE cE dE eE iE kE jF qF yF zF fF gF nF rF:Value}
def WritTo (ws:List ByteArray) (w:World) (en:Ending) (w':World):Prop:=∃ v,en=.returned v∧OwnE Value.string 9 w.heap.size w' v ws∧Below w.heap.size w w'
theorem own_new1 {α:Type} [Inhabited α] {enc:α→Value}{ty:TypeId}(w:World) (x:α):OwnE enc ty w.heap.size (w.alloc (.cells #[enc x] ty)) (vS (some ⟨w.heap.size,0,none⟩) 1 1) [x]:=
 ⟨rfl,.inr ⟨w.heap.size,1,#[enc x],rfl,lR _,heap_alloc_new w _,lR _,by unfold maxLen;omega,rfl,rfl⟩⟩
theorem own_new3 {α:Type} [Inhabited α] {enc:α→Value}{ty:TypeId}(w:World) (x y z:α):OwnE enc ty w.heap.size (w.alloc (.cells #[enc x,enc y,enc z] ty)) (vS (some ⟨w.heap.size,0,none⟩) 3 3) [x,y,z]:=
 ⟨rfl,.inr ⟨w.heap.size,3,#[enc x,enc y,enc z],rfl,lR _,heap_alloc_new w _,lR _,by unfold maxLen;omega,rfl,rfl⟩⟩
theorem own_new4 {α:Type} [Inhabited α] {enc:α→Value}{ty:TypeId}(w:World) (x y z u:α):OwnE enc ty w.heap.size (w.alloc (.cells #[enc x,enc y,enc z,enc u] ty)) (vS (some ⟨w.heap.size,0,none⟩) 4 4) [x,y,z,u]:=
 ⟨rfl,.inr ⟨w.heap.size,4,#[enc x,enc y,enc z,enc u],rfl,lR _,heap_alloc_new w _,lR _,by unfold maxLen;omega,rfl,rfl⟩⟩
theorem cellB {w1 w3:World}{g i:Nat}{t:TypeId}{v:Value}{cs:Array Value}(hb:Hid (Below w1.heap.size w1 w3)) (hx:Hid (Box w1 g t cs)) (x:w1.cell? ⟨g,i,none⟩=some v):w3.cell? ⟨g,i,none⟩=some v:=(hb.out.cell (p:=⟨g,i,none⟩) hx.out.lt).trans x
set_option maxHeartbeats 16000000
set_option maxRecDepth 1000000
theorem wri1 {w1:World}{qs n:Int}{q3:Nat}{ocs:Array Value}
   (hs:ItoaTo w1 qs) (hn:ItoaTo w1 n) (hx:Box w1 q3 36 ocs) (x3:w1.cell? ⟨q3,3,none⟩=some (vI kI qs)) (x4:w1.cell? ⟨q3,4,none⟩=some (vI kI n))
 {K:Act→World→Prop}{post:Ending→World→Prop}
   (hK:∀ (tF uF aF bF cF dF:Value)  (wx:World),(Hid (Below w1.heap.size w1 wx))→K ⟨#[u0,u1,u2,vP (some ⟨q3,0,none⟩),u4,vT (itS qs),vT (itS n),u7,u8,u9,yA,zA,fA,tF,uF,aF,bF,cF,dF,nA,rA,mA,lA,oA,pA,vA,sA,tA,uA,aA,bA,cA,dA,eA,hA,iA,kA,jB,qB,yB,zB,fB,gB,nB,rB,mB,lB,oB,pB,sB,tB,uB,aB,bB,dB,eB,hB,iB,kB,jC,qC,yC,zC,fC,gC,nC,rC,mC,lC,oC,pC,vC,sC,tC,uC,aC,bC,cC,dC,eC,iC,kC,jD,qD,yD,zD,fD,gD,nD,rD,mD,lD,oD,pD,vD,sD,tD,uD,aD,bD,cD,dD,eD,hD,iD,kD,jE,qE,yE,zE,fE,gE,nE,rE,mE,lE,oE,pE,vE,sE,tE,uE,aE,bE,cE,dE,eE,iE,kE,jF,qF,yF,zF,fF,gF,nF,rF],[]⟩ wx) :
   Code.wp pG (seqL ((Tryz.f30.body.bind (findAt 1)).getD .skip)) (Exit.then K (bodyPost pG Tryz.f30 post)) ⟨#[u0,u1,u2,vP (some ⟨q3,0,none⟩),u4,u5,u6,u7,u8,u9,yA,zA,fA,mF,lF,oF,pF,vF,sF,nA,rA,mA,lA,oA,pA,vA,sA,tA,uA,aA,bA,cA,dA,eA,hA,iA,kA,jB,qB,yB,zB,fB,gB,nB,rB,mB,lB,oB,pB,sB,tB,uB,aB,bB,dB,eB,hB,iB,kB,jC,qC,yC,zC,fC,gC,nC,rC,mC,lC,oC,pC,vC,sC,tC,uC,aC,bC,cC,dC,eC,iC,kC,jD,qD,yD,zD,fD,gD,nD,rD,mD,lD,oD,pD,vD,sD,tD,uD,aD,bD,cD,dD,eD,hD,iD,kD,jE,qE,yE,zE,fE,gE,nE,rE,mE,lE,oE,pE,vE,sE,tE,uE,aE,bE,cE,dE,eE,iE,kE,jF,qF,yF,zF,fF,gF,nF,rF],[]⟩ w1:=by
  have HSc:=hide hs;have HNn:=hide hn;have HX3:=hide hx;clear hs hn hx;conv=>pattern (seqL _);whnf
  dsimp only;refine wp_region_held_drew (S:=fun v=>Below w1.heap.size w1 v) (by kernel_rfl) (below_drew (bR _ _) 1) (fun hH=>?_);refine wT 0 ?xv0 ?xy0 hH ?xr0;case xy0=>intro v hv;go_simp;rfl
  try simp only[aP,aS,aZ,aU]
  refine wT 1 ?xv1 ?xy1 hH ?xr1;case xy1=>intro v hv;have q0:=(cB (hv.block _ HX3.out.lt)).trans x3;go_simp;rfl
  try simp only[aP,aS,aZ,aU]
  refine wT 3 ?xv3 ?xy3 hH ?xr3;case xy3=>intro v hv;go_simp;rfl
  try simp only[aP,aS,aZ,aU]
  refine wT 4 ?xv4 ?xy4 hH ?xr4;case xy4=>intro v hv;have q0:=(cB (hv.block _ HX3.out.lt)).trans x4;go_simp;rfl
  try simp only[aP,aS,aZ,aU]
  refine wR 2 fun K hK=>?_;go_simp;refine(HSc.out (w1.drewN 1) (below_drew (bR _ _) 1)).mono ?_;rintro en w2 ⟨rfl,hb2⟩;try dsimp only
  have hN:Below w1.heap.size w1 w2:=(below_drew (bR _ _) 1).trans hb2;have HB2:=hide hN;clear hb2;refine hK.out _ _ hN fun hZ=>?_;clear hK hH hN K;have hH:=hZ;clear hZ;try simp only[aP,aS,aZ,aU]
  refine wR 5 fun K hK=>?_;go_simp;refine(HNn.out w2 HB2.out).mono ?_;rintro en w3 ⟨rfl,hb3⟩;try dsimp only
  have hN:Below w1.heap.size w1 w3:=HB2.out.trans (hb3.mono HB2.out.size);have HB3:=hide hN;clear hb3;refine hK.out _ _ hN fun hZ=>?_;clear hK hH hN K;have hH:=hZ;clear hZ;try simp only[aP,aS,aZ,aU]
  refine wT 6 ?xv6 ?xy6 hH ?xr6;case xy6=>intro v hv;go_simp;rfl
  try simp only[aP,aS,aZ,aU]
  refine wT 7 ?xv7 ?xy7 hH ?xr7;case xy7=>intro v hv;go_simp;rfl
  try simp only[aP,aS,aZ,aU]
  refine wpAnyH_done (by kernel_rfl) ?_ _;go_wp2_with fail;exact HB3
structure WrH (k:Int) (b:PrD):Prop where
 hE:Elec b.w b.e b.PP b.CC
 hPn:∀ s ∈ b.PP,s.size≤3000000
 hC:b.CC.length≤1000000
 hCn:∀ s ∈ b.CC,s.size≤3000000
 hM:Max b.w
 hO:OpV (All b.w) b.w (.agg (Opn.cells ⟨k,b.prec,b.cont,b.scan,b.n,b.lie,b.marks,b.keep,b.lose,b.deaf,b.twice,b.text⟩ b.A b.c b.D b.d)) ⟨k,b.prec,b.cont,b.scan,b.n,b.lie,b.marks,b.keep,b.lose,b.deaf,b.twice,b.text⟩
 hs:ItoaTo b.w b.scan
 hn:ItoaTo b.w b.n
 hkl:b.keep.length≤1000
set_option maxHeartbeats 200000
set_option maxRecDepth 512
def WrG (k:Int) (b:PrD) (W:List ByteArray→List ByteArray→Opn→List ByteArray):Prop:=Calls pG 30 #[.agg (b.e.cells b.PP.length b.CC.length),.agg #[vI kI k,vI kI b.prec,vI kI b.cont,vI kI b.scan,vI kI b.n,vI kI b.lie,vS b.A b.marks.length b.c,vS b.D b.keep.length b.d,.bool b.lose,.bool b.deaf,.bool b.twice,vT b.text]] b.w (WritTo (W b.PP b.CC ⟨k,b.prec,b.cont,b.scan,b.n,b.lie,b.marks,b.keep,b.lose,b.deaf,b.twice,b.text⟩) b.w)
theorem wr_go {X:Int→Prop}{k:Int}{b:PrD}{W:List ByteArray→List ByteArray→Opn→List ByteArray}(H:WrH k b) (hX:X b.n)
  (h:∀ (e:EV) (P C:List ByteArray) (qp qc qs n ql:Int) (qm:List Int) (qk:List Bool) (qo qd qt:Bool) (qx:ByteArray) (A D:Option Addr) (c d:Nat) (w w1:World) (ecs:Array Value),
   C.length≤1000000→qk.length≤1000→X n→
   Hid (ItoaTo w1 qs)→Hid (ItoaTo w1 n)→Hid (Box w1 w.heap.size 30 ecs)→Hid (Box w1 (w.heap.size+1) 36 #[vI kI k,vI kI qp,vI kI qc,vI kI qs,vI kI n,vI kI ql,vS A qm.length c,vS D qk.length d,.bool qo,.bool qd,.bool qt,vT qx])→Hid (Below w.heap.size w w1)→Hid ((w.alloc (.cells ecs 30)).alloc (.cells #[vI kI k,vI kI qp,vI kI qc,vI kI qs,vI kI n,vI kI ql,vS A qm.length c,vS D qk.length d,.bool qo,.bool qd,.bool qt,vT qx] 36)=w1)→
   Hid (Elec w1 e P C)→Hid (Max w1)→Hid (∀ s ∈ P,s.size≤3000000)→Hid (∀ s ∈ C,s.size≤3000000)→Hid (Bools w1 D qk)→
   w1.cell? ⟨w.heap.size+1,0,none⟩=some (vI kI k)→w1.cell? ⟨w.heap.size+1,1,none⟩=some (vI kI qp)→w1.cell? ⟨w.heap.size+1,2,none⟩=some (vI kI qc)→w1.cell? ⟨w.heap.size+1,3,none⟩=some (vI kI qs)→w1.cell? ⟨w.heap.size+1,4,none⟩=some (vI kI n)→w1.cell? ⟨w.heap.size+1,5,none⟩=some (vI kI ql)→w1.cell? ⟨w.heap.size+1,7,none⟩=some (vS D qk.length d)→w1.cell? ⟨w.heap.size+1,8,none⟩=some (.bool qo)→w1.cell? ⟨w.heap.size+1,9,none⟩=some (.bool qd)→w1.cell? ⟨w.heap.size+1,10,none⟩=some (.bool qt)→w1.cell? ⟨w.heap.size+1,11,none⟩=some (vT qx)→
   w1.cell? ⟨w.heap.size,4,none⟩=some (vS e.pa P.length e.pc)→Hid (e.cells P.length C.length=ecs)→
   Calls pG 30 #[.agg ecs,.agg #[vI kI k,vI kI qp,vI kI qc,vI kI qs,vI kI n,vI kI ql,vS A qm.length c,vS D qk.length d,.bool qo,.bool qd,.bool qt,vT qx]] w (WritTo (W P C ⟨k,qp,qc,qs,n,ql,qm,qk,qo,qd,qt,qx⟩) w)):WrG k b W:=by
 obtain⟨hE,hPn,hC,hCn,hM,hO,hs,hn,hkl⟩:=H;obtain⟨w1,hw1,hb1,hx2,hx3⟩:=pr_boxes (w:=b.w) (ecs:=b.e.cells b.PP.length b.CC.length) (ocs:=#[vI kI k,vI kI b.prec,vI kI b.cont,vI kI b.scan,vI kI b.n,vI kI b.lie,vS b.A b.marks.length b.c,vS b.D b.keep.length b.d,.bool b.lose,.bool b.deaf,.bool b.twice,vT b.text]);refine h b.e b.PP b.CC b.prec b.cont b.scan b.n b.lie b.marks b.keep b.lose b.deaf b.twice b.text b.A b.D b.c b.d b.w w1 _ hC hkl hX (hide (hs.later hb1)) (hide (hn.later hb1)) (hide hx2) (hide hx3) (hide hb1) (hide hw1) (hide (hE.below hb1)) (hide (hM.below hb1)) (hide hPn) (hide hCn) (hide ?_) (hx3.cell 0) (hx3.cell 1) (hx3.cell 2) (hx3.cell 3) (hx3.cell 4) (hx3.cell 5) (hx3.cell 7) (hx3.cell 8) (hx3.cell 9) (hx3.cell 10) (hx3.cell 11) (hx2.cell 4) (hide rfl);obtain⟨A',c',D',d',e',_,_,h1,_⟩:=OpV.below hO hb1;injection e' with e';have:=congrArg (fun a:Array Value=>a[7]?) e';simp[Opn.cells]at this;rw[this.1];exact h1
set_option maxHeartbeats 4000000
set_option maxRecDepth 100000
theorem choices_any {D:Option Addr}{d:Nat}{l:List Bool}{w:World}(h:Bools w D l) (hl:l.length≤1000) :
  Calls pG 71 #[vS D l.length d] w fun en w'=>en=.returned (vT (choicesS l))∧w'=w:=by
 cases hl0:l with
 |nil=>go_enter Tryz.func71,Tryz.ntmps71;go_wp2_with fail;go_ret;exact⟨rfl,rfl⟩
 |cons x t=>
  have HV:Hid (choicesS l=bOf (l.map chB)):=by rw[hl0];rfl
  have hpos:0 < l.length:=by rw[hl0];simp
  rw[← hl0];clear hl0 x t;have H:=hide h;have hne:((l.length:Int)==0)=false:=bN (by omega);have h49:(⟨#[49]⟩:ByteArray).size=1:=rfl;have h48:(⟨#[48]⟩:ByteArray).size=1:=rfl;clear h;go_enter Tryz.func71,Tryz.ntmps71;go_wp2_with fail;go_loopw [3,5,11] (fun v _ i wr=>∃ k:Nat,k≤l.length∧i=vI kI k∧(∃ s:ByteArray,v=vT s∧s.size≤k∧Hid (s=bOf ((l.take k).map chB)))∧wr=w) (fun _ _ i _=>l.length - (iOf i).toNat);case atStart=>exact⟨0,zL _,rfl,⟨_,rfl,zL _,rfl⟩,rfl⟩
  case round=>
   obtain⟨k,hk,rfl,⟨s,rfl,hsz,HS⟩,rfl⟩:=hrel;by_cases hlt:k < l.length
   ·obtain⟨b,off,rfl,hb,h0⟩:=H.out.at_ hlt;have HN:Hid (s ++ bOf [chB (l.getD k default)]=bOf ((l.take (k+1)).map chB)):=by rw[Hid,take_succD hlt,HS.out];apply ByteArray.ext;simp[bOf]
    generalize l.getD k default=x at *;cases x with
    |true=>
     have HN:Hid (s ++ ⟨#[49]⟩=bOf ((l.take (k+1)).map chB)):=HN.out;go_wp2_with fail;go_roundw;case rel=>exact⟨k+1,by omega,by go_num,⟨_,rfl,by rw[ByteArray.size_append];omega,HN.out⟩,by first|rfl|trivial⟩
     case measure=>simp[iOf];omega
    |false=>
     have HN:Hid (s ++ ⟨#[48]⟩=bOf ((l.take (k+1)).map chB)):=HN.out;go_wp2_with fail;go_roundw;case rel=>exact⟨k+1,by omega,by go_num,⟨_,rfl,by rw[ByteArray.size_append];omega,HN.out⟩,by first|rfl|trivial⟩
     case measure=>simp[iOf];omega
   ·obtain rfl:k=l.length:=by omega
    have HE:Hid (s=choicesS l):=by rw[Hid,HV.out,HS.out,List.take_length]
    go_wp2_with fail;go_ret;exact⟨by rw[HE.out];rfl,rfl⟩
set_option maxHeartbeats 16000000
set_option maxRecDepth 1000000
theorem wri_3 {b:PrD}  (H:WrH 3 b):WrG 3 b (fun P C o=>[bOf wFeed,itS o.scan,itS o.n]):=by
 refine wr_go (X:=fun _=>True) H trivial ?_;clear H;intro e P C qp qc qs n ql qm qk qo qd qt qx A D c d w w1 ecs hC hkl hX HSc HNn HX2 HX3 HB1 HW1 HE HM HPn HCn HKp x0 x1 x2 x3 x4 x5 x7 x8 x9 qA jA y4 HEc;clear hX;show Calls _ _ _ w (WritTo [bOf wFeed,itS qs,itS n] w);go_enter Tryz.func30,Tryz.ntmps30;go_upto_region 1 with fail;rw[HW1.out];refine wri1 HSc.out HNn.out HX3.out x3 x4 ?_;intros;rename_i w3 HB3;try dsimp only
 have x0:=cellB HB3 HX3 x0;have HBW:=hide (HB1.out.trans (HB3.out.mono HB1.out.size));go_wp2_with fail;go_ret;exact⟨_,rfl,(own_new3 w3 _ _ _).lower HBW.out.size,HBW.out.alloc HBW.out.size _⟩
theorem wri_4 {b:PrD}  (H:WrH 4 b):WrG 4 b (fun P C o=>[bOf wFuse,itS o.scan,itS o.n]):=by
 refine wr_go (X:=fun _=>True) H trivial ?_;clear H;intro e P C qp qc qs n ql qm qk qo qd qt qx A D c d w w1 ecs hC hkl hX HSc HNn HX2 HX3 HB1 HW1 HE HM HPn HCn HKp x0 x1 x2 x3 x4 x5 x7 x8 x9 qA jA y4 HEc;clear hX;show Calls _ _ _ w (WritTo [bOf wFuse,itS qs,itS n] w);go_enter Tryz.func30,Tryz.ntmps30;go_upto_region 1 with fail;rw[HW1.out];refine wri1 HSc.out HNn.out HX3.out x3 x4 ?_;intros;rename_i w3 HB3;try dsimp only
 have x0:=cellB HB3 HX3 x0;have HBW:=hide (HB1.out.trans (HB3.out.mono HB1.out.size));go_wp2_with fail;go_ret;exact⟨_,rfl,(own_new3 w3 _ _ _).lower HBW.out.size,HBW.out.alloc HBW.out.size _⟩
theorem wri_6a {b:PrD}(h1:b.n=1) (H:WrH 6 b):WrG 6 b (fun P C o=>[bOf wFinal,itS o.scan]):=by
 refine wr_go (X:=fun n=>n=1) H h1 ?_;clear H;intro e P C qp qc qs n ql qm qk qo qd qt qx A D c d w w1 ecs hC hkl hX HSc HNn HX2 HX3 HB1 HW1 HE HM HPn HCn HKp x0 x1 x2 x3 x4 x5 x7 x8 x9 qA jA y4 HEc;have H1:Hid (n=1):=hX;clear hX;show Calls _ _ _ w (WritTo [bOf wFinal,itS qs] w);go_enter Tryz.func30,Tryz.ntmps30;go_upto_region 1 with fail;rw[HW1.out];refine wri1 HSc.out HNn.out HX3.out x3 x4 ?_;intros;rename_i w3 HB3;try dsimp only
 have x0:=cellB HB3 HX3 x0;have HBW:=hide (HB1.out.trans (HB3.out.mono HB1.out.size));have h1:=H1.out;clear H1;subst h1;have x4:=cellB HB3 HX3 x4;go_wp2_with fail;go_ret;exact⟨_,rfl,(own_new2 w3 _ _).lower HBW.out.size,HBW.out.alloc HBW.out.size _⟩
theorem wri_6b {b:PrD}(h1:¬ b.n=1) (H:WrH 6 b):WrG 6 b (fun P C o=>[bOf wClose,itS o.scan]):=by
 refine wr_go (X:=fun n=>¬ n=1) H h1 ?_;clear H;intro e P C qp qc qs n ql qm qk qo qd qt qx A D c d w w1 ecs hC hkl hX HSc HNn HX2 HX3 HB1 HW1 HE HM HPn HCn HKp x0 x1 x2 x3 x4 x5 x7 x8 x9 qA jA y4 HEc;have h1:¬ n=1:=hX;clear hX;show Calls _ _ _ w (WritTo [bOf wClose,itS qs] w);go_enter Tryz.func30,Tryz.ntmps30;go_upto_region 1 with fail;rw[HW1.out];refine wri1 HSc.out HNn.out HX3.out x3 x4 ?_;intros;rename_i w3 HB3;try dsimp only
 have x0:=cellB HB3 HX3 x0;have HBW:=hide (HB1.out.trans (HB3.out.mono HB1.out.size));have h1b:(n==1)=false:=bN h1;clear h1;have x4:=cellB HB3 HX3 x4;go_wp2_with fail;go_ret;exact⟨_,rfl,(own_new2 w3 _ _).lower HBW.out.size,HBW.out.alloc HBW.out.size _⟩
theorem wri_9 {b:PrD}  (H:WrH 9 b):WrG 9 b (fun P C o=>[bOf wVanish,itS o.n]):=by
 refine wr_go (X:=fun _=>True) H trivial ?_;clear H;intro e P C qp qc qs n ql qm qk qo qd qt qx A D c d w w1 ecs hC hkl hX HSc HNn HX2 HX3 HB1 HW1 HE HM HPn HCn HKp x0 x1 x2 x3 x4 x5 x7 x8 x9 qA jA y4 HEc;clear hX;show Calls _ _ _ w (WritTo [bOf wVanish,itS n] w);go_enter Tryz.func30,Tryz.ntmps30;go_upto_region 1 with fail;rw[HW1.out];refine wri1 HSc.out HNn.out HX3.out x3 x4 ?_;intros;rename_i w3 HB3;try dsimp only
 have x0:=cellB HB3 HX3 x0;have HBW:=hide (HB1.out.trans (HB3.out.mono HB1.out.size));go_wp2_with fail;go_ret;exact⟨_,rfl,(own_new2 w3 _ _).lower HBW.out.size,HBW.out.alloc HBW.out.size _⟩
theorem wri_10 {b:PrD}  (H:WrH 10 b):WrG 10 b (fun P C o=>[bOf wCount]):=by
 refine wr_go (X:=fun _=>True) H trivial ?_;clear H;intro e P C qp qc qs n ql qm qk qo qd qt qx A D c d w w1 ecs hC hkl hX HSc HNn HX2 HX3 HB1 HW1 HE HM HPn HCn HKp x0 x1 x2 x3 x4 x5 x7 x8 x9 qA jA y4 HEc;clear hX;show Calls _ _ _ w (WritTo [bOf wCount] w);go_enter Tryz.func30,Tryz.ntmps30;go_upto_region 1 with fail;rw[HW1.out];refine wri1 HSc.out HNn.out HX3.out x3 x4 ?_;intros;rename_i w3 HB3;try dsimp only
 have x0:=cellB HB3 HX3 x0;have HBW:=hide (HB1.out.trans (HB3.out.mono HB1.out.size));go_wp2_with fail;go_ret;exact⟨_,rfl,(own_new1 w3 _).lower HBW.out.size,HBW.out.alloc HBW.out.size _⟩
theorem wri_11 {b:PrD}  (H:WrH 11 b):WrG 11 b (fun P C o=>[bOf [115,101,101,100],o.text]):=by
 refine wr_go (X:=fun _=>True) H trivial ?_;clear H;intro e P C qp qc qs n ql qm qk qo qd qt qx A D c d w w1 ecs hC hkl hX HSc HNn HX2 HX3 HB1 HW1 HE HM HPn HCn HKp x0 x1 x2 x3 x4 x5 x7 x8 x9 qA jA y4 HEc;clear hX;show Calls _ _ _ w (WritTo [bOf [115,101,101,100],qx] w);go_enter Tryz.func30,Tryz.ntmps30;go_upto_region 1 with fail;rw[HW1.out];refine wri1 HSc.out HNn.out HX3.out x3 x4 ?_;intros;rename_i w3 HB3;try dsimp only
 have x0:=cellB HB3 HX3 x0;have HBW:=hide (HB1.out.trans (HB3.out.mono HB1.out.size));have jA:=cellB HB3 HX3 jA;go_wp2_with fail;go_ret;exact⟨_,rfl,(own_new2 w3 _ _).lower HBW.out.size,HBW.out.alloc HBW.out.size _⟩
theorem wri_13 {b:PrD}  (H:WrH 13 b):WrG 13 b (fun P C o=>[bOf wFinish]):=by
 refine wr_go (X:=fun _=>True) H trivial ?_;clear H;intro e P C qp qc qs n ql qm qk qo qd qt qx A D c d w w1 ecs hC hkl hX HSc HNn HX2 HX3 HB1 HW1 HE HM HPn HCn HKp x0 x1 x2 x3 x4 x5 x7 x8 x9 qA jA y4 HEc;clear hX;show Calls _ _ _ w (WritTo [bOf wFinish] w);go_enter Tryz.func30,Tryz.ntmps30;go_upto_region 1 with fail;rw[HW1.out];refine wri1 HSc.out HNn.out HX3.out x3 x4 ?_;intros;rename_i w3 HB3;try dsimp only
 have x0:=cellB HB3 HX3 x0;have HBW:=hide (HB1.out.trans (HB3.out.mono HB1.out.size));go_wp2_with fail;go_ret;exact⟨_,rfl,(own_new1 w3 _).lower HBW.out.size,HBW.out.alloc HBW.out.size _⟩
theorem wri_2 {b:PrD}  (H:WrH 2 b):WrG 2 b (fun P C o=>[bOf wSpoil,nameV P o.prec]):=by
 refine wr_go (X:=fun _=>True) H trivial ?_;clear H;intro e P C qp qc qs n ql qm qk qo qd qt qx A D c d w w1 ecs hC hkl hX HSc HNn HX2 HX3 HB1 HW1 HE HM HPn HCn HKp x0 x1 x2 x3 x4 x5 x7 x8 x9 qA jA y4 HEc;clear hX;show Calls _ _ _ w (WritTo [bOf wSpoil,nameV P qp] w);go_enter Tryz.func30,Tryz.ntmps30;go_upto_region 1 with fail;rw[HW1.out];refine wri1 HSc.out HNn.out HX3.out x3 x4 ?_;intros;rename_i w3 HB3;try dsimp only
 have x0:=cellB HB3 HX3 x0;have HBW:=hide (HB1.out.trans (HB3.out.mono HB1.out.size));have x1:=cellB HB3 HX3 x1;have y4:=cellB HB3 HX2 y4;have HNm:=hide (name_any (c:=e.pc) (i:=qp) (ListIn.below HE.out.1 HB3.out) HPn.out (HM.out.below HB3.out));go_wp2_with fail;refine HNm.out.mono ?_;rintro en w4 ⟨rfl,hb4⟩;have HB4:Hid (Below w.heap.size w w4):=HBW.out.trans (hb4.mono HBW.out.size);clear hb4;go_wp2_with fail;go_ret;exact⟨_,rfl,(own_new2 w4 _ _).lower (HB4.out).size,(HB4.out).alloc (HB4.out).size _⟩
theorem wri_5 {b:PrD}  (H:WrH 5 b):WrG 5 b (fun P C o=>[bOf wRestart,itS o.scan,choicesS o.keep]):=by
 refine wr_go (X:=fun _=>True) H trivial ?_;clear H;intro e P C qp qc qs n ql qm qk qo qd qt qx A D c d w w1 ecs hC hkl hX HSc HNn HX2 HX3 HB1 HW1 HE HM HPn HCn HKp x0 x1 x2 x3 x4 x5 x7 x8 x9 qA jA y4 HEc;clear hX;show Calls _ _ _ w (WritTo [bOf wRestart,itS qs,choicesS qk] w);go_enter Tryz.func30,Tryz.ntmps30;go_upto_region 1 with fail;rw[HW1.out];refine wri1 HSc.out HNn.out HX3.out x3 x4 ?_;intros;rename_i w3 HB3;try dsimp only
 have x0:=cellB HB3 HX3 x0;have HBW:=hide (HB1.out.trans (HB3.out.mono HB1.out.size));have x7:=cellB HB3 HX3 x7;have HCh:=hide (choices_any (d:=d) (ListIn.below HKp.out HB3.out) hkl);go_wp2_with fail;refine HCh.out.mono ?_;rintro en w4 ⟨rfl,hw4⟩;subst hw4;go_wp2_with fail;go_ret;exact⟨_,rfl,(own_new3 w4 _ _ _).lower HBW.out.size,HBW.out.alloc HBW.out.size _⟩
theorem wri_8 {b:PrD}  (H:WrH 8 b):WrG 8 b (fun P C o=>[bOf wLie,itS o.scan,itS o.n,nameV liesL o.lie]):=by
 refine wr_go (X:=fun _=>True) H trivial ?_;clear H;intro e P C qp qc qs n ql qm qk qo qd qt qx A D c d w w1 ecs hC hkl hX HSc HNn HX2 HX3 HB1 HW1 HE HM HPn HCn HKp x0 x1 x2 x3 x4 x5 x7 x8 x9 qA jA y4 HEc;clear hX;show Calls _ _ _ w (WritTo [bOf wLie,itS qs,itS n,nameV liesL ql] w);go_enter Tryz.func30,Tryz.ntmps30;go_upto_region 1 with fail;rw[HW1.out];refine wri1 HSc.out HNn.out HX3.out x3 x4 ?_;intros;rename_i w3 HB3;try dsimp only
 have x0:=cellB HB3 HX3 x0;have HBW:=hide (HB1.out.trans (HB3.out.mono HB1.out.size));have x5:=cellB HB3 HX3 x5;go_upto_region 33 with fail;refine wp_region_held_drew (S:=fun v=>Below w3.heap.size w3 v) (by kernel_rfl) (below_drew (bR _ _) 1) (fun hH=>?_);refine wT 0 ?yv0 ?yy0 hH ?yr0;case yy0=>intro v hv;go_simp;rfl
 try simp only[aP,aS,aZ,aU]
 refine wT 1 ?yv1 ?yy1 hH ?yr1;case yy1=>intro v hv;go_simp;rfl
 try simp only[aP,aS,aZ,aU]
 refine wT 3 ?yv3 ?yy3 hH ?yr3;case yy3=>intro v hv;go_simp;rfl
 try simp only[aP,aS,aZ,aU]
 refine wT 4 ?yv4 ?yy4 hH ?yr4;case yy4=>intro v hv;have q0:=(cB (hv.block _ (lL HX3.out.lt HB3.out.size))).trans x5;go_simp;rfl
 try simp only[aP,aS,aZ,aU]
 refine wR 2 fun K hK=>?_;go_simp;refine(lies_any (w:=w3.drewN 1)).mono ?_;rintro en w4 ⟨rfl,hl4,hb4⟩;try dsimp only
 have hN:Below w3.heap.size w3 w4:=(below_drew (bR _ _) 1).trans hb4;have HB4:=hide hN;have HL4:Hid (Strs w4 (some ⟨w3.heap.size,0,none⟩) liesL):=hl4;clear hl4 hb4;refine hK.out _ _ hN fun hZ=>?_;clear hK hH hN K;have hH:=hZ;clear hZ;try simp only[aP,aS,aZ,aU]
 refine wR 5 fun K hK=>?_;go_simp;refine(name_any (c:=5) (i:=ql) HL4.out (by decide) ((HM.out.below HB3.out).below HB4.out)).mono ?_;rintro en w5 ⟨rfl,hb5⟩;try dsimp only
 have hN:Below w3.heap.size w3 w5:=HB4.out.trans (hb5.mono HB4.out.size);have HB5:=hide hN;clear hb5;refine hK.out _ _ hN fun hZ=>?_;clear hK hH hN K;have hH:=hZ;clear hZ;try simp only[aP,aS,aZ,aU]
 refine wR 6 fun K hK=>?_;go_simp;obtain⟨w6,hw6⟩:∃ q,w5.alloc (.cells #[vT ⟨#[108,105,101]⟩,vT (itS qs),vT (itS n),vT (nameV liesL ql)] 9)=q:=⟨_,rfl⟩;first|rw[hw6]|(change K _ (w5.alloc (.cells #[vT ⟨#[108,105,101]⟩,vT (itS qs),vT (itS n),vT (nameV liesL ql)] 9));rw[hw6])|skip
 have hN:Below w3.heap.size w3 w6:=by rw[← hw6];exact HB5.out.alloc HB5.out.size _
 have HB6:=hide hN;have HO6:Hid (OwnE Value.string 9 w5.heap.size w6 (vS (some ⟨w5.heap.size,0,none⟩) 4 4) [bOf wLie,itS qs,itS n,nameV liesL ql]):=by rw[← hw6];exact own_new4 w5 _ _ _ _
 clear hw6;refine hK.out _ _ hN fun hZ=>?_;clear hK hH hN K;have hH:=hZ;clear hZ;try simp only[aP,aS,aZ,aU]
 refine wT 7 ?yv7 ?yy7 hH ?yr7;case yy7=>intro v hv;go_simp;rfl
 try simp only[aP,aS,aZ,aU]
 refine wpAnyH_done (by kernel_rfl) ?_ _;clear hH;go_wp2_with fail;go_ret;exact⟨_,rfl,HO6.out.lower (lT HBW.out.size HB5.out.size),HBW.out.trans (HB6.out.mono HBW.out.size)⟩
theorem wri_12 {b:PrD}  (H:WrH 12 b):WrG 12 b (fun P C o=>[bOf wAudit,nameV C o.cont,itS o.n]):=by
 refine wr_go (X:=fun _=>True) H trivial ?_;clear H;intro e P C qp qc qs n ql qm qk qo qd qt qx A D c d w w1 ecs hC hkl hX HSc HNn HX2 HX3 HB1 HW1 HE HM HPn HCn HKp x0 x1 x2 x3 x4 x5 x7 x8 x9 qA jA y4 HEc;clear hX;show Calls _ _ _ w (WritTo [bOf wAudit,nameV C qc,itS n] w);go_enter Tryz.func30,Tryz.ntmps30;go_upto_region 1 with fail;rw[HW1.out];refine wri1 HSc.out HNn.out HX3.out x3 x4 ?_;intros;rename_i w3 HB3;try dsimp only
 have x0:=cellB HB3 HX3 x0;have HBW:=hide (HB1.out.trans (HB3.out.mono HB1.out.size));have x2:=cellB HB3 HX3 x2;have HLe:=hide (fun (v:World) (hv:Below w3.heap.size w3 v)=>box_load aggE ((HX2.out.kept HB3.out).kept hv) (by rw[← HEc.out];rfl));have HCt:=hide (fun (v:World) (hv:Below w3.heap.size w3 v)=>contests_any (e:=e) (p:=P.length) (Cons.below (Cons.below HE.out.2 HB3.out) hv) hC);rw[HEc.out]at HCt;go_upto_region 41 with fail;refine wp_region_held_drew (S:=fun v=>Below w3.heap.size w3 v) (by kernel_rfl) (below_drew (bR _ _) 1) (fun hH=>?_);refine wT 0 ?yv0 ?yy0 hH ?yr0;case yy0=>intro v hv;refine Eq.trans (b:=Result.ok (Next.value (.agg ecs)) v) (gives_load rfl rfl (HLe.out v hv)) ?_;rfl
 try simp only[aP,aS,aZ,aU]
 refine wT 2 ?yv2 ?yy2 hH ?yr2;case yy2=>intro v hv;go_simp;rfl
 try simp only[aP,aS,aZ,aU]
 refine wT 3 ?yv3 ?yy3 hH ?yr3;case yy3=>intro v hv;have q0:=(cB (hv.block _ (lL HX3.out.lt HB3.out.size))).trans x2;go_simp;rfl
 try simp only[aP,aS,aZ,aU]
 refine wT 5 ?yv5 ?yy5 hH ?yr5;case yy5=>intro v hv;go_simp;rfl
 try simp only[aP,aS,aZ,aU]
 refine wR 1 fun K hK=>?_;go_simp;refine(HCt.out (w3.drewN 1) (below_drew (bR _ _) 1)).mono ?_;rintro en w4 ⟨v4,rfl,hO4,hb4⟩;obtain⟨A4,c4,rfl,hc4,hL4,_⟩:=hO4.form;try dsimp only
 have hN:Below w3.heap.size w3 w4:=(below_drew (bR _ _) 1).trans hb4;have HB4:=hide hN;have HL4:Hid (Strs w4 A4 C):=hL4.mono fun i hi=>hi.1;clear hO4 hb4 hL4 hc4;refine hK.out _ _ hN fun hZ=>?_;clear hK hH hN K;have hH:=hZ;clear hZ;try simp only[aP,aS,aZ,aU]
 refine wR 4 fun K hK=>?_;go_simp;refine(name_any (c:=c4) (i:=qc) HL4.out HCn.out ((HM.out.below HB3.out).below HB4.out)).mono ?_;rintro en w5 ⟨rfl,hb5⟩;try dsimp only
 have hN:Below w3.heap.size w3 w5:=HB4.out.trans (hb5.mono HB4.out.size);have HB5:=hide hN;clear hb5;refine hK.out _ _ hN fun hZ=>?_;clear hK hH hN K;have hH:=hZ;clear hZ;try simp only[aP,aS,aZ,aU]
 refine wR 6 fun K hK=>?_;go_simp;obtain⟨w6,hw6⟩:∃ q,w5.alloc (.cells #[vT ⟨#[97,117,100,105,116]⟩,vT (nameV C qc),vT (itS n)] 9)=q:=⟨_,rfl⟩;first|rw[hw6]|(change K _ (w5.alloc (.cells #[vT ⟨#[97,117,100,105,116]⟩,vT (nameV C qc),vT (itS n)] 9));rw[hw6])|skip
 have hN:Below w3.heap.size w3 w6:=by rw[← hw6];exact HB5.out.alloc HB5.out.size _
 have HB6:=hide hN;have HO6:Hid (OwnE Value.string 9 w5.heap.size w6 (vS (some ⟨w5.heap.size,0,none⟩) 3 3) [bOf wAudit,nameV C qc,itS n]):=by rw[← hw6];exact own_new3 w5 _ _ _
 clear hw6;refine hK.out _ _ hN fun hZ=>?_;clear hK hH hN K;have hH:=hZ;clear hZ;try simp only[aP,aS,aZ,aU]
 refine wT 7 ?yv7 ?yy7 hH ?yr7;case yy7=>intro v hv;go_simp;rfl
 try simp only[aP,aS,aZ,aU]
 refine wpAnyH_done (by kernel_rfl) ?_ _;clear hH;go_wp2_with fail;go_ret;exact⟨_,rfl,HO6.out.lower (lT HBW.out.size HB5.out.size),HBW.out.trans (HB6.out.mono HBW.out.size)⟩
theorem wri_0 {kind:Int}{b:PrD}(h1:¬ kind=1) (h2:¬ kind=2) (h3:¬ kind=3) (h4:¬ kind=4) (h5:¬ kind=5) (h6:¬ kind=6) (h7:¬ kind=7) (h8:¬ kind=8) (h9:¬ kind=9) (h10:¬ kind=10) (h11:¬ kind=11) (h12:¬ kind=12) (h13:¬ kind=13) (H:WrH kind b):WrG kind b (fun P C o=>[]):=by
 refine wr_go (X:=fun _=>True) H trivial ?_;clear H;intro e P C qp qc qs n ql qm qk qo qd qt qx A D c d w w1 ecs hC hkl hX HSc HNn HX2 HX3 HB1 HW1 HE HM HPn HCn HKp x0 x1 x2 x3 x4 x5 x7 x8 x9 qA jA y4 HEc;clear hX;show Calls _ _ _ w (WritTo [] w);go_enter Tryz.func30,Tryz.ntmps30;go_upto_region 1 with fail;rw[HW1.out];refine wri1 HSc.out HNn.out HX3.out x3 x4 ?_;intros;rename_i w3 HB3;try dsimp only
 have x0:=cellB HB3 HX3 x0;have HBW:=hide (HB1.out.trans (HB3.out.mono HB1.out.size));have g1:(kind==1)=false:=bN h1;have g2:(kind==2)=false:=bN h2;have g3:(kind==3)=false:=bN h3;have g4:(kind==4)=false:=bN h4;have g5:(kind==5)=false:=bN h5;have g6:(kind==6)=false:=bN h6;have g7:(kind==7)=false:=bN h7;have g8:(kind==8)=false:=bN h8;have g9:(kind==9)=false:=bN h9;have g10:(kind==10)=false:=bN h10;have g11:(kind==11)=false:=bN h11;have g12:(kind==12)=false:=bN h12;have g13:(kind==13)=false:=bN h13;clear h1 h2 h3 h4 h5 h6 h7 h8 h9 h10 h11 h12 h13;go_wp2_with fail;go_ret;exact⟨_,rfl,OwnE.nil _ _ _ _,HBW.out⟩
end
section
def flagP (k:Nat) (a b c:Bool):List ByteArray:=(([(a,sLose),(b,sDeaf),(c,sTwice)].take k).filter (·.1)).map (·.2)
theorem flagP_step (a b c:Bool) {k:Nat}(hk:k < 3):flagP (k+1) a b c=if [a,b,c].getD k false=true then flagP k a b c ++ [[sLose,sDeaf,sTwice].getD k default] else flagP k a b c:=by
 rcases (show k=0∨k=1∨k=2 by omega) with rfl|rfl|rfl <;> cases a <;> cases b <;> cases c <;> rfl
theorem flagP_all (a b c:Bool):flagP 3 a b c=flagW a b c:=by cases a <;> cases b <;> cases c <;> rfl
theorem OwnE.pushF {α:Type} [Inhabited α] {enc:α→Value}{ty:TypeId}{B:Nat}{w:World}{v:Value}{l:List α}{t:TypeId}{i:TypeInfo}{z:Value}{bytes:Nat}(ht:pG.underlying t=some (.slice ty)) (hi:pG.info? ty=some i) (hz:i.zero=some z) (hs:i.size=1) (hby:i.bytes=bytes) (hzs:z.cells.size=1) (hb48:bytes≤48)
  (h:OwnE enc ty B w v l) (hB:B≤w.heap.size) (hl:l.length≤1000000) (he:∀ x,(enc x).oneCell'=true) (ot:TypeId) (y:α) :
  ∃ A c w',(Builtin.append_ #[t,t] ot #[v,vS (some ⟨w.heap.size,0,none⟩) 1 1]).run pG (w.alloc (.cells #[enc y] ty))=.ok (vS A (l.length+1) c) w'∧OwnE enc ty B w' (vS A (l.length+1) c) (l ++ [y])∧Below B w w'∧w.grownBy w' v.ownBlock∧((Value.slice A (l.length+1) c).ownBlock=v.ownBlock∨(Value.slice A (l.length+1) c).ownBlock=some (w.heap.size+1)):=by
 have hB1:Below w.heap.size w (w.alloc (.cells #[enc y] ty)):=(bR _ _).alloc (lR _) _;have h1:=h.kept hB1;have hnews:∀ j u,([enc y]:List Value)[j]? = some u→(w.alloc (.cells #[enc y] ty)).cell? ((⟨w.heap.size,0,none⟩:Addr).add j)=some u:=World.news_of_block (heap_alloc_new _ _);have hs1:(w.alloc (.cells #[enc y] ty)).heap.size=w.heap.size+1:=by simp
 have hl':(l.map enc).length=l.length:=List.length_map ..;obtain⟨v',w',hr,ho,hg,_,hor⟩:=run_append_own_at (P:=pG) (w.alloc (.cells #[enc y] ty)) B t ot ty i z 1 bytes ht hi hz hs hby hzs (by decide) v l.length (l.map enc) h1 ⟨w.heap.size,0,none⟩ 1 1 [enc y] (by rfl) hnews (by intro u hu;simp at hu;subst hu;exact he y) (by unfold maxLen;omega) (lT (Nat.mul_le_mul (show l.length+1≤1000001 by omega) hb48) (by decide)) (by omega);have ho':OwnE enc ty B w' v' (l ++ [y]):=by unfold OwnE;rw[List.length_append,List.map_append];exact ho
 obtain⟨A,c,rfl,_⟩:=ho'.form;rw[List.length_append]at hr ho' hor;rw[hs1]at hor;exact⟨A,c,w',hr,ho',own_by hB h.lo (grown_trans (grown_of_below hB1 _) hg),grown_trans (grown_of_below hB1 _) hg,hor⟩
theorem flagP_len (a b c:Bool) (k:Nat):(flagP k a b c).length≤3:=by
 unfold flagP;rw[List.length_map];refine lT (List.length_filter_le _ _) ?_;rw[List.length_take];simp;omega
set_option maxHeartbeats 16000000
set_option maxRecDepth 1000000
theorem wri_7 {b:PrD}  (H:WrH 7 b):WrG 7 b (fun P C o=>([bOf wSend,itS o.scan] ++ flagW o.lose o.deaf o.twice)):=by
 refine wr_go (X:=fun _=>True) H trivial ?_;clear H;intro e P C qp qc qs n ql qm qk qo qd qt qx A D c d w w1 ecs hC hkl hX HSc HNn HX2 HX3 HB1 HW1 HE HM HPn HCn HKp x0 x1 x2 x3 x4 x5 x7 x8 x9 x10 x11 y4 HEc;clear hX;show Calls _ _ _ w (WritTo ([bOf wSend,itS qs] ++ flagW qo qd qt) w);go_enter Tryz.func30,Tryz.ntmps30;go_upto_region 1 with fail;rw[HW1.out];refine wri1 HSc.out HNn.out HX3.out x3 x4 ?_;intros;rename_i w3 HB3;try dsimp only
 have x0:=cellB HB3 HX3 x0;have HBW:=hide (HB1.out.trans (HB3.out.mono HB1.out.size));have x8:=cellB HB3 HX3 x8;have x9:=cellB HB3 HX3 x9;have x10:=cellB HB3 HX3 x10;obtain⟨w4,hw4⟩:∃ q,w3.alloc (.cells #[vT ⟨#[115,101,110,100]⟩,vT (itS qs)] 9)=q:=⟨_,rfl⟩;have hO4:OwnE Value.string 9 w3.heap.size w4 (vS (some ⟨w3.heap.size,0,none⟩) 2 2) [bOf wSend,itS qs]:=by rw[← hw4];exact own_new2 w3 _ _
 have hb4:Below w3.heap.size w3 w4:=by rw[← hw4];exact(bR _ _).alloc (lR _) _
 obtain⟨w5,hw5⟩:∃ q,w4.alloc (.cells #[.bool qo,.bool qd,.bool qt] 4)=q:=⟨_,rfl⟩;have hx5:Box w5 w4.heap.size 4 #[.bool qo,.bool qd,.bool qt]:=by rw[← hw5];exact Box.new w4 _ _
 have hb5:Below w4.heap.size w4 w5:=by rw[← hw5];exact(bR _ _).alloc (lR _) _
 have HO5:=hide (hO4.kept hb5);have HX5:=hide hx5;have HB5:Hid (Below w3.heap.size w3 w5):=hb4.trans (hb5.mono hb4.size);have HNB:Hid ((Value.slice (some ⟨w3.heap.size,0,none⟩) 2 2).ownBlock≠some w4.heap.size):=fun e=>by have e2:w3.heap.size=w4.heap.size:=Option.some.inj e;rw[← hw4]at e2;simp at e2
 have HW4:=hide hw4;have HW5:=hide hw5;have x8:=(hb4.cell (p:=⟨w.heap.size+1,8,none⟩) (lL HX3.out.lt HB3.out.size)).trans x8;have x9:=(hb4.cell (p:=⟨w.heap.size+1,9,none⟩) (lL HX3.out.lt HB3.out.size)).trans x9;have x10:=(hb4.cell (p:=⟨w.heap.size+1,10,none⟩) (lL HX3.out.lt HB3.out.size)).trans x10;clear hO4 hb4 hw4 hx5 hb5 hw5;go_upto_region 25 with fail;rw[HW4.out];go_upto_block 3 with fail;rw[HW5.out];go_wp2_with fail;go_loopw [10,11,12,89] (fun v _ _ i wr=>∃ k:Nat,k≤3∧i=vI kI k∧∃ u:Value,u=v∧Hid (OwnE Value.string 9 w3.heap.size wr u ([bOf wSend,itS qs] ++ flagP k qo qd qt))∧Hid (Below w3.heap.size w3 wr)∧Hid (Box wr w4.heap.size 4 #[.bool qo,.bool qd,.bool qt])∧Hid (u.ownBlock≠some w4.heap.size)) (fun _ _ _ i _=>3 - (iOf i).toNat);case atStart=>exact⟨0,by omega,rfl,_,rfl,HO5.out,HB5.out,HX5.out,HNB.out⟩
 case round=>
  obtain⟨k,hk,rfl,u,rfl,HO,HB,HX,HU⟩:=hrel;by_cases hlt:k < 3
  ·have hx:wr.cell? ⟨w4.heap.size,0+k,none⟩=some (.bool ([qo,qd,qt].getD k false)):=by rw[HX.out.cell];rcases (show k=0∨k=1∨k=2 by omega) with rfl|rfl|rfl <;> rfl
   have hst:=flagP_step qo qd qt hlt;have HSt:=hide hst;have hlen:=flagP_len qo qd qt k;have hltx:=HX.out.lt;clear hst;obtain⟨bb,hbb⟩:∃ q,[qo,qd,qt].getD k false=q:=⟨_,rfl⟩;rw[hbb]at hx HSt;clear hbb;rw[Nat.zero_add]at hx;cases bb with
   |false=>
    have HN:Hid (OwnE Value.string 9 w3.heap.size wr u ([bOf wSend,itS qs] ++ flagP (k+1) qo qd qt)):=by rw[Hid,HSt.out];exact HO.out
    go_wp2_with fail;go_roundw;case rel=>exact⟨k+1,by omega,by go_num,_,rfl,HN.out,HB.out,HX.out,HU.out⟩
    case measure=>simp[iOf];omega
   |true=>
    obtain⟨w6,hw6⟩:∃ q,wr.alloc (.cells #[vT ⟨#[108,111,115,101]⟩,vT ⟨#[100,101,97,102]⟩,vT ⟨#[116,119,105,99,101]⟩] 9)=q:=⟨_,rfl⟩;have hx6:Box w6 wr.heap.size 9 #[vT ⟨#[108,111,115,101]⟩,vT ⟨#[100,101,97,102]⟩,vT ⟨#[116,119,105,99,101]⟩]:=by rw[← hw6];exact Box.new wr _ _
    have hb6:Below wr.heap.size wr w6:=by rw[← hw6];exact(bR _ _).alloc (lR _) _
    obtain⟨sw,hsw⟩:∃ q,[sLose,sDeaf,sTwice].getD k default=q:=⟨_,rfl⟩;have hc6:w6.cell? ⟨wr.heap.size,k,none⟩=some (vT sw):=by rw[hx6.cell,← hsw];rcases (show k=0∨k=1∨k=2 by omega) with rfl|rfl|rfl <;> rfl
    have hc7:(#[Value.string ⟨#[108,111,115,101]⟩,vT ⟨#[100,101,97,102]⟩,vT ⟨#[116,119,105,99,101]⟩]:Array Value)[k]? = some (vT sw):=by rw[← hx6.cell];exact hc6
    rw[hsw]at HSt;have hs3:=HB.out.size;have hl6:=hx6.lt;have hs6:=hb6.size;obtain⟨i0,hi0,hz0,hz1,hz2⟩:=info_parts strinfo;obtain⟨A7,c7,w7,hr7,hO7,hb7,hg7,hor7⟩:=OwnE.pushF Tryz.underlying22 hi0 hz0 hz1 hz2 rfl (by decide) (HO.out.kept hb6) (by omega) (by simp;have:=flagP_len qo qd qt k;omega) (fun x=>rfl) 22 sw;have HN:Hid (OwnE Value.string 9 w3.heap.size w7 (.slice A7 (([bOf wSend,itS qs] ++ flagP k qo qd qt).length+1) c7) ([bOf wSend,itS qs] ++ flagP (k+1) qo qd qt)):=by rw[Hid,HSt.out,if_pos rfl,← List.append_assoc];exact hO7
    obtain⟨nl,hnl⟩:∃ q,([bOf wSend,itS qs] ++ flagP k qo qd qt).length=q:=⟨_,rfl⟩;rw[hnl]at hr7 HN hor7;have HB7:Hid (Below w3.heap.size w3 w7):=(HB.out.trans (hb6.mono hs3)).trans hb7;have HX7:Hid (Box w7 w4.heap.size 4 #[.bool qo,.bool qd,.bool qt]):=(HX.out.kept hb6).grown hg7 (fun e=>HU.out e.symm);have HU7:Hid ((Value.slice A7 (nl+1) c7).ownBlock≠some w4.heap.size):=fun e=>by
     have:=HX.out.lt;rcases hor7 with h|h
     ·exact HU.out (h.symm.trans e)
     ·have:=Option.some.inj (h.symm.trans e);omega
    obtain⟨Au,cu,rfl,hcu,_,_⟩:=HO.out.form;have hs6e:w6.heap.size=wr.heap.size+1:=by rw[← hw6];simp
    rw[hnl]at hcu hr7 ⊢;rw[hs6e]at hr7;clear hs6e;have HR7:=hide hr7;have HW6:=hide hw6;rw[← hw6]at hc6;clear hx6 hb6 hw6 hr7 hO7 hb7 hnl hg7 hor7 hi0 hz0 hz1 hz2;go_upto_region 29 with fail;go_wp2_with (first|((with_reducible refine gV 101 (Value.slice A7 (nl+1) c7) w7 ?_ ?_ ?_);rfl;exact gives_append rfl rfl rfl (by rw[HW6.out];exact HR7.out)));go_roundw;case rel=>exact⟨k+1,by omega,by go_num,_,rfl,HN.out,HB7.out,HX7.out,HU7.out⟩
    case measure=>simp[iOf];omega
  ·obtain rfl:k=3:=by omega
   have HF:Hid (OwnE Value.string 9 w3.heap.size wr u ([bOf wSend,itS qs] ++ flagW qo qd qt)):=by rw[Hid,← flagP_all];exact HO.out
   go_wp2_with fail;go_ret;exact⟨_,rfl,HF.out.lower HBW.out.size,HBW.out.trans (HB.out.mono HBW.out.size)⟩
set_option maxHeartbeats 200000
set_option maxRecDepth 512
theorem wri_any {e:EV}{P C:List ByteArray}{o:Opn}{A D:Option Addr}{c d:Nat}{w:World}(hE:Elec w e P C) (hPn:∀ s ∈ P,s.size≤3000000) (hC:C.length≤1000000) (hCn:∀ s ∈ C,s.size≤3000000) (hM:Max w) (hO:OpV (All w) w (.agg (o.cells A c D d)) o) (hs:ItoaTo w o.scan) (hn:ItoaTo w o.n) (hm:∀ n ∈ o.marks,ItoaTo w n) (hml:o.marks.length≤1000) (hkl:o.keep.length≤1000) :
  Calls pG 30 #[.agg (e.cells P.length C.length),.agg (o.cells A c D d)] w (WritTo (wordsG nameV itS P C o) w):=by
 by_cases h1:o.kind=1
 ·have hI:ListIn iv (All w) w A o.marks:=by obtain⟨A',c',D',d',e',h1,_⟩:=hO;injection e' with e';have:=congrArg (fun a:Array Value=>a[6]?) e';simp[Opn.cells]at this;rw[this.1];exact h1
  refine(written_issue h1 hE hPn hM hI hml hs hn hm).mono ?_;rintro en w' ⟨v,rfl,h2,h3⟩;refine⟨v,rfl,?_,h3⟩;unfold wordsG;rw[if_pos h1];exact h2
 ·obtain⟨kind,qp,qc,qs,n,ql,qm,qk,qo,qd,qt,qx⟩:=o;simp only[]at h1;have H:WrH kind ⟨e,P,C,qp,qc,qs,n,ql,qm,qk,qo,qd,qt,qx,A,D,c,d,w⟩:=⟨hE,hPn,hC,hCn,hM,hO,hs,hn,hkl⟩;by_cases h2:kind=2
  ·subst h2;exact wri_2 H
  by_cases h3:kind=3
  ·subst h3;exact wri_3 H
  by_cases h4:kind=4
  ·subst h4;exact wri_4 H
  by_cases h5:kind=5
  ·subst h5;exact wri_5 H
  by_cases h6:kind=6
  ·subst h6;by_cases h1:n=1
   ·have:=wri_6a h1 H;subst h1;exact this
   ·have e1:wordsG nameV itS P C ⟨6,qp,qc,qs,n,ql,qm,qk,qo,qd,qt,qx⟩=[bOf wClose,itS qs]:=if_neg h1;rw[e1];exact wri_6b h1 H
  by_cases h7:kind=7
  ·subst h7;exact wri_7 H
  by_cases h8:kind=8
  ·subst h8;exact wri_8 H
  by_cases h9:kind=9
  ·subst h9;exact wri_9 H
  by_cases h10:kind=10
  ·subst h10;exact wri_10 H
  by_cases h11:kind=11
  ·subst h11;exact wri_11 H
  by_cases h12:kind=12
  ·subst h12;exact wri_12 H
  by_cases h13:kind=13
  ·subst h13;exact wri_13 H
  have e1:wordsG nameV itS P C ⟨kind,qp,qc,qs,n,ql,qm,qk,qo,qd,qt,qx⟩=[]:=by unfold wordsG;rw[if_neg h1,if_neg h2,if_neg h3,if_neg h4,if_neg h5,if_neg h6,if_neg h7,if_neg h8,if_neg h9,if_neg h10,if_neg h11,if_neg h12,if_neg h13]
  rw[e1];exact wri_0 h1 h2 h3 h4 h5 h6 h7 h8 h9 h10 h11 h12 h13 H
end
section
open Go.Sort
theorem below_growM (w:World) (k:Nat) (os:Array Obj):Below w.heap.size w (grow (w.drewN k) os):=by
 refine⟨rfl,rfl,rfl,by simp[grow,World.drewN],fun i hi=>?_⟩;show (w.heap ++ os)[i]? = w.heap[i]?;exact Array.getElem?_append_left hi
theorem itoa_to {w:World}(hT:Tab10 w) {n:Int}(hn:InI n):ItoaTo w n:=fun wq hq=>by
 refine(Tryz.strconv_Itoa n hn.1 hn.2 wq (hT.below hq)).mono ?_;rintro en w' ⟨rfl,k,os,rfl⟩;exact⟨rfl,below_growM wq k os⟩
theorem joinS_le {M:Nat}:∀ (ws:List ByteArray),(∀ s ∈ ws,s.size≤M)→(joinS ws).size≤ws.length * (M+1)
 | [],_=>zL _
 | [a],h=>by
  have ha:=h a (by simp);have e:(joinS [a]).size=a.size:=by show (Lib.join [a.data.toList] [32]).toArray.size=_;rw[Lib.join_one];rfl
  rw[e];simp;omega
 |a :: b :: t,h=>by
  have ih:=joinS_le (b :: t) (fun s hs=>h s (List.mem_cons_of_mem _ hs));have ha:=h a (by simp);have hj:(joinS (b :: t)).size=(Lib.join ((b :: t).map (·.data.toList)) [32]).length:=by show (Lib.join _ [32]).toArray.size=_;simp
  have hc:(joinS (a :: b :: t)).size=(Lib.join (a.data.toList :: (b :: t).map (·.data.toList)) [32]).length:=by show (Lib.join _ [32]).toArray.size=_;simp
  have hs:a.size=a.data.toList.length:=(Array.length_toList).symm;rw[hc,join_cons2 _ (by simp),List.length_append,List.length_cons,← hj];rw[List.length_cons,Nat.add_mul,Nat.one_mul];omega
theorem itS_size {n:Int}(h:InI n):(itS n).size≤21:=by
 have:=Lib.itoa_length_le n h.1 h.2;show (Lib.itoa n).toArray.size≤21;simpa using this
theorem nameV_size {l:List ByteArray}(h:∀ s ∈ l,s.size≤24) (i:Int):(nameV l i).size≤72:=by
 unfold nameV;split
 ·decide
 ·rename_i hi;have h1:=escS_size (l.getD i.toNat default);have h2:=h _ (getD_memD (l:=l) (k:=i.toNat) (by omega));omega
theorem choicesS_size {l:List Bool}(h:l.length≤1000):(choicesS l).size≤1000:=by
 unfold choicesS;split
 ·decide
 ·show (l.map chB).toArray.size≤1000;simpa using h
theorem flagW_small (a b c:Bool):(∀ s ∈ flagW a b c,s.size≤5)∧(flagW a b c).length≤3:=by
 cases a <;> cases b <;> cases c <;> exact⟨by decide,by decide⟩
theorem sm_app {l r:List ByteArray}(h:∀ s ∈ l,s.size≤1000) (hr:∀ s ∈ r,s.size≤1000) (hn:l.length+r.length≤1010):(∀ s ∈ l ++ r,s.size≤1000)∧(l ++ r).length≤1010:=
 ⟨fun s hs=>(List.mem_append.1 hs).elim (h s) (hr s),by rw[List.length_append];exact hn⟩
theorem sm_cons {a:ByteArray}{l:List ByteArray}(ha:a.size≤1000) (h:∀ s ∈ l,s.size≤1000):∀ s ∈ a :: l,s.size≤1000:=fun s hs=>by
 rcases List.mem_cons.1 hs with rfl|h'
 ·exact ha
 ·exact h s h'
theorem sm_none:∀ s ∈ ([]:List ByteArray),s.size≤1000:=fun s hs=>by cases hs
theorem words_small {P C:List ByteArray}{o:Opn}(hP:∀ s ∈ P,s.size≤24) (hC:∀ s ∈ C,s.size≤24) (h1:InI o.scan) (h2:InI o.n) (h3:∀ m ∈ o.marks,InI m) (hm:o.marks.length≤1000) (hk:o.keep.length≤1000) (ht:o.text.size≤1000) :
  (∀ s ∈ wordsG nameV itS P C o,s.size≤1000)∧(wordsG nameV itS P C o).length≤1010:=by
 have s1:=itS_size h1;have s2:=itS_size h2;have s3:=nameV_size hP o.prec;have s4:=nameV_size hC o.cont;have s5:=nameV_size (l:=liesL) (by decide) o.lie;have s6:=choicesS_size hk;have s7:∀ m ∈ o.marks,(itS m).size≤1000:=fun m hm=>by have:=itS_size (h3 m hm);omega
 obtain⟨s8,s9⟩:=flagW_small o.lose o.deaf o.twice;have q1:sIssue.size=5:=rfl;have q2:(bOf wSpoil).size=5:=rfl;have q3:(bOf wFeed).size=4:=rfl;have q4:(bOf wFuse).size=4:=rfl;have q5:(bOf wRestart).size=7:=rfl;have q6:(bOf wFinal).size=5:=rfl;have q7:(bOf wClose).size=5:=rfl;have q8:(bOf wSend).size=4:=rfl;have q9:(bOf wLie).size=3:=rfl;have q10:(bOf wVanish).size=6:=rfl;have q11:(bOf wCount).size=5:=rfl;have q12:(bOf [115,101,101,100]).size=4:=rfl;have q13:(bOf wAudit).size=5:=rfl;have q14:(bOf wFinish).size=6:=rfl;unfold wordsG;by_cases k1:o.kind=1
 ·rw[if_pos k1];exact sm_app (sm_cons (by omega) (sm_cons (by omega) sm_none)) (fun s hs=>by obtain⟨m,hm',rfl⟩:=List.mem_map.1 hs;exact s7 m hm') (by rw[List.length_map];show 2+_≤_;omega)
 rw[if_neg k1];by_cases k2:o.kind=2
 ·rw[if_pos k2];exact⟨(sm_cons (by omega) (sm_cons (by omega) sm_none)),by simp⟩
 rw[if_neg k2];by_cases k3:o.kind=3
 ·rw[if_pos k3];exact⟨(sm_cons (by omega) (sm_cons (by omega) (sm_cons (by omega) sm_none))),by simp⟩
 rw[if_neg k3];by_cases k4:o.kind=4
 ·rw[if_pos k4];exact⟨(sm_cons (by omega) (sm_cons (by omega) (sm_cons (by omega) sm_none))),by simp⟩
 rw[if_neg k4];by_cases k5:o.kind=5
 ·rw[if_pos k5];exact⟨(sm_cons (by omega) (sm_cons (by omega) (sm_cons (by omega) sm_none))),by simp⟩
 rw[if_neg k5];by_cases k6:o.kind=6
 ·rw[if_pos k6];by_cases kn:o.n=1
  ·rw[if_pos kn];exact⟨(sm_cons (by omega) (sm_cons (by omega) sm_none)),by simp⟩
  ·rw[if_neg kn];exact⟨(sm_cons (by omega) (sm_cons (by omega) sm_none)),by simp⟩
 rw[if_neg k6];by_cases k7:o.kind=7
 ·rw[if_pos k7];exact sm_app (sm_cons (by omega) (sm_cons (by omega) sm_none)) (fun s hs=>by have:=s8 s hs;omega) (by show 2+_≤_;omega)
 rw[if_neg k7];by_cases k8:o.kind=8
 ·rw[if_pos k8];exact⟨(sm_cons (by omega) (sm_cons (by omega) (sm_cons (by omega) (sm_cons (by omega) sm_none)))),by simp⟩
 rw[if_neg k8];by_cases k9:o.kind=9
 ·rw[if_pos k9];exact⟨(sm_cons (by omega) (sm_cons (by omega) sm_none)),by simp⟩
 rw[if_neg k9];by_cases k10:o.kind=10
 ·rw[if_pos k10];exact⟨(sm_cons (by omega) sm_none),by simp⟩
 rw[if_neg k10];by_cases k11:o.kind=11
 ·rw[if_pos k11];exact⟨(sm_cons (by omega) (sm_cons (by omega) sm_none)),by simp⟩
 rw[if_neg k11];by_cases k12:o.kind=12
 ·rw[if_pos k12];exact⟨(sm_cons (by omega) (sm_cons (by omega) (sm_cons (by omega) sm_none))),by simp⟩
 rw[if_neg k12];by_cases k13:o.kind=13
 ·rw[if_pos k13];exact⟨(sm_cons (by omega) sm_none),by simp⟩
 rw[if_neg k13];exact⟨sm_none,by simp⟩
theorem printC_any {e:EV}{P C:List ByteArray}{o:Opn}{v:Value}{w:World}(hE:Elec w e P C) (hsz:(∀ s ∈ P,s.size≤24)∧(∀ s ∈ C,s.size≤24)∧P.length≤12∧C.length≤4) (hM:Max w) (hT:Tab10 w) (h1:InI o.scan) (h2:InI o.n) (h3:∀ m ∈ o.marks,InI m) (hO:OpV (All w) w v o) (hm:o.marks.length≤1000) (hk:o.keep.length≤1000) (ht:o.text.size≤1000) :
  Calls pG 12 #[.agg (e.cells P.length C.length),v] w (PrintTo P C (wordsG nameV itS P C o) o w):=by
 have hO2:=hO;obtain⟨A,c,D,d,rfl,_⟩:=hO;obtain⟨hP,hC,hPl,hCl⟩:=hsz;obtain⟨b1,b2⟩:=words_small hP hC h1 h2 h3 hm hk ht;have b3:=joinS_le _ b1;refine prt_any rfl rfl hO2 (by omega) (by omega) (by omega) (lT b3 (lT (Nat.mul_le_mul b2 (lR _)) (by decide))) (fun wq hq=>?_) (fun wq hq=>?_)
 ·exact wri_any (hE.below hq) (fun s hs=>by have:=hP s hs;omega) (by omega) (fun s hs=>by have:=hC s hs;omega) (hM.below hq) (OpV.below hO2 hq) (itoa_to (hT.below hq) h1) (itoa_to (hT.below hq) h2) (fun m hm=>itoa_to (hT.below hq) (h3 m hm)) hm hk
 ·exact parse_any (hE.below hq) (by omega) (fun s hs=>by have:=hP s hs;omega) (by omega) (fun s hs=>by have:=hC s hs;omega) (hM.below hq)
end
end Go.Proofs.YtnndaemmgbkjbaaGreatDoor
