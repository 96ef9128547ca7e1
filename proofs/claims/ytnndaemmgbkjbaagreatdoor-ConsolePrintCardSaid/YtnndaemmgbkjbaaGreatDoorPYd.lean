/-
  parts of the proof: R45T.
-/
import Derived.Test.YtnndaemmgbkjbaaGreatDoorPW
import Derived.Test.YtnndaemmgbkjbaaGreatDoorPY
import Derived.Test.YtnndaemmgbkjbaaGreatDoorPS
import Derived.Test.YtnndaemmgbkjbaaGreatDoorPK
namespace Go.Proofs.YtnndaemmgbkjbaaGreatDoor
open Go.RowKit
open Nat renaming le_refl → lR
open Go.RowKit.Below renaming refl → bR
open _root_.Go.Proofs.Tryz renaming prog → pG
open Go.Value renaming int → vI, slice → vS, string → vT, bool → vB, pointer → vP
open Go.IntKind renaming i64 → kI
set_option linter.unusedVariables false
set_option linter.unusedSimpArgs false
section
variable {u0 u1 u4 u5 u7 u8 u9 jA qA yA zA fA nA rA mA lA oA pA vA sA tA uA aA bA cA dA eA hA iA kA jB qB yB zB fB gB nB rB mB lB oB pB sB tB uB aB bB dB eB hB iB kB jC qC yC zC fC gC nC rC mC lC oC pC vC sC tC uC aC bC cC dC eC iC kC jD qD yD zD fD gD nD rD mD lD oD pD vD sD tD uD aD bD cD dD eD hD iD kD jE qE yE zE fE gE nE rE mE lE oE pE vE sE tE uE aE bE cE dE eE iE kE jF qF yF zF fF gF nF rF mF lF oF pF vF sF tF uF aF bF cF dF eF hF iF kF jG qG yG zG fG gG nG rG mG lG oG vG sG tG uG aG bG cG dG eG hG iG kG jH qH yH zH fH gH nH rH mH lH oH pH vH sH tH uH aH bH cH dH eH hH iH kH jI qI yI zI:Value}
def PrintS (P C:List ByteArray) (s:ByteArray) (o:Opn) (t:ByteArray) (q:Bool):Prop:=(q=true↔parseV P C s=some o)∧t=if q=true then s else ⟨#[]⟩
set_option maxHeartbeats 16000000
set_option maxRecDepth 1000000
theorem pr49 {w0 wc:World}{e:EV}{PP CC:List ByteArray}{q2 q3:Nat}{o:Opn}{ocs:Array Value}{s:ByteArray}
   (hle:∀ v,Below wc.heap.size wc v→(loadVar 30 ⟨q2,0,none⟩).run pG v=.ok (.agg (e.cells PP.length CC.length)) v) (hx3:Box wc q3 36 ocs) (hos:ocs.size=12) (hE:Elec wc e PP CC) (hP:PP.length≤1000) (hPn:∀ s ∈ PP,s.size≤3000000) (hC:CC.length≤1000) (hCn:∀ s ∈ CC,s.size≤3000000) (hO:OpV (All wc) wc (.agg ocs) o) (hm:o.marks.length≤1000000) (hk:o.keep.length≤1000000) (hb:Below w0.heap.size w0 wc)
 {post:Ending→World→Prop}
   (hR:∀ t q w',PrintS PP CC s o t q→Below w0.heap.size w0 w'→post (.returned (.tuple #[vT t,.bool q])) w')
 :
   Code.wp pG (seqL ((Tryz.f13.body.bind (findAt 49)).getD .skip)) (Exit.then (Code.wp pG (seqR ((Tryz.f13.body.bind (findAt 49)).getD .skip)) (bodyPost pG Tryz.f13 post)) (bodyPost pG Tryz.f13 post)) ⟨#[u0,u1,vP (some ⟨q2,0,none⟩),vP (some ⟨q3,0,none⟩),u4,u5,vT s,u7,u8,u9,jA,qA,yA,zA,fA,nA,rA,mA,lA,oA,pA,vA,sA,tA,uA,aA,bA,cA,dA,eA,hA,iA,kA,jB,qB,yB,zB,fB,gB,nB,rB,mB,lB,oB,pB,sB,tB,uB,aB,bB,dB,eB,hB,iB,kB,jC,qC,yC,zC,fC,gC,nC,rC,mC,lC,oC,pC,vC,sC,tC,uC,aC,bC,cC,dC,eC,iC,kC,jD,qD,yD,zD,fD,gD,nD,rD,mD,lD,oD,pD,vD,sD,tD,uD,aD,bD,cD,dD,eD,hD,iD,kD,jE,qE,yE,zE,fE,gE,nE,rE,mE,lE,oE,pE,vE,sE,tE,uE,aE,bE,cE,dE,eE,iE,kE,jF,qF,yF,zF,fF,gF,nF,rF,mF,lF,oF,pF,vF,sF,tF,uF,aF,bF,cF,dF,eF,hF,iF,kF,jG,qG,yG,zG,fG,gG,nG,rG,mG,lG,oG,vG,sG,tG,uG,aG,bG,cG,dG,eG,hG,iG,kG,jH,qH,yH,zH,fH,gH,nH,rH,mH,lH,oH,pH,vH,sH,tH,uH,aH,bH,cH,dH,eH,hH,iH,kH,jI,qI,yI,zI],[]⟩ wc:=by
  conv=>pattern (seqL _);whnf
  conv=>pattern (seqR _);whnf
  refine wp_open (fun K0 hK0=>?_);dsimp only;have HR:=hide hR;have HPa:=hide (parse45_any (line:=s) hE hP hPn hC hCn);have HLe:=hide (hle wc (bR _ _));have HX3:=hide hx3;have HO:=hide hO;have HB:=hide hb;have HOs:=hide hos;have HK:=hide hk;have HM:=hide hm;clear hR hle hx3 hE hPn hCn hO hb hos hm hk;obtain⟨ecs,hecs⟩:∃ q,e.cells PP.length CC.length=q:=⟨_,rfl⟩;rw[hecs]at HPa HLe;clear hecs;obtain⟨O,hOO⟩:∃ O,parseV PP CC s=O:=⟨_,rfl⟩;have HLn:Hid (∀ p,O=some p→p.marks.length≤1000000∧p.keep.length≤1000000):=fun p hp=>by have hg:=(parse_back (hOO.trans hp)).1;exact⟨by have:=hg.ml;omega,by have:=hg.kl;omega⟩
  have HPS:Hid (∀ t q,((q=true↔O=some o)∧t=if q=true then s else ⟨#[]⟩)→PrintS PP CC s o t q):=fun t q h=>by rw[← hOO]at h;exact h
  rw[hOO]at HPa;clear hOO;go_wp2_with ((with_reducible refine gV 186 (.agg ecs) wc ?_ ?_ ?_);rfl;exact gives_load rfl rfl HLe.out);refine HPa.out.mono ?_;rintro en w3 ⟨v3,q,rfl,hq,hV3,hb3,hA3⟩;try dsimp only
  obtain⟨cs,rfl,hcs,hone⟩:=hA3.one;obtain⟨w5,hst5,hx5,hg5⟩:=box_store aggOp (Box.new w3 36 (zeroO.cells none 0 none 0)) rfl hcs hone;have hb5:Below w3.heap.size w3 w5:=below_grow ((bR _ _).alloc (lR _) _) hg5 (lR _);have hbc:Below wc.heap.size wc w5:=hb3.trans (hb5.mono hb3.size);have HSt:Hid ((storeVar 36 ⟨w3.heap.size,0,none⟩ (.agg cs)).run pG (w3.alloc (.cells #[vI kI 0,vI kI 0,vI kI 0,vI kI 0,vI kI 0,vI kI 0,vS none 0 0,vS none 0 0,vB false,vB false,vB false,vT ⟨#[]⟩] 36))=.ok () w5):=hst5;have HLo:=hide (box_load aggOp hx5 hcs);have HL3:=hide (box_load aggOp (HX3.out.kept hbc) HOs.out);have HB5:Hid (Below w0.heap.size w0 w5):=HB.out.trans (hbc.mono HB.out.size);have HO5:=hide (OpV.below HO.out hbc);have HV5:Hid (∀ p,O=some p→OpV (All w5) w5 (.agg cs) p):=fun p hp=>OpV.below ((hV3 p hp).mono fun i hi=>hi.2) hb5;have HQ:=hide hq;clear hst5 hx5 hg5 hb5 hbc hV3 hb3 hA3 hq hcs hone HPa HLe;cases O with
  |none=>
   obtain rfl:q=false:=HQ.out;go_wp2_with ((with_reducible refine dS w5 ?_ ?_ ?_);rfl;exact does_store rfl rfl rfl HSt.out);try go_ret2
   exact HR.out _ _ _ (HPS.out _ _ ⟨⟨fun h=>(by cases h),fun h=>(by cases h)⟩,rfl⟩) HB5.out
  |some p=>
   obtain rfl:q=true:=HQ.out;obtain⟨A1,c1,D1,d1,e1,hA1,hc1,hD1,hd1⟩:=HV5.out p rfl;obtain⟨A2,c2,D2,d2,e2,hA2,hc2,hD2,hd2⟩:=HO5.out;injection e1 with e1;injection e2 with e2;subst e1 e2;by_cases hlen:p.marks.length≤1000000∧p.keep.length≤1000000
   ·have HEq:=hide (eq45_any (c:=c1) (d:=d1) (c':=c2) (d':=d2) hA1 hD1 hA2 hD2 hlen.1 HM.out hlen.2 HK.out);clear hA1 hD1 hA2 hD2 hlen;go_wp2_with (first|((with_reducible refine dS w5 ?_ ?_ ?_);rfl;exact does_store rfl rfl rfl HSt.out)|((with_reducible refine wpList_gives_g (o:=⟨some 194,_,_,_,_,_⟩) (v:=.agg (p.cells A1 c1 D1 d1)) (w':=w5) ?_ ?_ ?_);rfl;exact gives_load rfl rfl HLo.out)|((with_reducible refine wpList_gives_g (o:=⟨some 195,_,_,_,_,_⟩) (v:=.agg (o.cells A2 c2 D2 d2)) (w':=w5) ?_ ?_ ?_);rfl;exact gives_load rfl rfl HL3.out));refine HEq.out.mono ?_;rintro en w6 ⟨q6,rfl,hq6,hb6⟩;try dsimp only
    have HB6:Hid (Below w0.heap.size w0 w6):=HB5.out.trans (hb6.mono HB5.out.size);have HQ6:=hide hq6;clear hq6 hb6;cases q6 with
    |false=>
     go_wp2_with fail;try go_ret2
     exact HR.out _ _ _ (HPS.out _ _ ⟨⟨fun h=>(by cases h),fun h=>(by injection h with h;exact absurd (HQ6.out.2 h) (by simp))⟩,rfl⟩) HB6.out
    |true=>
     go_wp2_with fail;try go_ret2
     exact HR.out _ _ _ (HPS.out _ _ ⟨⟨fun _=>(by rw[HQ6.out.1 (by trivial)]),fun _=>rfl⟩,rfl⟩) HB6.out
   ·exact absurd (HLn.out p rfl) hlen
end
end Go.Proofs.YtnndaemmgbkjbaaGreatDoor
