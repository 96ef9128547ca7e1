/-
  parts of the proof: HeldTo Shu BlkC5 BlkC6 Block CompA Comp.
-/
import Derived.StillTail
import Derived.Deep.CutBlock
import Derived.Test.YtnndaemmgbkjbaaGreatDoorPF
import Derived.Test.YtnndaemmgbkjbaaGreatDoorPH
import Derived.Test.YtnndaemmgbkjbaaGreatDoorPG
namespace Go.Proofs.YtnndaemmgbkjbaaGreatDoor
open Go.RowKit
open Go.Act renaming put → aP
open List renaming setIfInBounds_toArray → aS, set_cons_zero → aZ, set_cons_succ → aU, getElem?_toArray → gA, getElem?_cons_succ → gS, getElem?_cons_zero → gZ
open Nat renaming le_trans → lT, le_refl → lR, zero_le → zL
open Go.RowKit.Below renaming refl → bR
open _root_.Go.Proofs.Tryz renaming prog → pG
open Go.Value renaming int → vI, slice → vS, string → vT, pointer → vP
open Go.IntKind renaming i64 → kI
set_option linter.unusedVariables false
set_option linter.unusedSimpArgs false
section
section
variable {P:Program}{ops:Array Oper}{Q:Exit→Act→World→Prop}{md:Region.Mode}{S S':World→Prop}{E:Nat}
def AnyTo (P:Program) (md:Region.Mode) (ops:Array Oper) (Q:Exit→Act→World→Prop) (S:World→Prop) (E:Nat):Nat→Array Bool→Act→World→Prop
 |0,l,a,w=>Region.ready md ops l=[]∧Q .normal a w
 |f+1,l,a,w=>(Region.ready md ops l=[]→Q .normal a w)∧∀ i ∈ Region.ready md ops l,wpOp P ops Q i (fun a' w'=>((l.setIfInBounds i true).getD E false=false→S w')∧AnyTo P md ops Q S E f (l.setIfInBounds i true) a' w') a w
theorem AnyTo.any:∀ {f:Nat}{l:Array Bool}{a:Act}{w:World},AnyTo P md ops Q S E f l a w→wpAny P md ops Q f l a w
 |0,_,_,_,h=>h
 |f+1,_,_,_,h=>⟨h.1,fun i hi=>wpOp_mono (fun _ _ k=>AnyTo.any k.2) (h.2 i hi)⟩
def Clo (md:Region.Mode) (ops:Array Oper) (l:Array Bool):Prop:=∀ j o,ops[j]? = some o→l.getD j false=true→∀ e ∈ o.after,Region.binds md e=true→l.getD e.on false=true
theorem getD_set_iff {l:Array Bool}{i j:Nat}(h:(l.setIfInBounds i true).getD j false=true):j=i∨l.getD j false=true:=by
 by_cases e:i=j
 ·exact .inl e.symm
 ·rw[getD_set_ne false e]at h;exact .inr h
theorem Clo.set {l:Array Bool}{i:Nat}(h:Clo md ops l) (hi:i ∈ Region.ready md ops l):Clo md ops (l.setIfInBounds i true):=fun j o ho hl e he hb=>by
 obtain⟨_,oi,hoi,hall⟩:=mem_ready.1 hi;refine getD_set_true ?_;rcases getD_set_iff hl with rfl|hl
 ·rw[ho]at hoi;injection hoi with hoi;subst hoi;exact hall e he hb
 ·exact h j o ho hl e he hb
theorem Clo.none (n:Nat):Clo md ops (Array.replicate n false):=fun j o _ hl=>by
 rw[getD_replicate_false]at hl;cases hl
def pathB (md:Region.Mode) (ops:Array Oper):List Nat→Bool
 |j :: i :: r=>Region.waitsFor md ops j i && pathB md ops (i :: r)
 |_=>true
theorem Clo.path {l:Array Bool}(h:Clo md ops l):∀ {r:List Nat}{j:Nat},pathB md ops (j :: r)=true→l.getD j false=true→l.getD ((j :: r).getLastD 0) false=true
 | [],j,_,hl=>hl
 |i :: r,j,hp,hl=>by
  unfold pathB at hp;obtain⟨h1,h2⟩:=Bool.and_eq_true_iff.1 hp;obtain⟨oj,ho,e,he,hb,rfl⟩:=Region.waitsFor_spec h1;exact Clo.path h (r:=r) (j:=e.on) h2 (h j oj ho hl e he hb)
theorem getD_true_of {l:Array Bool}{i:Nat}(h:l.getD i true=false):l.getD i false=false:=by
 rcases Nat.lt_or_ge i l.size with q|q
 ·simp[q]at h ⊢;exact h
 ·simp[Array.getElem?_eq_none q]at h ⊢
theorem AnyTo.first {i:Nat}{oi:Oper}{v:Value}(hi:ops[i]? = some oi) (hsel:∀ (j:Nat) (o:Oper) cs b,ops[j]? = some o→o.op≠.select cs b)
  (hQ:∀ c a w,Q (.panic c) (a.put oi.dst v) w→Q (.panic c) a w) (hE:(∀ w,S' w)∨(E≠i∧(∀ w,S w→S' w)∧∀ l,Clo md ops l→l.getD i true=false→l.getD E false=false)) :
  ∀ (f:Nat) (l:Array Bool) (a:Act) (w:World),Clo md ops l→
   (∀ j oj,ops[j]? = some oj→j≠i→l.getD j true=false→(∀ e ∈ oj.after,Region.binds md e=true→e.on≠i)→oi.apart ops oj=true)→
   i ∈ Region.ready md ops l→YieldsIf P ops S' oi v a→(l.getD E false=false→S w)→(E≠i)→
   AnyTo P md ops Q S E f (l.setIfInBounds i true) (a.put oi.dst v) w→AnyTo P md ops Q S E (f+1) l a w:=by
 have hS':∀ l w,Clo md ops l→l.getD i true=false→(l.getD E false=false→S w)→S' w:=fun l w hc hu hS=>by
  rcases hE with hE|⟨_,h1,h2⟩
  ·exact hE w
  ·exact h1 w (hS (h2 l hc hu))
 have hn:∀ (l:Array Bool) (w:World),E≠i→(l.getD E false=false→S w)→((l.setIfInBounds i true).getD E false=false→S w):=fun l w hEi hS h=>hS (by rwa [getD_set_ne false hEi.symm]at h);intro f;induction f with
 |zero=>
  intro l a w hc _ hr hy hS hEi H;refine⟨fun q=>(by rw[q]at hr;cases hr),fun j hj=>?_⟩;by_cases e:j=i
  ·subst e;exact hy.wpOp hi (hS' l w hc (mem_ready.1 hr).1 hS) ⟨hn l w hEi hS,H⟩
  ·have:=ready_mono hj e;rw[H.1]at this;cases this
 |succ f ih=>
  intro l a w hc hfree hr hy hS hEi H;refine⟨fun q=>(by rw[q]at hr;cases hr),fun j hj=>?_⟩;by_cases e:j=i
  ·subst e;exact hy.wpOp hi (hS' l w hc (mem_ready.1 hr).1 hS) ⟨hn l w hEi hS,H⟩
  ·have hiu:=(mem_ready.1 hr).1;obtain⟨hju,oj,hoj,hall⟩:=mem_ready.1 hj;have hno:∀ e ∈ oj.after,Region.binds md e=true→e.on≠i:=fun e he hb q=>by have h1:=hall e he hb;rw[q,getD_true_of hiu]at h1;cases h1
   have h2:=wpOp_putIf hoj (hfree j oj hoj e hju hno) (fun cs b=>hsel i oi cs b hi) (fun cs b=>hsel j oj cs b hoj) hQ hy (H.2 j (ready_mono hj e));refine wpOp_mono (fun a' w' ⟨k1,k2,k3⟩=>?_) h2;rw[Array.setIfInBounds_comm _ _ (Ne.symm e)]at k2 k3;rw[getD_set_ne false hEi.symm]at k2;refine⟨k2,ih (l.setIfInBounds j true) a' w' (hc.set hj) (fun k ok hk hki hun hno'=>?_) (ready_mono hr (Ne.symm e)) k1 k2 hEi k3⟩;refine hfree k ok hk hki ?_ hno';by_cases q:j=k
   ·subst q;exact hju
   ·rw[getD_set_ne true q]at hun;exact hun
variable {i:Nat}{oi:Oper}{v:Value}{f:Nat}{l:Array Bool}{a:Act}{w:World}
theorem AnyTo.take (hc:Clo md ops l) (hi:ops[i]? = some oi) (hEi:E≠i) (hs:Region.noSelect ops=true) (hf:Region.free md ops l i=true) (hr:(Region.ready md ops l).contains i=true)
  (hQ:∀ c a w,Q (.panic c) (a.put oi.dst v) w→Q (.panic c) a w) (hy:YieldsIf P ops (fun _=>True) oi v a) (hS:l.getD E false=false→S w)
  (h:Clo md ops (l.setIfInBounds i true)→AnyTo P md ops Q S E f (l.setIfInBounds i true) (a.put oi.dst v) w):AnyTo P md ops Q S E (f+1) l a w:=
 AnyTo.first (S':=fun _=>True) hi (Region.noSelect_spec hs) hQ (.inl fun _=>trivial) f l a w hc (Region.free_spec hi hf) (by simpa using hr) hy hS hEi (h (hc.set (by simpa using hr)))
theorem AnyTo.load (r:List Nat) (hc:Clo md ops l) (hi:ops[i]? = some oi) (hEi:E≠i) (hs:Region.noSelect ops=true) (hf:Region.free md ops l i=true) (hr:(Region.ready md ops l).contains i=true) (hp:pathB md ops (E :: r)=true) (hl:(E :: r).getLastD 0=i)
  (hQ:∀ c a w,Q (.panic c) (a.put oi.dst v) w→Q (.panic c) a w) (hy:YieldsIf P ops S oi v a) (hS:S w)
  (h:Clo md ops (l.setIfInBounds i true)→AnyTo P md ops Q S E f (l.setIfInBounds i true) (a.put oi.dst v) w):AnyTo P md ops Q S E (f+1) l a w:=by
 have hw:∀ l,Clo md ops l→l.getD i true=false→l.getD E false=false:=fun l hc hu=>by
  cases q:l.getD E false with
  |false=>rfl
  |true=>have:=hc.path hp q;rw[hl,getD_true_of hu]at this;cases this
 exact AnyTo.first (S':=S) hi (Region.noSelect_spec hs) hQ (.inr ⟨hEi,fun _ k=>k,hw⟩) f l a w hc (Region.free_spec hi hf) (by simpa using hr) hy (fun _=>hS) hEi (h (hc.set (by simpa using hr)))
def ReadyTo (P:Program) (md:Region.Mode) (ops:Array Oper) (Q:Exit→Act→World→Prop) (S:World→Prop) (E:Nat) (f:Nat) (l:Array Bool) (a:Act) (w:World) (rs:List Nat):Prop:=
 ∀ i ∈ rs,wpOp P ops Q i (fun a' w'=>((l.setIfInBounds i true).getD E false=false→S w')∧AnyTo P md ops Q S E f (l.setIfInBounds i true) a' w') a w
theorem ReadyTo.nil:ReadyTo P md ops Q S E f l a w []:=fun _ h=>by cases h
theorem ReadyTo.cons {rs:List Nat}(hc:Clo md ops l) (hr:(Region.ready md ops l).contains i=true) (hi:ops[i]? = some oi)
  (h:∀ K:Act→World→Prop,Shut (∀ a w,((l.setIfInBounds i true).getD E false=false→S w)→(Clo md ops (l.setIfInBounds i true)→AnyTo P md ops Q S E f (l.setIfInBounds i true) a w)→K a w)→if Region.wanted oi (yielded ops a.tmps)=true then Oper.wp P oi a w K Q else K (a.put oi.dst undef) w)
  (hs:ReadyTo P md ops Q S E f l a w rs):ReadyTo P md ops Q S E f l a w (i :: rs):=fun j hj=>by
 rcases List.mem_cons.1 hj with rfl|hj
 ·exact wpOp_step hi fun K hK=>h K fun a w q1 q2=>hK a w ⟨q1,q2 (hc.set (by simpa using hr))⟩
 ·exact hs j hj
theorem AnyTo.ready {rs:List Nat}(hr:Region.ready md ops l=rs) (hne:rs≠[]) (h:ReadyTo P md ops Q S E f l a w rs):AnyTo P md ops Q S E (f+1) l a w:=⟨fun q=>absurd (hr ▸ q) hne,hr ▸ h⟩
theorem AnyTo.done (hr:Region.ready md ops l=[]) (h:Q .normal a w):∀ f,AnyTo P md ops Q S E f l a w
 |0=>⟨hr,h⟩
 |_+1=>⟨fun _=>h,by rw[hr];simp⟩
theorem region_to {id:Nat}(E:Nat) (S:World→Prop) (hm:P.follows .mixedOrders=true) (h:Clo .any ops (Array.replicate ops.size false)→AnyTo P .any ops Q S E ops.size (Array.replicate ops.size false) a w.drew):(Code.region id ops true).wp P Q a w:=
 wp_region_any hm (h (Clo.none _)).any
end
end
section
section
variable {P:Program}{ops:Array Oper}{Q:Exit→Act→World→Prop}{md:Region.Mode}{S:World→Prop}{E f:Nat}{l:Array Bool}{a:Act}{w:World}{o:Oper}
theorem wA (i:Nat) (v:Value) (hc:Clo md ops l) (hy:∀ w,True→(execOp a.eval o).run P w=.ok (.value v) w) (hS:l.getD E false=false→S w)
 (h:Clo md ops (l.setIfInBounds i true)→AnyTo P md ops Q S E f (l.setIfInBounds i true) (a.put o.dst v) w) (hi:ops[i]? = some o:=by simp only[List.getElem?_toArray,List.getElem?_cons_succ,List.getElem?_cons_zero];exact rfl) (hE:E≠i:=by decide) (hs:Region.noSelect ops=true:=by kernel_rfl)
 (hf:Region.free md ops l i=true:=by kernel_rfl) (hr:(Region.ready md ops l).contains i=true:=by kernel_rfl)
 (hQ:∀ c a w,Q (.panic c) (a.put o.dst v) w→Q (.panic c) a w:=by exact fun _ _ _ h=>h) (hw:Region.wanted o (yielded ops a.tmps)=true:=by rfl):AnyTo P md ops Q S E (f+1) l a w:=AnyTo.take hc hi hE hs hf hr hQ (Or.inl ⟨hw,hy⟩) hS h
theorem wL (i:Nat) (v:Value) (r:List Nat) (hc:Clo md ops l) (hy:∀ w,S w→(execOp a.eval o).run P w=.ok (.value v) w) (hS:S w)
 (h:Clo md ops (l.setIfInBounds i true)→AnyTo P md ops Q S E f (l.setIfInBounds i true) (a.put o.dst v) w) (hi:ops[i]? = some o:=by simp only[List.getElem?_toArray,List.getElem?_cons_succ,List.getElem?_cons_zero];exact rfl) (hE:E≠i:=by decide) (hs:Region.noSelect ops=true:=by kernel_rfl)
 (hf:Region.free md ops l i=true:=by kernel_rfl) (hr:(Region.ready md ops l).contains i=true:=by kernel_rfl) (hp:pathB md ops (E :: r)=true:=by kernel_rfl) (hl:(E :: r).getLastD 0=i:=by rfl)
 (hQ:∀ c a w,Q (.panic c) (a.put o.dst v) w→Q (.panic c) a w:=by exact fun _ _ _ h=>h) (hw:Region.wanted o (yielded ops a.tmps)=true:=by rfl):AnyTo P md ops Q S E (f+1) l a w:=AnyTo.load r hc hi hE hs hf hr hp hl hQ (Or.inl ⟨hw,hy⟩) hS h
theorem wB (i:Nat) (hc:Clo md ops l) (h:∀ K:Act→World→Prop,Shut (∀ a w,((l.setIfInBounds i true).getD E false=false→S w)→(Clo md ops (l.setIfInBounds i true)→AnyTo P md ops Q S E f (l.setIfInBounds i true) a w)→K a w)→if Region.wanted o (yielded ops a.tmps)=true then Oper.wp P o a w K Q else K (a.put o.dst undef) w)
 (hr:Region.ready md ops l=[i]:=by kernel_rfl) (hq:(Region.ready md ops l).contains i=true:=by kernel_rfl) (hi:ops[i]? = some o:=by simp only[List.getElem?_toArray,List.getElem?_cons_succ,List.getElem?_cons_zero];exact rfl):AnyTo P md ops Q S E (f+1) l a w:=AnyTo.ready hr (by simp) (ReadyTo.cons hc hq hi h ReadyTo.nil)
end
end
section
variable {u2 u6 jA qA yA zA fA nA rA mA lA oA pA vA sA tA uA aA bA cA dA eA hA iA kA jB qB yB zB fB gB nB rB mB lB oB pB sB tB uB aB bB dB eB hB iB kB jC qC yC zC fC gC nC rC mC lC oC pC vC sC tC uC aC bC cC dC eC iC kC jD qD yD zD fD gD nD rD mD lD oD pD vD sD tD uD aD bD cD dD eD hD iD kD jE qE yE zE fE gE nE rE mE lE oE pE vE sE tE uE aE bE cE dE eE hE iE kE jF qF yF zF fF gF nF rF mF lF oF pF vF sF tF uF aF bF cF dF eF hF iF kF jG qG yG zG fG gG nG rG mG lG oG vG sG tG uG aG bG cG dG eG hG iG kG jH qH yH zH fH gH nH rH mH lH oH pH vH sH tH uH aH bH cH dH eH iH kH jI qI yI zI fI gI nI rI mI lI oI pI sI tI uI aI bI cI dI eI hI iI jJ qJ yJ zJ fJ gJ nJ rJ mJ lJ oJ pJ vJ sJ tJ uJ aJ bJ cJ dJ eJ hJ iJ kJ jK qK yK zK fK gK nK rK mK lK oK pK vK sK tK uK aK bK cK dK eK iK kK jL qL yL fL gL nL rL mL oL pL vL:Value}
set_option maxHeartbeats 16000000
set_option maxRecDepth 1000000
theorem blkC5 {g B q3 q5 N:Nat}{S:Ty}{w3:World}{e2 line:Int}{kind name:ByteArray}{F:Option Addr}{m f:Nat}{T:Ty}{e5 x8 x9:Int}{n kc:Nat}{KA:Option Addr}{wc:World}(ok:(mkBK g B q3 q5 N S w3 e2 kind name F m f line).Ok) (hl:LI (mkBK g B q3 q5 N S w3 e2 kind name F m f line) T e5 n (vS KA n kc) wc) (hN:N≤900)
 {K:Act→World→Prop}{post:Ending→World→Prop}
   (hK:∀ (x2 sL tL uL aL bL cL dL eL hL iL kL jM qM yM zM fM gM nM rM mM lM oM pM vM sM tM uM aM bM cM dM eM hM iM kM jN qN yN zN fN gN nN rN mN lN oN pN vN sN tN uN aN cN dN eN iN kN jO qO yO zO fO gO nO rO mO lO oO pO vO sO tO uO aO bO cO dO eO hO iO kO jP qP yP zP fP gP nP rP mP lP oP pP sP tP uP bP cP dP eP hP iP kP jQ qQ yQ zQ fQ gQ nQ rQ mQ lQ oQ pQ vQ sQ tQ uQ aQ bQ cQ dQ eQ hQ iQ kQ jR qR yR zR fR gR nR rR mR oR pR vR sR tR uR aR cR dR eR hR iR kR jS qS yS zS fS nS rS mS lS oS pS sS tS uS bS cS eS hS iS kS jT qT yT zT fT gT nT rT mT oT pT sT tT uT aT bT cT dT eT hT iT kT jU qU yU zU fU gU nU rU mU lU oU pU vU sU tU uU bU cU dU eU hU iU kU jV qV yV zV fV nV rV mV lV oV pV vV sV tV uV aV bV cV dV eV hV iV kV jW qW yW zW fW gW nW rW mW lW oW pW vW sW tW uW aW bW cW dW eW hW iW kW jX qX yX zX fX:Value)  (wx:World),(∃ T e',Hid (BP (mkBK g B q3 q5 N S w3 e2 kind name F m f line) T e' wx))→K ⟨#[vP (some ⟨g,0,none⟩),.agg #[vT kind,vT name,vS F m f,vI kI line],x2,vP (some ⟨q3,0,none⟩),vS KA n kc,vP (some ⟨q5,0,none⟩),vP (some ⟨q5+1,0,none⟩),vP (some ⟨q5+1+1,0,none⟩),vI kI x8,vI kI x9,sL,tL,uL,aL,bL,cL,dL,eL,hL,iL,kL,jM,qM,yM,zM,fM,gM,nM,rM,mM,lM,oM,pM,vM,sM,tM,uM,aM,bM,cM,dM,eM,hM,iM,kM,jN,qN,yN,zN,fN,gN,nN,rN,mN,lN,oN,pN,vN,sN,tN,uN,aN,cN,dN,eN,iN,kN,jO,qO,yO,zO,fO,gO,nO,rO,mO,lO,oO,pO,vO,sO,tO,uO,aO,bO,cO,dO,eO,hO,iO,kO,jP,qP,yP,zP,fP,gP,nP,rP,mP,lP,oP,pP,sP,tP,uP,bP,cP,dP,eP,hP,iP,kP,jQ,qQ,yQ,zQ,fQ,gQ,nQ,rQ,mQ,lQ,oQ,pQ,vQ,sQ,tQ,uQ,aQ,bQ,cQ,dQ,eQ,hQ,iQ,kQ,jR,qR,yR,zR,fR,gR,nR,rR,mR,oR,pR,vR,sR,tR,uR,aR,cR,dR,eR,hR,iR,kR,jS,qS,yS,zS,fS,nS,rS,mS,lS,oS,pS,sS,tS,uS,bS,cS,eS,hS,iS,kS,jT,qT,yT,zT,fT,gT,nT,rT,mT,oT,pT,sT,tT,uT,aT,bT,cT,dT,eT,hT,iT,kT,jU,qU,yU,zU,fU,gU,nU,rU,mU,lU,oU,pU,vU,sU,tU,uU,bU,cU,dU,eU,hU,iU,kU,jV,qV,yV,zV,fV,nV,rV,mV,lV,oV,pV,vV,sV,tV,uV,aV,bV,cV,dV,eV,hV,iV,kV,jW,qW,yW,zW,fW,gW,nW,rW,mW,lW,oW,pW,vW,sW,tW,uW,aW,bW,cW,dW,eW,hW,iW,kW,jX,qX,yX,zX,fX],[]⟩ wx) :
   Code.wp pG (seqL ((Tryz.f37.body.bind (findAt 43)).getD .skip)) (Exit.then (Code.wp pG (seqR ((Tryz.f37.body.bind (findAt 43)).getD .skip)) (Exit.inBlock 5 (Exit.then K (bodyPost pG Tryz.f37 post)))) (Exit.inBlock 5 (Exit.then K (bodyPost pG Tryz.f37 post)))) ⟨#[vP (some ⟨g,0,none⟩),.agg #[vT kind,vT name,vS F m f,vI kI line],u2,vP (some ⟨q3,0,none⟩),vS KA n kc,vP (some ⟨q5,0,none⟩),vP (some ⟨q5+1,0,none⟩),vP (some ⟨q5+1+1,0,none⟩),vI kI x8,vI kI x9,jA,qA,yA,zA,fA,nA,rA,mA,lA,oA,pA,vA,sA,tA,uA,aA,bA,cA,dA,eA,hA,iA,kA,jB,qB,yB,zB,fB,gB,nB,rB,mB,lB,oB,pB,sB,tB,uB,aB,bB,dB,eB,hB,iB,kB,jC,qC,yC,zC,fC,gC,nC,rC,mC,lC,oC,pC,vC,sC,tC,uC,aC,bC,cC,dC,eC,iC,kC,jD,qD,yD,zD,fD,gD,nD,rD,mD,lD,oD,pD,vD,sD,tD,uD,aD,bD,cD,dD,eD,hD,iD,kD,jE,qE,yE,zE,fE,gE,nE,rE,mE,lE,oE,pE,vE,sE,tE,uE,aE,bE,cE,dE,eE,hE,iE,kE,jF,qF,yF,zF,fF,gF,nF,rF,mF,lF,oF,pF,vF,sF,tF,uF,aF,bF,cF,dF,eF,hF,iF,kF,jG,qG,yG,zG,fG,gG,nG,rG,mG,lG,oG,vG,sG,tG,uG,aG,bG,cG,dG,eG,hG,iG,kG,jH,qH,yH,zH,fH,gH,nH,rH,mH,lH,oH,pH,vH,sH,tH,uH,aH,bH,cH,dH,eH,iH,kH,jI,qI,yI,zI,fI,gI,nI,rI,mI,lI,oI,pI,sI,tI,uI,aI,bI,cI,dI,eI,hI,iI,jJ,qJ,yJ,zJ,fJ,gJ,nJ,rJ,mJ,lJ,oJ,pJ,vJ,sJ,tJ,uJ,aJ,bJ,cJ,dJ,eJ,hJ,iJ,kJ,jK,qK,yK,zK,fK,gK,nK,rK,mK,lK,oK,pK,vK,sK,tK,uK,aK,bK,cK,dK,eK,iK,kK,jL,qL,yL,fL,gL,nL,rL,mL,oL,pL,vL],[]⟩ wc:=by
  have Ok:=hide ok;have HL:=hide hl;clear hl;obtain⟨c17,k0,k1,k2,k3,hlg,hlq⟩:=HL.out.cells;dsimp only at c17 k0 k1 k2 k3 hlg hlq;conv=>pattern (seqL _);whnf
  conv=>pattern (seqR _);whnf
  refine wp_open (fun K0 hK0=>?_);dsimp only;obtain⟨sm,A,c,D,d,E,f9,cs,h6,hm9,hpush⟩:=sty_push HL.out Ok.out (by show N < 999;omega);obtain⟨A1,c1,wz,T1,hr1,⟨u6,hu6⟩,fz6,hg1,hnam,hlin,hn6,hn7,hsg⟩:=hpush (wc.drewN 1) (below_drew (bR _ _) 1) 24;dsimp only at h6 hr1 hu6 fz6 hg1 hnam hlin hn6 hn7 hsg;have HR1:=hide hr1;have HSG:=hide hsg;have HNam:=hide hnam;have HLin:=hide hlin;clear hpush hr1 hsg hnam hlin;go_cut [] (fun wx=>Hid (wx=wz.setCell ⟨g,6,none⟩ (vS A1 (sm+1) c1)));case first=>
   go_region_law (refine step_gives (v:=vS A1 (sm+1) c1) (w':=wz) (by rfl) (gives_append (by rfl) (by rfl) (by rfl) HR1.out) ?_);all_goals
    go_wp2_with fail
    go_meet
    exact rfl
  case rest=>
   have hwc:=hcut.out;have hsg:=HSG.out;have hnam:=HNam.out;have hlin:=HLin.out;rw[← hwc]at hsg hnam hlin;clear hcut c17 k0 k1 k2 k3 hlg hlq h6 hu6 fz6 hg1 hwc HSG HNam HLin HR1;obtain⟨x0,x1,hx,tx,⟨n0,fx0⟩,⟨n1,fx1⟩⟩:=hnam.two rfl;obtain⟨y0,y1,hy,ty,⟨z0,fy0⟩,⟨z1,fy1⟩⟩:=hlin.two rfl;obtain⟨G0,g0,rfl,_,_⟩:=fx0.form;obtain⟨G1,g1,rfl,_,_⟩:=fx1.form;subst fy0 fy1;have p0:=hx.cell 0;have p1:=hx.cell 1;have p2:=hy.cell 0;have p3:=hy.cell 1;simp at p0 p1 p2 p3;have lx:=hx.lt;have ly:=hy.lt;obtain⟨p15,p16,z15,z16,lg⟩:=hsg.cells;dsimp only at p15 p16 z15 z16 lg;have hN9:(mkBK g B q3 q5 N S w3 e2 kind name F m f line).N < 999:=by show N < 999;omega
   have hb0:=below_drew (bR wc.heap.size wc) 1;have hb1:Below wc.heap.size wc ((wc.drewN 1).alloc (.cells #[vS G0 n0 g0,vS G1 n1 g1] 131)):=(below_drew (bR _ _) 1).alloc (lR _) _;have hb4:Below wc.heap.size wc ((wc.drewN 1).alloc (.cells #[vI kI z0,vI kI z1] 132)):=(below_drew (bR _ _) 1).alloc (lR _) _;have hb2:Below wc.heap.size wc (((wc.drewN 1).alloc (.cells #[vS G0 n0 g0,vS G1 n1 g1] 131)).alloc (.cells #[vI kI z0,vI kI z1] 132)):=hb1.alloc hb1.size _;have hb3:Below wc.heap.size wc (((wc.drewN 1).alloc (.cells #[vI kI z0,vI kI z1] 132)).alloc (.cells #[vS G0 n0 g0,vS G1 n1 g1] 131)):=hb4.alloc hb4.size _;obtain⟨A2,c2,wa,A3,c3,wb,r1,r2,bo1,v1,v1',v2⟩:=push_seq hsg Ok.out hN9 79 78 hb1 (Box.new (wc.drewN 1) _ _) tx ty;obtain⟨A4,c4,wd,A5,c5,we,r3,r4,bo2,v4,v5⟩:=push_both hsg Ok.out hN9 79 78 hb2 (bx:=wc.heap.size) (bz:=wc.heap.size+1) (by omega) ((Box.new (wc.drewN 1) _ _).alloc _) (by have:=Box.new ((wc.drewN 1).alloc (.cells #[vS G0 n0 g0,vS G1 n1 g1] 131)) 132 #[vI kI z0,vI kI z1];rwa [World.size_alloc]at this) tx ty;obtain⟨A6,c6,wf,A7,c7,wg,r5,r6,bo3,v7,v8⟩:=push_both hsg Ok.out hN9 79 78 hb3 (bx:=wc.heap.size+1) (bz:=wc.heap.size) (by omega) (by have:=Box.new ((wc.drewN 1).alloc (.cells #[vI kI z0,vI kI z1] 132)) 131 #[vS G0 n0 g0,vS G1 n1 g1];rwa [World.size_alloc]at this) ((Box.new (wc.drewN 1) _ _).alloc _) tx ty;have K0:=hide (hsg.ks hb0);have K1:=hide (hsg.ks hb1);have K2:=hide (hsg.ks hb2);have K3:=hide (hsg.ks hb3);have K4:=hide (hsg.ks hb4);have Va:=hide v1;have Va':=hide v1';have Vb:=hide v2;have Vd:=hide v4;have Ve:=hide v5;have Vf:=hide v7;have Vg:=hide v8;have R1:=hide r1;have R2:=hide r2;have R3:=hide r3;have R4:=hide r4;have R5:=hide r5;have R6:=hide r6;obtain⟨⟨s1,hs1⟩,hs2,⟨s3,hs3⟩,hs4,hs5,T3,hs6⟩:=bo1;obtain⟨⟨s7,hs7⟩,hs8,⟨s9,hs9⟩,hs10,hs11,T5,hs12⟩:=bo2;obtain⟨⟨s13,hs13⟩,hs14,⟨s15,hs15⟩,hs16,hs17,T7,hs18⟩:=bo3;dsimp only at hs1 hs2 hs3 hs4 hs5 hs6 hs7 hs8 hs9 hs10 hs11 hs12 hs13 hs14 hs15 hs16 hs17 hs18;have Q1:=hide hs6;have Q2:=hide hs12;have Q3:=hide hs18;have HX:=hide hx;have HY:=hide hy;have HN6:=hide hn6;have HN7:=hide hn7;clear r1 r2 r3 r4 r5 r6 hs6 hs12 hs18 hsg hnam hlin hx hy tx ty hb0 hb1 hb2 hb3 hb4 fx0 fx1 v1 v1' v2 v4 v5 v7 v8 hn6 hn7 p0 p1 p2 p3 lx ly p15 p16 z15 z16 lg;go_upto_region 44 with fail;refine region_to 18 (KS (mkBK g B q3 q5 N S w3 e2 kind name F m f line) T1 (vS D sm d) (vS E sm f9) wc) (by kernel_rfl) (fun hC=>?_);have hH:=K0.out;refine wA 0 ?x0v hC ?x0y (fun _=>hH) (fun hC'=>?x0r);case x0y=>intro v hv;go_simp;rfl
   clear hC;have hC:=hC';clear hC';try simp only[aP,aS,aZ,aU]
   refine wA 1 ?x1v hC ?x1y (fun _=>hH) (fun hC'=>?x1r);case x1y=>intro v hv;go_simp;rfl
   clear hC;have hC:=hC';clear hC';try simp only[aP,aS,aZ,aU]
   refine wA 2 ?x2v hC ?x2y (fun _=>hH) (fun hC'=>?x2r);case x2y=>intro v hv;go_simp;rfl
   clear hC;have hC:=hC';clear hC';try simp only[aP,aS,aZ,aU]
   refine wA 3 ?x3v hC ?x3y (fun _=>hH) (fun hC'=>?x3r);case x3y=>intro v hv;go_simp;rfl
   clear hC;have hC:=hC';clear hC';try simp only[aP,aS,aZ,aU]
   refine wA 4 ?x4v hC ?x4y (fun _=>hH) (fun hC'=>?x4r);case x4y=>intro v hv;go_simp;rfl
   clear hC;have hC:=hC';clear hC';try simp only[aP,aS,aZ,aU]
   refine wL 5 ?x5v [5] hC ?x5y hH (fun hC'=>?x5r);case x5y=>intro v hv;have q0:=hv.2.1;dsimp only at q0;go_simp;rfl
   clear hC;have hC:=hC';clear hC';try simp only[aP,aS,aZ,aU]
   refine wL 6 ?x6v [6] hC ?x6y hH (fun hC'=>?x6r);case x6y=>intro v hv;have q0:=hv.2.2.2 _ _ _ HN6.out HX.out;have q1:=q0.cell 0;have q2:=q0.cell 1;have q3:=q0.lt;simp at q1 q2;go_simp;rfl
   clear hC;have hC:=hC';clear hC';try simp only[aP,aS,aZ,aU]
   refine wA 9 ?x9v hC ?x9y (fun _=>hH) (fun hC'=>?x9r);case x9y=>intro v hv;go_simp;rfl
   clear hC;have hC:=hC';clear hC';try simp only[aP,aS,aZ,aU]
   refine wA 10 ?x10v hC ?x10y (fun _=>hH) (fun hC'=>?x10r);case x10y=>intro v hv;go_simp;rfl
   clear hC;have hC:=hC';clear hC';try simp only[aP,aS,aZ,aU]
   refine wA 11 ?x11v hC ?x11y (fun _=>hH) (fun hC'=>?x11r);case x11y=>intro v hv;go_simp;rfl
   clear hC;have hC:=hC';clear hC';try simp only[aP,aS,aZ,aU]
   refine wL 12 ?x12v [12] hC ?x12y hH (fun hC'=>?x12r);case x12y=>intro v hv;have q0:=hv.1;dsimp only at q0;go_simp;rfl
   clear hC;have hC:=hC';clear hC';try simp only[aP,aS,aZ,aU]
   refine wL 13 ?x13v [15,14,13] hC ?x13y hH (fun hC'=>?x13r);case x13y=>intro v hv;have q0:=hv.2.2.2 _ _ _ HN7.out HY.out;have q1:=q0.cell 0;have q2:=q0.cell 1;have q3:=q0.lt;simp at q1 q2;go_simp;rfl
   clear hC;have hC:=hC';clear hC';try simp only[aP,aS,aZ,aU]
   refine AnyTo.ready (rs:=[7,14]) (by kernel_rfl) (by simp) ?_;refine ReadyTo.cons hC (by kernel_rfl) (by simp only[gA,gS,gZ];exact rfl) (fun K hK=>?xb7) (ReadyTo.cons hC (by kernel_rfl) (by simp only[gA,gS,gZ];exact rfl) (fun K hK=>?xb14) (ReadyTo.nil));case xb7=>
    go_simp;have hN:=K1.out;refine hK.out _ _ (fun _=>hN) (fun hC'=>?_);clear hK hC hH K;have hH:=hN;clear hN;have hC:=hC';clear hC';try simp only[aP,aS,aZ,aU]
    refine AnyTo.ready (rs:=[8,14]) (by kernel_rfl) (by simp) ?_;refine ReadyTo.cons hC (by kernel_rfl) (by simp only[gA,gS,gZ];exact rfl) (fun K hK=>?xc7b8) (ReadyTo.cons hC (by kernel_rfl) (by simp only[gA,gS,gZ];exact rfl) (fun K hK=>?xc7b14) (ReadyTo.nil));case xc7b8=>
     refine step_gives (v:=vS A2 (sm+1) c2) (w':=wa) (by rfl) (gives_append (by rfl) (by rfl) (by rfl) R1.out) ?_;have hN:=Va.out;refine hK.out _ _ (fun _=>hN) (fun hC'=>?_);clear hK hC hH K;have hH:=hN;clear hN;have hC:=hC';clear hC';try simp only[aP,aS,aZ,aU]
     refine wB 14 hC fun K hK=>?_;go_simp;have hN:=Va'.out;refine hK.out _ _ (fun _=>hN) (fun hC'=>?_);clear hK hC hH K;have hH:=hN;clear hN;have hC:=hC';clear hC';try simp only[aP,aS,aZ,aU]
     refine wB 15 hC fun K hK=>?_;refine step_gives (v:=vS A3 (sm+1) c3) (w':=wb) (by rfl) (gives_append (by rfl) (by rfl) (by rfl) R2.out) ?_;have hN:=Vb.out;refine hK.out _ _ (fun _=>hN) (fun hC'=>?_);clear hK hC hH K;have hH:=hN;clear hN;have hC:=hC';clear hC';try simp only[aP,aS,aZ,aU]
     refine wA 16 ?xc7c8ss16v hC ?xc7c8ss16y (fun _=>hH) (fun hC'=>?xc7c8ss16r);case xc7c8ss16y=>intro v hv;go_simp;rfl
     clear hC;have hC:=hC';clear hC';try simp only[aP,aS,aZ,aU]
     refine wA 17 ?xc7c8ss17v hC ?xc7c8ss17y (fun _=>hH) (fun hC'=>?xc7c8ss17r);case xc7c8ss17y=>intro v hv;go_simp;rfl
     clear hC;have hC:=hC';clear hC';try simp only[aP,aS,aZ,aU]
     refine wB 18 hC fun K hK=>?_;go_simp;refine hK.out _ _ (fun h=>by have h2:true=false:=h;cases h2) (fun hC'=>?_);clear hK hC K;have hC:=hC';clear hC';try simp only[aP,aS,aZ,aU]
     refine wA 19 ?xc7c8sss19v hC ?xc7c8sss19y (fun h=>by have h2:true=false:=h;cases h2) (fun hC'=>?xc7c8sss19r);case xc7c8sss19y=>intro v hv;go_simp;rfl
     clear hC;have hC:=hC';clear hC';try simp only[aP,aS,aZ,aU]
     refine wA 20 ?xc7c8sss20v hC ?xc7c8sss20y (fun h=>by have h2:true=false:=h;cases h2) (fun hC'=>?xc7c8sss20r);case xc7c8sss20y=>intro v hv;go_simp;rfl
     clear hC;have hC:=hC';clear hC';try simp only[aP,aS,aZ,aU]
     refine wB 21 hC fun K hK=>?_;go_simp;refine hK.out _ _ (fun h=>by have h2:true=false:=h;cases h2) (fun hC'=>?_);clear hK hC K;have hC:=hC';clear hC';try simp only[aP,aS,aZ,aU]
     refine AnyTo.done (by kernel_rfl) ?_ _;go_wp2_with fail;exact⟨_,_,Q1.out⟩
    case xc7b14=>
     go_simp;have hN:=K2.out;refine hK.out _ _ (fun _=>hN) (fun hC'=>?_);clear hK hC hH K;have hH:=hN;clear hN;have hC:=hC';clear hC';try simp only[aP,aS,aZ,aU]
     refine wB 8 hC fun K hK=>?_;refine step_gives (v:=vS A4 (sm+1) c4) (w':=wd) (by rfl) (gives_append (by rfl) (by rfl) (by rfl) R3.out) ?_;have hN:=Vd.out;refine hK.out _ _ (fun _=>hN) (fun hC'=>?_);clear hK hC hH K;have hH:=hN;clear hN;have hC:=hC';clear hC';try simp only[aP,aS,aZ,aU]
     refine wB 15 hC fun K hK=>?_;refine step_gives (v:=vS A5 (sm+1) c5) (w':=we) (by rfl) (gives_append (by rfl) (by rfl) (by rfl) R4.out) ?_;have hN:=Ve.out;refine hK.out _ _ (fun _=>hN) (fun hC'=>?_);clear hK hC hH K;have hH:=hN;clear hN;have hC:=hC';clear hC';try simp only[aP,aS,aZ,aU]
     refine wA 16 ?xc7c14ss16v hC ?xc7c14ss16y (fun _=>hH) (fun hC'=>?xc7c14ss16r);case xc7c14ss16y=>intro v hv;go_simp;rfl
     clear hC;have hC:=hC';clear hC';try simp only[aP,aS,aZ,aU]
     refine wA 17 ?xc7c14ss17v hC ?xc7c14ss17y (fun _=>hH) (fun hC'=>?xc7c14ss17r);case xc7c14ss17y=>intro v hv;go_simp;rfl
     clear hC;have hC:=hC';clear hC';try simp only[aP,aS,aZ,aU]
     refine wB 18 hC fun K hK=>?_;go_simp;refine hK.out _ _ (fun h=>by have h2:true=false:=h;cases h2) (fun hC'=>?_);clear hK hC K;have hC:=hC';clear hC';try simp only[aP,aS,aZ,aU]
     refine wA 19 ?xc7c14sss19v hC ?xc7c14sss19y (fun h=>by have h2:true=false:=h;cases h2) (fun hC'=>?xc7c14sss19r);case xc7c14sss19y=>intro v hv;go_simp;rfl
     clear hC;have hC:=hC';clear hC';try simp only[aP,aS,aZ,aU]
     refine wA 20 ?xc7c14sss20v hC ?xc7c14sss20y (fun h=>by have h2:true=false:=h;cases h2) (fun hC'=>?xc7c14sss20r);case xc7c14sss20y=>intro v hv;go_simp;rfl
     clear hC;have hC:=hC';clear hC';try simp only[aP,aS,aZ,aU]
     refine wB 21 hC fun K hK=>?_;go_simp;refine hK.out _ _ (fun h=>by have h2:true=false:=h;cases h2) (fun hC'=>?_);clear hK hC K;have hC:=hC';clear hC';try simp only[aP,aS,aZ,aU]
     refine AnyTo.done (by kernel_rfl) ?_ _;go_wp2_with fail;exact⟨_,_,Q2.out⟩
   case xb14=>
    go_simp;have hN:=K4.out;refine hK.out _ _ (fun _=>hN) (fun hC'=>?_);clear hK hC hH K;have hH:=hN;clear hN;have hC:=hC';clear hC';try simp only[aP,aS,aZ,aU]
    refine wB 7 hC fun K hK=>?_;go_simp;have hN:=K3.out;refine hK.out _ _ (fun _=>hN) (fun hC'=>?_);clear hK hC hH K;have hH:=hN;clear hN;have hC:=hC';clear hC';try simp only[aP,aS,aZ,aU]
    refine wB 8 hC fun K hK=>?_;refine step_gives (v:=vS A6 (sm+1) c6) (w':=wf) (by rfl) (gives_append (by rfl) (by rfl) (by rfl) R5.out) ?_;have hN:=Vf.out;refine hK.out _ _ (fun _=>hN) (fun hC'=>?_);clear hK hC hH K;have hH:=hN;clear hN;have hC:=hC';clear hC';try simp only[aP,aS,aZ,aU]
    refine wB 15 hC fun K hK=>?_;refine step_gives (v:=vS A7 (sm+1) c7) (w':=wg) (by rfl) (gives_append (by rfl) (by rfl) (by rfl) R6.out) ?_;have hN:=Vg.out;refine hK.out _ _ (fun _=>hN) (fun hC'=>?_);clear hK hC hH K;have hH:=hN;clear hN;have hC:=hC';clear hC';try simp only[aP,aS,aZ,aU]
    refine wA 16 ?xc14sss16v hC ?xc14sss16y (fun _=>hH) (fun hC'=>?xc14sss16r);case xc14sss16y=>intro v hv;go_simp;rfl
    clear hC;have hC:=hC';clear hC';try simp only[aP,aS,aZ,aU]
    refine wA 17 ?xc14sss17v hC ?xc14sss17y (fun _=>hH) (fun hC'=>?xc14sss17r);case xc14sss17y=>intro v hv;go_simp;rfl
    clear hC;have hC:=hC';clear hC';try simp only[aP,aS,aZ,aU]
    refine wB 18 hC fun K hK=>?_;go_simp;refine hK.out _ _ (fun h=>by have h2:true=false:=h;cases h2) (fun hC'=>?_);clear hK hC K;have hC:=hC';clear hC';try simp only[aP,aS,aZ,aU]
    refine wA 19 ?xc14ssss19v hC ?xc14ssss19y (fun h=>by have h2:true=false:=h;cases h2) (fun hC'=>?xc14ssss19r);case xc14ssss19y=>intro v hv;go_simp;rfl
    clear hC;have hC:=hC';clear hC';try simp only[aP,aS,aZ,aU]
    refine wA 20 ?xc14ssss20v hC ?xc14ssss20y (fun h=>by have h2:true=false:=h;cases h2) (fun hC'=>?xc14ssss20r);case xc14ssss20y=>intro v hv;go_simp;rfl
    clear hC;have hC:=hC';clear hC';try simp only[aP,aS,aZ,aU]
    refine wB 21 hC fun K hK=>?_;go_simp;refine hK.out _ _ (fun h=>by have h2:true=false:=h;cases h2) (fun hC'=>?_);clear hK hC K;have hC:=hC';clear hC';try simp only[aP,aS,aZ,aU]
    refine AnyTo.done (by kernel_rfl) ?_ _;go_wp2_with fail;exact⟨_,_,Q3.out⟩
end
section
variable {u2 pL vL sL tL uL aL bL cL dL eL hL iL kL jM qM yM zM fM gM nM rM mM lM oM pM vM sM tM uM aM bM cM dM eM hM iM kM jN qN yN zN fN gN nN rN mN lN oN pN vN sN tN uN aN cN dN eN iN kN jO qO yO zO fO gO nO rO mO lO oO pO vO sO tO uO aO bO cO dO eO hO iO kO jP qP yP zP fP gP nP rP mP lP oP pP sP tP uP bP cP dP eP hP iP kP jQ qQ yQ zQ fQ gQ nQ rQ mQ lQ oQ pQ vQ sQ tQ uQ aQ bQ cQ dQ eQ hQ iQ kQ jR qR yR zR fR gR nR rR mR oR pR vR sR tR uR aR cR dR eR hR iR kR jS qS yS zS fS nS rS mS lS oS pS sS tS uS bS cS eS hS iS kS jT qT yT zT fT gT nT rT mT oT pT sT tT uT aT bT cT dT eT hT iT kT jU qU yU zU fU gU nU rU mU lU oU pU vU sU tU uU bU cU dU eU hU iU kU jV qV yV zV fV nV rV mV lV oV pV vV sV tV uV aV bV cV dV eV hV iV kV jW qW yW zW fW gW nW rW mW lW oW pW vW sW tW uW aW bW cW dW eW hW iW kW jX qX yX:Value}
set_option maxHeartbeats 16000000
set_option maxRecDepth 1000000
theorem blkC6 {g B q3 q5 N:Nat}{S:Ty}{w3:World}{e2 line:Int}{kind name:ByteArray}{F:Option Addr}{m f:Nat}{T:Ty}{e5 x8 x9:Int}{n kc:Nat}{KA:Option Addr}{wc:World}(ok:(mkBK g B q3 q5 N S w3 e2 kind name F m f line).Ok) (hl:LI (mkBK g B q3 q5 N S w3 e2 kind name F m f line) T e5 n (vS KA n kc) wc) (hN:N≤900) (hns:e5=0→kind.toList=[99,111,110,116,101,115,116]→name.size≤24)
 {K:Act→World→Prop}{post:Ending→World→Prop}
   (hK:∀ (x2 jA qA yA zA fA nA rA mA lA oA pA vA sA tA uA aA bA cA dA eA hA iA kA jB qB yB zB fB gB nB rB mB lB oB pB sB tB uB aB bB dB eB hB iB kB jC qC yC zC fC gC nC rC mC lC oC pC vC sC tC uC aC bC cC dC eC hC iC kC jD qD yD zD fD gD nD rD mD lD oD pD vD sD tD uD aD bD cD dD eD hD iD kD jE qE yE zE fE gE nE rE mE lE oE pE vE sE tE uE aE bE cE dE eE hE iE kE jF qF yF zF fF gF nF rF mF lF oF pF vF sF tF uF aF bF cF dF eF hF iF kF jG qG yG zG fG gG nG rG mG lG oG vG sG tG uG aG bG cG dG eG hG iG kG jH qH yH zH fH gH nH rH mH lH oH pH vH sH tH uH aH bH cH dH eH hH iH kH jI qI yI zI fI gI nI rI mI lI oI pI sI tI uI aI bI cI dI eI hI iI jJ qJ yJ zJ fJ gJ nJ rJ mJ lJ oJ pJ vJ sJ tJ uJ aJ bJ cJ dJ eJ hJ iJ kJ jK qK yK zK fK gK nK rK mK lK oK pK vK sK tK uK aK bK cK dK eK iK kK jL qL yL fL gL nL rL mL oL:Value)  (wx:World),(∃ T e',Hid (BP (mkBK g B q3 q5 N S w3 e2 kind name F m f line) T e' wx))→K ⟨#[vP (some ⟨g,0,none⟩),.agg #[vT kind,vT name,vS F m f,vI kI line],x2,vP (some ⟨q3,0,none⟩),vS KA n kc,vP (some ⟨q5,0,none⟩),vP (some ⟨q5+1,0,none⟩),vP (some ⟨q5+1+1,0,none⟩),vI kI x8,vI kI x9,jA,qA,yA,zA,fA,nA,rA,mA,lA,oA,pA,vA,sA,tA,uA,aA,bA,cA,dA,eA,hA,iA,kA,jB,qB,yB,zB,fB,gB,nB,rB,mB,lB,oB,pB,sB,tB,uB,aB,bB,dB,eB,hB,iB,kB,jC,qC,yC,zC,fC,gC,nC,rC,mC,lC,oC,pC,vC,sC,tC,uC,aC,bC,cC,dC,eC,hC,iC,kC,jD,qD,yD,zD,fD,gD,nD,rD,mD,lD,oD,pD,vD,sD,tD,uD,aD,bD,cD,dD,eD,hD,iD,kD,jE,qE,yE,zE,fE,gE,nE,rE,mE,lE,oE,pE,vE,sE,tE,uE,aE,bE,cE,dE,eE,hE,iE,kE,jF,qF,yF,zF,fF,gF,nF,rF,mF,lF,oF,pF,vF,sF,tF,uF,aF,bF,cF,dF,eF,hF,iF,kF,jG,qG,yG,zG,fG,gG,nG,rG,mG,lG,oG,vG,sG,tG,uG,aG,bG,cG,dG,eG,hG,iG,kG,jH,qH,yH,zH,fH,gH,nH,rH,mH,lH,oH,pH,vH,sH,tH,uH,aH,bH,cH,dH,eH,hH,iH,kH,jI,qI,yI,zI,fI,gI,nI,rI,mI,lI,oI,pI,sI,tI,uI,aI,bI,cI,dI,eI,hI,iI,jJ,qJ,yJ,zJ,fJ,gJ,nJ,rJ,mJ,lJ,oJ,pJ,vJ,sJ,tJ,uJ,aJ,bJ,cJ,dJ,eJ,hJ,iJ,kJ,jK,qK,yK,zK,fK,gK,nK,rK,mK,lK,oK,pK,vK,sK,tK,uK,aK,bK,cK,dK,eK,iK,kK,jL,qL,yL,fL,gL,nL,rL,mL,oL],[]⟩ wx) :
   Code.wp pG ((Tryz.f37.body.bind (findBlk 5)).getD .skip) (Exit.then K (bodyPost pG Tryz.f37 post)) ⟨#[vP (some ⟨g,0,none⟩),.agg #[vT kind,vT name,vS F m f,vI kI line],u2,vP (some ⟨q3,0,none⟩),vS KA n kc,vP (some ⟨q5,0,none⟩),vP (some ⟨q5+1,0,none⟩),vP (some ⟨q5+1+1,0,none⟩),vI kI x8,vI kI x9,pL,vL,sL,tL,uL,aL,bL,cL,dL,eL,hL,iL,kL,jM,qM,yM,zM,fM,gM,nM,rM,mM,lM,oM,pM,vM,sM,tM,uM,aM,bM,cM,dM,eM,hM,iM,kM,jN,qN,yN,zN,fN,gN,nN,rN,mN,lN,oN,pN,vN,sN,tN,uN,aN,cN,dN,eN,iN,kN,jO,qO,yO,zO,fO,gO,nO,rO,mO,lO,oO,pO,vO,sO,tO,uO,aO,bO,cO,dO,eO,hO,iO,kO,jP,qP,yP,zP,fP,gP,nP,rP,mP,lP,oP,pP,sP,tP,uP,bP,cP,dP,eP,hP,iP,kP,jQ,qQ,yQ,zQ,fQ,gQ,nQ,rQ,mQ,lQ,oQ,pQ,vQ,sQ,tQ,uQ,aQ,bQ,cQ,dQ,eQ,hQ,iQ,kQ,jR,qR,yR,zR,fR,gR,nR,rR,mR,oR,pR,vR,sR,tR,uR,aR,cR,dR,eR,hR,iR,kR,jS,qS,yS,zS,fS,nS,rS,mS,lS,oS,pS,sS,tS,uS,bS,cS,eS,hS,iS,kS,jT,qT,yT,zT,fT,gT,nT,rT,mT,oT,pT,sT,tT,uT,aT,bT,cT,dT,eT,hT,iT,kT,jU,qU,yU,zU,fU,gU,nU,rU,mU,lU,oU,pU,vU,sU,tU,uU,bU,cU,dU,eU,hU,iU,kU,jV,qV,yV,zV,fV,nV,rV,mV,lV,oV,pV,vV,sV,tV,uV,aV,bV,cV,dV,eV,hV,iV,kV,jW,qW,yW,zW,fW,gW,nW,rW,mW,lW,oW,pW,vW,sW,tW,uW,aW,bW,cW,dW,eW,hW,iW,kW,jX,qX,yX],[]⟩ wc:=by
  have Ok:=hide ok;have HL:=hide hl;clear hl;obtain⟨c17,k0,k1,k2,k3,hlg,hlq⟩:=HL.out.cells;dsimp only at c17 k0 k1 k2 k3 hlg hlq;conv=>arg 2;whnf
  dsimp only;by_cases h0:e5=0
  ·subst h0;cases hp:(kind.toList==[99,111,110,116,101,115,116]) with
   |true=>have hz:=hns rfl (beq_iff_eq.1 hp);go_upto_region 36 with fail;refine wp_close (blkC1 Ok.out HL.out ?_) (by assumption);intro x2 jA qA yA zA fA nA rA mA lA oA pA vA sA tA uA aA bA cA dA eA hA iA kA jB qB yB zB fB gB nB rB mB lB oB pB sB tB uB aB bB dB eB hB iB kB jC qC yC zC fC gC nC rC mC lC oC pC vC sC tC uC aC bC cC dC eC hC iC kC jD qD yD zD fD gD nD rD mD lD oD pD vD sD tD uD aD bD cD dD eD hD iD kD jE qE yE zE fE gE nE rE mE lE oE pE vE sE tE uE aE bE cE dE eE hE iE kE jF qF yF zF fF gF nF rF mF lF oF pF vF sF tF uF aF bF cF dF eF hF iF kF jG qG yG zG fG gG nG rG mG lG oG vG sG tG uG aG bG cG dG eG hG iG kG jH qH yH zH fH gH nH rH mH lH oH pH vH sH tH uH aH bH cH dH eH hH iH kH jI qI yI zI fI gI nI rI mI lI oI pI sI tI uI aI bI cI dI eI hI iI jJ qJ yJ zJ fJ gJ nJ rJ mJ lJ oJ pJ vJ sJ tJ uJ aJ bJ cJ dJ eJ hJ iJ kJ jK qK yK zK fK gK nK rK mK lK oK pK vK sK tK uK aK bK cK dK eK iK kK jL qL yL fL gL nL rL mL oL wx ⟨e6,HL6⟩;clear c17 k0 k1 k2 k3 hlg hlq HL;go_upto_region 38 with fail;refine wp_close (blkC2 Ok.out HL6.out ?_) (by assumption);intro x2 jA qA yA zA fA nA rA mA lA oA pA vA sA tA uA aA bA cA dA eA hA iA kA jB qB yB zB fB gB nB rB mB lB oB pB sB tB uB aB bB dB eB hB iB kB jC qC yC zC fC gC nC rC mC lC oC pC vC sC tC uC aC bC cC dC eC hC iC kC jD qD yD zD fD gD nD rD mD lD oD pD vD sD tD uD aD bD cD dD eD hD iD kD jE qE yE zE fE gE nE rE mE lE oE pE vE sE tE uE aE bE cE dE eE hE iE kE jF qF yF zF fF gF nF rF mF lF oF pF vF sF tF uF aF bF cF dF eF hF iF kF jG qG yG zG fG gG nG rG mG lG oG vG sG tG uG aG bG cG dG eG hG iG kG jH qH yH zH fH gH nH rH mH lH oH pH vH sH tH uH aH bH cH dH eH hH iH kH jI qI yI zI fI gI nI rI mI lI oI pI sI tI uI aI bI cI dI eI hI iI jJ qJ yJ zJ fJ gJ nJ rJ mJ lJ oJ pJ vJ sJ tJ uJ aJ bJ cJ dJ eJ hJ iJ kJ jK qK yK zK fK gK nK rK mK lK oK pK vK sK tK uK aK bK cK dK eK iK kK jL qL yL fL gL nL rL mL oL wy ⟨e7,HL7⟩;clear HL6;go_upto_region 40 with fail;exact wp_close (blkC3 Ok.out HL7.out hz hN hK) (by assumption)
   |false=>
    cases hq:(kind.toList==[115,116,121,108,101]) with
    |true=>go_upto_region 43 with fail;exact wp_close (blkC5 Ok.out HL.out hN hK) (by assumption)
    |false=>go_upto_region 45 with fail;exact wp_close (blkC4 Ok.out HL.out hK) (by assumption)
  ·have h0':(e5 != 0)=true:=by simp[h0]
   go_wp2_with fail;exact⟨_,_,HL.out.bp⟩
end
section
set_option maxHeartbeats 16000000
set_option maxRecDepth 1000000
theorem block_any {g B N:Nat}{S:Ty}{w:World}{e line:Int}{kind name:ByteArray}{F:Option Addr}{m f:Nat}(h:Sta g B S w N e) (hN:N≤900) (hkz:kind.size≤24) (hnz:name.size≤big) (hfl:Sl S .fld m (vS F m f)) (hm:m≤1000) :
  Calls pG 37 #[vP (some ⟨g,0,none⟩),.agg #[vT kind,vT name,vS F m f,vI kI line]] w fun en w'=>en=.returned (.tuple #[])∧∃ T e',Stp (fun i=>i=g) B S w T w'∧Sta g B T w' (N+1) e'∧(e'=0→e=0):=by
 obtain⟨w1,hw1⟩:∃ r,w.alloc (.cells #[vT kind,vT name,vS F m f,vI kI line] 86)=r:=⟨_,rfl⟩;have hb1:Below w.heap.size w w1:=by rw[← hw1];exact(bR _ _).alloc (lR _) _
 have hx1:Box w1 w.heap.size 86 #[vT kind,vT name,vS F m f,vI kI line]:=by rw[← hw1];exact Box.new _ _ _
 have hs1:w1.heap.size=w.heap.size+1:=by rw[← hw1];simp
 have HH:=hide (head_any (line:=line) (kind:=kind) (F:=F) (m:=m) (f:=f) (h.below hb1) (by omega) hnz);have HLd:=hide (box_load aggBlock hx1 rfl);have H:=hide h;have HB1:=hide hb1;have HX1:=hide hx1;have HS1:=hide hs1;have HW1:=hide hw1;have HFl:=hide hfl;have HKz:=hide hkz;have HNz:=hide hnz;clear h hb1 hx1 hs1 hw1 hfl hkz hnz;go_enter Tryz.func37,Tryz.ntmps37;go_upto_region 1 with (fail);rw[HW1.out];go_wp2_with ((with_reducible refine gV 15 (.agg #[vT kind,vT name,vS F m f,vI kI line]) w1 ?_ ?_ ?_);rfl;exact gives_load rfl rfl HLd.out);refine HH.out.mono ?_;rintro en w2 ⟨rfl,e2,hp1,hp2,hp3⟩;obtain⟨w3,hw3⟩:∃ r,((w2.alloc (.cells conZ 74)).alloc (.cells #[vS none 0 0,vS none 0 0] 131)).alloc (.cells #[vI kI 0,vI kI 0] 132)=r:=⟨_,rfl⟩;have HW3:=hide hw3;unfold conZ at hw3;have HW3':=hide hw3;clear hw3;obtain⟨ok,hli,hst,hsz3⟩:=blk_start H.out HB1.out HX1.out HS1.out hp1 hp2 HW3.out HKz.out HNz.out HFl.out;have hsz2:=hp1.size;have hs1:=HS1.out;have Ok:=hide ok;have HLI:=hide hli;have HSt:=hide hst;have HP3:=hide hp3;clear hp1 hp2 hp3 ok hli hst hsz3;go_upto_region 6 with (fail);rw[HW3'.out];go_upto_block 0 with (fail);refine blkD0 Ok.out HLI.out hm ?_;intros;rename_i v4 y8 y9 wa hrel;obtain⟨T,e',n,HL1,hn⟩:=hrel;clear HLI;obtain⟨c17,k0,k1,k2,k3,hlg,hlq⟩:=HL1.out.cells;dsimp only at c17 k0 k1 k2 k3 hlg hlq;obtain⟨KA,kc,rfl,_,_⟩:=HL1.out.kn.form;have K:=hide (fun wq=>keys_any (s:=kind) (w:=wq));go_wp2_with fail;refine(K.out _).mono ?_;rintro en w4 ⟨LA,kl,rfl,_,hk8,_,hkli,hb4⟩;have HL4:=hide (HL1.out.below Ok.out hb4);have hkl:Lst g w4 LA kl:=ListIn.mono hkli fun i hi=>⟨hi.2,by have:=HL1.out.sta.lt;have h':g < wa.heap.size:=this;omega⟩;have HKl:=hide hkl;clear c17 k0 k1 k2 k3 hlg hlq hkli hb4 hkl HL1 K;go_upto_block 3 with (fail);refine blkD3 Ok.out HL4.out HKl.out hk8 ?_;intros;rename_i wb hrel;obtain⟨e5,HL5⟩:=hrel;clear HL4 HKl;go_upto_block 5 with (fail);refine blkC6 Ok.out HL5.out hN (fun h0 hk=>(HP3.out (HL5.out.mono h0)).2 hk) ?_;intros;rename_i wd hrel;obtain⟨T9,e9,HB9⟩:=hrel;clear HL5;obtain⟨k0,k3,hlg,hlq⟩:=HB9.out.cells;dsimp only at k0 k3 hlg hlq;obtain⟨m9,A9,c9,h14,hpush⟩:=seen_push HB9.out Ok.out (by show N < 1000;omega);obtain⟨A1,c1,wz,T1,hr1,⟨u1,hu1⟩,fz1,hg1,hst1,hsta1⟩:=hpush (wd.drewN 1) (below_drew (bR _ _) 1) 22;dsimp only at h14 hr1 hu1 fz1 hg1 hst1 hsta1;have HR1:=hide hr1;have HSt1:=hide hst1;have HSta1:=hide hsta1;clear hpush hr1 hst1 hsta1;go_upto_region 47 with (fail);go_region_law (refine step_gives (v:=vS A1 (m9+1) c1) (w':=wz) (by rfl) (gives_append (by rfl) (by rfl) (by rfl) HR1.out) ?_);all_goals
  go_wp2_with fail
  go_end0
  refine⟨rfl,T1,e9,((HSt.out.mono (fun i _ hi=>.inl hi)).trans HSt1.out).mono (fun i hi hM=>?_),HSta1.out,fun h0=>(HP3.out (HB9.out.mono h0)).1⟩
  rcases hM with h|h|h|h
  ·exact h
  ·have h':i=w2.heap.size:=h;omega
  ·have h':i=w2.heap.size+1:=h;omega
  ·have h':i=w2.heap.size+1+1:=h;omega
end
section
variable {u0 u6 u7 u8 u9 jA qA yA zA fA nA rA mA lA oA pA vA sA tA uA aA bA cA dA eA iA kA jB qB yB zB fB gB nB rB mB lB oB pB sB tB uB aB bB dB eB hB iB kB jC qC yC zC fC gC nC rC mC lC oC pC vC sC tC uC aC bC cC dC eC hC iC kC jD qD yD zD fD gD nD rD mD lD oD pD:Value}
set_option maxHeartbeats 16000000
set_option maxRecDepth 1000000
theorem cmp0 {b:CB}{T:Ty}{wc:World}{e:Int}
   (h:CP b T wc 0 e) (hn:b.n≤900)
 {K:Act→World→Prop}{post:Ending→World→Prop}
   (hK:∀ (x0 x5 x6 x7 x8 x9 vD sD tD uD aD bD cD dD eD hD iD kD jE qE yE zE fE gE nE rE mE lE oE pE vE sE tE uE aE bE cE dE eE hE iE kE jF qF yF zF fF gF nF rF mF lF oF pF vF sF tF uF aF bF cF dF eF hF iF kF jG qG yG zG fG gG nG rG mG lG oG vG sG tG uG aG bG cG dG eG:Value)  (wx:World),(∃ T' N' e',Hid (CP b T' wx N' e')∧N'≤900)→K ⟨#[x0,vP (some ⟨b.q1,0,none⟩),vP (some ⟨b.q2,0,none⟩),vP (some ⟨b.q3,0,none⟩),vP (some ⟨b.g,0,none⟩),x5,x6,x7,x8,x9,vD,sD,tD,uD,aD,bD,cD,dD,eD,hD,iD,kD,jE,qE,yE,zE,fE,gE,nE,rE,mE,lE,oE,pE,vE,sE,tE,uE,aE,bE,cE,dE,eE,hE,iE,kE,jF,qF,yF,zF,fF,gF,nF,rF,mF,lF,oF,pF,vF,sF,tF,uF,aF,bF,cF,dF,eF,hF,iF,kF,jG,qG,yG,zG,fG,gG,nG,rG,mG,lG,oG,vG,sG,tG,uG,aG,bG,cG,dG,eG],[]⟩ wx) :
   Code.wp pG ((Tryz.f15.body.bind (findBlk 0)).getD .skip) (Exit.then K (bodyPost pG Tryz.f15 post)) ⟨#[u0,vP (some ⟨b.q1,0,none⟩),vP (some ⟨b.q2,0,none⟩),vP (some ⟨b.q3,0,none⟩),vP (some ⟨b.g,0,none⟩),vI kI 0,u6,u7,u8,u9,jA,qA,yA,zA,fA,nA,rA,mA,lA,oA,pA,vA,sA,tA,uA,aA,bA,cA,dA,eA,iA,kA,jB,qB,yB,zB,fB,gB,nB,rB,mB,lB,oB,pB,sB,tB,uB,aB,bB,dB,eB,hB,iB,kB,jC,qC,yC,zC,fC,gC,nC,rC,mC,lC,oC,pC,vC,sC,tC,uC,aC,bC,cC,dC,eC,hC,iC,kC,jD,qD,yD,zD,fD,gD,nD,rD,mD,lD,oD,pD],[]⟩ wc:=by
  have H:=hide h;clear h;conv=>arg 2;whnf
  dsimp only;go_wp2_with fail;go_loopw [5] (fun i wr=>∃ k:Nat,k≤b.n∧i=vI kI k∧∃ T' e',Hid (CP b T' wr k e')) (fun i _=>b.n - (iOf i).toNat);case atStart=>exact⟨0,zL _,rfl,T,e,H.out⟩
  case round=>
   obtain⟨k,hk,rfl,T',e',HC⟩:=hrel;obtain⟨c17,c10,c11,hlg,hlq⟩:=HC.out.cells;by_cases hlt:k < b.n
   ·have hki:(k:Int) < (b.n:Int):=by omega
    by_cases h0:e'=0
    ·subst h0;obtain⟨bb,s,t,D,m,d,x,hA,hbb,_,_,hs,ht,hf,a0,a1,a2,a3⟩:=HC.out.bl.blk HC.out.sta.tw hlt;rw[hA]at c11;obtain⟨_,_,_,_,hm⟩:=hf.form;have HB:=hide (block_any (line:=x) HC.out.sta (by omega) hs (show t.size≤big from ht) hf hm);go_wp2_with fail;refine HB.out.mono ?_;rintro en w6 ⟨rfl,T6,e6,hs6,ht6,_⟩;try dsimp only
     have H6:=hide (HC.out.next hs6 ht6);clear hs6 ht6;go_wp2_with fail;go_roundw;case rel=>exact⟨k+1,by omega,by go_num,T6,e6,H6.out⟩
     case measure=>simp[iOf];omega
    ·have h0':(e'==0)=false:=bN h0;go_wp2_with fail;exact⟨T',k,e',HC,by omega⟩
   ·obtain rfl:k=b.n:=by omega
    go_wp2_with fail;exact⟨T',b.n,e',HC,hn⟩
end
section
def CompOk (w:World) (cs:Array Value) (e:Int):Prop:=cs.size=14∧OneC cs∧(e=0→∃ ev P C,cs=EV.cells ev P.length C.length∧ElK w ev P C∧(∀ s ∈ P,s.size≤24)∧∀ s ∈ C,s.size≤24)
set_option maxHeartbeats 16000000
set_option maxRecDepth 1000000
theorem compile_any {B n c:Nat}{S:Ty}{w:World}{title:ByteArray}{A:Option Addr}(hw:TW B S w) (hB:B≤w.heap.size) (ht:title.size≤big) (hb:Sl S .blk n (vS A n c)) (hn:n≤900) :
  Calls pG 15 #[.agg #[vT title,vS A n c]] w fun en w'=>∃ cs e l,en=.returned (.tuple #[.agg cs,.agg #[vI kI e,vI kI l]])∧Below B w w'∧CompOk w' cs e:=by
 have h0:=comp_start hw hB ht hb;obtain⟨wa,hwa⟩:∃ q,((((w.alloc (.cells #[vT title,vS A n c] 53)).alloc (.cells elZ 30)).alloc (.cells #[vI kI 0,vI kI 0] 48)).alloc (.cells (stZ title) 81))=q:=⟨_,rfl⟩;rw[hwa]at h0;unfold elZ stZ at hwa;have HWa:=hide hwa;have H0:=hide h0;clear hwa h0;go_enter Tryz.func15,Tryz.ntmps15;go_upto_region 3 with (fail);rw[HWa.out];obtain⟨c17,c10,c11,hlg,hlq⟩:=H0.out.cells;dsimp only at c17 c10 c11 hlg hlq;go_cut [25] (fun r wx=>(∃ q:Bool,r=.bool q)∧Hid (wx=wa));case first=>
  by_cases h60:60 < title.size
  ·have h60':(60:Int) < (title.size:Int):=by omega
   go_wp2_with fail;go_meet;exact⟨⟨_,rfl⟩,rfl⟩
  ·have h60':¬ (60:Int) < (title.size:Int):=by omega
   have HPl:=hide (plain_any (s:=title) (w:=wa) ht);go_wp2_with fail;refine HPl.out.mono ?_;rintro en w5 ⟨rfl,hw5⟩;try dsimp only
   go_wp2_with fail;go_meet;exact⟨⟨_,rfl⟩,by first|rfl|exact hw5⟩
 case rest=>
  obtain⟨⟨q,rfl⟩,hwc⟩:=hcut;obtain rfl:=hwc.out;go_upto_if 25 with fail;go_cut [] (fun wx=>∃ e',Hid (CP ⟨w.heap.size,w.heap.size+1,w.heap.size+1+1,w.heap.size+1+1+1,B,w,title,A,n,c⟩ S wx 0 e'));case first=>
   cases q with
   |true=>
    go_wp2_with fail;refine(H0.out.fail _ _ (by decide)).mono ?_;rintro en w6 ⟨rfl,⟨e6,h6⟩,_⟩;try dsimp only
    have H6:=hide h6;clear h6;go_wp2_with fail;go_meet;exact⟨e6,H6.out⟩
   |false=>go_wp2_with fail;go_meet;exact⟨0,H0.out⟩
  case rest=>
   obtain⟨e1,H1⟩:=hcut;clear c17 c10 c11 hlg hlq H0;go_upto_block 0 with (fail);refine cmp0 H1.out hn ?_;intros;rename_i wd hrel;obtain⟨T2,N2,e2,H2,hN2⟩:=hrel;clear H1;go_upto_block 2 with (fail);have hlg:=H2.out.sta.lt;dsimp only at hlg;refine cmp2 (b:=⟨w.heap.size,w.heap.size+1,w.heap.size+1+1,w.heap.size+1+1+1,B,w,title,A,n,c⟩) (H2.out.below ((bR _ _).alloc (lR _) _)) (Box.new _ _ _) rfl ?_ (by show ¬ wd.heap.size=w.heap.size+1+1+1;omega) ?_
   ·intro v hv;simp only[List.mem_toArray,List.mem_cons,List.not_mem_nil,or_false]at hv;rcases hv with rfl|rfl|rfl|rfl|rfl|rfl|rfl <;> exact⟨_,rfl⟩
   clear hlg;intros;rename_i we hrel;obtain⟨e3,H3⟩:=hrel;clear H2;obtain⟨c17,c10,c11,hlg,hlq⟩:=H3.out.cells;dsimp only at c17 c10 c11 hlg hlq;obtain⟨z2,hx2,hz2⟩:=H3.out.x2;obtain⟨z3,hx3,hz3⟩:=H3.out.x3;obtain⟨d1,d2,d3,d4⟩:=H3.out.d;have hlo:=H3.out.lo;have hbe:=H3.out.be;have hsz:=H3.out.sta.size;dsimp only at hx2 hx3 d1 d2 d3 d4 hlo hbe hsz;have D:=hide (And.intro d2 (And.intro d3 d4));have HX2:=hide hx2;have HX3:=hide hx3;have Lo:=hide hlo;have HBe:=hide hbe;have HSz:=hide hsz;clear d1 d2 d3 d4 hx2 hx3 hlo hbe hsz;by_cases h3:e3=0
   ·subst h3;have hF:∀ i,(i=w.heap.size+1∨i=w.heap.size+1+1)→i < we.heap.size∧T2 i=none∧i≠w.heap.size+1+1+1:=by
     intro i hi;rcases hi with rfl|rfl
     ·exact⟨HX2.out.lt,H3.out.u.2.1,D.out.1⟩
     ·exact⟨HX3.out.lt,H3.out.u.2.2,D.out.2.1⟩
    have HLk:=hide (link_any H3.out.sta hN2 hF);go_wp2_with fail;refine HLk.out.mono ?_;rintro en w6 ⟨rfl,hb6,hF6,e6,cs6,hst6,hfin6⟩;try dsimp only
    have hy2:Box w6 (w.heap.size+1) 30 z2:=(hF6 _ (.inl rfl)).trans HX2.out;have hy3:Box w6 (w.heap.size+1+1) 48 z3:=(hF6 _ (.inr rfl)).trans HX3.out;have HSt6:=hide hst6;have HY2:=hide hy2;have HY3:=hide hy3;have HFin:=hide hfin6;have HB6:=hide (HBe.out.trans hb6);have hlg6:=hst6.lt;have c17':=hst6.cell17;have hs6:B≤w6.heap.size:=lT HSz.out hb6.size;clear c17 c10 c11 hlg hlq hst6 hy2 hy3 hfin6 hb6 hF6;by_cases h6:e6=0
    ·subst h6;obtain⟨T6,ht6,hn6,hf6,n6,hs6y⟩:=HFin.out rfl;obtain⟨ev,P,C,hev,_⟩:=fin_elf ht6 hf6 hs6y HSt6.out.size;have hld:=box_load_at aggE8 (off:=0) HSt6.out.box (by rw[HSt6.out.size];decide);obtain⟨w7,hs7,hx7,hg7⟩:=box_store (cs':=((cs6.toList.drop 0).take 14).toArray) aggE8 HY2.out hz2 (by rw[List.size_toArray,List.length_take,List.drop_zero,Array.length_toList,HSt6.out.size];rfl) (by rw[hev];exact EV.one8 _ _ _);have hy7:Box w7 (w.heap.size+1+1) 48 z3:=(hg7.block _ HY3.out.lt (fun q=>D.out.2.2 (by injection q with q;exact q.symm))).trans HY3.out;obtain⟨w8,hs8,hx8,hg8⟩:=box_store (cs':=#[vI kI 0,vI kI 0]) aggFault hy7 hz3 rfl (by intro v hv;simp at hv;rcases hv with rfl|rfl <;> rfl);have hy8:Box w8 (w.heap.size+1) 30 ((cs6.toList.drop 0).take 14).toArray:=(hg8.block _ hx7.lt (fun q=>D.out.2.2 (by injection q))).trans hx7;have t7:TW B T6 w7:=ht6.grown hg7 fun j e=>by injection e with e;rw[← e];exact hn6 _ (.inl rfl)
     have t8:TW B T6 w8:=t7.grown hg8 fun j e=>by injection e with e;rw[← e];exact hn6 _ (.inr rfl)
     have HOk:Hid (CompOk w8 ((cs6.toList.drop 0).take 14).toArray 0):=⟨by rw[List.size_toArray,List.length_take,List.drop_zero,Array.length_toList,HSt6.out.size];rfl,by rw[hev];exact EV.one8 _ _ _,fun _=>fin_elf t8 hf6 hs6y HSt6.out.size⟩;have HB8:Hid (Below B w w8):=(HB6.out.trans (below_grownB hg7 Lo.out.1 hs6)).trans (below_grownB hg8 Lo.out.2 (lT hs6 hg7.size));have HLd:=hide hld;have HS7:=hide hs7;have HS8:=hide hs8;have HX8:=hide hx8;have HY8:=hide hy8;have HSz14:Hid (((cs6.toList.drop 0).take 14).toArray.size=14):=by rw[Hid,List.size_toArray,List.length_take,List.drop_zero,Array.length_toList,HSt6.out.size];rfl
     clear hld hs7 hx7 hg7 hy7 hs8 hx8 hg8 hy8 t7 t8 ht6 hf6 hs6y hev;generalize ((cs6.toList.drop 0).take 14).toArray=ecs at *;go_wp2_with (first|((with_reducible refine gV 88 (.agg ecs) w6 ?_ ?_ ?_);rfl;exact gives_load rfl rfl HLd.out)|((with_reducible refine dS w7 ?_ ?_ ?_);rfl;exact does_store rfl rfl rfl HS7.out)|((with_reducible refine dS w8 ?_ ?_ ?_);rfl;exact does_store rfl rfl rfl HS8.out));refine bodyPost_ret (v:=.tuple #[.agg ecs,.agg #[vI kI 0,vI kI 0]]) (by refine results_cc (p:=2) (q:=3) ?_ ?_ ?_ (box_load aggE8 HY8.out HSz14.out) (box_load aggFault HX8.out rfl) <;> rfl) rfl ?_;first|exact⟨_,0,0,rfl,HB8.out,HOk.out⟩|exact⟨_,0,⟨0,rfl⟩,HB8.out,HOk.out⟩
    ·have h6':(e6 != 0)=true:=by simp[h6]
     go_upto_region 18 with fail;exact wp_close (cmp18 (B:=B) HSt6.out HY2.out hz2 HY3.out hz3 D.out ⟨Lo.out.1,Lo.out.2,hs6⟩ (fun l w' hb'=>⟨elZ,e6,l,rfl,HB6.out.trans hb',rfl,elZ_one,fun q=>absurd q h6⟩)) (by assumption)
   ·have h3':(e3==0)=false:=bN h3;have h3'':(e3 != 0)=true:=by simp[h3]
    obtain⟨cs3,hst3⟩:=H3.out.st;have HSt3:=hide hst3;clear hst3;go_upto_region 18 with fail;exact wp_close (cmp18 (B:=B) HSt3.out HX2.out hz2 HX3.out hz3 D.out ⟨Lo.out.1,Lo.out.2,HSz.out⟩ (fun l w' hb'=>⟨elZ,e3,l,rfl,HBe.out.trans hb',rfl,elZ_one,fun q=>absurd q h3⟩)) (by assumption)
end
end Go.Proofs.YtnndaemmgbkjbaaGreatDoor
