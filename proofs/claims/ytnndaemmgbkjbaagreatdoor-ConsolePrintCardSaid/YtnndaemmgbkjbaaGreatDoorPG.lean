/-
  parts of the proof: LinkT LinkP LinkA LinkB LinkC LinkD LinkE Link.
-/
import Derived.Deep.CutBlock
import Derived.Test.YtnndaemmgbkjbaaGreatDoorPF
import Derived.Test.YtnndaemmgbkjbaaGreatDoorPE
namespace Go.Proofs.YtnndaemmgbkjbaaGreatDoor
open Go.RowKit
open Go.World renaming cell?_of_block → cB
open Nat renaming lt_of_lt_of_le → lL, le_trans → lT, le_refl → lR, zero_le → zL
open Go.RowKit.Below renaming refl → bR
open _root_.Go.Proofs.Tryz renaming prog → pG
open Go.Value renaming int → vI, slice → vS, string → vT, bool → vB, pointer → vP
open Go.IntKind renaming i64 → kI
set_option linter.unusedVariables false
set_option linter.unusedSimpArgs false
section
def Ty.del (S:Ty) (q:Nat):Ty:=fun b=>if b=q then none else S b
section
variable {B q c6 n c i a b:Nat}{S T T2:Ty}{w w' w2:World}{k:Kd}{v:Value}{f:FT}{M:Nat→Prop}
theorem Ty.del_self (S:Ty) (q:Nat):S.del q q=none:=by simp[Ty.del]
theorem Ty.del_ne {S:Ty}{q b:Nat}(h:b≠q):S.del q b=S b:=by simp[Ty.del,h]
theorem Sl.del (hq:S q=some (.sty0,c6)) (hk:k≠.sty0) (h:Sl S k n v):Sl (S.del q) k n v:=by
 obtain⟨A,c,e,h1,h2,h3,h4⟩:=h;refine⟨A,c,e,h1,h2,h3,?_⟩;rcases h4 with h4|⟨b,e1,e2⟩
 ·exact .inl h4
 ·refine .inr ⟨b,e1,?_⟩;rw[Ty.del_ne fun e3=>?_]
  ·exact e2
  ·rw[e3,hq]at e2;injection e2 with e2;injection e2 with e2;exact hk e2.symm
def FT.noSty:FT→Prop
 |.sl k=>k≠.sty0
 |_=>True
theorem FTok.del (hq:S q=some (.sty0,c6)) (hf:f.noSty) (h:FTok S f v):FTok (S.del q) f v:=by
 cases f with
 |sl k=>obtain⟨n,h⟩:=h;exact⟨n,h.del hq hf⟩
 |_=>exact h
theorem fts_noSty (k:Kd) (j:Nat):(k.fts.getD j .int).noSty:=by
 have h:∀ f ∈ k.fts,f.noSty:=by cases k <;> simp[Kd.fts,FT.noSty]
 rw[List.getD_eq_getElem?_getD];cases e:k.fts[j]? with
 |none=>trivial
 |some f=>exact h f (List.mem_of_getElem? e)
theorem TC.del {cs:List Value}(hq:S q=some (.sty0,c6)) (h:TC S k cs):TC (S.del q) k cs:=fun i v e=>(h i v e).del hq (fts_noSty _ _)
theorem TW.del (h:TW B S w) (hq:S q=some (.sty0,c6)):TW B (S.del q) w:=fun b k c e=>by
 unfold Ty.del at e;split at e
 ·cases e
 ·obtain⟨h1,cs,h2,h3,h4⟩:=h b k c e;exact⟨h1,cs,h2,h3,h4.del hq⟩
structure SB (T:Ty) (w:World) (q c i a b:Nat):Prop where
 ex:∃ cs,Box w q 76 cs∧cs.size=c * 3∧TC T .sty cs.toList∧∀ j,i≤j→j < c→∃ D m d E n e,cs[j * 3+1]? = some (vS D m d)∧cs[j * 3+2]? = some (vS E n e)∧(j=i→m≤a∧n≤b)∧(i < j→m=0∧n=0)
theorem SB.start (h:TW B S w) (hq:S q=some (.sty0,c)):SB (S.del q) w q c 0 0 0:=by
 obtain⟨hB,cs,h1,h2,h3⟩:=h q .sty0 c hq;have h2':cs.size=c * 3:=h2;have hz:∀ j,j < c→∀ t,t < 2→cs[j * 3+(t+1)]? = some (vS none 0 0):=fun j hj t ht=>by
  have e:cs[j * 3+(t+1)]? = some (cs[j * 3+(t+1)]'(by omega)):=Array.getElem?_eq_getElem _;have:=h3 (j * 3+(t+1)) _ (by rw[Array.getElem?_toList];exact e);have hm:(j * 3+(t+1)) % Kd.sty0.len=t+1:=by show (j * 3+(t+1)) % 3=t+1;omega
  rw[hm]at this;rcases (show t=0∨t=1 by omega) with rfl|rfl
  ·rw[e];exact congrArg some this
  ·rw[e];exact congrArg some this
 refine⟨cs,h1,h2',fun i v e=>?_,fun j _ hj=>⟨none,0,0,none,0,0,hz j hj 0 (by omega),hz j hj 1 (by omega),fun _=>⟨lR _,lR _⟩,fun _=>⟨rfl,rfl⟩⟩⟩;have:=h3 i v e;have hm:i % Kd.sty0.len=i % 3:=rfl;have hm':i % Kd.sty.len=i % 3:=rfl;rw[hm]at this;rw[hm'];rcases (show i % 3=0∨i % 3=1∨i % 3=2 by omega) with h|h|h
 ·rw[h]at this ⊢;exact this
 ·rw[h]at this ⊢;have this:v=vS none 0 0:=this;rw[this];exact⟨0,Sl.nil _ _⟩
 ·rw[h]at this ⊢;have this:v=vS none 0 0:=this;rw[this];exact⟨0,Sl.nil _ _⟩
theorem SB.next (h:SB T w q c i a b):SB T w q c (i+1) 0 0:=by
 obtain⟨cs,h1,h2,h3,h4⟩:=h.ex;refine⟨cs,h1,h2,h3,fun j hj hc=>?_⟩;obtain⟨D,m,d,E,n,e,k1,k2,k3,k4⟩:=h4 j (by omega) hc;obtain⟨rfl,rfl⟩:=k4 (by omega);exact⟨D,0,d,E,0,e,k1,k2,fun _=>⟨lR _,lR _⟩,fun _=>⟨rfl,rfl⟩⟩
theorem SB.step (h:SB T w q c i a b) (hs:Stp M B T w T2 w2) (hn:T q=none) (hm:¬ M q):SB T2 w2 q c i a b:=by
 obtain⟨cs,h1,h2,h3,h4⟩:=h.ex;exact⟨cs,hs.box h1 hn hm,h2,h3.mono hs.le,h4⟩
theorem SB.lt (h:SB T w q c i a b):q < w.heap.size:=by
 obtain⟨cs,h1,_⟩:=h.ex;exact h1.lt
theorem SB.frozen (h:SB T w q c i a b) (j:Nat):w.frozen? ⟨q,j,none⟩=false:=by
 obtain⟨cs,h1,_⟩:=h.ex;exact h1.frozen j
theorem SB.cell (h:SB T w q c i a b) (hi:i < c) {t:Nat}(ht:t < 2):∃ D m d,w.cell? ⟨q,i * 3+(t+1),none⟩=some (vS D m d)∧Sl T .int m (vS D m d)∧(t=0→m≤a)∧(t=1→m≤b):=by
 obtain⟨cs,h1,h2,h3,h4⟩:=h.ex;obtain⟨D,m,d,E,n,e,k1,k2,k3,k4⟩:=h4 i (lR _) hi;obtain⟨ha,hb⟩:=k3 rfl;have key:∀ u,cs[i * 3+(t+1)]? = some u→FTok T (.sl .int) u:=fun u hu=>by
  have:=h3 (i * 3+(t+1)) u (by rw[Array.getElem?_toList];exact hu);have hm:(i * 3+(t+1)) % Kd.sty.len=t+1:=by show (i * 3+(t+1)) % 3=t+1;omega
  rw[hm]at this;rcases (show t=0∨t=1 by omega) with rfl|rfl
  ·exact this
  ·exact this
 have sl:∀ {D m d},FTok T (.sl .int) (vS D m d)→Sl T .int m (vS D m d):=fun ⟨n,h⟩=>by obtain⟨A,c,e,_⟩:=id h;injection e with _ e _;subst e;exact h
 rcases (show t=0∨t=1 by omega) with rfl|rfl
 ·exact⟨D,m,d,(h1.cell _).trans k1,sl (key _ k1),fun _=>ha,fun h=>by omega⟩
 ·exact⟨E,n,e,(h1.cell _).trans k2,sl (key _ k2),fun h=>by omega,fun _=>hb⟩
theorem SB.set (h:SB T w q c i a b) (hi:i < c) {t:Nat}(ht:t < 2) {D:Option Addr}{m d a' b':Nat}(hs:Sl T .int m (vS D m d)) (ha:a≤a') (hb:b≤b') (h0:t=0→m≤a') (h1:t=1→m≤b'):SB T (w.setCell ⟨q,i * 3+(t+1),none⟩ (vS D m d)) q c i a' b':=by
 obtain⟨cs,g1,g2,g3,g4⟩:=h.ex;refine⟨cs.setIfInBounds (i * 3+(t+1)) (vS D m d),g1.set _ _,by simpa using g2,?_,fun j hj hc=>?_⟩
 ·rw[Array.toList_setIfInBounds];refine g3.set ?_;have hm:(i * 3+(t+1)) % Kd.sty.len=t+1:=by show (i * 3+(t+1)) % 3=t+1;omega
  rw[hm];rcases (show t=0∨t=1 by omega) with rfl|rfl
  ·exact⟨m,hs⟩
  ·exact⟨m,hs⟩
 ·obtain⟨D2,m2,d2,E2,n2,e2,k1,k2,k3,k4⟩:=g4 j hj hc;by_cases hji:j=i
  ·subst hji;obtain⟨ka,kb⟩:=k3 rfl;rcases (show t=0∨t=1 by omega) with rfl|rfl
   ·refine⟨D,m,d,E2,n2,e2,?_,?_,fun _=>⟨h0 rfl,by omega⟩,fun h=>by omega⟩
    ·rw[Array.getElem?_setIfInBounds,if_pos rfl,if_pos (by omega)]
    ·rw[Array.getElem?_setIfInBounds,if_neg (by omega)];exact k2
   ·refine⟨D2,m2,d2,D,m,d,?_,?_,fun _=>⟨by omega,h1 rfl⟩,fun h=>by omega⟩
    ·rw[Array.getElem?_setIfInBounds,if_neg (by omega)];exact k1
    ·rw[Array.getElem?_setIfInBounds,if_pos rfl,if_pos (by omega)]
  ·refine⟨D2,m2,d2,E2,n2,e2,?_,?_,fun h=>absurd h hji,k4⟩
   ·rw[Array.getElem?_setIfInBounds,if_neg (by omega)];exact k1
   ·rw[Array.getElem?_setIfInBounds,if_neg (by omega)];exact k2
theorem SB.done (h:SB T w q c i a b) (hw:TW B T w) (hn:T q=none) (hB:B≤q):TW B (T.add q .sty c) w:=by
 obtain⟨cs,h1,h2,h3,_⟩:=h.ex;exact hw.add hn hB h1 h2 h3
end
end
section
structure LB where
 g:Nat
 B:Nat
 S:Ty
 w:World
 cs:Array Value
 A:Option Addr
 m:Nat
 c:Nat
 n:Nat
 U:Nat
 u:Nat
 nC:Nat
 C:Option Addr
 cC:Nat
 F:Nat→Prop
structure FinT (S:Ty) (cs:Array Value):Prop where
 t0:FTok S .str (cs.getD 0 undef)
 i1:FTok S .int (cs.getD 1 undef)
 i2:FTok S .int (cs.getD 2 undef)
 i3:FTok S .int (cs.getD 3 undef)
 p4:∃ n,Sl S .short n (cs.getD 4 undef)
 c5:∃ n,Sl S .con n (cs.getD 5 undef)
 i7:FTok S .int (cs.getD 7 undef)
 i8:FTok S .int (cs.getD 8 undef)
 b9:FTok S .bool (cs.getD 9 undef)
 n10:FTok S (.sl .nat) (cs.getD 10 undef)
 n11:FTok S (.sl .nat) (cs.getD 11 undef)
 i12:FTok S .int (cs.getD 12 undef)
 s13:FTok S .str (cs.getD 13 undef)
structure LB.Ok (b:LB):Prop where
 tw:TW b.B b.S b.w
 st:St b.w b.g b.cs 0
 no:b.S b.g=none
 q:∀ q,b.A=some ⟨q,0,none⟩→b.S q=none∧q≠b.g∧q < b.w.heap.size∧b.B≤q∧b.m≤b.c∧b.c≤maxLen
 q0:(b.A=none∧b.m=0∧b.c=0)∨∃ q,b.A=some ⟨q,0,none⟩
 hm:b.m≤1000
 fin:FinT b.S b.cs
 c6:b.cs.getD 6 undef=vS b.A b.m b.c
 l15:Sl b.S .lin b.m (b.cs.getD 15 undef)
 n16:Sl b.S .nam b.m (b.cs.getD 16 undef)
 p4:Sl b.S .short b.n (b.cs.getD 4 undef)
 us:Sl b.S .bool b.n (vS (some ⟨b.U,0,none⟩) b.n b.u)
 con:Sl b.S .str b.nC (vS b.C b.nC b.cC)
 lo:b.B≤b.g
 hF:∀ i,b.F i→i < b.w.heap.size∧b.S i=none∧b.A≠some ⟨i,0,none⟩∧i≠b.g
structure LN (b:LB) (i x y:Nat) (T:Ty) (w:World):Prop where
 stp:Stp (fun j=>b.A=some ⟨j,0,none⟩) b.B b.S b.w T w
 sb:∀ q,b.A=some ⟨q,0,none⟩→SB T w q b.c i x y
section
variable {b:LB}{i x y:Nat}{T T2:Ty}{w w2:World}
theorem LN.st (h:LN b i x y T w) (ok:b.Ok):St w b.g b.cs 0:=
 ⟨h.stp.box ok.st.box ok.no fun e=>(ok.q _ e).2.1 rfl,ok.st.size,ok.st.c17,ok.st.c18⟩
theorem LN.no (h:LN b i x y T w) (ok:b.Ok):T b.g=none:=h.stp.none ok.st.lt ok.no
theorem LN.cell (h:LN b i x y T w) (ok:b.Ok) {j:Nat}(hj:j < 19):w.cell? ⟨b.g,j,none⟩=some (b.cs.getD j undef):=(h.st ok).cellD hj
theorem LN.qn (h:LN b i x y T w) (ok:b.Ok) {q:Nat}(hq:b.A=some ⟨q,0,none⟩):T q=none:=h.stp.none (ok.q q hq).2.2.1 (ok.q q hq).1
theorem LN.size (h:LN b i x y T w) (ok:b.Ok):b.B≤w.heap.size:=lT (lT ok.lo (Nat.le_of_lt ok.st.lt)) h.stp.size
theorem LN.step (h:LN b i x y T w) (ok:b.Ok) (hs:Stp No b.B T w T2 w2):LN b i x y T2 w2:=
 ⟨h.stp.trans hs.no,fun q hq=>(h.sb q hq).step hs (h.qn ok hq) id⟩
theorem LN.next (h:LN b i x y T w):LN b (i+1) 0 0 T w:=⟨h.stp,fun q hq=>(h.sb q hq).next⟩
theorem LB.Ok.usK (ok:b.Ok) (h0:0 < b.n):b.S b.U=some (.bool,b.u):=by
 obtain⟨_,_,e,h1,h2,h3,h4⟩:=ok.us;injection e with ea _ ec;subst ea ec;rcases h4 with ⟨h4,_⟩|⟨q,hq,h5⟩
 ·cases h4
 ·obtain rfl:b.U=q:=congrArg Addr.block (Option.some.inj hq);exact h5
theorem Sl.str_at {S:Ty}{n c k:Nat}{A:Option Addr}{B:Nat}{w:World}(hs:Sl S .str n (vS A n c)) (h:TW B S w) (hk:k < n):∃ (b:Nat) (s:ByteArray),A=some ⟨b,0,none⟩∧b < w.heap.size∧w.cell? ⟨b,k,none⟩=some (vT s):=by
 obtain⟨b,e,hb,_,_,hc⟩:=hs.at_ h hk;obtain⟨_,h1,s,rfl,_⟩:=hc 0 (by decide);refine⟨b,s,e,hb,?_⟩;rwa [show k * Kd.str.len+0=k from Nat.mul_one k]at h1
theorem LN.mark_at (h:LN b i x y T w) (ok:b.Ok) {j:Nat}(hj:j < b.n):∃ v,b.U < w.heap.size∧w.cell? ⟨b.U,j,none⟩=some (.bool v)∧w.frozen? ⟨b.U,j,none⟩=false:=by
 obtain⟨q,e,hq,_,hS,hc⟩:=(ok.us.mono h.stp.le).at_ h.stp.tw hj;obtain rfl:b.U=q:=congrArg Addr.block (Option.some.inj e);obtain⟨_,h1,v,rfl⟩:=hc 0 (by decide);obtain⟨_,cs,g1,_⟩:=h.stp.tw b.U _ _ hS;refine⟨v,hq,?_,Box.frozen g1 j⟩;rwa [show j * Kd.bool.len+0=j from Nat.mul_one j]at h1
theorem LN.mark_aft (h:LN b i x y T w) (ok:b.Ok) {j:Nat}(hj:j < b.n) (hA:Aft w b.g b.cs 0 w2):∃ v,b.U < w2.heap.size∧w2.cell? ⟨b.U,j,none⟩=some (.bool v):=by
 have hg:=hA.grown;obtain⟨v,h1,h2,_⟩:=h.mark_at ok hj;have hU:=h.stp.le _ _ (ok.usK (by omega));have hne:b.U≠b.g:=fun e=>by rw[e,h.no ok]at hU;cases hU
 refine⟨v,lL h1 hg.size,?_⟩;rw[cB (hg.block b.U h1 (fun e=>hne (by injection e)))];exact h2
theorem LN.weak {x' y':Nat}(h:LN b i x y T w) (hx:x≤x') (hy:y≤y'):LN b i x' y' T w:=⟨h.stp,fun q hq=>by
 obtain⟨cs,h1,h2,h3,h4⟩:=(h.sb q hq).ex;refine⟨cs,h1,h2,h3,fun j hj hc=>?_⟩;obtain⟨D,m,d,E,n,e,k1,k2,k3,k4⟩:=h4 j hj hc;exact⟨D,m,d,E,n,e,k1,k2,fun e=>by have:=k3 e;omega,k4⟩⟩
theorem LN.findP (h:LN b i x y T w) (ok:b.Ok) (s:ByteArray):∃ PA pc,∃ r:Int,w.cell? ⟨b.g,4,none⟩=some (vS PA b.n pc)∧-1≤r∧r < b.n∧Calls pG 38 #[vS PA b.n pc,vT s] w fun en w'=>en=.returned (vI kI r)∧w'=w:=by
 obtain⟨PA,pc,e4,_,h5⟩:=ok.p4.form;have p4:=ok.p4;rw[e4]at p4;obtain⟨l,h1,h2,_⟩:=(p4.mono h.stp.le).shorts h.stp.tw;have hb:=posS_bd l s;rw[h1]at hb;have:=find_any (c:=pc) (s:=s) (h2.mono fun i hi=>hi.1) (by omega);rw[h1]at this;exact⟨PA,pc,_,by rw[h.cell ok (by decide),e4],hb.1,hb.2,this⟩
theorem LN.findC (h:LN b i x y T w) (ok:b.Ok) (s:ByteArray):∃ r:Int,-1≤r∧r < b.nC∧Calls pG 38 #[vS b.C b.nC b.cC,vT s] w fun en w'=>en=.returned (vI kI r)∧w'=w:=by
 obtain⟨_,_,e,_,h5⟩:=ok.con.form;obtain⟨l,h1,h2,_⟩:=(ok.con.mono h.stp.le).strs h.stp.tw;have hb:=posS_bd l s;rw[h1]at hb;have:=find_any (c:=b.cC) (s:=s) (h2.mono fun i hi=>hi.1) (by omega);rw[h1]at this;exact⟨_,hb.1,hb.2,this⟩
theorem LN.line (h:LN b i x y T w) (ok:b.Ok) (hi:i < b.m):∃ (q c:Nat) (l0 l1:Int),w.cell? ⟨b.g,15,none⟩=some (vS (some ⟨q,0,none⟩) b.m c)∧q < w.heap.size∧w.cell? ⟨q,i * 2,none⟩=some (vI kI l0)∧w.cell? ⟨q,i * 2+1,none⟩=some (vI kI l1):=by
 obtain⟨LA,lc,e15,_,_⟩:=ok.l15.form;have l15:=ok.l15;rw[e15]at l15;obtain⟨q,l0,l1,rfl,hq,_,_,c0,c1⟩:=(l15.mono h.stp.le).lin h.stp.tw hi;exact⟨q,lc,l0,l1,by rw[h.cell ok (by decide),e15],hq,c0,c1⟩
theorem LN.names (h:LN b i x y T w) (ok:b.Ok) (hi:i < b.m):∃ (q c:Nat) (D:Option Addr) (m d:Nat) (E:Option Addr) (n e:Nat),w.cell? ⟨b.g,16,none⟩=some (vS (some ⟨q,0,none⟩) b.m c)∧q < w.heap.size∧w.cell? ⟨q,i * 2,none⟩=some (vS D m d)∧w.cell? ⟨q,i * 2+1,none⟩=some (vS E n e)∧Sl T .str m (vS D m d)∧Sl T .str n (vS E n e):=by
 obtain⟨LA,lc,e16,_,_⟩:=ok.n16.form;have n16:=ok.n16;rw[e16]at n16;obtain⟨q,D,m,d,E,n,e,rfl,hq,_,_,s1,s2,c0,c1⟩:=(n16.mono h.stp.le).nam h.stp.tw hi;exact⟨q,lc,D,m,d,E,n,e,by rw[h.cell ok (by decide),e16],hq,c0,c1,s1,s2⟩
theorem LN.mark (h:LN b i x y T w) (ok:b.Ok) (h0:0 < b.n) {j:Nat}(v:Bool):LN b i x y T (w.setCell ⟨b.U,j,none⟩ (.bool v)):=by
 have hS:=ok.usK h0;obtain⟨u,hu⟩:∃ u,b.U=u:=⟨_,rfl⟩;rw[hu]at hS ⊢;have hT:=h.stp.le _ _ hS;have hg:TW b.B T (w.setCell ⟨u,j,none⟩ (.bool v)):=h.stp.tw.set hT (by rw[show Kd.bool.len=1 from rfl,Nat.mod_one];exact⟨v,rfl⟩);have hgr:w.grownBy (w.setCell ⟨u,j,none⟩ (.bool v)) (some u):=grown_set1 _ _ _ _;have hs:Stp No b.B T w T (w.setCell ⟨u,j,none⟩ (.bool v)):=⟨Ty.le_refl _,hg,hgr.os,hgr.tape,hgr.output,hgr.size,fun _ _=>rfl,fun k hk hn _=>hgr.block k hk fun e=>by injection e with e;subst e;rw[hT]at hn;cases hn⟩;exact h.step ok hs
theorem LN.push (h:LN b i x y T w) (ok:b.Ok) (hi:i < b.m) {t:Nat}(ht:t < 2) (hx:t=0→x < 1000) (hy:t=1→y < 1000) (n:Int) :
  ∃ q D m d,b.A=some ⟨q,0,none⟩∧w.cell? ⟨q,i * 3+(t+1),none⟩=some (vS D m d)∧∀ wq,Below w.heap.size w wq→∀ ot,∃ A' c' w' T2,(Builtin.append_ #[33,33] ot #[vS D m d,vS (some ⟨wq.heap.size,0,none⟩) 1 1]).run pG (wq.alloc (.cells #[vI kI n] 3))=.ok (vS A' (m+1) c') w'∧
   (∃ u,w'.cell? ⟨q,i * 3+(t+1),none⟩=some u)∧w'.frozen? ⟨q,i * 3+(t+1),none⟩=false∧q < w'.heap.size∧b.g < w'.heap.size∧w'.cell? ⟨b.g,6,none⟩=some (vS b.A b.m b.c)∧
   Ty.le T T2∧LN b i (if t=0 then x+1 else x) (if t=1 then y+1 else y) T2 (w'.setCell ⟨q,i * 3+(t+1),none⟩ (vS A' (m+1) c')):=by
 obtain⟨hA,hm0,_⟩|⟨q,hq⟩:=ok.q0
 ·omega
 obtain⟨q1,q2,q3,q4,q5,q6⟩:=ok.q q hq;have hsb:=h.sb q hq;obtain⟨D,m,d,hc,hs,hma,hmb⟩:=hsb.cell (by omega) ht;have hm:m < 1000:=by
  rcases (show t=0∨t=1 by omega) with rfl|rfl
  ·have:=hma rfl;have:=hx rfl;omega
  ·have:=hmb rfl;have:=hy rfl;omega
 refine⟨q,D,m,d,hq,hc,fun wq hwq ot=>?_⟩;obtain⟨A',c',w',T2,hr,hst,hk⟩:=push_elem (M:=No) (k:=.int) Tryz.underlying33 h.stp.tw (h.size ok) hs ot (l:=[.int .i64 n]) rfl rfl (TC.ofList rfl fun j hj v hv=>by
  have hj:j < 1:=hj;obtain rfl:j=0:=by omega
  simp at hv;subst hv;exact⟨n,rfl⟩) hm hwq
 have h1:=h.step ok hst;have hsb1:=h1.sb q hq;have hn1:=h1.qn ok hq;obtain⟨D1,m1,d1,hc1,_⟩:=hsb1.cell (i:=i) (by omega) ht;have hw:Stp (fun j=>b.A=some ⟨j,0,none⟩) b.B T2 w' T2 (w'.setCell ⟨q,i * 3+(t+1),none⟩ (vS A' (m+1) c')):=Stp.wrote h1.stp.tw hn1 hq (grown_set1 _ _ _ _);refine⟨A',c',w',T2,hr,⟨_,hc1⟩,hsb1.frozen _,hsb1.lt,(h1.st ok).lt,?_,hst.le,⟨h1.stp.trans hw,fun q' hq'=>?_⟩⟩
 ·rw[h1.cell ok (by decide),ok.c6]
 ·obtain rfl:q'=q:=by have e:=congrArg Addr.block (Option.some.inj (hq.symm.trans hq'));exact e.symm
  refine hsb1.set (by omega) ht hk ?_ ?_ ?_ ?_
  ·split <;> omega
  ·split <;> omega
  ·intro e;rw[if_pos e];have:=hma e;omega
  ·intro e;rw[if_pos e];have:=hmb e;omega
theorem FinT.mono {S T:Ty}{cs cs':Array Value}(h:FinT S cs) (hl:Ty.le S T) (hs:Sm cs cs'):FinT T cs':=by
 obtain⟨t0,i1,i2,i3,⟨n4,p4⟩,⟨n5,c5⟩,i7,i8,b9,n10,n11,i12,s13⟩:=h;constructor
 ·rw[getD_of (hs 0 (by decide))];exact t0.mono hl
 ·rw[getD_of (hs 1 (by decide))];exact i1.mono hl
 ·rw[getD_of (hs 2 (by decide))];exact i2.mono hl
 ·rw[getD_of (hs 3 (by decide))];exact i3.mono hl
 ·rw[getD_of (hs 4 (by decide))];exact⟨n4,p4.mono hl⟩
 ·rw[getD_of (hs 5 (by decide))];exact⟨n5,c5.mono hl⟩
 ·rw[getD_of (hs 7 (by decide))];exact i7.mono hl
 ·rw[getD_of (hs 8 (by decide))];exact i8.mono hl
 ·rw[getD_of (hs 9 (by decide))];exact b9.mono hl
 ·rw[getD_of (hs 10 (by decide))];exact n10.mono hl
 ·rw[getD_of (hs 11 (by decide))];exact n11.mono hl
 ·rw[getD_of (hs 12 (by decide))];exact i12.mono hl
 ·rw[getD_of (hs 13 (by decide))];exact s13.mono hl
theorem FinT.del {S:Ty}{cs:Array Value}{q c6:Nat}(hq:S q=some (.sty0,c6)) (h:FinT S cs):FinT (S.del q) cs:=by
 obtain⟨t0,i1,i2,i3,⟨n4,p4⟩,⟨n5,c5⟩,i7,i8,b9,n10,n11,i12,s13⟩:=h;exact⟨t0.del hq trivial,i1.del hq trivial,i2.del hq trivial,i3.del hq trivial,⟨n4,p4.del hq (by simp)⟩,⟨n5,c5.del hq (by simp)⟩,i7.del hq trivial,i8.del hq trivial,b9.del hq trivial,n10.del hq (by simp[FT.noSty]),n11.del hq (by simp[FT.noSty]),i12.del hq trivial,s13.del hq trivial⟩
def LPost (g B:Nat) (F:Nat→Prop) (w w':World):Prop:=Below B w w'∧(∀ i,F i→w'.heap[i]? = w.heap[i]?)∧∃ e cs,St w' g cs e∧(e=0→∃ T,TW B T w'∧(∀ i,F i→T i=none)∧FinT T cs∧∃ n,Sl T .sty n (cs.getD 6 undef))
theorem LN.fin (h:LN b i x y T w) (ok:b.Ok):∃ T2,Ty.le T T2∧TW b.B T2 w∧T2 b.g=none∧(∀ i,b.F i→T2 i=none)∧FinT T2 b.cs∧∃ n,Sl T2 .sty n (b.cs.getD 6 undef):=by
 rcases ok.q0 with ⟨hA,hm0,hc0⟩|⟨q,hq⟩
 ·refine⟨T,Ty.le_refl _,h.stp.tw,h.no ok,fun i hi=>h.stp.none (ok.hF i hi).1 (ok.hF i hi).2.1,ok.fin.mono h.stp.le (Sm.refl _),0,?_⟩;rw[ok.c6,hA,hm0,hc0];exact Sl.nil _ _
 ·obtain⟨q1,q2,q3,q4,q5,q6⟩:=ok.q q hq;have hn:=h.qn ok hq;have hle:=Ty.le_add hn .sty b.c;refine⟨T.add q .sty b.c,hle,(h.sb q hq).done h.stp.tw hn q4,?_,fun i hi=>?_,ok.fin.mono (Ty.le_trans h.stp.le hle) (Sm.refl _),b.m,?_⟩
  ·unfold Ty.add;rw[if_neg (fun e=>q2 e.symm)];exact h.no ok
  ·unfold Ty.add;rw[if_neg (fun e=>(ok.hF i hi).2.2.1 (by rw[e];exact hq))];exact h.stp.none (ok.hF i hi).1 (ok.hF i hi).2.1
  ·rw[ok.c6,hq];exact⟨_,_,rfl,ok.hm,q5,q6,.inr ⟨q,rfl,Ty.add_new _ _ _ _⟩⟩
theorem LN.done (h:LN b i x y T w) (ok:b.Ok) (hA:Aft w b.g b.cs 0 w2):LPost b.g b.B b.F b.w w2:=by
 obtain⟨cs',e',h1,h2,_,h4⟩:=hA;obtain⟨T2,k1,k2,k3,kf,k4,n,k5⟩:=h.fin ok;have hw:Stp (fun j=>b.A=some ⟨j,0,none⟩∨j=b.g) b.B T w T w2:=Stp.wrote h.stp.tw (h.no ok) (.inr rfl) h4;have hs:=(h.stp.mono (N:=fun j=>b.A=some ⟨j,0,none⟩∨j=b.g) fun _ _ e=>.inl e).trans hw;have hg:b.B≤b.w.heap.size:=lT ok.lo (Nat.le_of_lt ok.st.lt);refine⟨hs.below ok.tw hg (fun j hj hm=>?_),fun i hi=>?_,e',cs',h1,fun _=>⟨T2,?_,kf,k4.mono (Ty.le_refl _) h2,n,?_⟩⟩
 ·rcases hm with hm|hm
  ·have:=(ok.q j hm).2.2.2.1;omega
  ·have:=ok.lo;omega
 ·obtain⟨f1,f2,f3,f4⟩:=ok.hF i hi;exact hs.far i f1 f2 fun q=>q.elim f3 f4
 ·exact k2.grown h4 fun j e=>by injection e with e;rw[← e];exact k3
 ·rw[getD_of (h2 6 (by decide))];exact k5
end
theorem TC.bools {S:Ty}{n:Nat}:TC S .bool (madeCells #[vB false] n).toList:=fun i v e=>by
 have hm:i % Kd.bool.len=0:=Nat.mod_one i;rw[hm];rw[Array.getElem?_toList]at e;obtain⟨hi,e⟩:=Array.getElem?_eq_some_iff.1 e;have:(madeCells #[Value.bool false] n)[i]=vB false:=by simp[madeCells,Nat.mod_one]
 exact⟨false,by rw[← e,this]⟩
theorem link_marks {g B N n:Nat}{S T:Ty}{w w1:World}{cs:Array Value}{v2:Value}{nC:Nat}{C:Option Addr}{cC:Nat}(h:Sta g B S w N 0) (hst:St w g cs 0) (hty:STy S cs 0 N) (hN:N≤900) (hs:Stp No B S w T w1) (hv:Sl T .str nC (vS C nC cC)) (hp:Sl S .short n (cs.getD 4 undef)) {F:Nat→Prop}(hF:∀ i,F i→i < w.heap.size∧S i=none∧i≠g) :
  ∃ S' A m c,LB.Ok ⟨g,B,S',w1.alloc (.cells (madeCells #[vB false] n) 4),cs,A,m,c,n,w1.heap.size,n,nC,C,cC,F⟩∧LN ⟨g,B,S',w1.alloc (.cells (madeCells #[vB false] n) 4),cs,A,m,c,n,w1.heap.size,n,nC,C,cC,F⟩ 0 0 0 S' (w1.alloc (.cells (madeCells #[vB false] n) 4)):=by
 have hBw:B≤w1.heap.size:=lT h.size hs.size;have hnl:n≤1000:=by obtain⟨_,_,_,_,k⟩:=hp.form;exact k
 have s2:Stp No B T w1 (T.add w1.heap.size .bool n) (w1.alloc (.cells (madeCells #[vB false] n) 4)):=Stp.alloc (k:=.bool) hs.tw hBw (by rw[size_madeCells];exact(Nat.mul_one n).symm) TC.bools;have s3:=hs.trans s2;have hst3:St (w1.alloc (.cells (madeCells #[vB false] n) 4)) g cs 0:=⟨s3.box hst.box h.no id,hst.size,hst.c17,hst.c18⟩;have hno:T.add w1.heap.size .bool n g=none:=s3.none h.lt h.no;have hU:Sl (T.add w1.heap.size .bool n) .bool n (vS (some ⟨w1.heap.size,0,none⟩) n n):=⟨_,_,rfl,hnl,lR _,by unfold maxLen;omega,.inr ⟨_,rfl,Ty.add_new _ _ _ _⟩⟩;have hty3:=hty.mono s3.le (Sm.refl _) id (lR _);have hF3:∀ i,F i→i < (w1.alloc (.cells (madeCells #[vB false] n) 4)).heap.size∧T.add w1.heap.size .bool n i=none∧i≠g:=fun i hi=>by obtain⟨f1,f2,f3⟩:=hF i hi;exact⟨lL f1 s3.size,s3.none f1 f2,f3⟩
 obtain⟨m,hm,h6,h15,h16⟩:=hty3.s6;obtain⟨t0,i1,i2,i3,p4,⟨n5,_,c5⟩,_,i7,i8,b9,n10,n11,i12,s13,_⟩:=hty3;obtain⟨A,c,e6,hs6⟩:=sl_val h6;obtain⟨_,_,e,q1,q2,q3,q4⟩:=id hs6;injection e with ea _ ec;subst ea ec;rcases q4 with ⟨rfl,rfl⟩|⟨q,rfl,hq⟩
 ·obtain rfl:m=0:=by omega
  exact⟨_,none,0,0,⟨s3.tw,hst3,hno,fun q hq=>(nomatch hq),.inl ⟨rfl,rfl,rfl⟩,by omega,⟨t0,i1,i2,i3,p4 rfl,⟨n5,c5⟩,i7,i8,b9,n10,n11,i12,s13⟩,e6,h15,h16,hp.mono s3.le,hU,hv.mono s2.le,h.lo,fun i hi=>⟨(hF3 i hi).1,(hF3 i hi).2.1,(by simp),(hF3 i hi).2.2⟩⟩,⟨Stp.refl s3.tw,fun q hq=>(nomatch hq)⟩⟩
 ·have hlq:=s3.tw.lt hq;have hqg:q≠g:=fun e=>by rw[e,hno]at hq;cases hq
  have hng:(T.add w1.heap.size .bool n).del q g=none:=by rw[Ty.del_ne (fun e=>hqg e.symm)];exact hno
  have hB:=(s3.tw q _ _ hq).1;exact⟨(T.add w1.heap.size .bool n).del q,some ⟨q,0,none⟩,m,c,⟨s3.tw.del hq,hst3,hng,fun q' hq'=>by
   obtain rfl:q=q':=congrArg Addr.block (Option.some.inj hq');exact⟨Ty.del_self _ _,hqg,hlq,hB,q2,q3⟩,.inr ⟨q,rfl⟩,by omega,FinT.del hq ⟨t0,i1,i2,i3,p4 rfl,⟨n5,c5⟩,i7,i8,b9,n10,n11,i12,s13⟩,e6,h15.del hq (by simp),h16.del hq (by simp),(hp.mono s3.le).del hq (by simp),hU.del hq (by simp),(hv.mono s2.le).del hq (by simp),h.lo,fun i hi=>by
   obtain⟨f1,f2,f3⟩:=hF3 i hi;have hiq:i≠q:=fun e=>by rw[e,hq]at f2;cases f2
   exact⟨f1,(Ty.del_ne hiq).trans f2,fun e=>hiq (congrArg Addr.block (Option.some.inj e)).symm,f3⟩⟩,⟨Stp.refl (s3.tw.del hq),fun q' hq'=>by
   obtain rfl:q=q':=congrArg Addr.block (Option.some.inj hq');exact SB.start s3.tw hq⟩⟩
end
section
variable {u1 u4 u5 u6 u7 u8 u9 jA qA yA zA fA nA rA mA lA oA pA vA sA tA uA aA bA cA dA eA hA iA kA jB qB yB zB fB gB nB rB mB lB oB pB sB tB uB aB bB dB eB hB iB kB jC qC yC zC fC gC nC rC mC lC oC pC vC sC tC uC aC bC cC dC eC hC iC kC jD qD yD zD fD gD nD rD mD lD oD pD vD sD tD uD aD bD cD dD eD hD iD kD jE qE yE zE fE gE nE rE mE lE oE pE vE sE tE uE aE bE cE dE eE hE iE kE jF qF yF zF fF gF nF rF mF lF oF pF vF sF tF uF aF bF cF dF eF hF iF kF jG qG yG zG fG gG nG rG mG lG oG vG sG tG uG aG bG cG dG eG hG iG kG jH qH yH zH fH gH nH rH mH:Value}
set_option maxHeartbeats 16000000
set_option maxRecDepth 1000000
theorem lnk0 {g B N:Nat}{S:Ty}{wc:World}
   (h:Sta g B S wc N 0) (hN:N≤900)
 {K:Act→World→Prop}{post:Ending→World→Prop}
   (hK:∀ (x1 x3 x4 x5 x6 x7 x8 x9 lH oH pH vH sH tH uH aH bH cH dH eH hH iH kH jI qI yI zI fI gI nI rI mI lI oI pI sI tI uI aI bI cI dI eI hI iI jJ qJ yJ zJ fJ gJ nJ rJ mJ lJ oJ pJ vJ sJ tJ uJ aJ bJ cJ dJ eJ hJ iJ kJ jK qK yK zK fK gK nK rK mK lK oK pK vK sK tK uK aK bK cK dK eK iK kK jL qL yL fL gL nL rL mL oL pL vL sL tL uL aL bL cL dL eL hL iL kL jM qM yM zM fM gM nM rM mM lM oM pM vM sM tM uM aM bM cM dM eM hM iM kM jN qN yN zN fN gN nN rN mN lN oN pN vN sN tN uN aN cN dN eN iN kN jO qO yO zO fO gO nO rO mO lO oO pO vO sO tO uO aO bO cO dO eO:Value) (v2:Value) (wx:World),(∃ T n,Hid (Stp No B S wc T wx)∧Hid (Sl T .str n v2))→K ⟨#[vP (some ⟨g,0,none⟩),x1,v2,x3,x4,x5,x6,x7,x8,x9,lH,oH,pH,vH,sH,tH,uH,aH,bH,cH,dH,eH,hH,iH,kH,jI,qI,yI,zI,fI,gI,nI,rI,mI,lI,oI,pI,sI,tI,uI,aI,bI,cI,dI,eI,hI,iI,jJ,qJ,yJ,zJ,fJ,gJ,nJ,rJ,mJ,lJ,oJ,pJ,vJ,sJ,tJ,uJ,aJ,bJ,cJ,dJ,eJ,hJ,iJ,kJ,jK,qK,yK,zK,fK,gK,nK,rK,mK,lK,oK,pK,vK,sK,tK,uK,aK,bK,cK,dK,eK,iK,kK,jL,qL,yL,fL,gL,nL,rL,mL,oL,pL,vL,sL,tL,uL,aL,bL,cL,dL,eL,hL,iL,kL,jM,qM,yM,zM,fM,gM,nM,rM,mM,lM,oM,pM,vM,sM,tM,uM,aM,bM,cM,dM,eM,hM,iM,kM,jN,qN,yN,zN,fN,gN,nN,rN,mN,lN,oN,pN,vN,sN,tN,uN,aN,cN,dN,eN,iN,kN,jO,qO,yO,zO,fO,gO,nO,rO,mO,lO,oO,pO,vO,sO,tO,uO,aO,bO,cO,dO,eO],[]⟩ wx) :
   Code.wp pG ((Tryz.f39.body.bind (findBlk 0)).getD .skip) (Exit.then K (bodyPost pG Tryz.f39 post)) ⟨#[vP (some ⟨g,0,none⟩),u1,vS none 0 0,vI kI 0,u4,u5,u6,u7,u8,u9,jA,qA,yA,zA,fA,nA,rA,mA,lA,oA,pA,vA,sA,tA,uA,aA,bA,cA,dA,eA,hA,iA,kA,jB,qB,yB,zB,fB,gB,nB,rB,mB,lB,oB,pB,sB,tB,uB,aB,bB,dB,eB,hB,iB,kB,jC,qC,yC,zC,fC,gC,nC,rC,mC,lC,oC,pC,vC,sC,tC,uC,aC,bC,cC,dC,eC,hC,iC,kC,jD,qD,yD,zD,fD,gD,nD,rD,mD,lD,oD,pD,vD,sD,tD,uD,aD,bD,cD,dD,eD,hD,iD,kD,jE,qE,yE,zE,fE,gE,nE,rE,mE,lE,oE,pE,vE,sE,tE,uE,aE,bE,cE,dE,eE,hE,iE,kE,jF,qF,yF,zF,fF,gF,nF,rF,mF,lF,oF,pF,vF,sF,tF,uF,aF,bF,cF,dF,eF,hF,iF,kF,jG,qG,yG,zG,fG,gG,nG,rG,mG,lG,oG,vG,sG,tG,uG,aG,bG,cG,dG,eG,hG,iG,kG,jH,qH,yH,zH,fH,gH,nH,rH,mH],[]⟩ wc:=by
  have H:=hide h;obtain⟨cs,hst,hty⟩:=h.ex;obtain⟨n5,hn5,h5⟩:=hty.c5;obtain⟨CA,cc,e5,_,_⟩:=h5.form;rw[e5]at h5;have HSt:=hide hst;have H5:=hide h5;clear h hst hty h5;conv=>arg 2;whnf
  dsimp only;go_wp2_with fail;go_loopw [2,3] (fun v i wr=>∃ k:Nat,k≤n5∧i=vI kI k∧∃ (u:Value) (T:Ty),v=u∧Hid (Stp No B S wc T wr)∧Hid (Sl T .str k u)) (fun _ i _=>n5 - (iOf i).toNat);case atStart=>exact⟨0,zL _,rfl,_,S,rfl,Stp.refl H.out.tw,Sl.nil _ _⟩
  case round=>
   obtain⟨k,hk,rfl,v,T,rfl,HS,HV⟩:=hrel;have hst':St wr g cs 0:=⟨HS.out.box HSt.out.box H.out.no id,HSt.out.size,HSt.out.c17,HSt.out.c18⟩;have c5:=hst'.cellD (j:=5) (by decide);have hlg:=hst'.lt;rw[e5]at c5;clear hst';by_cases hlt:k < n5
   ·have hki:(k:Int) < (n5:Int):=by omega
    obtain⟨bb,s,D,m,d,x2,x3,x4,x5,x6,x7,x8,rfl,hbb,_,_,hsz,_,a0,_⟩:=(H5.out.mono HS.out.le).con HS.out.tw hlt;obtain⟨KA,kc,rfl,_,_⟩:=HV.out.form;obtain⟨A4,c4,w4,T4,hr4,hs4,hk4⟩:=push_elem (M:=No) (k:=.str) Tryz.underlying22 HS.out.tw (lT H.out.size HS.out.size) HV.out 22 (l:=[.string s]) rfl rfl (TC.strs (l:=[s]) (by simp[big];omega)) (by omega) (bR _ _);have HR4:=hide hr4;have HS4:=hide (HS.out.trans hs4);have HK4:=hide hk4;clear hr4 hs4 hk4;go_wp2_with ((with_reducible refine gV 34 (Value.slice A4 (k+1) c4) w4 ?_ ?_ ?_);rfl;exact gives_append rfl rfl rfl HR4.out);go_roundw;case rel=>exact⟨k+1,by omega,by go_num,_,T4,rfl,HS4.out,HK4.out⟩
    case measure=>simp[iOf];omega
   ·obtain rfl:k=n5:=by omega
    go_wp2_with fail;exact⟨T,k,HS,HV⟩
end
section
variable {u1 u3 u6 u7 u8 u9 kB jC jA qA yA zA fA nA rA mA lA oA pA vA sA tA uA aA bA cA dA eA iA kA jB qB yB zB fB gB nB rB qC yC zC fC gC rC mC lC oC pC vC sC tC uC aC bC dC eC hC iC kC jD qD yD zD fD gD nD rD mD lD oD pD vD sD tD uD aD bD cD dD eD iD kD jE qE yE zE fE gE nE rE mE lE oE pE vE sE tE uE aE bE cE dE eE hE iE kE jF qF yF zF fF gF nF rF mF lF oF pF vF sF tF uF aF bF cF dF eF hF iF kF jG qG yG zG fG gG nG rG mG lG oG vG sG tG uG aG bG cG dG eG hG iG kG jH qH yH zH fH gH nH rH mH lH mB lB oB pB sB tB uB aB bB dB eB hB iB:Value}
set_option maxHeartbeats 16000000
set_option maxRecDepth 1000000
theorem lnk4 {b:LB}{i m d:Nat}{D:Option Addr}{T:Ty}{wc:World}
   (ok:b.Ok) (hi:i < b.m) (h:LN b i 0 0 T wc) (hD:Sl T .str m (vS D m d))
 {K K2 K3 K4:Act→World→Prop}{post:Ending→World→Prop}
   (hP:∀ w',LPost b.g b.B b.F b.w w'→post (.returned (.tuple #[])) w')
   (hK:∀ (x7 x8 oH pH vH sH tH uH aH bH cH dH eH hH iH kH jI qI yI zI fI gI nI rI mI lI oI pI sI tI uI aI bI cI dI eI hI iI jJ qJ yJ zJ fJ gJ nJ rJ mJ lJ oJ pJ vJ sJ tJ uJ aJ bJ cJ dJ eJ hJ iJ kJ jK qK yK zK fK gK nK rK mK lK oK pK vK sK tK uK aK bK cK dK eK iK kK jL qL yL fL gL nL rL mL oL pL vL sL tL uL aL bL cL dL eL hL iL kL jM qM yM zM fM gM nM rM mM lM oM pM vM sM tM uM aM bM cM dM eM hM iM kM jN:Value)  (wx:World),(∃ T',Hid (LN b i 1000 0 T' wx))→K ⟨#[vP (some ⟨b.g,0,none⟩),u1,vS b.C b.nC b.cC,u3,vS (some ⟨b.U,0,none⟩) b.n b.u,vI kI i,u6,x7,x8,u9,oH,pH,jA,qA,yA,zA,fA,nA,rA,mA,lA,oA,pA,vA,sA,tA,uA,aA,bA,cA,dA,eA,iA,kA,jB,qB,yB,zB,fB,gB,nB,rB,vH,sH,tH,uH,aH,bH,cH,dH,eH,hH,iH,kH,jI,qI,yI,zI,fI,gI,nI,rI,mI,lI,oI,pI,sI,tI,uI,aI,bI,cI,dI,eI,hI,iI,jJ,qJ,yJ,zJ,fJ,gJ,nJ,rJ,mJ,lJ,oJ,pJ,vJ,sJ,tJ,uJ,aJ,bJ,cJ,dJ,eJ,hJ,iJ,kJ,jK,qK,yK,zK,fK,gK,nK,rK,mK,lK,oK,pK,vK,sK,tK,uK,aK,bK,cK,dK,eK,iK,kK,jL,qL,yL,fL,gL,nL,rL,mL,oL,pL,vL,sL,tL,uL,aL,bL,cL,dL,eL,hL,iL,kL,jM,qM,yM,zM,fM,gM,nM,rM,mM,lM,oM,pM,vM,sM,tM,uM,aM,bM,cM,dM,eM,hM,iM,kM,jN,mB,lB,oB,pB,sB,tB,uB,aB,bB,dB,eB,hB,iB],[]⟩ wx) :
   Code.wp pG ((Tryz.f39.body.bind (findBlk 4)).getD .skip) (Exit.then K (Exit.inBlock 3 (Exit.then K2 (Exit.then K3 (Exit.inBlock 2 (Exit.then K4 (bodyPost pG Tryz.f39 post))))))) ⟨#[vP (some ⟨b.g,0,none⟩),u1,vS b.C b.nC b.cC,u3,vS (some ⟨b.U,0,none⟩) b.n b.u,vI kI i,u6,u7,u8,u9,kB,jC,jA,qA,yA,zA,fA,nA,rA,mA,lA,oA,pA,vA,sA,tA,uA,aA,bA,cA,dA,eA,iA,kA,jB,qB,yB,zB,fB,gB,nB,rB,qC,yC,zC,fC,gC,rC,mC,lC,oC,pC,vC,sC,tC,uC,aC,bC,vS D m d,vI kI m,vI kI 0,dC,eC,hC,iC,kC,jD,qD,yD,zD,fD,gD,nD,rD,mD,lD,oD,pD,vD,sD,tD,uD,aD,bD,cD,dD,eD,iD,kD,jE,qE,yE,zE,fE,gE,nE,rE,mE,lE,oE,pE,vE,sE,tE,uE,aE,bE,cE,dE,eE,hE,iE,kE,jF,qF,yF,zF,fF,gF,nF,rF,mF,lF,oF,pF,vF,sF,tF,uF,aF,bF,cF,dF,eF,hF,iF,kF,jG,qG,yG,zG,fG,gG,nG,rG,mG,lG,oG,vG,sG,tG,uG,aG,bG,cG,dG,eG,hG,iG,kG,jH,qH,yH,zH,fH,gH,nH,rH,mH,lH,mB,lB,oB,pB,sB,tB,uB,aB,bB,dB,eB,hB,iB],[]⟩ wc:=by
  have Ok:=hide ok;have H:=hide h;have HD:=hide hD;have hmk:m≤1000:=by obtain⟨_,_,_,_,k⟩:=hD.form;exact k
  clear ok h hD;conv=>arg 2;whnf
  dsimp only;go_wp2_with fail;go_loopw [60] (fun i0 wr=>∃ k:Nat,k≤m∧i0=vI kI k∧∃ T',Hid (Ty.le T T')∧Hid (LN b i (k) (0) T' wr)) (fun i0 _=>m - (iOf i0).toNat);case atStart=>exact⟨0,zL _,rfl,T,Ty.le_refl _,H.out⟩
  case round=>
   obtain⟨k,hk,rfl,T',HTl,HN⟩:=hrel;have c6:=HN.out.cell Ok.out (j:=6) (by decide);rw[Ok.out.c6]at c6;have hlg:=(HN.out.st Ok.out).lt;by_cases hlt:k < m
   ·have hki:(k:Int) < (m:Int):=by omega
    obtain⟨bs,s,rfl,hbs,hsc⟩:=Sl.str_at (HD.out.mono HTl.out) HN.out.stp.tw hlt;obtain⟨lq,lc,l0,l1,c15,hlq,cl0,cl1⟩:=HN.out.line Ok.out hi;obtain⟨PA,pc,r,c4,hr1,hr2,hf⟩:=HN.out.findP Ok.out s;have HF:=hide hf;clear hf;go_wp2_with fail;refine HF.out.mono ?_;rintro en w5 ⟨rfl,hw5⟩;have hw5:=hw5.symm;subst hw5;try dsimp only
    by_cases hr:r < 0
    ·go_wp2_with fail;refine(failA_any (HN.out.st Ok.out) (by decide)).mono ?_;rintro en w6 ⟨rfl,hA6,_⟩;try dsimp only
     have HE6:=hide (HN.out.done Ok.out hA6);clear hA6;go_wp2_with fail;go_end0;exact hP _ HE6.out
    ·obtain⟨rn,rfl⟩:∃ rn:Nat,r=rn:=⟨r.toNat,by omega⟩;have hrn:rn < b.n:=by omega
     have hri:(rn:Int) < (b.n:Int):=by omega
     obtain⟨v,hul,huc,huf⟩:=HN.out.mark_at Ok.out hrn;cases v with
     |true=>
      go_wp2_with fail;refine(failA_any (HN.out.st Ok.out) (by decide)).mono ?_;rintro en w6 ⟨rfl,hA6,_⟩;try dsimp only
      have HE6:=hide (HN.out.done Ok.out hA6);clear hA6;go_wp2_with fail;go_end0;exact hP _ HE6.out
     |false=>
      have HM:=hide (HN.out.mark Ok.out (by omega) (j:=rn) true);go_upto_region 18 with fail;obtain⟨wm,hwm⟩:∃ q,wr.setCell ⟨b.U,rn,none⟩ (vB true)=q:=⟨_,rfl⟩;rw[hwm]at HM ⊢;clear c4 c6 c15 hlg hlq cl0 cl1 huc huf hul hwm hsc hbs;obtain⟨q,D1,md,d1,hA,hc1,hpush⟩:=HM.out.push Ok.out hi (t:=0) (by decide) (by omega) (by omega) (rn:Int);have c6:=HM.out.cell Ok.out (j:=6) (by decide);rw[Ok.out.c6,hA]at c6;have hlg:=(HM.out.st Ok.out).lt;have hlq:=(HM.out.sb q hA).lt;obtain⟨A1,c1,w9,T9,hr9,⟨u9,hu9⟩,fz9,hq9,hg9,c69,hle9,hn9⟩:=hpush (wm.drewN 1) (below_drew (bR _ _) 1) 33;rw[hA]at c69;have HR9:=hide hr9;have HN9:Hid (LN b i (k+1) (0) T9 (w9.setCell ⟨q,i * 3+(0+1),none⟩ (vS A1 (md+1) c1))):=hn9;have him:(i:Int) < (b.m:Int):=by omega
      have HTl9:Hid (Ty.le T T9):=Ty.le_trans HTl.out hle9;clear hpush hr9 hn9;simp only[Nat.zero_add]at hc1 hu9 fz9 HN9;go_region_law (refine step_gives (v:=vS A1 (md+1) c1) (w':=w9) (by rfl) (gives_append (by rfl) (by rfl) (by rfl) HR9.out) ?_);all_goals
       go_wp2_with fail
       go_roundw
       case rel=>exact⟨k+1,by omega,by go_num,T9,HTl9.out,HN9.out⟩
       case measure=>simp[iOf];omega
   ·obtain rfl:k=m:=by omega
    go_wp2_with fail;exact⟨T',HN.out.weak (by omega) (by omega)⟩
end
section
variable {u1 u3 u6 u7 u8 u9 kB jC jA qA yA zA fA nA rA mA lA oA pA vA sA tA uA aA bA cA dA eA iA kA jB qB yB zB fB gB nB rB qC yC zC fC gC rC mC lC oC pC vC sC tC uC aC bC dC eC hC iC kC jD qD yD zD fD gD nD rD mD lD oD pD vD sD tD uD aD bD cD dD eD iD kD jE qE yE zE fE gE nE rE mE lE oE pE vE sE tE uE aE bE cE dE eE hE iE kE jF qF yF zF fF gF nF rF mF lF oF pF vF sF tF uF aF bF cF dF eF hF iF kF jG qG yG zG fG gG nG rG mG lG oG vG sG tG uG aG bG cG dG eG hG iG kG jH qH yH zH fH gH nH rH mH lH mB lB oB pB sB tB uB aB bB dB eB hB iB:Value}
set_option maxHeartbeats 16000000
set_option maxRecDepth 1000000
theorem lnk6 {b:LB}{i m d:Nat}{D:Option Addr}{T:Ty}{wc:World}
   (ok:b.Ok) (hi:i < b.m) (h:LN b i 1000 0 T wc) (hD:Sl T .str m (vS D m d))
 {K K2 K3:Act→World→Prop}{post:Ending→World→Prop}
   (hP:∀ w',LPost b.g b.B b.F b.w w'→post (.returned (.tuple #[])) w')
   (hK:∀ (x7 x8 oH pH vH sH tH uH aH bH cH dH eH hH iH kH jI qI yI zI fI gI nI rI mI lI oI pI sI tI uI aI bI cI dI eI hI iI jJ qJ yJ zJ fJ gJ nJ rJ mJ lJ oJ pJ vJ sJ tJ uJ aJ bJ cJ dJ eJ hJ iJ kJ jK qK yK zK fK gK nK rK mK lK oK pK vK sK tK uK aK bK cK dK eK iK kK jL qL yL fL gL nL rL mL oL pL vL sL tL uL aL bL cL dL eL hL iL kL jM qM yM zM fM gM nM rM mM lM oM pM vM sM tM uM aM bM cM dM eM hM iM kM jN:Value)  (wx:World),(∃ T',Hid (LN b i 1000 1000 T' wx))→K ⟨#[vP (some ⟨b.g,0,none⟩),u1,vS b.C b.nC b.cC,u3,vS (some ⟨b.U,0,none⟩) b.n b.u,vI kI i,u6,x7,x8,u9,oH,pH,jA,qA,yA,zA,fA,nA,rA,mA,lA,oA,pA,vA,sA,tA,uA,aA,bA,cA,dA,eA,iA,kA,jB,qB,yB,zB,fB,gB,nB,rB,vH,sH,tH,uH,aH,bH,cH,dH,eH,hH,iH,kH,jI,qI,yI,zI,fI,gI,nI,rI,mI,lI,oI,pI,sI,tI,uI,aI,bI,cI,dI,eI,hI,iI,jJ,qJ,yJ,zJ,fJ,gJ,nJ,rJ,mJ,lJ,oJ,pJ,vJ,sJ,tJ,uJ,aJ,bJ,cJ,dJ,eJ,hJ,iJ,kJ,jK,qK,yK,zK,fK,gK,nK,rK,mK,lK,oK,pK,vK,sK,tK,uK,aK,bK,cK,dK,eK,iK,kK,jL,qL,yL,fL,gL,nL,rL,mL,oL,pL,vL,sL,tL,uL,aL,bL,cL,dL,eL,hL,iL,kL,jM,qM,yM,zM,fM,gM,nM,rM,mM,lM,oM,pM,vM,sM,tM,uM,aM,bM,cM,dM,eM,hM,iM,kM,jN,mB,lB,oB,pB,sB,tB,uB,aB,bB,dB,eB,hB,iB],[]⟩ wx) :
   Code.wp pG ((Tryz.f39.body.bind (findBlk 6)).getD .skip) (Exit.inBlock 3 (Exit.then K (Exit.then K2 (Exit.inBlock 2 (Exit.then K3 (bodyPost pG Tryz.f39 post)))))) ⟨#[vP (some ⟨b.g,0,none⟩),u1,vS b.C b.nC b.cC,u3,vS (some ⟨b.U,0,none⟩) b.n b.u,vI kI i,u6,u7,u8,u9,kB,jC,jA,qA,yA,zA,fA,nA,rA,mA,lA,oA,pA,vA,sA,tA,uA,aA,bA,cA,dA,eA,iA,kA,jB,qB,yB,zB,fB,gB,nB,rB,qC,yC,zC,fC,gC,rC,mC,lC,oC,pC,vC,sC,tC,uC,aC,bC,dC,eC,hC,iC,kC,jD,qD,yD,zD,fD,gD,nD,rD,mD,lD,oD,pD,vD,sD,tD,uD,aD,bD,cD,dD,eD,iD,kD,jE,qE,yE,zE,fE,gE,nE,rE,mE,lE,oE,pE,vE,sE,tE,uE,aE,bE,cE,dE,eE,hE,iE,kE,jF,qF,yF,zF,fF,gF,nF,rF,mF,lF,oF,pF,vF,sF,tF,uF,aF,bF,vS D m d,vI kI m,vI kI 0,cF,dF,eF,hF,iF,kF,jG,qG,yG,zG,fG,gG,nG,rG,mG,lG,oG,vG,sG,tG,uG,aG,bG,cG,dG,eG,hG,iG,kG,jH,qH,yH,zH,fH,gH,nH,rH,mH,lH,mB,lB,oB,pB,sB,tB,uB,aB,bB,dB,eB,hB,iB],[]⟩ wc:=by
  have Ok:=hide ok;have H:=hide h;have HD:=hide hD;have hmk:m≤1000:=by obtain⟨_,_,_,_,k⟩:=hD.form;exact k
  clear ok h hD;conv=>arg 2;whnf
  dsimp only;go_wp2_with fail;go_loopw [130] (fun i0 wr=>∃ k:Nat,k≤m∧i0=vI kI k∧∃ T',Hid (Ty.le T T')∧Hid (LN b i (1000) (k) T' wr)) (fun i0 _=>m - (iOf i0).toNat);case atStart=>exact⟨0,zL _,rfl,T,Ty.le_refl _,H.out⟩
  case round=>
   obtain⟨k,hk,rfl,T',HTl,HN⟩:=hrel;have c6:=HN.out.cell Ok.out (j:=6) (by decide);rw[Ok.out.c6]at c6;have hlg:=(HN.out.st Ok.out).lt;by_cases hlt:k < m
   ·have hki:(k:Int) < (m:Int):=by omega
    obtain⟨bs,s,rfl,hbs,hsc⟩:=Sl.str_at (HD.out.mono HTl.out) HN.out.stp.tw hlt;obtain⟨lq,lc,l0,l1,c15,hlq,cl0,cl1⟩:=HN.out.line Ok.out hi;obtain⟨r,hr1,hr2,hf⟩:=HN.out.findC Ok.out s;have HF:=hide hf;clear hf;go_wp2_with fail;refine HF.out.mono ?_;rintro en w5 ⟨rfl,hw5⟩;have hw5:=hw5.symm;subst hw5;try dsimp only
    by_cases hr:r < 0
    ·go_wp2_with fail;refine(failA_any (HN.out.st Ok.out) (by decide)).mono ?_;rintro en w6 ⟨rfl,hA6,_⟩;try dsimp only
     have HE6:=hide (HN.out.done Ok.out hA6);clear hA6;go_wp2_with fail;go_end0;exact hP _ HE6.out
    ·obtain⟨rn,rfl⟩:∃ rn:Nat,r=rn:=⟨r.toNat,by omega⟩;go_upto_region 26 with fail;obtain⟨wm,hwm⟩:∃ q,wr=q:=⟨_,rfl⟩;have HM:=hide HN.out;rw[hwm]at HM ⊢;clear c6 c15 hlg hlq cl0 cl1 hsc hbs;obtain⟨q,D1,md,d1,hA,hc1,hpush⟩:=HM.out.push Ok.out hi (t:=1) (by decide) (by omega) (by omega) (rn:Int);have c6:=HM.out.cell Ok.out (j:=6) (by decide);rw[Ok.out.c6,hA]at c6;have hlg:=(HM.out.st Ok.out).lt;have hlq:=(HM.out.sb q hA).lt;obtain⟨A1,c1,w9,T9,hr9,⟨u9,hu9⟩,fz9,hq9,hg9,c69,hle9,hn9⟩:=hpush (wm.drewN 1) (below_drew (bR _ _) 1) 33;rw[hA]at c69;have HR9:=hide hr9;have HN9:Hid (LN b i (1000) (k+1) T9 (w9.setCell ⟨q,i * 3+(1+1),none⟩ (vS A1 (md+1) c1))):=hn9;have him:(i:Int) < (b.m:Int):=by omega
     have HTl9:Hid (Ty.le T T9):=Ty.le_trans HTl.out hle9;clear hpush hr9 hn9;simp only[Nat.reduceAdd]at hc1 hu9 fz9 HN9;go_region_law (refine step_gives (v:=vS A1 (md+1) c1) (w':=w9) (by rfl) (gives_append (by rfl) (by rfl) (by rfl) HR9.out) ?_);all_goals
      go_wp2_with fail
      go_roundw
      case rel=>exact⟨k+1,by omega,by go_num,T9,HTl9.out,HN9.out⟩
      case measure=>simp[iOf];omega
   ·obtain rfl:k=m:=by omega
    go_wp2_with fail;exact⟨T',HN.out.weak (by omega) (by omega)⟩
end
section
variable {u1 u3 u6 u7 u8 u9 bF cF dF eF hF iF kF jG qG yG zG fG gG nG rG mG lG oG vG sG tG uG aG bG cG dG eG hG iG kG jH qH yH zH fH gH nH rH mH lH oH pH vH sH tH uH aH bH cH dH eH hH iH kH jI qI yI zI fI gI nI rI mI lI oI pI sI tI uI aI bI cI dI eI hI iI jJ qJ yJ zJ fJ gJ nJ rJ mJ lJ oJ pJ vJ sJ tJ uJ aJ bJ cJ dJ eJ hJ iJ kJ jK qK yK zK fK gK nK rK mK lK oK pK vK sK tK uK aK bK cK dK eK iK kK jL qL yL fL gL nL rL mL oL pL vL sL tL uL aL bL cL dL eL hL iL kL jM qM yM zM fM gM nM rM mM lM oM pM vM sM tM uM aM bM cM dM eM hM iM kM jN qN yN zN:Value}
set_option maxHeartbeats 16000000
set_option maxRecDepth 1000000
theorem lnk2 {b:LB}{T:Ty}{wc:World}
   (ok:b.Ok) (h:LN b 0 0 0 T wc)
 {K:Act→World→Prop}{post:Ending→World→Prop}
   (hP:∀ w',LPost b.g b.B b.F b.w w'→post (.returned (.tuple #[])) w')
   (hK:∀ (x1 x3 x5 x6 x7 x8 x9 jA qA fN gN nN rN mN lN oN pN vN sN tN uN aN cN dN eN hN iN kN jO qO yO zO fO gO nO rO mO lO oO yA zA fA nA rA mA lA oA pA vA sA tA uA aA bA cA dA eA hA iA kA jB qB yB zB fB gB nB rB mB lB oB pB sB tB uB aB bB dB eB hB iB kB jC qC yC zC fC gC rC mC lC oC pC vC sC tC uC aC bC dC eC hC iC kC jD qD yD zD fD gD nD rD mD lD oD pD vD tD uD aD bD cD dD eD hD iD kD jE qE yE zE fE gE nE rE mE lE oE pE vE tE uE aE bE cE dE eE hE iE kE jF qF yF zF fF gF nF rF mF lF oF pF vF sF tF uF aF pO vO sO tO uO aO bO cO dO eO hO iO kO:Value)  (wx:World),(∃ T',Hid (LN b b.m 0 0 T' wx))→K ⟨#[vP (some ⟨b.g,0,none⟩),x1,vS b.C b.nC b.cC,x3,vS (some ⟨b.U,0,none⟩) b.n b.u,x5,x6,x7,x8,x9,jA,qA,fN,gN,nN,rN,mN,lN,oN,pN,vN,sN,tN,uN,aN,cN,dN,eN,hN,iN,kN,jO,qO,yO,zO,fO,gO,nO,rO,mO,lO,oO,yA,zA,fA,nA,rA,mA,lA,oA,pA,vA,sA,tA,uA,aA,bA,cA,dA,eA,hA,iA,kA,jB,qB,yB,zB,fB,gB,nB,rB,mB,lB,oB,pB,sB,tB,uB,aB,bB,dB,eB,hB,iB,kB,jC,qC,yC,zC,fC,gC,rC,mC,lC,oC,pC,vC,sC,tC,uC,aC,bC,dC,eC,hC,iC,kC,jD,qD,yD,zD,fD,gD,nD,rD,mD,lD,oD,pD,vD,tD,uD,aD,bD,cD,dD,eD,hD,iD,kD,jE,qE,yE,zE,fE,gE,nE,rE,mE,lE,oE,pE,vE,tE,uE,aE,bE,cE,dE,eE,hE,iE,kE,jF,qF,yF,zF,fF,gF,nF,rF,mF,lF,oF,pF,vF,sF,tF,uF,aF,pO,vO,sO,tO,uO,aO,bO,cO,dO,eO,hO,iO,kO],[]⟩ wx) :
   Code.wp pG ((Tryz.f39.body.bind (findBlk 2)).getD .skip) (Exit.then K (bodyPost pG Tryz.f39 post)) ⟨#[vP (some ⟨b.g,0,none⟩),u1,vS b.C b.nC b.cC,u3,vS (some ⟨b.U,0,none⟩) b.n b.u,vI kI 0,u6,u7,u8,u9,bF,cF,dF,eF,hF,iF,kF,jG,qG,yG,zG,fG,gG,nG,rG,mG,lG,oG,vG,sG,tG,uG,aG,bG,cG,dG,eG,hG,iG,kG,jH,qH,yH,zH,fH,gH,nH,rH,mH,lH,oH,pH,vH,sH,tH,uH,aH,bH,cH,dH,eH,hH,iH,kH,jI,qI,yI,zI,fI,gI,nI,rI,mI,lI,oI,pI,sI,tI,uI,aI,bI,cI,dI,eI,hI,iI,jJ,qJ,yJ,zJ,fJ,gJ,nJ,rJ,mJ,lJ,oJ,pJ,vJ,sJ,tJ,uJ,aJ,bJ,cJ,dJ,eJ,hJ,iJ,kJ,jK,qK,yK,zK,fK,gK,nK,rK,mK,lK,oK,pK,vK,sK,tK,uK,aK,bK,cK,dK,eK,iK,kK,jL,qL,yL,fL,gL,nL,rL,mL,oL,pL,vL,sL,tL,uL,aL,bL,cL,dL,eL,hL,iL,kL,jM,qM,yM,zM,fM,gM,nM,rM,mM,lM,oM,pM,vM,sM,tM,uM,aM,bM,cM,dM,eM,hM,iM,kM,jN,qN,yN,zN],[]⟩ wc:=by
  have Ok:=hide ok;have H:=hide h;clear ok h;conv=>arg 2;whnf
  dsimp only;go_wp2_with fail;go_loopw [5] (fun i0 wr=>∃ i:Nat,i≤b.m∧i0=vI kI i∧∃ T',Hid (LN b i 0 0 T' wr)) (fun i0 _=>b.m - (iOf i0).toNat);case atStart=>exact⟨0,zL _,rfl,T,H.out⟩
  case round=>
   obtain⟨i,hi,rfl,T',HN⟩:=hrel;obtain⟨NA,nc,e16,_,hm1⟩:=Ok.out.n16.form;have c16:=HN.out.cell Ok.out (j:=16) (by decide);rw[e16]at c16;have hlg:=(HN.out.st Ok.out).lt;by_cases hlt:i < b.m
   ·have hii:(i:Int) < (b.m:Int):=by omega
    clear c16;obtain⟨nq,nc2,D,m,d,E,n,e,c16,hnq,cn0,cn1,sD,sE⟩:=HN.out.names Ok.out hlt;go_upto_block 4 with fail;refine lnk4 Ok.out hlt HN.out sD hP ?_;intro x7 x8 jA qA yA zA fA nA rA mA lA oA pA vA sA tA uA aA bA cA dA eA hA iA kA jB qB yB zB fB gB nB rB mB lB oB pB sB tB uB aB bB dB eB hB iB kB jC qC yC zC fC gC rC mC lC oC pC vC sC tC uC aC bC dC eC hC iC kC jD qD yD zD fD gD nD rD mD lD oD pD vD tD uD aD bD cD dD eD hD iD kD jE qE yE zE fE gE nE rE mE lE oE pE vE tE uE aE bE cE dE eE hE iE kE jF qF yF zF fF gF nF rF mF lF oF pF vF sF tF uF aF w4 ⟨T4,HN4⟩;clear c16 hnq cn0 cn1 hlg;obtain⟨nq,nc2,D2,m2,d2,E2,n2,e2,c16,hnq,cn0,cn1,sD2,sE2⟩:=HN4.out.names Ok.out hlt;have hlg:=(HN4.out.st Ok.out).lt;go_upto_block 6 with fail;refine lnk6 Ok.out hlt HN4.out sE2 hP ?_;intro x7 x8 jA qA yA zA fA nA rA mA lA oA pA vA sA tA uA aA bA cA dA eA hA iA kA jB qB yB zB fB gB nB rB mB lB oB pB sB tB uB aB bB dB eB hB iB kB jC qC yC zC fC gC rC mC lC oC pC vC sC tC uC aC bC dC eC hC iC kC jD qD yD zD fD gD nD rD mD lD oD pD vD tD uD aD bD cD dD eD hD iD kD jE qE yE zE fE gE nE rE mE lE oE pE vE tE uE aE bE cE dE eE hE iE kE jF qF yF zF fF gF nF rF mF lF oF pF vF sF tF uF aF w5 ⟨T5,HN5⟩;clear c16 hnq cn0 cn1 hlg;go_wp2_with fail;go_roundw;case rel=>exact⟨i+1,by omega,by go_num,T5,HN5.out.next⟩
    case measure=>simp[iOf];omega
   ·obtain rfl:i=b.m:=by omega
    go_wp2_with fail;exact⟨T',HN⟩
end
section
variable {u1 u2 u3 u5 u6 u7 u8 u9 jA qA yA zA fA nA rA mA lA oA pA vA sA tA uA aA bA cA dA eA hA iA kA jB qB yB zB fB gB nB rB mB lB oB pB sB tB uB aB bB dB eB hB iB kB jC qC yC zC fC gC nC rC mC lC oC pC vC sC tC uC aC bC cC dC eC hC iC kC jD qD yD zD fD gD nD rD mD lD oD pD vD sD tD uD aD bD cD dD eD hD iD kD jE qE yE zE fE gE nE rE mE lE oE pE vE sE tE uE aE bE cE dE eE hE iE kE jF qF yF zF fF gF nF rF mF lF oF pF vF sF tF uF aF bF cF dF eF hF iF kF jG qG yG zG fG gG nG rG mG lG oG vG sG tG uG aG bG cG dG eG hG iG kG jH qH yH zH fH gH nH rH:Value}
set_option maxHeartbeats 16000000
set_option maxRecDepth 1000000
theorem lnk8 {b:LB}{i x y:Nat}{T:Ty}{wc:World}
   (ok:b.Ok) (h:LN b i x y T wc)
 {post:Ending→World→Prop}
   (hP:∀ w',LPost b.g b.B b.F b.w w'→post (.returned (.tuple #[])) w')
 :
   Code.wp pG ((Tryz.f39.body.bind (findBlk 8)).getD .skip) (bodyPost pG Tryz.f39 post) ⟨#[vP (some ⟨b.g,0,none⟩),u1,u2,u3,vS (some ⟨b.U,0,none⟩) b.n b.u,u5,u6,u7,u8,u9,jA,qA,vI kI 0,yA,zA,fA,nA,rA,mA,lA,oA,pA,vA,sA,tA,uA,aA,bA,cA,dA,eA,hA,iA,kA,jB,qB,yB,zB,fB,gB,nB,rB,mB,lB,oB,pB,sB,tB,uB,aB,bB,dB,eB,hB,iB,kB,jC,qC,yC,zC,fC,gC,nC,rC,mC,lC,oC,pC,vC,sC,tC,uC,aC,bC,cC,dC,eC,hC,iC,kC,jD,qD,yD,zD,fD,gD,nD,rD,mD,lD,oD,pD,vD,sD,tD,uD,aD,bD,cD,dD,eD,hD,iD,kD,jE,qE,yE,zE,fE,gE,nE,rE,mE,lE,oE,pE,vE,sE,tE,uE,aE,bE,cE,dE,eE,hE,iE,kE,jF,qF,yF,zF,fF,gF,nF,rF,mF,lF,oF,pF,vF,sF,tF,uF,aF,bF,cF,dF,eF,hF,iF,kF,jG,qG,yG,zG,fG,gG,nG,rG,mG,lG,oG,vG,sG,tG,uG,aG,bG,cG,dG,eG,hG,iG,kG,jH,qH,yH,zH,fH,gH,nH,rH],[]⟩ wc:=by
  have Ok:=hide ok;have H:=hide h;have hn1:b.n≤1000:=by obtain⟨_,_,_,_,k⟩:=ok.p4.form;exact k
  clear ok h;conv=>arg 2;whnf
  dsimp only;go_wp2_with fail;go_loopw [12] (fun i0 wr=>∃ k:Nat,k≤b.n∧i0=vI kI k∧Hid (Aft wc b.g b.cs 0 wr)) (fun i0 _=>b.n - (iOf i0).toNat);case atStart=>exact⟨0,zL _,rfl,Aft.refl (H.out.st Ok.out)⟩
  case round=>
   obtain⟨k,hk,rfl,HA⟩:=hrel;obtain⟨cs',e',hs'⟩:=HA.out.st;by_cases hlt:k < b.n
   ·have hki:(k:Int) < (b.n:Int):=by omega
    obtain⟨v,hul,huc⟩:=H.out.mark_aft Ok.out hlt HA.out;cases v with
    |true=>
     go_wp2_with fail;go_roundw;case rel=>exact⟨k+1,by omega,by go_num,HA.out⟩
     case measure=>simp[iOf];omega
    |false=>
     have HSt:=hide hs';clear hs';go_wp2_with fail;refine(failA_any HSt.out (by decide)).mono ?_;rintro en w6 ⟨rfl,hA6,_⟩;try dsimp only
     have HA6:=hide (HA.out.next HSt.out hA6);clear hA6;go_wp2_with fail;go_roundw;case rel=>exact⟨k+1,by omega,by go_num,HA6.out⟩
     case measure=>simp[iOf];omega
   ·obtain rfl:k=b.n:=by omega
    go_wp2_with fail;go_end0;exact hP _ (H.out.done Ok.out HA.out)
end
section
set_option maxHeartbeats 16000000
set_option maxRecDepth 1000000
theorem link_any {g B N:Nat}{S:Ty}{w:World}(h:Sta g B S w N 0) (hN:N≤900) {F:Nat→Prop}(hF:∀ i,F i→i < w.heap.size∧S i=none∧i≠g) :
  Calls pG 39 #[vP (some ⟨g,0,none⟩)] w fun en w'=>en=.returned (.tuple #[])∧LPost g B F w w':=by
 obtain⟨cs,hst,hty⟩:=h.ex;obtain⟨n,hp⟩:=hty.p4 rfl;obtain⟨PA,pc,e4,_,hn1⟩:=hp.form;have H:=hide h;have HSt:=hide hst;have HTy:=hide hty;have HP:=hide hp;clear h hst hty hp;go_enter Tryz.func39,Tryz.ntmps39;go_upto_block 0 with (fail);refine lnk0 H.out hN ?_;intros;rename_i v2 wa hrel;obtain⟨T1,nC,HS,HV⟩:=hrel;obtain⟨C,cC,rfl,_,_⟩:=HV.out.form;have hst':St wa g cs 0:=⟨HS.out.box HSt.out.box H.out.no id,HSt.out.size,HSt.out.c17,HSt.out.c18⟩;have c4:=hst'.cellD (j:=4) (by decide);have hlg:=hst'.lt;rw[e4]at c4;clear hst';have hmk:(Instr.makeSlice 34 (vI kI (n:Int)) (vI kI (n:Int))).run pG wa=.ok (vS (some ⟨wa.heap.size,0,none⟩) n n) (wa.alloc (.cells (madeCells #[vB false] n) 4)):=
  run_make_row' 34 4 (.bool false) 1 Tryz.underlying34 boolinfo rfl .i64 .i64 n (by omega) (by omega) wa
 obtain⟨S',A,m,c,hok,hln⟩:=link_marks (v2:=undef) H.out HSt.out HTy.out hN HS.out HV.out HP.out hF;have hb1:Below B w wa:=HS.out.below H.out.tw H.out.size fun _ _ e=>e.elim;have hb2:Below B w (wa.alloc (.cells (madeCells #[vB false] n) 4)):=hb1.alloc (lT H.out.size HS.out.size) _;obtain⟨wb,hwb⟩:∃ q,wa.alloc (.cells (madeCells #[vB false] n) 4)=q:=⟨_,rfl⟩;rw[hwb]at hok hln hb2 hmk;have HMk:=hide hmk;have Ok:=hide hok;have HL:=hide hln;have hfr:∀ i,F i→wb.heap[i]? = w.heap[i]? := fun i hi=>by obtain⟨f1,f2,f3⟩:=hF i hi;rw[← hwb,← HS.out.far i f1 f2 id];exact((bR wa.heap.size wa).alloc (lR _) _).block i (lL f1 HS.out.size)
 have HP2:∀ w',LPost g B F wb w'→(Ending.returned (.tuple #[]):Ending)=.returned (.tuple #[])∧LPost g B F w w':=fun w' q=>⟨rfl,hb2.trans q.1,fun i hi=>(q.2.1 i hi).trans (hfr i hi),q.2.2⟩;clear hmk hok hln hb1 hb2 hwb hfr;go_upto_block 2 with ((with_reducible refine gV 41 (Value.slice (some ⟨wa.heap.size,0,none⟩) n n) wb ?_ ?_ ?_);rfl;exact gives_make rfl rfl rfl HMk.out);refine lnk2 (b:=⟨g,B,S',wb,cs,A,m,c,n,wa.heap.size,n,nC,C,cC,F⟩) Ok.out HL.out HP2 ?_;intros;rename_i wc hrel;obtain⟨T',HL2⟩:=hrel;go_upto_block 8 with (fail);exact lnk8 (b:=⟨g,B,S',wb,cs,A,m,c,n,wa.heap.size,n,nC,C,cC,F⟩) Ok.out HL2.out HP2
end
end Go.Proofs.YtnndaemmgbkjbaaGreatDoor
