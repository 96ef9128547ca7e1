/-
  parts of the proof: Sht Mem Ops Shv.
-/
import Derived.Test.YtnndaemmgbkjbaaGreatDoorRows
import Derived.WalkKit
import Derived.Deep.RegionHeld3
import Derived.WalkSpells
import Derived.WalkLawsBesides
import Derived.OpenShut
import Derived.Deep.QuietTactic
import Derived.BigQuiet
import Derived.Lib.Hide
import Derived.Lib.SliceRun
import Derived.Deep.OwnRows
import Derived.Maps.AppendAt
import Derived.Laws.CopyOwn
import Derived.Deep.AppendLies
import Derived.Laws.OwnMore
import Derived.Deep.DeepCutAuto
import Derived.Deep.DrawnRows
import Derived.StillTailTactics
namespace Go.Proofs.YtnndaemmgbkjbaaGreatDoor
open Go.RowKit
open Go.World renaming cell?_of_block → cB
open Nat renaming lt_of_lt_of_le → lL, le_trans → lT, le_refl → lR
open Go.RowKit.Below renaming refl → bR
open _root_.Go.Proofs.Tryz renaming prog → pG
open Go.Value renaming int → vI, slice → vS, pointer → vP
open Go.IntKind renaming i64 → kI
set_option linter.unusedVariables false
set_option linter.unusedSimpArgs false
set_option linter.unusedSectionVars false
section
theorem bN {α:Type} [BEq α] [LawfulBEq α] {a b:α}(h:a≠b):(a==b)=false:=beq_eq_false_iff_ne.2 h
section
variable {P:Program}{md:Region.Mode}{ops:Array Oper}{Q:Exit→Act→World→Prop}{S:World→Prop}{f:Nat}{l:Array Bool}{a:Act}{w:World}{o:Oper}
theorem wU (i:Nat) (v:Value) (hy:YieldsIf P ops S o v a) (hS:S w) (h:wpAnyH P md ops Q S f (l.setIfInBounds i true) (a.put o.dst v) w)
 (hi:ops[i]? = some o:=by simp only[List.getElem?_toArray,List.getElem?_cons_succ,List.getElem?_cons_zero];exact rfl) (hs:Region.noSelect ops=true:=by kernel_rfl)
 (hf:Region.free md ops l i=true:=by kernel_rfl) (hr:(Region.ready md ops l).contains i=true:=by kernel_rfl)
 (hQ:∀ c a w,Q (.panic c) (a.put o.dst v) w→Q (.panic c) a w:=by exact fun _ _ _ h=>h):wpAnyH P md ops Q S (f+1) l a w:=wpAnyH_take hi hs hf hr hQ hy hS h
theorem wT (i:Nat) (v:Value) (hy:∀ w,S w→(execOp a.eval o).run P w=.ok (.value v) w) (hS:S w) (h:wpAnyH P md ops Q S f (l.setIfInBounds i true) (a.put o.dst v) w)
 (hi:ops[i]? = some o:=by simp only[List.getElem?_toArray,List.getElem?_cons_succ,List.getElem?_cons_zero];exact rfl) (hs:Region.noSelect ops=true:=by kernel_rfl)
 (hf:Region.free md ops l i=true:=by kernel_rfl) (hr:(Region.ready md ops l).contains i=true:=by kernel_rfl)
 (hQ:∀ c a w,Q (.panic c) (a.put o.dst v) w→Q (.panic c) a w:=by exact fun _ _ _ h=>h) (hw:Region.wanted o (yielded ops a.tmps)=true:=by rfl):wpAnyH P md ops Q S (f+1) l a w:=wpAnyH_take hi hs hf hr hQ (Or.inl ⟨hw,hy⟩) hS h
theorem wR (i:Nat) (h:∀ K':Act→World→Prop,Shut (∀ a w,S w→(S w→wpAnyH P md ops Q S f (l.setIfInBounds i true) a w)→K' a w)→if Region.wanted o (yielded ops a.tmps)=true then Oper.wp P o a w K' Q else K' (a.put o.dst undef) w)
  (hr:Region.ready md ops l=[i]:=by kernel_rfl) (ho:ops[i]? = some o:=by simp only[List.getElem?_toArray,List.getElem?_cons_succ,List.getElem?_cons_zero];exact rfl):wpAnyH P md ops Q S (f+1) l a w:=
 wpAnyH_ready hr (by simp) (AllReadyH.cons ho h AllReadyH.nil)
theorem wS (rs:List Nat) (h:AllReadyH P md ops Q S f l a w rs) (hr:Region.ready md ops l=rs:=by kernel_rfl) (hn:rs≠[]:=by simp):wpAnyH P md ops Q S (f+1) l a w:=wpAnyH_ready hr hn h
theorem wC {i:Nat}{rs:List Nat}(h:∀ K':Act→World→Prop,Shut (∀ a w,S w→(S w→wpAnyH P md ops Q S f (l.setIfInBounds i true) a w)→K' a w)→if Region.wanted o (yielded ops a.tmps)=true then Oper.wp P o a w K' Q else K' (a.put o.dst undef) w)
 (hs:AllReadyH P md ops Q S f l a w rs) (ho:ops[i]? = some o:=by simp only[List.getElem?_toArray,List.getElem?_cons_succ,List.getElem?_cons_zero];exact rfl):AllReadyH P md ops Q S f l a w (i :: rs):=AllReadyH.cons ho h hs
theorem wLet (h:∀ G:Nat→Array Bool→Act→World→Prop,G=wpAnyH P md ops Q S→G f l a w):wpAnyH P md ops Q S f l a w:=h _ rfl
theorem wN:AllReadyH P md ops Q S f l a w []:=AllReadyH.nil
end
end
section
theorem hide {p:Prop}(h:p):Hid p:=h
theorem intinfo:(pG.info? 3).map (fun i=>(i.zero,i.size,i.bytes))=some (some (vI kI 0),1,8):=by kernel_rfl
theorem add_off (b off j:Nat):(⟨b,off,none⟩:Addr).add j=⟨b,off+j,none⟩:=by unfold Addr.add;split <;> simp_all
theorem ownsRow_of {w w':World}{B:Nat}{e:TypeId}{z:Nat}{v:Value}{n:Nat}{xs:List Value}(h:w.ownsRow B e z v n xs) (hh:∀ g,v.ownBlock=some g→g < w.heap.size→w'.heap[g]? = w.heap[g]?):w'.ownsRow B e z v n xs:=by
 obtain⟨h1,h2⟩:=h;refine⟨h1,?_⟩;rcases h2 with h2|⟨g,cap,cur,rfl,hb,hg,hr⟩
 ·exact .inl h2
 ·have hlt:g < w.heap.size:=by
   rcases Nat.lt_or_ge g w.heap.size with hlt|hge
   ·exact hlt
   ·rw[Array.getElem?_eq_none hge]at hg;cases hg
  exact .inr ⟨g,cap,cur,rfl,hb,(hh g rfl hlt).trans hg,hr⟩
theorem grown_of_below {a b:World}(h:Below a.heap.size a b) (r:Option Nat):a.grownBy b r:=⟨h.os,h.tape,h.output,h.size,fun k hk _=>h.block k hk⟩
theorem grown_refl (w:World) (r:Option Nat):w.grownBy w r:=⟨rfl,rfl,rfl,lR _,fun _ _ _=>rfl⟩
theorem grown_trans {a b c:World}{r:Option Nat}(h:a.grownBy b r) (k:b.grownBy c r):a.grownBy c r:=
 ⟨k.os.trans h.os,k.tape.trans h.tape,k.output.trans h.output,lT h.size k.size,fun i hi hr=>(k.block i (lL hi h.size) hr).trans (h.block i hi hr)⟩
theorem below_then {w w1 w2:World}(h:Below w.heap.size w w1) (h2:Below w1.heap.size w1 w2):Below w.heap.size w w2:=h.trans (h2.mono h.size)
theorem below_drew {B:Nat}{a b:World}(h:Below B a b) (n:Nat):Below B a (b.drewN n):=h.trans ⟨rfl,rfl,rfl,lR _,fun _ _=>rfl⟩
theorem below_box {w w1:World}{o:Obj}(h:Below (w.alloc o).heap.size (w.alloc o) w1):Below w.heap.size w w1:=
 ((bR _ _).alloc (lR _) o).trans (h.mono (by simp))
theorem own_by {B:Nat}{w w':World}{v:Value}(hB:B≤w.heap.size) (hlo:∀ g,v.ownBlock=some g→B≤g) (hg:w.grownBy w' v.ownBlock):Below B w w':=
 ⟨hg.os,hg.tape,hg.output,hg.size,fun i hi=>hg.block i (by omega) (fun e=>by have:=hlo i e.symm;omega)⟩
def Box (w:World) (g:Nat) (t:TypeId) (cs:Array Value):Prop:=w.heap[g]? = some (.cells cs t (0,0))
section
variable {w w':World}{g:Nat}{t:TypeId}{cs:Array Value}
theorem Box.lt (h:Box w g t cs):g < w.heap.size:=by
 rcases Nat.lt_or_ge g w.heap.size with hlt|hge
 ·exact hlt
 ·unfold Box at h;rw[Array.getElem?_eq_none hge]at h;cases h
theorem Box.new (w:World) (t:TypeId) (cs:Array Value):Box (w.alloc (.cells cs t)) w.heap.size t cs:=heap_alloc_new w _
theorem Box.cell (h:Box w g t cs) (i:Nat):w.cell? ⟨g,i,none⟩=cs[i]? := cell_of_row w g i cs t (0,0) h
theorem Box.frozen (h:Box w g t cs) (i:Nat):w.frozen? ⟨g,i,none⟩=false:=by
 unfold Box at h;simp[World.frozen?,h]
theorem Box.drew (h:Box w g t cs):Box w.drew g t cs:=h
theorem Box.drewN (h:Box w g t cs) (n:Nat):Box (w.drewN n) g t cs:=h
theorem Box.alloc (h:Box w g t cs) (o:Obj):Box (w.alloc o) g t cs:=(Below.heap_alloc w o g h.lt).trans h
theorem Box.far (h:Box w g t cs) {p:Addr}(hp:g≠p.block) (u:Value):Box (w.setCell p u) g t cs:=(Below.heap_setCell w p u g hp).trans h
theorem Box.set (h:Box w g t cs) (i:Nat) (u:Value):Box (w.setCell ⟨g,i,none⟩ u) g t (cs.setIfInBounds i u):=by
 unfold Box at h ⊢;simp[World.setCell,Array.getElem?_modify,h]
theorem Box.kept (h:Box w g t cs) (hb:Below w.heap.size w w'):Box w' g t cs:=(hb.block g h.lt).trans h
theorem Box.below {B:Nat}(h:Box w g t cs) (hb:Below B w w') (hg:g < B):Box w' g t cs:=(hb.block g hg).trans h
theorem Box.grown {row:Option Nat}(h:Box w g t cs) (hb:w.grownBy w' row) (hg:some g≠row):Box w' g t cs:=(hb.block g h.lt hg).trans h
end
def Agree (F:Nat→Prop) (a b:World):Prop:=∀ i,F i→b.heap[i]? = a.heap[i]?
def Lt (F:Nat→Prop) (w:World):Prop:=∀ i,F i→i < w.heap.size
def All (w:World) (i:Nat):Prop:=i < w.heap.size
section
variable {F G:Nat→Prop}{a b w w':World}{A:Option Addr}
theorem Agree.of_below {B:Nat}(h:Below B a b) (hl:∀ i,F i→i < B):Agree F a b:=fun i hi=>h.block i (hl i hi)
theorem Agree.mono (h:Agree F a b) (hs:∀ i,G i→F i):Agree G a b:=fun i hi=>h i (hs i hi)
theorem Agree.all (h:Below a.heap.size a b):Agree (All a) a b:=fun i hi=>h.block i hi
theorem Agree.grown {r:Option Nat}(h:a.grownBy b r) (hl:Lt F a) (hr:∀ i,F i→r≠some i):Agree F a b:=fun i hi=>h.block i (hl i hi) fun e=>hr i hi e.symm
theorem Lt.size (h:Lt F a) (hc:a.heap.size≤b.heap.size):Lt F b:=fun i hi=>lL (h i hi) hc
end
def ListIn {α:Type} [Inhabited α] (enc:α→Value) (F:Nat→Prop) (w:World) (A:Option Addr) (l:List α):Prop:=
 0 < l.length→∃ b off,A=some ⟨b,off,none⟩∧F b∧∀ k,k < l.length→w.cell? ⟨b,off+k,none⟩=some (enc (l.getD k default))
section
variable {α:Type} [Inhabited α] {enc:α→Value}{F G:Nat→Prop}{a b w w':World}{A:Option Addr}{l:List α}
theorem ListIn.agree (h:ListIn enc F a A l) (hg:Agree F a b):ListIn enc F b A l:=fun hp=>by
 obtain⟨g,off,e,hF,hc⟩:=h hp;exact⟨g,off,e,hF,fun k hk=>(cB (hg g hF)).trans (hc k hk)⟩
theorem ListIn.mono (h:ListIn enc F w A l) (hs:∀ i,F i→G i):ListIn enc G w A l:=fun hp=>by
 obtain⟨g,off,e,hF,hc⟩:=h hp;exact⟨g,off,e,hs g hF,hc⟩
theorem ListIn.nil (enc:α→Value) (F:Nat→Prop) (w:World) (A:Option Addr):ListIn enc F w A []:=fun h=>absurd h (by simp)
theorem ListIn.at_ (h:ListIn enc F w A l) {k:Nat}(hk:k < l.length):∃ b off,A=some ⟨b,off,none⟩∧F b∧w.cell? ⟨b,off+k,none⟩=some (enc (l.getD k default)):=by
 obtain⟨g,off,e,hF,hc⟩:=h (by omega);exact⟨g,off,e,hF,hc k hk⟩
theorem ListIn.below (h:ListIn enc (All w) w A l) (hb:Below w.heap.size w w'):ListIn enc (All w') w' A l:=
 (h.agree (Agree.all hb)).mono fun _ hi=>lL hi hb.size
theorem ListIn.take (h:ListIn enc F w A l) (k:Nat):ListIn enc F w A (l.take k):=fun hp=>by
 rw[List.length_take]at hp;obtain⟨g,off,e,hF,hc⟩:=h (by omega);refine⟨g,off,e,hF,fun j hj=>?_⟩;rw[List.length_take]at hj;rw[hc j (by omega)];simp[List.getD_eq_getElem?_getD,List.getElem?_take,show j < k by omega]
theorem ListIn.tail {x:α}(h:ListIn enc F w A (x :: l)):∃ b off,A=some ⟨b,off,none⟩∧ListIn enc F w (some ⟨b,off+1,none⟩) l:=by
 obtain⟨g,off,e,hF,hc⟩:=h (by simp);refine⟨g,off,e,fun hp=>⟨g,off+1,rfl,hF,fun k hk=>?_⟩⟩;have:=hc (k+1) (by simp;omega);rw[show off+1+k=off+(k+1) by omega,this];rfl
end
def InI (x:Int):Prop:=-9223372036854775808≤x∧x≤9223372036854775807
def iv (x:Int):Value:=vI kI x
abbrev Ints (w:World) (A:Option Addr) (l:List Int):Prop:=ListIn iv (All w) w A l
abbrev Strs (w:World) (A:Option Addr) (l:List ByteArray):Prop:=ListIn Value.string (All w) w A l
abbrev Bools (w:World) (A:Option Addr) (l:List Bool):Prop:=ListIn Value.bool (All w) w A l
def OwnE {α:Type}(enc:α→Value) (ty:TypeId) (B:Nat) (w:World) (v:Value) (l:List α):Prop:=w.ownsRow B ty 1 v l.length (l.map enc)
section
variable {α:Type} [Inhabited α] {enc:α→Value}{ty:TypeId}{B:Nat}{w w':World}{v:Value}{l:List α}
theorem OwnE.nil (enc:α→Value) (ty:TypeId) (B:Nat) (w:World):OwnE enc ty B w (vS none 0 0) []:=World.ownsRow_nil w _ _ 1
theorem OwnE.form (h:OwnE enc ty B w v l):∃ A c,v=vS A l.length c∧l.length≤c∧ListIn enc (fun b=>b < w.heap.size∧B≤b∧v.ownBlock=some b) w A l∧∀ g,v.ownBlock=some g→B≤g∧g < w.heap.size:=by
 obtain⟨h1,h2⟩:=h;rcases h2 with ⟨hv,hn⟩|⟨g,cap,cur,hv,hb,hg,hc,hm,hz,ht⟩
 ·obtain rfl:=List.length_eq_zero_iff.1 hn;exact⟨none,0,hv,lR _,ListIn.nil _ _ _ _,fun g e=>by rw[hv]at e;cases e⟩
 ·have hlt:g < w.heap.size:=(Array.getElem?_eq_some_iff.1 hg).1;have hown:v.ownBlock=some g:=by rw[hv];rfl
  refine⟨some ⟨g,0,none⟩,cap,hv,hc,fun hp=>⟨g,0,rfl,⟨hlt,hb,hown⟩,fun k hk=>?_⟩,fun g' e=>?_⟩
  ·rw[cell_of_row w g (0+k) _ _ (0,0) hg];have:(l.map enc)[k]? = some (enc (l.getD k default)):=by simp[List.getD_eq_getElem?_getD,hk]
   rw[← this,← ht,List.getElem?_take_of_lt (by omega)];simp
  ·rw[hown]at e;injection e with e;subst e;exact⟨hb,hlt⟩
theorem OwnE.list {A:Option Addr}{n c:Nat}(h:OwnE enc ty B w (vS A n c) l):ListIn enc (All w) w A l:=by
 obtain⟨A',c',e,_,hI,_⟩:=h.form;injection e with e1 _ _;subst e1;exact hI.mono fun i hi=>hi.1
theorem OwnE.lo (h:OwnE enc ty B w v l):∀ g,v.ownBlock=some g→B≤g:=fun g e=>by
 obtain⟨_,_,_,_,_,hq⟩:=h.form;exact(hq g e).1
theorem OwnE.kept (h:OwnE enc ty B w v l) (hb:Below w.heap.size w w'):OwnE enc ty B w' v l:=ownsRow_of h fun g _ hg=>hb.block g hg
theorem OwnE.lower {C:Nat}(h:OwnE enc ty B w v l) (hC:C≤B):OwnE enc ty C w v l:=by
 obtain⟨h1,h2⟩:=h;refine⟨h1,?_⟩;rcases h2 with h2|⟨g,cap,cur,hv,hb,hr⟩
 ·exact .inl h2
 ·exact .inr ⟨g,cap,cur,hv,lT hC hb,hr⟩
theorem OwnE.push {t:TypeId}{i:TypeInfo}{z:Value}{bytes:Nat}(ht:pG.underlying t=some (.slice ty)) (hi:pG.info? ty=some i) (hz:i.zero=some z) (hs:i.size=1) (hby:i.bytes=bytes) (hzs:z.cells.size=1) (hb48:bytes≤48)
  (h:OwnE enc ty B w v l) (hB:B≤w.heap.size) (hl:l.length≤1000000) (he:∀ x,(enc x).oneCell'=true) (ot:TypeId) (y:α) :
  ∃ A c w',(Builtin.append_ #[t,t] ot #[v,vS (some ⟨w.heap.size,0,none⟩) 1 1]).run pG (w.alloc (.cells #[enc y] ty))=.ok (vS A (l.length+1) c) w'∧OwnE enc ty B w' (vS A (l.length+1) c) (l ++ [y])∧Below B w w':=by
 have hB1:Below w.heap.size w (w.alloc (.cells #[enc y] ty)):=(bR _ _).alloc (lR _) _;have h1:=h.kept hB1;have hnews:∀ j u,([enc y]:List Value)[j]? = some u→(w.alloc (.cells #[enc y] ty)).cell? ((⟨w.heap.size,0,none⟩:Addr).add j)=some u:=World.news_of_block (heap_alloc_new _ _);have hs1:(w.alloc (.cells #[enc y] ty)).heap.size=w.heap.size+1:=by simp
 have hl':(l.map enc).length=l.length:=List.length_map ..;obtain⟨v',w',hr,ho,hg,_,hor⟩:=run_append_own_at (P:=pG) (w.alloc (.cells #[enc y] ty)) B t ot ty i z 1 bytes ht hi hz hs hby hzs (by decide) v l.length (l.map enc) h1 ⟨w.heap.size,0,none⟩ 1 1 [enc y] (by rfl) hnews (by intro u hu;simp at hu;subst hu;exact he y) (by unfold maxLen;omega) (lT (Nat.mul_le_mul (show l.length+1≤1000001 by omega) hb48) (by decide)) (by omega);have ho':OwnE enc ty B w' v' (l ++ [y]):=by unfold OwnE;rw[List.length_append,List.map_append];exact ho
 obtain⟨A,c,rfl,_⟩:=ho'.form;rw[List.length_append]at hr ho';exact⟨A,c,w',hr,ho',own_by hB h.lo (grown_trans (grown_of_below hB1 _) hg)⟩
end
def Drew (w w':World):Prop:=∃ m,w'=w.drewN m
theorem Drew.refl (w:World):Drew w w:=⟨0,rfl⟩
theorem Drew.drew {w w':World}(h:Drew w w') (n:Nat):Drew w (w'.drewN n):=by
 obtain⟨m,rfl⟩:=h;exact⟨m+n,World.drewN_drewN _ _ _⟩
theorem Drew.trans {a b c:World}(h:Drew a b) (k:Drew b c):Drew a c:=by
 obtain⟨n,rfl⟩:=k;exact h.drew n
theorem Drew.below {w w':World}(h:Drew w w'):Below w.heap.size w w':=by
 obtain⟨m,rfl⟩:=h;exact below_drew (bR _ _) m
theorem Drew.heap {w w':World}(h:Drew w w'):w'.heap=w.heap:=by
 obtain⟨m,rfl⟩:=h;rfl
def iOf:Value→Int
 |.int _ n=>n
 |_=>0
end
section
section
variable {w w':World}{ops:Array Oper}{rest:List Oper}{o:Oper}{a:Act}{Q:Exit→Act→World→Prop}{K:Act→World→Prop}{E:Prop}{v:Value}
def Gives (o:Oper) (a:Act) (w:World) (v:Value) (w':World):Prop:=(execOp a.eval o).run pG w=.ok (.value v) w'
def Does (o:Oper) (a:Act) (w:World) (w':World):Prop:=(execOp a.eval o).run pG w=.ok .skip w'
theorem wpList_gives (hgd:o.guard=none) (hr:Gives o a w v w') (h:wpList pG ops Q rest (a.put o.dst v) w'):wpList pG ops Q (o :: rest) a w:=
 wpList_plain hgd fun K hK=>by
  unfold Oper.wp;rw[show (execOp a.eval o).run pG w=.ok (.value v) w' from hr,Oper.upon_value];exact hK _ _ h
theorem wpList_does (hgd:o.guard=none) (hr:Does o a w w') (h:wpList pG ops Q rest (a.put o.dst undef) w'):wpList pG ops Q (o :: rest) a w:=
 wpList_plain hgd fun K hK=>by
  unfold Oper.wp;rw[show (execOp a.eval o).run pG w=.ok .skip w' from hr,Oper.upon_skip];exact hK _ _ h
theorem step_gives (hgd:o.guard=none) (hr:Gives o a w v w') (h:K (a.put o.dst v) w'):if Region.wanted o (yielded ops a.tmps)=true then Oper.wp pG o a w K Q else E:=by
 have hw:Region.wanted o (yielded ops a.tmps)=true:=by simp[Region.wanted,hgd]
 rw[if_pos hw];unfold Oper.wp;rw[show (execOp a.eval o).run pG w=.ok (.value v) w' from hr,Oper.upon_value];exact h
theorem step_does (hgd:o.guard=none) (hr:Does o a w w') (h:K (a.put o.dst undef) w'):if Region.wanted o (yielded ops a.tmps)=true then Oper.wp pG o a w K Q else E:=by
 have hw:Region.wanted o (yielded ops a.tmps)=true:=by simp[Region.wanted,hgd]
 rw[if_pos hw];unfold Oper.wp;rw[show (execOp a.eval o).run pG w=.ok .skip w' from hr,Oper.upon_skip];exact h
theorem gives_load {ty:TypeId}{x:Operand}{p:Addr}(ho:o.op=.load ty x) (hx:a.eval x=vP (some p)) (h:(loadVar ty p).run pG w=.ok v w):Gives o a w v w:=by
 unfold Gives execOp;simp only[ho,hx,Instr.loadAt,Instr.sureAddr,Sem.run_bind,Sem.run_pure,Result.andThen_ok,h]
theorem does_store {ty:TypeId}{x y:Operand}{p:Addr}(ho:o.op=.store ty x y) (hx:a.eval x=vP (some p)) (hy:a.eval y=v) (h:(storeVar ty p v).run pG w=.ok () w'):Does o a w w':=by
 unfold Does execOp;simp only[ho,hx,hy,Instr.storeAt,Instr.sureAddr,Sem.run_bind,Sem.run_pure,Result.andThen_ok,h]
theorem gives_make {ty:TypeId}{l c:Operand}{lv cv:Value}(ho:o.op=.makeSlice ty l c) (hl:a.eval l=lv) (hc:a.eval c=cv) (h:(Instr.makeSlice ty lv cv).run pG w=.ok v w'):Gives o a w v w':=by
 unfold Gives execOp;simp only[ho,hl,hc,Sem.run_bind,Sem.run_pure,Result.andThen_ok,h]
theorem gives_append {x y:Operand}{t1 t2:TypeId}{xv yv:Value}(ho:o.op=.call { callee:=.builtin .append,args:=#[x,y],argTypes:=#[t1,t2] }) (hx:a.eval x=xv) (hy:a.eval y=yv) (h:(Builtin.append_ #[t1,t2] o.type #[xv,yv]).run pG w=.ok v w'):Gives o a w v w':=by
 unfold Gives execOp;simp only[ho,resolve,invoke,builtin,Sem.run_bind,Sem.run_pure,Result.andThen_ok,List.map_toArray,List.map_cons,List.map_nil,hx,hy,h]
end
end
section
section
variable {w:World}{ops:Array Oper}{rest:List Oper}{a:Act}{Q:Exit→Act→World→Prop}{q1:Op}{q2:TypeId}{q3:String}{q4:Array Edge}{q5:Option (Nat × Bool)}
theorem gV (n:Nat) (v:Value) (w':World) (hgd:(Oper.mk (some n) q1 q2 q3 q4 q5).guard=none) (hr:Gives (Oper.mk (some n) q1 q2 q3 q4 q5) a w v w') (h:wpList pG ops Q rest (a.put (Oper.mk (some n) q1 q2 q3 q4 q5).dst v) w'):wpList pG ops Q (Oper.mk (some n) q1 q2 q3 q4 q5 :: rest) a w:=wpList_gives hgd hr h
theorem dS (w':World) (hgd:(Oper.mk none q1 q2 q3 q4 q5).guard=none) (hr:Does (Oper.mk none q1 q2 q3 q4 q5) a w w') (h:wpList pG ops Q rest (a.put (Oper.mk none q1 q2 q3 q4 q5).dst undef) w'):wpList pG ops Q (Oper.mk none q1 q2 q3 q4 q5 :: rest) a w:=wpList_does hgd hr h
end
end
end Go.Proofs.YtnndaemmgbkjbaaGreatDoor
