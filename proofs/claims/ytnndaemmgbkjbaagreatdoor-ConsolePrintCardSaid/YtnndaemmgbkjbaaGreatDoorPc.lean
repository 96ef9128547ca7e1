/-
  parts of the proof: Frame.
-/
import Derived.Test.YtnndaemmgbkjbaaGreatDoorCards
import Derived.Test.YtnndaemmgbkjbaaGreatDoorTie
import Derived.ProofKit
import Derived.Lib.SmallJoins
import Derived.Carry
import Derived.Deep.Slices
import Derived.Deep.Fields
import Derived.ChangeSame
import Derived.OpenShut
import Derived.Deep.DeepHandedRow
import Derived.Lib.LaidTab
import Derived.Test.YtnndaemmgbkjbaaGreatDoorPK
namespace Go.Proofs.YtnndaemmgbkjbaaGreatDoor
open Go.RowKit
open _root_.Go.Proofs.Tryz renaming prog → pG
set_option linter.unusedVariables false
set_option linter.unusedSimpArgs false
section
open Go.ChangeShapes Go.WideShapes Go.ChangeAt
set_option maxRecDepth 100000
theorem own:ownKnob pG.godebug=none:=by kernel_rfl
theorem laidOut:laidOutB pG=true:=by kernel_rfl
theorem params_ok {ts:List TypeId}(h:ts.all (fun t=>pG.readableRec t && decide (t < pG.types.size))=true):∀ t ∈ ts,pG.readableRec t=true∧t < pG.types.size:=fun t ht=>by
 have:=List.all_eq_true.1 h t ht;simpa using this
section
variable {H:Type}{enc:TypeId × Value→H}
theorem args_below {W W':World}(hb:Below W.heap.size W W'):∀ (ts:List TypeId) (vs:List Value) (ds:List (DataW H)) (ps:List MemPlace),
  (∀ t ∈ ts,pG.readableRec t=true∧t < pG.types.size)→DataW.TrodAll enc pG W 0 (fun _=>true) true ts vs ds ps→(∀ x ∈ ps,x.block < W.heap.size)→
  DataW.TrodAll enc pG W' 0 (fun b=>decide (b < W.heap.size)) true ts vs ds ps
 | [],vs,ds,ps,_,h,_=>by
  obtain⟨rfl,rfl,rfl⟩:=trodAll_nil h;exact trodAll_mk0
 |t :: ts,vs,ds,ps,ht,h,hlt=>by
  obtain⟨v,vs',d,ds',p,q,rfl,rfl,rfl,h1,h2⟩:=trodAll_cons h;exact trodAll_cons_mk (Below.trod laidOut (ht t (by simp)).1 (ht t (by simp)).2 h1 hb fun x hx=>hlt x (by simp[hx]))
   (args_below hb ts vs' ds' q (fun u hu=>ht u (by simp[hu])) h2 fun x hx=>hlt x (by simp[hx]))
theorem post_law {f:Func}{s:ChangeSpec}{W W':World}{args:Array Value}{ds gs:List (DataW H)}{before:List MemPlace}
  (hW:DataW.Whole enc pG f.params.toList s.vars false W args.toList ds gs before) (hvars:s.vars=[]) (hb:Below W.heap.size W W')
  (hp:∀ t ∈ f.params.toList,pG.readableRec t=true∧t < pG.types.size) (hr:f.resultTypes=#[4])
  (hs:s.fn H (ds ++ [])={ results:=[.lit (.bool true)],args:=ds }):s.post enc pG f false true false false W args (.bool true) W':=by
 have hlt:=hW.lt;have hW':=hW;obtain⟨p,q,hA,hV,rfl,hfz,hnd⟩:=hW;rw[hvars]at hV;obtain⟨rfl,rfl⟩:=trodVars_none hV;refine⟨ds,[],p ++ [],[],p,[],hW',?_,?_,?_,hb.frame _,fun h=>by cases h⟩
 ·rw[hs,hr];exact trodAll_cons_mk (shut_bool Tryz.underlying4 _) trodAll_mk0
 ·rw[hs];exact args_below hb _ _ _ _ hp hA fun x hx=>hlt x (by simp[hx])
 ·rw[hs,hvars];exact rfl
end
noncomputable def flat0:DataW Unit→List Value
 |.lit (.int k n)=>[.int k n]
 |_=>[]
noncomputable def flat1:DataW Unit→List Value
 |.agg l=>l.flatMap flat0
 |d=>flat0 d
noncomputable def flat2:DataW Unit→List Value
 |.agg l=>l.flatMap flat1
 |d=>flat0 d
noncomputable def laidHeap (l:List (String × DataW Unit)) (h:Array Obj):Array Obj:=
 l.foldl (fun h x=>match pG.globalNamed x.1 with
  |some g=>h.modify g fun
   |.cells _ t frozen=>.cells (flat2 x.2).toArray t frozen
   |o=>o
  |none=>h) h
noncomputable def laidWorld (l:List (String × DataW Unit)) (os:Os):World:=
 { World.holding pG os ⟨#[],#[],[]⟩ with heap:=laidHeap l (World.holding pG os ⟨#[],#[],[]⟩).heap }
theorem max_of_shaped {W:World}(h:W.ShapedOpen pG):Max W:=Tryz.laysM143.s1_3 W h
end
end Go.Proofs.YtnndaemmgbkjbaaGreatDoor
