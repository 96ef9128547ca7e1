/-
  The statement ConsolePrint of electionlaw45: Print agrees with the reference; for every input, as the given card says.
-/
import Derived.ChangeMaps5
import Derived.Test.YtnndaemmgbkjbaaGreatDoorPQ
import Derived.Test.YtnndaemmgbkjbaaGreatDoorPZ
import Derived.Test.YtnndaemmgbkjbaaGreatDoorPZb
import Derived.Test.YtnndaemmgbkjbaaGreatDoorPa
import Derived.Test.YtnndaemmgbkjbaaGreatDoorPb
import Derived.Test.YtnndaemmgbkjbaaGreatDoorPc
namespace Go.Proofs.YtnndaemmgbkjbaaGreatDoor
open Go.RowKit
open Nat renaming lt_of_lt_of_le → lL
open _root_.Go.Proofs.Tryz renaming prog → pG
set_option linter.unusedVariables false
set_option linter.unusedSimpArgs false
section
theorem shortO_marks {o:Opn}{Q:Int→Prop}(h:∀ m ∈ o.marks,Q m):∀ m ∈ (shortO o).marks,Q m:=fun m hm=>h m (List.mem_of_mem_take hm)
theorem shortO_m (o:Opn):(shortO o).marks.length≤1000:=by
 show (o.marks.take 40).length≤1000;rw[List.length_take];omega
theorem shortO_k (o:Opn):(shortO o).keep.length≤1000:=by
 show (o.keep.take 210).length≤1000;rw[List.length_take];omega
theorem shortO_t (o:Opn):(shortO o).text.size≤1000:=by
 show (o.text.extract 0 (min o.text.size 210)).size≤1000;rw[ByteArray.size_extract];omega
def SmallN (P C:List ByteArray):Prop:=(∀ s ∈ P,s.size≤24)∧(∀ s ∈ C,s.size≤24)∧P.length≤12∧C.length≤4
structure OpIn (o:Opn):Prop where
 scan:InI o.scan
 n:InI o.n
 marks:∀ m ∈ o.marks,InI m
 ml:o.marks.length≤1000
 kl:o.keep.length≤1000
 tl:o.text.size≤1000
theorem OpIn.short {o:Opn}(h1:InI o.scan) (h2:InI o.n) (h3:∀ m ∈ o.marks,InI m):OpIn (shortO o):=⟨h1,h2,shortO_marks h3,shortO_m o,shortO_k o,shortO_t o⟩
structure LawW (w:World) (e:EV) (P C:List ByteArray):Prop where
 el:ElF w e P C
 mx:Max w
 tab:Tab10 w
theorem LawW.below {w w':World}{e:EV}{P C:List ByteArray}(h:LawW w e P C) (hb:Below w.heap.size w w'):LawW w' e P C:=⟨h.el.below hb,h.mx.below hb,h.tab.below hb⟩
section
variable {e:EV}{P C:List ByteArray}{o:Opn}{v:Value}{w:World}{line:ByteArray}
theorem LawW.printC (h:LawW w e P C) (hs:SmallN P C) (ho:OpIn o) (hO:OpV (All w) w v o):Calls pG 12 #[.agg (e.cells P.length C.length),v] w (PrintTo P C (wordsG nameV itS P C o) o w):=
 printC_any h.el.elec hs h.mx h.tab ho.scan ho.n ho.marks hO ho.ml ho.kl ho.tl
theorem LawW.printR (h:LawW w e P C) (hs:SmallN P C) (ho:OpIn o) (hO:OpV (All w) w v o):Calls pG 13 #[.agg (e.cells P.length C.length),v] w (PrintTo P C (wordsG atS decS P C (cutO o)) o w):=
 print45_any h.el.elec (by have:=hs.2.2.1;omega) (fun s q=>by have:=hs.1 s q;omega) (by have:=hs.2.2.2;omega) (fun s q=>by have:=hs.2.1 s q;omega) hO (by have:=ho.ml;omega) (by have:=ho.kl;omega) (by have:=ho.tl;omega)
theorem LawW.awake (h:LawW w e P C):Calls pG 7 #[] w fun e w'=>e=.returned (.bool true)∧Below w.heap.size w w':=awake_any w h.mx
theorem LawW.valid (h:LawW w e P C):Calls pG 6 #[.agg (e.cells P.length C.length)] w fun en w'=>∃ q:Bool,en=.returned (.bool q)∧(q=true→SmallN P C)∧Below w.heap.size w w':=valid_any h.el
end
end
section
open Go.ChangeShapes Go.WideShapes Go.ChangeAt
set_option maxRecDepth 1000000
theorem gTen : ((pG.globalNamed "internal/strconv.uint64pow10").bind fun g => (pG.globals[g]?).map (·.type)) = some 188 := by kernel_rfl
theorem tabEq:(Rows.laid_internal_strconv_uint64pow10:DataW Unit)=Lib.tabData .u64 Lib.pow10Tab:=by kernel_rfl
theorem cU64:pG.cellsOf 173=1:=by kernel_rfl
theorem cTen:pG.cellsOf 188=20:=by kernel_rfl
theorem uTen:pG.underlying 188=some (.array 20 173):=by kernel_rfl
theorem uU64:pG.underlying 173=some (.int .u64):=by kernel_rfl
theorem tab_of_laid {W : World} {a b : String × DataW Unit} {r : List (String × DataW Unit)} (h : laidMet pG (a :: b :: ("internal/strconv.uint64pow10", Rows.laid_internal_strconv_uint64pow10) :: r) W) : Tab10 W := by
 obtain⟨ps,h0,_⟩:=h;obtain⟨an,ad⟩:=a;obtain⟨bn,bd⟩:=b;obtain⟨_,_,_,_,_,q1,_,_,_,_,h1,_⟩:=h0;obtain⟨_,_,_,_,_,q2,_,_,_,_,h2,_⟩:=h1;obtain⟨g,t,cs,fuel,p,q,hg,ht,hv,hd,_,_⟩:=h2;have hT:=gTen;rw[hg]at hT;obtain rfl:188=t:=Option.some.inj (hT.symm.trans ht);rw[tabEq]at hd;unfold Tab10 Lib.TabIs;rw[hv,← Lib.cells_of_tab uTen uU64 cU64 cTen hd]
theorem tab_of_rowP {W:World}(h:laidMetH pG Rows.consoleParseRow.laid W):Tab10 W:=tab_of_laid h
def eleZ:Value:=.agg #[.string ⟨#[]⟩,.int .i64 0,.int .i64 0,.int .i64 0,.slice none 0 0,.slice none 0 0,.slice none 0 0,.int .i64 0,.int .i64 0,.bool false,.slice none 0 0,.slice none 0 0,.int .i64 0,.string ⟨#[]⟩]
def opZ:Value:=.agg #[.int .i64 0,.int .i64 0,.int .i64 0,.int .i64 0,.int .i64 0,.int .i64 0,.slice none 0 0,.slice none 0 0,.bool false,.bool false,.bool false,.string ⟨#[]⟩]
end
section
open Go.ChangeShapes Go.WideShapes Go.ChangeAt
namespace lawPrint
set_option maxRecDepth 1000000
set_option maxHeartbeats 16000000
theorem walk {e:EV}{P C:List ByteArray}{o:Opn}{v:Value}{W:World}(hO:OpV (All W) W v o) (h1:InI o.scan) (h2:InI o.n) (h3:∀ m ∈ o.marks,InI m) (h4:o.text.size≤big) (h5:o.marks.length≤big) (h6:o.keep.length≤big) (hL:LawW W e P C) :
  Calls pG 4 #[.agg (e.cells P.length C.length),v] W fun en W'=>en=.returned (.bool true)∧Below W.heap.size W W':=by
 have hOv:=hO;obtain⟨A0,c0,D0,d0,rfl,_⟩:=hO;obtain⟨w1,hw1,hb1,hx1,hy1⟩:=pr_boxes (w:=W) (ecs:=e.cells P.length C.length) (ocs:=o.cells A0 c0 D0 d0);have HL1:=hide (hL.below hb1);have HL:=hide (fun (v:World) (hv:Below W.heap.size W v)=>hL.below hv);have HSh:=hide (fun (v:World) (hv:Below W.heap.size W v)=>short_any (F:=All W) (w:=v) (hOv.agree (Agree.of_below hv fun i hi=>hi)) (fun i hi=>lL hi hv.size) h4 h5 h6);have HIn:Hid (OpIn (shortO o)):=OpIn.short h1 h2 h3;have HB1:=hide hb1;have HX1:=hide hx1;have HY1:=hide hy1;have HW1:=hide hw1;clear hOv hL h1 h2 h3 h4 h5 h6 hw1 hb1 hx1 hy1;obtain⟨ecs,hec⟩:∃ q,e.cells P.length C.length=q:=⟨_,rfl⟩;obtain⟨ocs,hoc⟩:∃ q,o.cells A0 c0 D0 d0=q:=⟨_,rfl⟩;have HOs:Hid (ocs.size=12):=by rw[← hoc];rfl
 have HEs:Hid (ecs.size=14):=by rw[← hec];rfl
 have HEc:=hide hec;rw[hec]at HW1 HX1 ⊢;rw[hoc]at HW1 HY1 HSh ⊢;clear hec hoc;have HV1:=hide HL1.out.valid;rw[HEc.out]at HV1;go_enter Tryz.func4,Tryz.ntmps4;go_upto_region 1 with (fail);rw[HW1.out];go_wp2_with ((with_reducible refine gV 9 (.agg ecs) w1 ?_ ?_ ?_);rfl;exact gives_load rfl rfl (box_load aggE8 HX1.out HEs.out));refine HV1.out.mono ?_;rintro en w2 ⟨q2,rfl,hq2,hb2⟩;have HB2:Hid (Below W.heap.size W w2):=HB1.out.trans (hb2.mono HB1.out.size);have HX2:=hide (HX1.out.kept hb2);have HY2:=hide (HY1.out.kept hb2);have HQ2:=hide hq2;clear hb2 hq2 HV1;cases q2 with
 |false=>go_wp2_with fail;refine(HL.out w2 HB2.out).awake.mono ?_;rintro en w3 ⟨rfl,hb3⟩;have HB3:Hid (Below W.heap.size W w3):=HB2.out.trans (hb3.mono HB2.out.size);clear hb3;go_wp2_with fail;go_ret;exact⟨rfl,HB3.out⟩
 |true=>have HSm:=hide (HQ2.out rfl);have HSh2:=hide (HSh.out w2 HB2.out);clear HQ2 HSh;go_wp2_with ((with_reducible refine gV 13 (.agg ocs) w2 ?_ ?_ ?_);rfl;exact gives_load rfl rfl (box_load aggOp HY2.out HOs.out));refine HSh2.out.mono ?_;rintro en w3 ⟨v3,rfl,hV3,hb3⟩;obtain⟨cs3,rfl,hcs3,hone3⟩:=hV3.agg12.one;obtain⟨w4,hst4,hx4,hg4⟩:=box_store aggOp (HY2.out.kept hb3) HOs.out hcs3 hone3;have hb24:Below W.heap.size W w4:=below_growB (HB2.out.trans (hb3.mono HB2.out.size)) hg4 (by omega);have HB4:=hide hb24;have HX4:=hide ((HX2.out.kept hb3).grown hg4 (fun e=>by have:=Option.some.inj e;omega));have HY4:=hide hx4;have HV4:Hid (OpV (All W) w4 (.agg cs3) (shortO o)):=hV3.agree fun i hi=>hg4.block i (lL (lL hi HB2.out.size) hb3.size) (fun e=>by have h:i=W.heap.size+1:=Option.some.inj e;have h2:i < W.heap.size:=hi;omega);have HSt4:=hide hst4;have HCs:=hide hcs3;clear hst4 hx4 hg4 hb24 hV3 hb3 hcs3 hone3 HSh2;have HPc:=hide ((HL.out w4 HB4.out).printC HSm.out HIn.out (HV4.out.mono fun i hi=>lL hi HB4.out.size));rw[HEc.out]at HPc;go_wp2_with (first|((with_reducible refine dS w4 ?_ ?_ ?_);rfl;exact does_store rfl rfl rfl HSt4.out)|((with_reducible refine gV 16 (.agg ecs) w4 ?_ ?_ ?_);rfl;exact gives_load rfl rfl (box_load aggE8 HX4.out HEs.out))|((with_reducible refine gV 17 (.agg cs3) w4 ?_ ?_ ?_);rfl;exact gives_load rfl rfl (box_load aggOp HY4.out HCs.out)));refine HPc.out.mono ?_;rintro en w5 ⟨t5,q5,rfl,hp5,hb5⟩;have HB5:Hid (Below W.heap.size W w5):=HB4.out.trans (hb5.mono HB4.out.size);have HX5:=hide (HX4.out.kept hb5);have HY5:=hide (HY4.out.kept hb5);have HPr:=hide ((HL.out w5 HB5.out).printR HSm.out HIn.out ((HV4.out.mono fun i (hi:i < W.heap.size)=>(lL hi HB4.out.size:All w4 i)).below hb5));rw[HEc.out]at HPr;have HP5:=hide hp5;clear hb5 hp5 HPc;go_wp2_with (first|((with_reducible refine gV 22 (.agg ecs) w5 ?_ ?_ ?_);rfl;exact gives_load rfl rfl (box_load aggE8 HX5.out HEs.out))|((with_reducible refine gV 23 (.agg cs3) w5 ?_ ?_ ?_);rfl;exact gives_load rfl rfl (box_load aggOp HY5.out HCs.out)));refine HPr.out.mono ?_;rintro en w6 ⟨t6,q6,rfl,hp6,hb6⟩;have HB6:Hid (Below W.heap.size W w6):=HB5.out.trans (hb6.mono HB5.out.size);obtain⟨rfl,rfl⟩:=prints_same HP5.out hp6;clear hb6 hp6 HPr HP5;go_wp2_with fail;refine(HL.out w6 HB6.out).awake.mono ?_;rintro en w7 ⟨rfl,hb7⟩;have HB7:Hid (Below W.heap.size W w7):=HB6.out.trans (hb7.mono HB6.out.size);clear hb7;have e1:(q5==q5)=true:=beq_self_eq_true _;have e2:(t5.toList==t5.toList)=true:=beq_self_eq_true _;go_wp2_with fail;go_ret;exact⟨rfl,HB7.out⟩
set_option maxHeartbeats 200000
theorem laid_met (os:Os):laidMet pG Rows.consolePrintRow.laid ((laidWorld Rows.consolePrintRow.laid os).forCall (fun _ _=>0) ⟨#[],#[eleZ,opZ],[]⟩).memory:=
 laidMet_of_run' 8 (by kernel_rfl) (by kernel_rfl)
theorem reads (os:Os) {H:Type}(enc:TypeId × Value→H):∃ places,DataW.whole enc pG ((laidWorld Rows.consolePrintRow.laid os).forCall (fun _ _=>0) ⟨#[],#[eleZ,opZ],[]⟩).memory Tryz.f4.params.toList Rows.consolePrintSpec.vars false #[eleZ,opZ].toList 8=some ([.agg [.lit (.string []),.lit (.int .i64 0),.lit (.int .i64 0),.lit (.int .i64 0),.nil,.nil,.nil,.lit (.int .i64 0),.lit (.int .i64 0),.agg [.lit (.bool false),.nil,.nil],.lit (.int .i64 0),.lit (.string [])],.agg [.lit (.int .i64 0),.lit (.int .i64 0),.lit (.int .i64 0),.lit (.int .i64 0),.lit (.int .i64 0),.lit (.int .i64 0),.nil,.nil,.lit (.bool false),.lit (.bool false),.lit (.bool false),.lit (.string [])]],[],places):=
 ⟨[],by kernel_rfl⟩
theorem contract (H:Type) (enc:TypeId × Value→H) (W:World) (base:Nat) (args:Array Value) (ds gs:List (DataW H)) (before:List MemPlace)
  (hval0:∀ (j:Nat) t v,Tryz.f4.params[j]? = some t→args[j]? = some v→Value.okWide pG W .any base t v)
  (hW:DataW.Whole enc pG Tryz.f4.params.toList Rows.consolePrintSpec.vars false W args.toList ds gs before) (hL:laidMetH pG Rows.consolePrintRow.laid W) (hsh:W.ShapedOpen pG) :
  Calls pG 4 args W fun e W'=>∃ v,e=.returned v∧Rows.consolePrintSpec.post enc pG Tryz.f4 false true false false W args v W':=by
 have hval:∀ (j:Nat) t v,Tryz.f4.params[j]? = some t→args[j]? = some v→Value.okWide pG W .any base t v:=hval0;have hW':=hW;have hT:Tab10 W:=tab_of_rowP hL;obtain⟨p,q,hA0,hV,rfl,hfz,hnd⟩:=hW;have hA:DataW.TrodAll enc pG W 0 (fun _=>true) true Tryz.f4.params.toList args.toList ds p:=hA0;rw[Tryz.params4]at hA hval;obtain⟨v0,vs0,d0,ds0,p0,q0,hargs,rfl,rfl,h0,r0⟩:=trodAll_cons hA;obtain⟨v1,vs1,d1,ds1,p1,q1,ha1,rfl,rfl,h1,r1⟩:=trodAll_cons r0;subst ha1;obtain⟨rfl,rfl,rfl⟩:=trodAll_nil r1;obtain rfl:args=#[v0,v1]:=by cases args;simp_all
 obtain⟨e,P,C,rfl,hE⟩:=open_ele (hval 0 30 v0 rfl rfl) h0;obtain⟨o,hO,ho1,ho2,ho3,ho4,ho5,ho6⟩:=open_op (hval 1 36 v1 rfl rfl) h1;refine(walk hO ho1 ho2 ho3 ho4 ho5 ho6 ⟨hE,max_of_shaped hsh,hT⟩).mono fun e W' ⟨he,hb⟩=>?_;subst he;exact⟨_,rfl,post_law hW' rfl hb (by rw[Tryz.params4];exact params_ok (by kernel_rfl)) rfl rfl⟩
theorem lifted (os:Os) (started:os.Started) (H:Type) (enc:TypeId × Value→H) (F:Stop.Interp) :
  ReturnsInHanded {} Tryz.checked os 4 .any ((OpenSpec.ofChange Rows.consolePrintSpec).preRow enc pG Tryz.f4 Rows.consolePrintRow.domain false Rows.consolePrintRow.laid) (((OpenSpec.ofChange Rows.consolePrintSpec).at F).post enc pG Tryz.f4 false true false false):=by
 obtain⟨places,hx⟩:=reads os enc;refine returnsInHanded_of_row (C:=Tryz.checked) (s:=OpenSpec.ofChange Rows.consolePrintSpec) own started (by kernel_rfl) Tryz.func4
  (witness_row_at (enc:=enc) (C:=Tryz.checked) false (laidWorld Rows.consolePrintRow.laid os) #[eleZ,opZ] rfl (by kernel_rfl) (by kernel_rfl) (by kernel_rfl)
   (OpenSpec.preRow_of_cond 8 hx (by kernel_rfl) (fun k hk=>by cases hk) (by kernel_rfl) (laid_met os))) ?_
 intro W base args ds gs before hval hW _ _ _ hL hsh _;exact contract H enc W base args ds gs before hval hW hL hsh
theorem said:Rows.ConsolePrintSaid:=
 OpenClaim.holds_of_cond 4 Tryz.f4 rfl rfl rfl rfl rfl rfl rfl ⟨rfl,rfl,rfl,rfl,rfl⟩ rfl rfl rfl rfl rfl (by kernel_rfl) Tryz.func4 (by kernel_rfl)
  (of_decide_eq_true (by kernel_rfl)) (by unfold Func.isWrapper;first|(rw[if_pos (by decide +kernel)];kernel_rfl)|(rw[if_neg (by decide +kernel)];exact⟨rfl,rfl⟩))
  (fun os started H enc _ F=>by rw[OpenClaim.pre_eq_preRow];exact lifted os started H enc F)
theorem plain (f : FuncId) (fn : Func) (hf : Tryz.pinned.checked.prog.funcNamed "election/electionlaw45.ConsolePrint" = some f) (hfn : Tryz.pinned.checked.prog.funcs[f]? = some fn) :
  false=Tryz.pinned.checked.prog.looks []∧∀ (j:Nat) t,fn.params[j]? = some t→Tryz.pinned.checked.prog.wantsStandIn t=false:=by
 obtain rfl : f = 4 := Option.some.inj ((show pG.funcNamed "election/electionlaw45.ConsolePrint" = some 4 by kernel_rfl).symm.trans hf) |>.symm;obtain rfl:fn=Tryz.f4:=(Option.some.inj (Tryz.func4.symm.trans hfn)).symm;refine⟨by kernel_rfl,fun j t ht=>?_⟩;rw[Tryz.params4]at ht;have hm:=Array.mem_of_getElem? ht;simp only[List.mem_toArray,List.mem_cons,List.not_mem_nil,or_false]at hm;rcases hm with rfl|rfl
 ·exact(show pG.wantsStandIn 30=false by kernel_rfl)
 ·exact(show pG.wantsStandIn 36=false by kernel_rfl)
theorem proved:Rows.ConsolePrintCardSaid:=
 Claim7.holds_tied_plain_at .later [] _ _ _ _ said (fun _ h=>by cases h) (by kernel_rfl) (fun _ h=>by cases h) consolePrint_row_tie rfl ⟨rfl,rfl⟩ (by kernel_rfl) rfl plain (by kernel_rfl)
end lawPrint
end
end Go.Proofs.YtnndaemmgbkjbaaGreatDoor
