/-
  The statement ConsoleParse of electionlaw45: Parse agrees with the reference, for lines of up to 220 bytes; for every input, as the given card says.
-/
import Derived.ChangeMaps5
import Derived.Test.YtnndaemmgbkjbaaGreatDoorPQ
import Derived.Test.YtnndaemmgbkjbaaGreatDoorPY
import Derived.Test.YtnndaemmgbkjbaaGreatDoorPYb
import Derived.Test.YtnndaemmgbkjbaaGreatDoorPa
import Derived.Test.YtnndaemmgbkjbaaGreatDoorPb
import Derived.Test.YtnndaemmgbkjbaaGreatDoorPc
namespace Go.Proofs.YtnndaemmgbkjbaaGreatDoor
open Go.RowKit
open Nat renaming le_trans → lT, le_refl → lR, zero_le → zL
open Go.RowKit.Below renaming refl → bR
open _root_.Go.Proofs.Tryz renaming prog → pG
set_option linter.unusedVariables false
set_option linter.unusedSimpArgs false
section
theorem shortO_marks {o:Opn}{Q:Int→Prop}(h:∀ m ∈ o.marks,Q m):∀ m ∈ (shortO o).marks,Q m:=fun m hm=>h m (List.mem_of_mem_take hm)
theorem shortO_m (o:Opn):(shortO o).marks.length≤1000:=by
 show (o.marks.take 40).length≤1000;rw[List.length_take];omega
theorem shortO_k (o:Opn):(shortO o).keep.length≤1000:=by
 show (o.keep.take 210).length≤1000;rw[List.length_take];omega
theorem shortO_t (o:Opn):(shortO o).text.size≤1000:=by
 show (o.text.extract 0 (min o.text.size 210)).size≤1000;rw[ByteArray.size_extract];omega
structure OpIn (o:Opn):Prop where
 scan:InI o.scan
 n:InI o.n
 marks:∀ m ∈ o.marks,InI m
 ml:o.marks.length≤1000
 kl:o.keep.length≤1000
 tl:o.text.size≤1000
theorem OpIn.short {o:Opn}(h1:InI o.scan) (h2:InI o.n) (h3:∀ m ∈ o.marks,InI m):OpIn (shortO o):=⟨h1,h2,shortO_marks h3,shortO_m o,shortO_k o,shortO_t o⟩
structure LawW (w:World) (e:EV) (P C:List ByteArray):Prop where
 el:ElF w e P C
 mx:Max w
 tab:Tab10 w
theorem LawW.below {w w':World}{e:EV}{P C:List ByteArray}(h:LawW w e P C) (hb:Below w.heap.size w w'):LawW w' e P C:=⟨h.el.below hb,h.mx.below hb,h.tab.below hb⟩
section
variable {e:EV}{P C:List ByteArray}{o:Opn}{v:Value}{w:World}{line:ByteArray}
end
end
section
open Go.ChangeShapes Go.WideShapes Go.ChangeAt
set_option maxRecDepth 1000000
theorem gTen : ((pG.globalNamed "internal/strconv.uint64pow10").bind fun g => (pG.globals[g]?).map (·.type)) = some 188 := by kernel_rfl
theorem tabEq:(Rows.laid_internal_strconv_uint64pow10:DataW Unit)=Lib.tabData .u64 Lib.pow10Tab:=by kernel_rfl
theorem cU64:pG.cellsOf 173=1:=by kernel_rfl
theorem cTen:pG.cellsOf 188=20:=by kernel_rfl
theorem uTen:pG.underlying 188=some (.array 20 173):=by kernel_rfl
theorem uU64:pG.underlying 173=some (.int .u64):=by kernel_rfl
theorem tab_of_laid {W : World} {a b : String × DataW Unit} {r : List (String × DataW Unit)} (h : laidMet pG (a :: b :: ("internal/strconv.uint64pow10", Rows.laid_internal_strconv_uint64pow10) :: r) W) : Tab10 W := by
 obtain⟨ps,h0,_⟩:=h;obtain⟨an,ad⟩:=a;obtain⟨bn,bd⟩:=b;obtain⟨_,_,_,_,_,q1,_,_,_,_,h1,_⟩:=h0;obtain⟨_,_,_,_,_,q2,_,_,_,_,h2,_⟩:=h1;obtain⟨g,t,cs,fuel,p,q,hg,ht,hv,hd,_,_⟩:=h2;have hT:=gTen;rw[hg]at hT;obtain rfl:188=t:=Option.some.inj (hT.symm.trans ht);rw[tabEq]at hd;unfold Tab10 Lib.TabIs;rw[hv,← Lib.cells_of_tab uTen uU64 cU64 cTen hd]
theorem tab_of_rowP {W:World}(h:laidMetH pG Rows.consoleParseRow.laid W):Tab10 W:=tab_of_laid h
def eleZ:Value:=.agg #[.string ⟨#[]⟩,.int .i64 0,.int .i64 0,.int .i64 0,.slice none 0 0,.slice none 0 0,.slice none 0 0,.int .i64 0,.int .i64 0,.bool false,.slice none 0 0,.slice none 0 0,.int .i64 0,.string ⟨#[]⟩]
def strZ:Value:=.string ⟨#[]⟩
end
section
open Go.ChangeShapes Go.WideShapes Go.ChangeAt
namespace lawParse
set_option maxRecDepth 1000000
set_option maxHeartbeats 16000000
theorem rest {e:EV}{P C:List ByteArray}{line:ByteArray}{W:World}(hE:ElF W e P C) (hM:Max W) (hz:line.size≤big) (kz:Nat) (hkz:min line.size 220=kz) (s:ByteArray) (hs:line.extract 0 kz=s) :
  Calls pG 3 #[.agg (e.cells P.length C.length),.string line] W fun en W'=>en=.returned (.bool true)∧Below W.heap.size W W':=by
 have hx1:=Box.new W 30 (e.cells P.length C.length);have hb1:Below W.heap.size W (W.alloc (.cells (e.cells P.length C.length) 30)):=(bR _ _).alloc (lR _) _;obtain⟨w1,hw1⟩:∃ q,W.alloc (.cells (e.cells P.length C.length) 30)=q:=⟨_,rfl⟩;rw[hw1]at hx1 hb1;have HLe:=hide (fun (v:World) (hv:Below w1.heap.size w1 v)=>box_load aggE8 (hx1.kept hv) rfl);have HV:=hide (valid_any (hE.below hb1));have HA:=hide (fun (v:World) (hv:Below w1.heap.size w1 v)=>awake_any v ((hM.below hb1).below hv));have HPs:=hide (fun (h:(∀ s ∈ P,s.size≤24)∧(∀ s ∈ C,s.size≤24)∧P.length≤12∧C.length≤4) (v:World) (hv:Below w1.heap.size w1 v)=>parse_to (line:=s) ((hE.elec.below hb1).below hv) (by omega) (fun s hs=>by have:=h.1 s hs;omega) (by omega) (fun s hs=>by have:=h.2.1 s hs;omega) ((hM.below hb1).below hv));have HRs:=hide (fun (h:(∀ s ∈ P,s.size≤24)∧(∀ s ∈ C,s.size≤24)∧P.length≤12∧C.length≤4) (v:World) (hv:Below w1.heap.size w1 v)=>parse45_to (line:=s) ((hE.elec.below hb1).below hv) (by omega) (fun s hs=>by have:=h.1 s hs;omega) (by omega) (fun s hs=>by have:=h.2.1 s hs;omega));obtain⟨O,hO⟩:∃ O,parseV P C s=O:=⟨_,rfl⟩;have HSh:Hid ((O.getD zeroO).marks.length≤1000000∧(O.getD zeroO).keep.length≤1000000):=by
  cases O with
  |none=>exact⟨zL _,zL _⟩
  |some p=>have hg:=(parse_back hO).1;exact⟨by have:=hg.ml;show p.marks.length≤_;omega,by have:=hg.kl;show p.keep.length≤_;omega⟩
 rw[hO]at HPs HRs;have i1:min (line.size:Int) 220=(kz:Int):=by omega
 have i2:(0:Int)≤(kz:Int):=by omega
 have i3:(kz:Int)≤(line.size:Int):=by omega
 have i4:(line.size:Int)≤9223372036854775807:=by unfold big at hz;omega
 have HB1:=hide hb1;have HX1:=hide hx1;have HSl:=hide hs;obtain⟨ecs,hec⟩:∃ q,e.cells P.length C.length=q:=⟨_,rfl⟩;rw[hec]at hw1 HLe HV HPs HRs HX1 ⊢;have HW1:=hide hw1;clear hE hM hx1 hb1 hw1 hec hz hkz hs hO;go_enter Tryz.func3,Tryz.ntmps3;go_upto_region 1 with (fail);rw[HW1.out];go_upto_region 2 with (fail);try rw[HSl.out]
 go_wp2_with ((with_reducible refine gV 14 (.agg ecs) w1 ?_ ?_ ?_);rfl;exact gives_load rfl rfl (HLe.out w1 (bR _ _)));refine HV.out.mono ?_;rintro en w2 ⟨q2,rfl,hq2,hb2⟩;have HB2:=hide hb2;have HQ2:=hide hq2;clear hb2 hq2 HV;cases q2 with
 |false=>go_wp2_with fail;refine(HA.out w2 HB2.out).mono ?_;rintro en w3 ⟨rfl,hb3⟩;have HB3:=hide (HB2.out.trans (hb3.mono HB2.out.size));clear hb3;go_wp2_with fail;go_ret;exact⟨rfl,HB1.out.trans (HB3.out.mono HB1.out.size)⟩
 |true=>have HP2:=hide (HPs.out (HQ2.out rfl) w2 HB2.out);have HL2:=hide (HLe.out w2 HB2.out);have HR:=hide (HRs.out (HQ2.out rfl));clear HPs HRs HQ2;go_wp2_with ((with_reducible refine gV 19 (.agg ecs) w2 ?_ ?_ ?_);rfl;exact gives_load rfl rfl HL2.out);refine HP2.out.mono ?_;rintro en w3 ⟨v3,q3,rfl,hq3,hV3,hb3⟩;obtain⟨A3,c3,D3,d3,rfl,hA3,hc3,hD3,hd3⟩:=hV3;obtain⟨w5,hst5,hx5,hg5⟩:=box_store aggOp (Box.new w3 36 (zeroO.cells none 0 none 0)) rfl rfl (Opn.one (O.getD zeroO) A3 c3 D3 d3);have hb5:Below w3.heap.size w3 w5:=below_grow ((bR _ _).alloc (lR _) _) hg5 (lR _);have HSt5:Hid ((storeVar 36 ⟨w3.heap.size,0,none⟩ (.agg ((O.getD zeroO).cells A3 c3 D3 d3))).run pG (w3.alloc (.cells #[.int .i64 0,.int .i64 0,.int .i64 0,.int .i64 0,.int .i64 0,.int .i64 0,.slice none 0 0,.slice none 0 0,.bool false,.bool false,.bool false,.string ⟨#[]⟩] 36))=.ok () w5):=hst5;have hB5:Below w1.heap.size w1 w5:=(HB2.out.trans (hb3.mono HB2.out.size)).trans (hb5.mono (lT HB2.out.size hb3.size));have HB5:=hide hB5;have HX5:=hide hx5;have HA5:=hide (ListIn.below (hA3.mono fun i hi=>hi.2) hb5);have HD5:=hide (ListIn.below (hD3.mono fun i hi=>hi.2) hb5);have HR5:=hide (HR.out w5 hB5);have HL5:=hide (HLe.out w5 hB5);have HQ3:=hide hq3;clear hb3 hst5 hx5 hg5 hb5 hB5 hA3 hD3 hq3 HP2 HR HL2;obtain⟨cs5,hcs5⟩:∃ q,(O.getD zeroO).cells A3 c3 D3 d3=q:=⟨_,rfl⟩;have HC5:=hide hcs5;rw[hcs5]at HSt5 HX5 ⊢;clear hcs5;go_wp2_with (first|((with_reducible refine dS w5 ?_ ?_ ?_);rfl;exact does_store rfl rfl rfl HSt5.out)|((with_reducible refine gV 25 (.agg ecs) w5 ?_ ?_ ?_);rfl;exact gives_load rfl rfl HL5.out));refine HR5.out.mono ?_;rintro en w6 ⟨v6,q6,rfl,hq6,hV6,hb6⟩;obtain⟨A6,c6,D6,d6,rfl,hA6,hc6,hD6,hd6⟩:=hV6;obtain⟨w7,hst7,hx7,hg7⟩:=box_store aggOp (Box.new w6 36 (zeroO.cells none 0 none 0)) rfl rfl (Opn.one (O.getD zeroO) A6 c6 D6 d6);have hb7:Below w6.heap.size w6 w7:=below_grow ((bR _ _).alloc (lR _) _) hg7 (lR _);have HSt7:Hid ((storeVar 36 ⟨w6.heap.size,0,none⟩ (.agg ((O.getD zeroO).cells A6 c6 D6 d6))).run pG (w6.alloc (.cells #[.int .i64 0,.int .i64 0,.int .i64 0,.int .i64 0,.int .i64 0,.int .i64 0,.slice none 0 0,.slice none 0 0,.bool false,.bool false,.bool false,.string ⟨#[]⟩] 36))=.ok () w7):=hst7;have h57:Below w5.heap.size w5 w7:=hb6.trans (hb7.mono hb6.size);have HB7:=hide (HB5.out.trans (h57.mono HB5.out.size));have HX7:=hide hx7;have HX57:=hide (HX5.out.kept h57);have HA57:=hide (ListIn.below HA5.out h57);have HD57:=hide (ListIn.below HD5.out h57);have HA7:=hide (ListIn.below (hA6.mono fun i hi=>hi.2) hb7);have HD7:=hide (ListIn.below (hD6.mono fun i hi=>hi.2) hb7);have HA8:=hide (HA.out w7 HB7.out);have HQ6:=hide hq6;clear hb6 hst7 hx7 hg7 hb7 h57 hA6 hD6 hq6 HR5 HL5 HX5 HA5 HD5;obtain⟨cs7,hcs7⟩:∃ q,(O.getD zeroO).cells A6 c6 D6 d6=q:=⟨_,rfl⟩;have HC7:=hide hcs7;rw[hcs7]at HSt7 HX7 ⊢;clear hcs7;obtain rfl:q3=q6:=HQ3.out.trans HQ6.out.symm;go_wp2_with ((with_reducible refine dS w7 ?_ ?_ ?_);rfl;exact does_store rfl rfl rfl HSt7.out);refine HA8.out.mono ?_;rintro en w8 ⟨rfl,hb8⟩;have HLa:=hide (box_load aggOp (HX57.out.kept hb8) (by rw[← HC5.out];rfl));have HLb:=hide (box_load aggOp (HX7.out.kept hb8) (by rw[← HC7.out];rfl));have HEq:=hide (eq45_any (a:=O.getD zeroO) (b:=O.getD zeroO) (c:=c3) (d:=d3) (c':=c6) (d':=d6) (ListIn.below HA57.out hb8) (ListIn.below HD57.out hb8) (ListIn.below HA7.out hb8) (ListIn.below HD7.out hb8) HSh.out.1 HSh.out.1 HSh.out.2 HSh.out.2);rw[HC5.out,HC7.out]at HEq;have HB8:=hide (HB7.out.trans (hb8.mono HB7.out.size));clear hb8;have hqq:(q3==q3)=true:=beq_self_eq_true _;go_wp2_with (first|((with_reducible refine wpList_gives_g (o:=⟨some 37,_,_,_,_,_⟩) (v:=.agg cs5) (w':=w8) ?_ ?_ ?_);rfl;exact gives_load rfl rfl HLa.out)|((with_reducible refine wpList_gives_g (o:=⟨some 38,_,_,_,_,_⟩) (v:=.agg cs7) (w':=w8) ?_ ?_ ?_);rfl;exact gives_load rfl rfl HLb.out));refine HEq.out.mono ?_;rintro en w9 ⟨q9,rfl,hq9,hb9⟩;obtain rfl:q9=true:=hq9.2 (by trivial);have HB9:=hide (HB8.out.trans (hb9.mono HB8.out.size));clear hb9 hq9;go_wp2_with fail;go_ret;exact⟨rfl,HB1.out.trans (HB9.out.mono HB1.out.size)⟩
set_option maxHeartbeats 200000
theorem walk {e:EV}{P C:List ByteArray}{line:ByteArray}{W:World}(hE:ElF W e P C) (hz:line.size≤big) (hM:Max W) :
 Calls pG 3 #[.agg (e.cells P.length C.length),.string line] W fun en W'=>en=.returned (.bool true)∧Below W.heap.size W W':=rest hE hM hz _ rfl _ rfl
theorem laid_met (os:Os):laidMet pG Rows.consoleParseRow.laid ((laidWorld Rows.consoleParseRow.laid os).forCall (fun _ _=>0) ⟨#[],#[eleZ,strZ],[]⟩).memory:=
 laidMet_of_run' 8 (by kernel_rfl) (by kernel_rfl)
theorem reads (os:Os) {H:Type}(enc:TypeId × Value→H):∃ places,DataW.whole enc pG ((laidWorld Rows.consoleParseRow.laid os).forCall (fun _ _=>0) ⟨#[],#[eleZ,strZ],[]⟩).memory Tryz.f3.params.toList Rows.consoleParseSpec.vars false #[eleZ,strZ].toList 8=some ([.agg [.lit (.string []),.lit (.int .i64 0),.lit (.int .i64 0),.lit (.int .i64 0),.nil,.nil,.nil,.lit (.int .i64 0),.lit (.int .i64 0),.agg [.lit (.bool false),.nil,.nil],.lit (.int .i64 0),.lit (.string [])],.lit (.string [])],[],places):=
 ⟨[],by kernel_rfl⟩
theorem contract (H:Type) (enc:TypeId × Value→H) (W:World) (base:Nat) (args:Array Value) (ds gs:List (DataW H)) (before:List MemPlace)
  (hval0:∀ (j:Nat) t v,Tryz.f3.params[j]? = some t→args[j]? = some v→Value.okWide pG W .any base t v)
  (hW:DataW.Whole enc pG Tryz.f3.params.toList Rows.consoleParseSpec.vars false W args.toList ds gs before) (hL:laidMetH pG Rows.consoleParseRow.laid W) (hsh:W.ShapedOpen pG) :
  Calls pG 3 args W fun e W'=>∃ v,e=.returned v∧Rows.consoleParseSpec.post enc pG Tryz.f3 false true false false W args v W':=by
 have hval:∀ (j:Nat) t v,Tryz.f3.params[j]? = some t→args[j]? = some v→Value.okWide pG W .any base t v:=hval0;have hW':=hW;have hT:Tab10 W:=tab_of_rowP hL;obtain⟨p,q,hA0,hV,rfl,hfz,hnd⟩:=hW;have hA:DataW.TrodAll enc pG W 0 (fun _=>true) true Tryz.f3.params.toList args.toList ds p:=hA0;rw[Tryz.params3]at hA hval;obtain⟨v0,vs0,d0,ds0,p0,q0,hargs,rfl,rfl,h0,r0⟩:=trodAll_cons hA;obtain⟨v1,vs1,d1,ds1,p1,q1,ha1,rfl,rfl,h1,r1⟩:=trodAll_cons r0;subst ha1;obtain⟨rfl,rfl,rfl⟩:=trodAll_nil r1;obtain rfl:args=#[v0,v1]:=by cases args;simp_all
 obtain⟨e,P,C,rfl,hE⟩:=open_ele (hval 0 30 v0 rfl rfl) h0;obtain⟨line,rfl,_,_,hz⟩:=Go.ChangeMaps.open_string Tryz.underlying9 (hval 1 9 v1 rfl rfl) h1;refine(walk hE (lT hz maxLen_big) (max_of_shaped hsh)).mono fun e W' ⟨he,hb⟩=>?_;subst he;exact⟨_,rfl,post_law hW' rfl hb (by rw[Tryz.params3];exact params_ok (by kernel_rfl)) rfl rfl⟩
theorem lifted (os:Os) (started:os.Started) (H:Type) (enc:TypeId × Value→H) (F:Stop.Interp) :
  ReturnsInHanded {} Tryz.checked os 3 .any ((OpenSpec.ofChange Rows.consoleParseSpec).preRow enc pG Tryz.f3 Rows.consoleParseRow.domain false Rows.consoleParseRow.laid) (((OpenSpec.ofChange Rows.consoleParseSpec).at F).post enc pG Tryz.f3 false true false false):=by
 obtain⟨places,hx⟩:=reads os enc;refine returnsInHanded_of_row (C:=Tryz.checked) (s:=OpenSpec.ofChange Rows.consoleParseSpec) own started (by kernel_rfl) Tryz.func3
  (witness_row_at (enc:=enc) (C:=Tryz.checked) false (laidWorld Rows.consoleParseRow.laid os) #[eleZ,strZ] rfl (by kernel_rfl) (by kernel_rfl) (by kernel_rfl)
   (OpenSpec.preRow_of_cond 8 hx (by kernel_rfl) (fun k hk=>by cases hk) (by kernel_rfl) (laid_met os))) ?_
 intro W base args ds gs before hval hW _ _ _ hL hsh _;exact contract H enc W base args ds gs before hval hW hL hsh
theorem said:Rows.ConsoleParseSaid:=
 OpenClaim.holds_of_cond 3 Tryz.f3 rfl rfl rfl rfl rfl rfl rfl ⟨rfl,rfl,rfl,rfl,rfl⟩ rfl rfl rfl rfl rfl (by kernel_rfl) Tryz.func3 (by kernel_rfl)
  (of_decide_eq_true (by kernel_rfl)) (by unfold Func.isWrapper;first|(rw[if_pos (by decide +kernel)];kernel_rfl)|(rw[if_neg (by decide +kernel)];exact⟨rfl,rfl⟩))
  (fun os started H enc _ F=>by rw[OpenClaim.pre_eq_preRow];exact lifted os started H enc F)
theorem plain (f : FuncId) (fn : Func) (hf : Tryz.pinned.checked.prog.funcNamed "election/electionlaw45.ConsoleParse" = some f) (hfn : Tryz.pinned.checked.prog.funcs[f]? = some fn) :
  false=Tryz.pinned.checked.prog.looks []∧∀ (j:Nat) t,fn.params[j]? = some t→Tryz.pinned.checked.prog.wantsStandIn t=false:=by
 obtain rfl : f = 3 := Option.some.inj ((show pG.funcNamed "election/electionlaw45.ConsoleParse" = some 3 by kernel_rfl).symm.trans hf) |>.symm;obtain rfl:fn=Tryz.f3:=(Option.some.inj (Tryz.func3.symm.trans hfn)).symm;refine⟨by kernel_rfl,fun j t ht=>?_⟩;rw[Tryz.params3]at ht;have hm:=Array.mem_of_getElem? ht;simp only[List.mem_toArray,List.mem_cons,List.not_mem_nil,or_false]at hm;rcases hm with rfl|rfl
 ·exact(show pG.wantsStandIn 30=false by kernel_rfl)
 ·exact(show pG.wantsStandIn 9=false by kernel_rfl)
theorem proved:Rows.ConsoleParseCardSaid:=
 Claim7.holds_tied_plain_at .later [] _ _ _ _ said (fun _ h=>by cases h) (by kernel_rfl) (fun _ h=>by cases h) consoleParse_row_tie rfl ⟨rfl,rfl⟩ (by kernel_rfl) rfl plain (by kernel_rfl)
end lawParse
end
end Go.Proofs.YtnndaemmgbkjbaaGreatDoor
