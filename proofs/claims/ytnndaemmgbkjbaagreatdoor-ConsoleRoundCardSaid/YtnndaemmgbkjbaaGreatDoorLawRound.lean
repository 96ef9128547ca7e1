/-
  The statement ConsoleRound of electionlaw45: Parse of what Print returns is the operation, and Print of what Parse returns is the line; for every input, as the given card says.
-/
import Derived.Lib.ItoaMem
import Derived.ChangeMaps5
import Derived.Test.YtnndaemmgbkjbaaGreatDoorPQ
import Derived.Test.YtnndaemmgbkjbaaGreatDoorPZb
import Derived.Test.YtnndaemmgbkjbaaGreatDoorPa
import Derived.Test.YtnndaemmgbkjbaaGreatDoorPb
import Derived.Test.YtnndaemmgbkjbaaGreatDoorPc
namespace Go.Proofs.YtnndaemmgbkjbaaGreatDoor
open Go.RowKit
open Go.Act renaming put → aP
open List renaming setIfInBounds_toArray → aS, set_cons_zero → aZ, set_cons_succ → aU
open Nat renaming lt_of_lt_of_le → lL, le_trans → lT, le_refl → lR
open Go.RowKit.Below renaming refl → bR
open _root_.Go.Proofs.Tryz renaming prog → pG
set_option linter.unusedVariables false
set_option linter.unusedSimpArgs false
section
theorem prints_parse {P C ws:List ByteArray}{o:Opn}{t:ByteArray}(h:PrintsTo P C ws o t true):parseV P C t=some o:=by
 rw[h.2,if_pos rfl];exact h.1.1 rfl
theorem parse_prints {P C:List ByteArray}{o:Opn}{line t:ByteArray}{q:Bool}(hp:parseV P C line=some o) (h:PrintsTo P C (wordsG nameV itS P C o) o t q):q=true∧t=line:=by
 have e:=(parse_back hp).2;have hq:q=true:=h.1.2 (by rw[e];exact hp);subst hq;exact⟨rfl,by rw[h.2,if_pos rfl,e]⟩
end
section
theorem shortO_marks {o:Opn}{Q:Int→Prop}(h:∀ m ∈ o.marks,Q m):∀ m ∈ (shortO o).marks,Q m:=fun m hm=>h m (List.mem_of_mem_take hm)
theorem shortO_m (o:Opn):(shortO o).marks.length≤1000:=by
 show (o.marks.take 40).length≤1000;rw[List.length_take];omega
theorem shortO_k (o:Opn):(shortO o).keep.length≤1000:=by
 show (o.keep.take 210).length≤1000;rw[List.length_take];omega
theorem shortO_t (o:Opn):(shortO o).text.size≤1000:=by
 show (o.text.extract 0 (min o.text.size 210)).size≤1000;rw[ByteArray.size_extract];omega
def SmallN (P C:List ByteArray):Prop:=(∀ s ∈ P,s.size≤24)∧(∀ s ∈ C,s.size≤24)∧P.length≤12∧C.length≤4
structure OpIn (o:Opn):Prop where
 scan:InI o.scan
 n:InI o.n
 marks:∀ m ∈ o.marks,InI m
 ml:o.marks.length≤1000
 kl:o.keep.length≤1000
 tl:o.text.size≤1000
theorem OpIn.short {o:Opn}(h1:InI o.scan) (h2:InI o.n) (h3:∀ m ∈ o.marks,InI m):OpIn (shortO o):=⟨h1,h2,shortO_marks h3,shortO_m o,shortO_k o,shortO_t o⟩
theorem numIn_i64 {n:Int}(h:numIn n):InI n:=⟨by have:=h.1;omega,by have:=h.2;omega⟩
theorem Good.opIn {P C:List ByteArray}{o:Opn}(h:Good P C o):OpIn o:=⟨numIn_i64 h.scan,numIn_i64 h.n,fun m hm=>numIn_i64 (h.marks m hm),by have:=h.ml;omega,by have:=h.kl;omega,by have:=h.tl;omega⟩
structure LawW (w:World) (e:EV) (P C:List ByteArray):Prop where
 el:ElF w e P C
 mx:Max w
 tab:Tab10 w
theorem LawW.below {w w':World}{e:EV}{P C:List ByteArray}(h:LawW w e P C) (hb:Below w.heap.size w w'):LawW w' e P C:=⟨h.el.below hb,h.mx.below hb,h.tab.below hb⟩
section
variable {e:EV}{P C:List ByteArray}{o:Opn}{v:Value}{w:World}{line:ByteArray}
theorem LawW.printC (h:LawW w e P C) (hs:SmallN P C) (ho:OpIn o) (hO:OpV (All w) w v o):Calls pG 12 #[.agg (e.cells P.length C.length),v] w (PrintTo P C (wordsG nameV itS P C o) o w):=
 printC_any h.el.elec hs h.mx h.tab ho.scan ho.n ho.marks hO ho.ml ho.kl ho.tl
theorem LawW.parseC (h:LawW w e P C) (hs:SmallN P C):Calls pG 8 #[.agg (e.cells P.length C.length),.string line] w (ParseTo w (parseV P C line)):=
 parse_to h.el.elec (by have:=hs.2.2.1;omega) (fun s q=>by have:=hs.1 s q;omega) (by have:=hs.2.2.2;omega) (fun s q=>by have:=hs.2.1 s q;omega) h.mx
theorem LawW.awake (h:LawW w e P C):Calls pG 7 #[] w fun e w'=>e=.returned (.bool true)∧Below w.heap.size w w':=awake_any w h.mx
theorem LawW.valid (h:LawW w e P C):Calls pG 6 #[.agg (e.cells P.length C.length)] w fun en w'=>∃ q:Bool,en=.returned (.bool q)∧(q=true→SmallN P C)∧Below w.heap.size w w':=valid_any h.el
end
end
section
open Go.ChangeShapes Go.WideShapes Go.ChangeAt
set_option maxRecDepth 1000000
theorem gTen : ((pG.globalNamed "internal/strconv.uint64pow10").bind fun g => (pG.globals[g]?).map (·.type)) = some 188 := by kernel_rfl
theorem tabEq:(Rows.laid_internal_strconv_uint64pow10:DataW Unit)=Lib.tabData .u64 Lib.pow10Tab:=by kernel_rfl
theorem cU64:pG.cellsOf 173=1:=by kernel_rfl
theorem cTen:pG.cellsOf 188=20:=by kernel_rfl
theorem uTen:pG.underlying 188=some (.array 20 173):=by kernel_rfl
theorem uU64:pG.underlying 173=some (.int .u64):=by kernel_rfl
theorem tab_of_laid {W : World} {a b : String × DataW Unit} {r : List (String × DataW Unit)} (h : laidMet pG (a :: b :: ("internal/strconv.uint64pow10", Rows.laid_internal_strconv_uint64pow10) :: r) W) : Tab10 W := by
 obtain⟨ps,h0,_⟩:=h;obtain⟨an,ad⟩:=a;obtain⟨bn,bd⟩:=b;obtain⟨_,_,_,_,_,q1,_,_,_,_,h1,_⟩:=h0;obtain⟨_,_,_,_,_,q2,_,_,_,_,h2,_⟩:=h1;obtain⟨g,t,cs,fuel,p,q,hg,ht,hv,hd,_,_⟩:=h2;have hT:=gTen;rw[hg]at hT;obtain rfl:188=t:=Option.some.inj (hT.symm.trans ht);rw[tabEq]at hd;unfold Tab10 Lib.TabIs;rw[hv,← Lib.cells_of_tab uTen uU64 cU64 cTen hd]
theorem tab_of_rowP {W:World}(h:laidMetH pG Rows.consoleParseRow.laid W):Tab10 W:=tab_of_laid h
def eleZ:Value:=.agg #[.string ⟨#[]⟩,.int .i64 0,.int .i64 0,.int .i64 0,.slice none 0 0,.slice none 0 0,.slice none 0 0,.int .i64 0,.int .i64 0,.bool false,.slice none 0 0,.slice none 0 0,.int .i64 0,.string ⟨#[]⟩]
def opZ:Value:=.agg #[.int .i64 0,.int .i64 0,.int .i64 0,.int .i64 0,.int .i64 0,.int .i64 0,.slice none 0 0,.slice none 0 0,.bool false,.bool false,.bool false,.string ⟨#[]⟩]
def strZ:Value:=.string ⟨#[]⟩
end
section
open Go.ChangeShapes Go.WideShapes Go.ChangeAt
namespace lawRound
set_option maxRecDepth 1000000
set_option maxHeartbeats 32000000
theorem rest {e:EV}{P C:List ByteArray}{o:Opn}{v:Value}{line:ByteArray}{W:World}(hO:OpV (All W) W v o) (h1:InI o.scan) (h2:InI o.n) (h3:∀ m ∈ o.marks,InI m) (h4:o.text.size≤big) (h5:o.marks.length≤big) (h6:o.keep.length≤big) (hz:line.size≤big) (kz:Nat) (hkz:min line.size 220=kz) (s:ByteArray) (hs:line.extract 0 kz=s) (hL:LawW W e P C) :
  Calls pG 5 #[.agg (e.cells P.length C.length),v,.string line] W fun en W'=>en=.returned (.bool true)∧Below W.heap.size W W':=by
 have i1:min (line.size:Int) 220=(kz:Int):=by omega
 have i2:(0:Int)≤(kz:Int):=by omega
 have i3:(kz:Int)≤(line.size:Int):=by omega
 have i4:(line.size:Int)≤9223372036854775807:=by unfold big at hz;omega
 have HSl:=hide hs;clear hz hkz hs;have hOv:=hO;obtain⟨A0,c0,D0,d0,rfl,_⟩:=hO;obtain⟨w1,hw1,hb1,hx1,hy1⟩:=pr_boxes (w:=W) (ecs:=e.cells P.length C.length) (ocs:=o.cells A0 c0 D0 d0);have HL1:=hide (hL.below hb1);have HL:=hide (fun (v:World) (hv:Below W.heap.size W v)=>hL.below hv);have HSh:=hide (fun (v:World) (hv:Below W.heap.size W v)=>short_any (F:=All W) (w:=v) (hOv.agree (Agree.of_below hv fun i hi=>hi)) (fun i hi=>lL hi hv.size) h4 h5 h6);have HIn:Hid (OpIn (shortO o)):=OpIn.short h1 h2 h3;have HB1:=hide hb1;have HX1:=hide hx1;have HY1:=hide hy1;have HW1:=hide hw1;clear hOv hL h1 h2 h3 h4 h5 h6 hw1 hb1 hx1 hy1;obtain⟨ecs,hec⟩:∃ q,e.cells P.length C.length=q:=⟨_,rfl⟩;obtain⟨ocs,hoc⟩:∃ q,o.cells A0 c0 D0 d0=q:=⟨_,rfl⟩;have HOs:Hid (ocs.size=12):=by rw[← hoc];rfl
 have HEs:Hid (ecs.size=14):=by rw[← hec];rfl
 have HEc:=hide hec;rw[hec]at HW1 HX1 ⊢;rw[hoc]at HW1 HY1 HSh ⊢;clear hec hoc;have HV1:=hide HL1.out.valid;rw[HEc.out]at HV1;go_enter Tryz.func5,Tryz.ntmps5;go_upto_region 1 with (fail);rw[HW1.out];go_wp2_with ((with_reducible refine gV 15 (.agg ecs) w1 ?_ ?_ ?_);rfl;exact gives_load rfl rfl (box_load aggE8 HX1.out HEs.out));refine HV1.out.mono ?_;rintro en w2 ⟨q2,rfl,hq2,hb2⟩;have HB2:Hid (Below W.heap.size W w2):=HB1.out.trans (hb2.mono HB1.out.size);have HX2:=hide (HX1.out.kept hb2);have HY2:=hide (HY1.out.kept hb2);have HQ2:=hide hq2;clear hb2 hq2 HV1;cases q2 with
 |false=>go_wp2_with fail;refine(HL.out w2 HB2.out).awake.mono ?_;rintro en w3 ⟨rfl,hb3⟩;have HB3:Hid (Below W.heap.size W w3):=HB2.out.trans (hb3.mono HB2.out.size);clear hb3;go_wp2_with fail;go_ret;exact⟨rfl,HB3.out⟩
 |true=>
  have HSm:=hide (HQ2.out rfl);have HShd:=hide (HSh.out (w2.drewN 1) (below_drew HB2.out 1));clear HQ2 HSh;go_upto_region 3 with fail;refine wp_region_held_drew (S:=fun _=>True) (by kernel_rfl) (trivial) (fun hH=>?_);refine wT 2 ?xv2 ?xy2 hH ?xr2;case xy2=>intro v hv;go_simp;rfl
  try simp only[aP,aS,aZ,aU]
  refine wT 3 ?xv3 ?xy3 hH ?xr3;case xy3=>intro v hv;go_simp;rfl
  try simp only[aP,aS,aZ,aU]
  refine wT 4 ?xv4 ?xy4 hH ?xr4;case xy4=>intro v hv;go_simp;rfl
  try simp only[aP,aS,aZ,aU]
  refine wT 5 ?xv5 ?xy5 hH ?xr5;case xy5=>intro v hv;go_simp;rfl
  try simp only[aP,aS,aZ,aU]
  refine wT 6 ?xv6 ?xy6 hH ?xr6;case xy6=>intro v hv;go_simp;rfl
  try simp only[aP,aS,aZ,aU]
  refine wR 0 fun K hK=>?_;refine step_gives rfl (v:=.agg ocs) (w':=w2.drewN 1) (gives_load rfl rfl (box_load aggOp (HY2.out.drewN 1) HOs.out)) ?_;have hN:True:=trivial;refine hK.out _ _ hN fun hZ=>?_;clear hK hH hN K;have hH:=hZ;clear hZ;try simp only[aP,aS,aZ,aU]
  refine wR 1 fun K hK=>?_;go_simp;refine HShd.out.mono ?_;rintro en w3 ⟨v3,rfl,hV3,hb3'⟩;try dsimp only
  have hb3:Below w2.heap.size w2 w3:=(below_drew (bR _ _) 1).trans hb3';obtain⟨cs3,rfl,hcs3,hone3⟩:=hV3.agg12.one;obtain⟨w4,hst4,hx4,hg4⟩:=box_store aggOp (HY2.out.kept hb3) HOs.out hcs3 hone3;have hb24:Below W.heap.size W w4:=below_growB (HB2.out.trans (hb3.mono HB2.out.size)) hg4 (by omega);have HB4:=hide hb24;have HX4:=hide ((HX2.out.kept hb3).grown hg4 (fun e=>by have:=Option.some.inj e;omega));have HY4:=hide hx4;have HV4:Hid (OpV (All W) w4 (.agg cs3) (shortO o)):=hV3.agree fun i hi=>hg4.block i (lL (lL hi HB2.out.size) hb3.size) (fun e=>by have h:i=W.heap.size+1:=Option.some.inj e;have h2:i < W.heap.size:=hi;omega);have HSt4:=hide hst4;have HCs:=hide hcs3;have hN:True:=trivial;clear hst4 hx4 hg4 hb24 hV3 hb3 hb3' hcs3 hone3;refine hK.out _ _ hN fun hZ=>?_;clear hK hH hN K;have hH:=hZ;clear hZ;try simp only[aP,aS,aZ,aU]
  refine wR 7 fun K hK=>?_;refine step_does rfl (does_store rfl rfl rfl HSt4.out) ?_;have hN:True:=trivial;refine hK.out _ _ hN fun hZ=>?_;clear hK hH hN K;have hH:=hZ;clear hZ;try simp only[aP,aS,aZ,aU]
  refine wT 8 ?xv8 ?xy8 hH ?xr8;case xy8=>intro v hv;go_simp;rfl
  try simp only[aP,aS,aZ,aU]
  refine wpAnyH_done (by kernel_rfl) ?_ _;clear hH;try rw[HSl.out]
  have HPc:=hide ((HL.out w4 HB4.out).printC HSm.out HIn.out (HV4.out.mono fun i hi=>lL hi HB4.out.size));rw[HEc.out]at HPc;go_upto_region 5 with (first|((with_reducible refine gV 27 (.agg ecs) w4 ?_ ?_ ?_);rfl;exact gives_load rfl rfl (box_load aggE8 HX4.out HEs.out))|((with_reducible refine gV 28 (.agg cs3) w4 ?_ ?_ ?_);rfl;exact gives_load rfl rfl (box_load aggOp HY4.out HCs.out)));refine HPc.out.mono ?_;rintro en w5 ⟨t5,q5,rfl,hp5,hb5⟩;have HB5:Hid (Below W.heap.size W w5):=HB4.out.trans (hb5.mono HB4.out.size);have HX5:=hide (HX4.out.kept hb5);have HY5:=hide (HY4.out.kept hb5);have HV5:Hid (OpV (All w5) w5 (.agg cs3) (shortO o)):=(HV4.out.mono fun i (hi:i < W.heap.size)=>(lL hi HB4.out.size:All w4 i)).below hb5;have HP5:=hide hp5;clear hb5 hp5 HPc;go_upto_if 32 with fail;go_cut [] (fun wx=>Hid (Below W.heap.size W wx)∧Hid (Box wx W.heap.size 30 ecs));case first=>
   cases q5 with
   |false=>go_wp2_with fail;go_meet;exact⟨HB5.out,HX5.out⟩
   |true=>have hpp:=prints_parse HP5.out;have HPa:=hide ((HL.out w5 HB5.out).parseC (line:=t5) HSm.out);rw[hpp,HEc.out]at HPa;clear hpp;go_wp2_with ((with_reducible refine gV 34 (.agg ecs) w5 ?_ ?_ ?_);rfl;exact gives_load rfl rfl (box_load aggE8 HX5.out HEs.out));refine HPa.out.mono ?_;rintro en w6 ⟨v6,q6,rfl,hq6,hV6,hb6⟩;obtain rfl:q6=true:=hq6;obtain⟨A6,c6,D6,d6,rfl,hA6,hc6,hD6,hd6⟩:OpV _ w6 v6 (shortO o):=hV6;obtain⟨w7,hst7,hx7,hg7⟩:=box_store aggOp (Box.new w6 36 (zeroO.cells none 0 none 0)) rfl rfl (Opn.one (shortO o) A6 c6 D6 d6);have hb7:Below w6.heap.size w6 w7:=below_grow ((bR _ _).alloc (lR _) _) hg7 (lR _);have h57:Below w5.heap.size w5 w7:=hb6.trans (hb7.mono hb6.size);have HSt7:Hid ((storeVar 36 ⟨w6.heap.size,0,none⟩ (.agg ((shortO o).cells A6 c6 D6 d6))).run pG (w6.alloc (.cells #[.int .i64 0,.int .i64 0,.int .i64 0,.int .i64 0,.int .i64 0,.int .i64 0,.slice none 0 0,.slice none 0 0,.bool false,.bool false,.bool false,.string ⟨#[]⟩] 36))=.ok () w7):=hst7;have HB7:Hid (Below W.heap.size W w7):=HB5.out.trans (h57.mono HB5.out.size);have HX7:=hide (HX5.out.kept h57);have HLa:=hide (box_load aggOp hx7 rfl);have HLb:=hide (box_load aggOp (HY5.out.kept h57) HCs.out);obtain⟨A5,c5,D5,d5,e5,hA5,hc5,hD5,hd5⟩:=HV5.out.below h57;injection e5 with e5;subst e5;have HEq:=hide (eq45_any (a:=shortO o) (b:=shortO o) (c:=c6) (d:=d6) (c':=c5) (d':=d5) (ListIn.below (hA6.mono fun i hi=>hi.2) hb7) (ListIn.below (hD6.mono fun i hi=>hi.2) hb7) hA5 hD5 (by have:=HIn.out.ml;omega) (by have:=HIn.out.ml;omega) (by have:=HIn.out.kl;omega) (by have:=HIn.out.kl;omega));clear hA6 hD6 hst7 hx7 hg7 hb7 h57 hb6 hA5 hD5 HPa;obtain⟨cs7,hcs7⟩:∃ q,(shortO o).cells A6 c6 D6 d6=q:=⟨_,rfl⟩;obtain⟨cs8,hcs8⟩:∃ q,(shortO o).cells A5 c5 D5 d5=q:=⟨_,rfl⟩;rw[hcs7]at HSt7 HLa HEq ⊢;rw[hcs8]at HLb HEq ⊢;clear hcs7 hcs8;go_wp2_with (first|((with_reducible refine dS w7 ?_ ?_ ?_);rfl;exact does_store rfl rfl rfl HSt7.out)|((with_reducible refine wpList_gives_g (o:=⟨some 42,_,_,_,_,_⟩) (v:=.agg cs7) (w':=w7) ?_ ?_ ?_);rfl;exact gives_load rfl rfl HLa.out)|((with_reducible refine wpList_gives_g (o:=⟨some 43,_,_,_,_,_⟩) (v:=.agg cs8) (w':=w7) ?_ ?_ ?_);rfl;exact gives_load rfl rfl HLb.out));refine HEq.out.mono ?_;rintro en w8 ⟨q8,rfl,hq8,hb8⟩;obtain rfl:q8=true:=hq8.2 (by trivial);have HB8:Hid (Below W.heap.size W w8):=HB7.out.trans (hb8.mono HB7.out.size);have HX8:=hide (HX7.out.kept hb8);clear hb8 hq8;go_wp2_with fail;go_meet;exact⟨HB8.out,HX8.out⟩
  case rest=>
   obtain⟨HBc,HXc⟩:=hcut;have HPa:=hide ((HL.out wc HBc.out).parseC (line:=s) HSm.out);obtain⟨O,hO2⟩:∃ O,parseV P C s=O:=⟨_,rfl⟩;rw[hO2,HEc.out]at HPa;have HO2:=hide hO2;clear hO2;go_upto_region 10 with ((with_reducible refine gV 48 (.agg ecs) wc ?_ ?_ ?_);rfl;exact gives_load rfl rfl (box_load aggE8 HXc.out HEs.out));refine HPa.out.mono ?_;rintro en w6 ⟨v6,q6,rfl,hq6,hV6,hb6⟩;obtain⟨cs6,rfl,hcs6,hone6⟩:=hV6.agg12.one;obtain⟨w7,hst7,hx7,hg7⟩:=box_store aggOp (Box.new w6 36 (zeroO.cells none 0 none 0)) rfl hcs6 hone6;have hb7:Below w6.heap.size w6 w7:=below_grow ((bR _ _).alloc (lR _) _) hg7 (lR _);have h67:Below wc.heap.size wc w7:=hb6.trans (hb7.mono hb6.size);have HSt7:Hid ((storeVar 36 ⟨w6.heap.size,0,none⟩ (.agg cs6)).run pG (w6.alloc (.cells #[.int .i64 0,.int .i64 0,.int .i64 0,.int .i64 0,.int .i64 0,.int .i64 0,.slice none 0 0,.slice none 0 0,.bool false,.bool false,.bool false,.string ⟨#[]⟩] 36))=.ok () w7):=hst7;have HB7:Hid (Below W.heap.size W w7):=HBc.out.trans (h67.mono HBc.out.size);have HX7:=hide (HXc.out.kept h67);have HLa:=hide (box_load aggOp hx7 hcs6);have HV7:Hid (OpV (All w7) w7 (.agg cs6) (O.getD zeroO)):=(hV6.mono fun i hi=>(hi.2:All w6 i)).below hb7;have HQ6:=hide hq6;clear hq6 hV6 hst7 hx7 hg7 hb7 h67 hb6 hcs6 hone6 HPa;go_upto_if 53 with ((with_reducible refine dS w7 ?_ ?_ ?_);rfl;exact does_store rfl rfl rfl HSt7.out);go_cut [] (fun wx=>Hid (Below W.heap.size W wx));case first=>
    cases O with
    |none=>obtain rfl:q6=false:=HQ6.out;go_wp2_with fail;go_meet;exact HB7.out
    |some p=>
     obtain rfl:q6=true:=HQ6.out;have HPp:=hide ((HL.out w7 HB7.out).printC HSm.out (parse_back HO2.out).1.opIn HV7.out);rw[HEc.out]at HPp;go_wp2_with (first|((with_reducible refine gV 55 (.agg ecs) w7 ?_ ?_ ?_);rfl;exact gives_load rfl rfl (box_load aggE8 HX7.out HEs.out))|((with_reducible refine gV 56 (.agg cs6) w7 ?_ ?_ ?_);rfl;exact gives_load rfl rfl HLa.out));refine HPp.out.mono ?_;rintro en w8 ⟨t8,q8,rfl,hp8,hb8⟩;obtain⟨rfl,rfl⟩:=parse_prints HO2.out hp8;have HB8:Hid (Below W.heap.size W w8):=HB7.out.trans (hb8.mono HB7.out.size);have e2:(t8.toList==t8.toList)=true:=beq_self_eq_true _;have e3:(!(t8.toList==t8.toList))=false:=by rw[e2];rfl
     clear hb8 hp8 HPp;go_wp2_with fail;go_meet;exact HB8.out
   case rest=>have HBd:=hcut;go_wp2_with fail;refine(HL.out _ HBd.out).awake.mono ?_;rintro en w9 ⟨rfl,hb9⟩;have HB9:Hid (Below W.heap.size W w9):=HBd.out.trans (hb9.mono HBd.out.size);clear hb9;go_wp2_with fail;go_ret;exact⟨rfl,HB9.out⟩
set_option maxHeartbeats 200000
theorem walk {e:EV}{P C:List ByteArray}{o:Opn}{v:Value}{line:ByteArray}{W:World}(hO:OpV (All W) W v o) (h1:InI o.scan) (h2:InI o.n) (h3:∀ m ∈ o.marks,InI m) (h4:o.text.size≤big) (h5:o.marks.length≤big) (h6:o.keep.length≤big) (hz:line.size≤big) (hL:LawW W e P C) :
 Calls pG 5 #[.agg (e.cells P.length C.length),v,.string line] W fun en W'=>en=.returned (.bool true)∧Below W.heap.size W W':=rest hO h1 h2 h3 h4 h5 h6 hz _ rfl _ rfl hL
theorem laid_met (os:Os):laidMet pG Rows.consoleRoundRow.laid ((laidWorld Rows.consoleRoundRow.laid os).forCall (fun _ _=>0) ⟨#[],#[eleZ,opZ,strZ],[]⟩).memory:=
 laidMet_of_run' 8 (by kernel_rfl) (by kernel_rfl)
theorem reads (os:Os) {H:Type}(enc:TypeId × Value→H):∃ places,DataW.whole enc pG ((laidWorld Rows.consoleRoundRow.laid os).forCall (fun _ _=>0) ⟨#[],#[eleZ,opZ,strZ],[]⟩).memory Tryz.f5.params.toList Rows.consoleRoundSpec.vars false #[eleZ,opZ,strZ].toList 8=some ([.agg [.lit (.string []),.lit (.int .i64 0),.lit (.int .i64 0),.lit (.int .i64 0),.nil,.nil,.nil,.lit (.int .i64 0),.lit (.int .i64 0),.agg [.lit (.bool false),.nil,.nil],.lit (.int .i64 0),.lit (.string [])],.agg [.lit (.int .i64 0),.lit (.int .i64 0),.lit (.int .i64 0),.lit (.int .i64 0),.lit (.int .i64 0),.lit (.int .i64 0),.nil,.nil,.lit (.bool false),.lit (.bool false),.lit (.bool false),.lit (.string [])],.lit (.string [])],[],places):=
 ⟨[],by kernel_rfl⟩
theorem contract (H:Type) (enc:TypeId × Value→H) (W:World) (base:Nat) (args:Array Value) (ds gs:List (DataW H)) (before:List MemPlace)
  (hval0:∀ (j:Nat) t v,Tryz.f5.params[j]? = some t→args[j]? = some v→Value.okWide pG W .any base t v)
  (hW:DataW.Whole enc pG Tryz.f5.params.toList Rows.consoleRoundSpec.vars false W args.toList ds gs before) (hL:laidMetH pG Rows.consoleRoundRow.laid W) (hsh:W.ShapedOpen pG) :
  Calls pG 5 args W fun e W'=>∃ v,e=.returned v∧Rows.consoleRoundSpec.post enc pG Tryz.f5 false true false false W args v W':=by
 have hval:∀ (j:Nat) t v,Tryz.f5.params[j]? = some t→args[j]? = some v→Value.okWide pG W .any base t v:=hval0;have hW':=hW;have hT:Tab10 W:=tab_of_rowP hL;obtain⟨p,q,hA0,hV,rfl,hfz,hnd⟩:=hW;have hA:DataW.TrodAll enc pG W 0 (fun _=>true) true Tryz.f5.params.toList args.toList ds p:=hA0;rw[Tryz.params5]at hA hval;obtain⟨v0,vs0,d0,ds0,p0,q0,hargs,rfl,rfl,h0,r0⟩:=trodAll_cons hA;obtain⟨v1,vs1,d1,ds1,p1,q1,ha1,rfl,rfl,h1,r1⟩:=trodAll_cons r0;subst ha1;obtain⟨v2,vs2,d2,ds2,p2,q2,ha2,rfl,rfl,h2,r2⟩:=trodAll_cons r1;subst ha2;obtain⟨rfl,rfl,rfl⟩:=trodAll_nil r2;obtain rfl:args=#[v0,v1,v2]:=by cases args;simp_all
 obtain⟨e,P,C,rfl,hE⟩:=open_ele (hval 0 30 v0 rfl rfl) h0;obtain⟨o,hO,ho1,ho2,ho3,ho4,ho5,ho6⟩:=open_op (hval 1 36 v1 rfl rfl) h1;obtain⟨line,rfl,_,_,hz⟩:=Go.ChangeMaps.open_string Tryz.underlying9 (hval 2 9 v2 rfl rfl) h2;refine(walk hO ho1 ho2 ho3 ho4 ho5 ho6 (lT hz maxLen_big) ⟨hE,max_of_shaped hsh,hT⟩).mono fun e W' ⟨he,hb⟩=>?_;subst he;exact⟨_,rfl,post_law hW' rfl hb (by rw[Tryz.params5];exact params_ok (by kernel_rfl)) rfl rfl⟩
theorem lifted (os:Os) (started:os.Started) (H:Type) (enc:TypeId × Value→H) (F:Stop.Interp) :
  ReturnsInHanded {} Tryz.checked os 5 .any ((OpenSpec.ofChange Rows.consoleRoundSpec).preRow enc pG Tryz.f5 Rows.consoleRoundRow.domain false Rows.consoleRoundRow.laid) (((OpenSpec.ofChange Rows.consoleRoundSpec).at F).post enc pG Tryz.f5 false true false false):=by
 obtain⟨places,hx⟩:=reads os enc;refine returnsInHanded_of_row (C:=Tryz.checked) (s:=OpenSpec.ofChange Rows.consoleRoundSpec) own started (by kernel_rfl) Tryz.func5
  (witness_row_at (enc:=enc) (C:=Tryz.checked) false (laidWorld Rows.consoleRoundRow.laid os) #[eleZ,opZ,strZ] rfl (by kernel_rfl) (by kernel_rfl) (by kernel_rfl)
   (OpenSpec.preRow_of_cond 8 hx (by kernel_rfl) (fun k hk=>by cases hk) (by kernel_rfl) (laid_met os))) ?_
 intro W base args ds gs before hval hW _ _ _ hL hsh _;exact contract H enc W base args ds gs before hval hW hL hsh
theorem said:Rows.ConsoleRoundSaid:=
 OpenClaim.holds_of_cond 5 Tryz.f5 rfl rfl rfl rfl rfl rfl rfl ⟨rfl,rfl,rfl,rfl,rfl⟩ rfl rfl rfl rfl rfl (by kernel_rfl) Tryz.func5 (by kernel_rfl)
  (of_decide_eq_true (by kernel_rfl)) (by unfold Func.isWrapper;first|(rw[if_pos (by decide +kernel)];kernel_rfl)|(rw[if_neg (by decide +kernel)];exact⟨rfl,rfl⟩))
  (fun os started H enc _ F=>by rw[OpenClaim.pre_eq_preRow];exact lifted os started H enc F)
theorem plain (f : FuncId) (fn : Func) (hf : Tryz.pinned.checked.prog.funcNamed "election/electionlaw45.ConsoleRound" = some f) (hfn : Tryz.pinned.checked.prog.funcs[f]? = some fn) :
  false=Tryz.pinned.checked.prog.looks []∧∀ (j:Nat) t,fn.params[j]? = some t→Tryz.pinned.checked.prog.wantsStandIn t=false:=by
 obtain rfl : f = 5 := Option.some.inj ((show pG.funcNamed "election/electionlaw45.ConsoleRound" = some 5 by kernel_rfl).symm.trans hf) |>.symm;obtain rfl:fn=Tryz.f5:=(Option.some.inj (Tryz.func5.symm.trans hfn)).symm;refine⟨by kernel_rfl,fun j t ht=>?_⟩;rw[Tryz.params5]at ht;have hm:=Array.mem_of_getElem? ht;simp only[List.mem_toArray,List.mem_cons,List.not_mem_nil,or_false]at hm;rcases hm with rfl|rfl|rfl
 ·exact(show pG.wantsStandIn 30=false by kernel_rfl)
 ·exact(show pG.wantsStandIn 36=false by kernel_rfl)
 ·exact(show pG.wantsStandIn 9=false by kernel_rfl)
theorem proved:Rows.ConsoleRoundCardSaid:=
 Claim7.holds_tied_plain_at .later [] _ _ _ _ said (fun _ h=>by cases h) (by kernel_rfl) (fun _ h=>by cases h) consoleRound_row_tie rfl ⟨rfl,rfl⟩ (by kernel_rfl) rfl plain (by kernel_rfl)
end lawRound
end
end Go.Proofs.YtnndaemmgbkjbaaGreatDoor
