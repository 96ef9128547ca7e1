/-
  parts of the proof: R45U R45V.
-/
import Derived.Lib.ItoaLen
import Derived.Test.YtnndaemmgbkjbaaGreatDoorPW
import Derived.Test.YtnndaemmgbkjbaaGreatDoorPYd
namespace Go.Proofs.YtnndaemmgbkjbaaGreatDoor
open Go.RowKit
open Go.Act renaming put → aP
open List renaming setIfInBounds_toArray → aS, set_cons_zero → aZ, set_cons_succ → aU
open Go.World renaming cell?_of_block → cB
open Nat renaming lt_of_lt_of_le → lL, zero_le → zL
open Go.RowKit.Below renaming refl → bR
open _root_.Go.Proofs.Tryz renaming prog → pG
open Go.Value renaming int → vI, slice → vS, string → vT
open Go.IntKind renaming i64 → kI
set_option linter.unusedVariables false
set_option linter.unusedSimpArgs false
section
theorem decS_size (n:Int):(decS n).size≤30:=by
 unfold decS;split
 ·rename_i h;have h1:(Lib.decDigits n.toNat).length=Lib.nDigits n.toNat:=Lib.decDigits_length _;have h2:=Lib.nDigits_le20 n.toNat (by omega);show (Lib.decDigits n.toNat).toArray.size≤30;simp;omega
 ·decide
theorem atS_size {l:List ByteArray}(h:∀ s ∈ l,s.size≤3000000) (i:Int):(atS l i).size≤9000000:=by
 unfold atS;split
 ·rename_i hi;have h1:=escS_size (l.getD i.toNat default);have h2:=h _ (getD_memD (l:=l) (k:=i.toNat) (by omega));omega
 ·decide
theorem joinS_snoc {l:List ByteArray}(h:l≠[]) (y:ByteArray):joinS (l ++ [y])=joinS l ++ (⟨#[32]⟩ ++ y):=by
 have e:∀ (l:List (List UInt8)),l≠[]→∀ y,Lib.join (l ++ [y]) [32]=Lib.join l [32] ++ 32 :: y:=fun l=>by
  induction l with
  |nil=>intro h;exact absurd rfl h
  |cons a t ih=>
   intro _ y;cases t with
   |nil=>rw[List.cons_append,List.nil_append,join_cons2 _ (by simp),Lib.join_one,Lib.join_one]
   |cons b t=>rw[List.cons_append,join_cons2 _ (by simp),ih (by simp),join_cons2 a (r:=b :: t) (by simp)];simp
 apply ByteArray.ext;apply Array.toList_inj.1;have:=e (l.map (·.data.toList)) (by simpa using h) y.data.toList;simp[joinS,this,ByteArray.data_append]
theorem dec_go (n:Int):∃ d:ByteArray,d.size≤30∧Hid (decS n=d)∧Hid (∀ v:World,Calls pG 33 #[vI kI n] v fun e w'=>e=.returned (vT d)∧Below v.heap.size v w'):=
 ⟨_,decS_size n,rfl,fun v=>dec45_any (n:=n) (w:=v)⟩
theorem pr_fin {PP CC ws:List ByteArray}{O:Opn}{w:World}{s:ByteArray}(H:Hid (joinS ws=s)) (t:ByteArray) (q:Bool) (w':World) (h:PrintS PP CC s O t q) (hb:Below w.heap.size w w'):PrintTo PP CC ws O w (.returned (.tuple #[vT t,.bool q])) w':=
 ⟨t,q,rfl,by unfold PrintsTo;rw[H.out];exact h,hb⟩
theorem le_at {F:World→Prop}{w1 w2:World}(H:Hid (∀ v,Below w1.heap.size w1 v→F v)) (hb:Below w1.heap.size w1 w2) (v:World) (hv:Below w2.heap.size w2 v):F v:=H.out v (hb.trans (hv.mono hb.size))
structure PrH (k:Int) (b:PrD):Prop where
 hE:Elec b.w b.e b.PP b.CC
 hP:b.PP.length≤1000
 hPn:∀ s ∈ b.PP,s.size≤3000000
 hC:b.CC.length≤1000
 hCn:∀ s ∈ b.CC,s.size≤3000000
 hO:OpV (All b.w) b.w (.agg (Opn.cells ⟨k,b.prec,b.cont,b.scan,b.n,b.lie,b.marks,b.keep,b.lose,b.deaf,b.twice,b.text⟩ b.A b.c b.D b.d)) ⟨k,b.prec,b.cont,b.scan,b.n,b.lie,b.marks,b.keep,b.lose,b.deaf,b.twice,b.text⟩
 hm:b.marks.length≤1000000
 hk:b.keep.length≤1000000
def PrG (k:Int) (b:PrD):Prop:=Calls pG 13 #[.agg (b.e.cells b.PP.length b.CC.length),.agg #[vI kI k,vI kI b.prec,vI kI b.cont,vI kI b.scan,vI kI b.n,vI kI b.lie,vS b.A b.marks.length b.c,vS b.D b.keep.length b.d,.bool b.lose,.bool b.deaf,.bool b.twice,vT b.text]] b.w (PrintTo b.PP b.CC (wordsG atS decS b.PP b.CC (cutO ⟨k,b.prec,b.cont,b.scan,b.n,b.lie,b.marks,b.keep,b.lose,b.deaf,b.twice,b.text⟩)) ⟨k,b.prec,b.cont,b.scan,b.n,b.lie,b.marks,b.keep,b.lose,b.deaf,b.twice,b.text⟩ b.w)
theorem pr_go {X:Int→ByteArray→Prop}{k:Int}{b:PrD}(H:PrH k b) (hX:X b.n b.text)
  (h:∀ (e:EV) (PP CC:List ByteArray) (qp qc qs n ql:Int) (qm:List Int) (qk:List Bool) (qo qd qt:Bool) (qx:ByteArray) (A D:Option Addr) (c d:Nat) (w w1:World) (ecs:Array Value) (O:Opn) (ws:List ByteArray),
   PP.length≤1000→CC.length≤1000→qm.length≤1000000→qk.length≤1000000→X n qx→
   Hid (∀ v:World,Below w1.heap.size w1 v→(loadVar 30 ⟨w.heap.size,0,none⟩).run pG v=.ok (.agg (e.cells PP.length CC.length)) v)→
   Hid (∀ v:World,Below w1.heap.size w1 v→Box v (w.heap.size+1) 36 #[vI kI k,vI kI qp,vI kI qc,vI kI qs,vI kI n,vI kI ql,vS A qm.length c,vS D qk.length d,.bool qo,.bool qd,.bool qt,vT qx]∧Elec v e PP CC∧OpV (All v) v (.agg #[vI kI k,vI kI qp,vI kI qc,vI kI qs,vI kI n,vI kI ql,vS A qm.length c,vS D qk.length d,.bool qo,.bool qd,.bool qt,vT qx]) O∧Below w.heap.size w v)→
   Hid (Elec w1 e PP CC)→Hid ((w.alloc (.cells ecs 30)).alloc (.cells #[vI kI k,vI kI qp,vI kI qc,vI kI qs,vI kI n,vI kI ql,vS A qm.length c,vS D qk.length d,.bool qo,.bool qd,.bool qt,vT qx] 36)=w1)→Hid (Box w1 (w.heap.size+1) 36 #[vI kI k,vI kI qp,vI kI qc,vI kI qs,vI kI n,vI kI ql,vS A qm.length c,vS D qk.length d,.bool qo,.bool qd,.bool qt,vT qx])→Hid (∀ s ∈ PP,s.size≤3000000)→Hid (∀ s ∈ CC,s.size≤3000000)→
   w1.cell? ⟨w.heap.size+1,0,none⟩=some (vI kI k)→w1.cell? ⟨w.heap.size+1,1,none⟩=some (vI kI qp)→w1.cell? ⟨w.heap.size+1,2,none⟩=some (vI kI qc)→w1.cell? ⟨w.heap.size+1,3,none⟩=some (vI kI qs)→w1.cell? ⟨w.heap.size+1,4,none⟩=some (vI kI n)→w1.cell? ⟨w.heap.size+1,5,none⟩=some (vI kI ql)→w1.cell? ⟨w.heap.size+1,6,none⟩=some (vS A qm.length c)→w1.cell? ⟨w.heap.size+1,7,none⟩=some (vS D qk.length d)→w1.cell? ⟨w.heap.size+1,8,none⟩=some (.bool qo)→w1.cell? ⟨w.heap.size+1,9,none⟩=some (.bool qd)→w1.cell? ⟨w.heap.size+1,10,none⟩=some (.bool qt)→w1.cell? ⟨w.heap.size+1,11,none⟩=some (vT qx)→
   w1.cell? ⟨w.heap.size,4,none⟩=some (vS e.pa PP.length e.pc)→Hid (O.marks.length≤1000000∧O.keep.length≤1000000)→Hid (⟨k,qp,qc,qs,n,ql,qm,qk,qo,qd,qt,qx⟩=O)→Hid (wordsG atS decS PP CC (cutO ⟨k,qp,qc,qs,n,ql,qm,qk,qo,qd,qt,qx⟩)=ws)→Hid (e.cells PP.length CC.length=ecs)→
   Calls pG 13 #[.agg ecs,.agg #[vI kI k,vI kI qp,vI kI qc,vI kI qs,vI kI n,vI kI ql,vS A qm.length c,vS D qk.length d,.bool qo,.bool qd,.bool qt,vT qx]] w (PrintTo PP CC ws O w)):PrG k b:=by
 obtain⟨hE,hP,hPn,hC,hCn,hO,hm,hk⟩:=H;obtain⟨w1,hw1,hb1,hx2,hx3⟩:=pr_boxes (w:=b.w) (ecs:=b.e.cells b.PP.length b.CC.length) (ocs:=#[vI kI k,vI kI b.prec,vI kI b.cont,vI kI b.scan,vI kI b.n,vI kI b.lie,vS b.A b.marks.length b.c,vS b.D b.keep.length b.d,.bool b.lose,.bool b.deaf,.bool b.twice,vT b.text]);exact h b.e b.PP b.CC b.prec b.cont b.scan b.n b.lie b.marks b.keep b.lose b.deaf b.twice b.text b.A b.D b.c b.d b.w w1 _ ⟨k,b.prec,b.cont,b.scan,b.n,b.lie,b.marks,b.keep,b.lose,b.deaf,b.twice,b.text⟩ _ hP hC hm hk hX (hide fun v hv=>box_load aggE8 (hx2.kept hv) rfl) (hide fun v hv=>⟨hx3.kept hv,(hE.below hb1).below hv,OpV.below (OpV.below hO hb1) hv,hb1.trans (hv.mono hb1.size)⟩)
  (hide (hE.below hb1)) (hide hw1) (hide hx3) (hide hPn) (hide hCn) (hx3.cell 0) (hx3.cell 1) (hx3.cell 2) (hx3.cell 3) (hx3.cell 4) (hx3.cell 5) (hx3.cell 6) (hx3.cell 7) (hx3.cell 8) (hx3.cell 9) (hx3.cell 10) (hx3.cell 11) (hx2.cell 4) (hide ⟨hm,hk⟩) (hide rfl) (hide rfl) (hide rfl)
set_option maxHeartbeats 16000000
set_option maxRecDepth 1000000
theorem print45_2 {b:PrD}  (H:PrH 2 b):PrG 2 b:=by
 refine pr_go (X:=fun _ _=>True) H trivial ?_;clear H;intro e PP CC qp qc qs n ql qm qk qo qd qt qx A D c d w w1 ecs O ws hP hC hm hk hX HLe HTl HE HW1 HX3 HPn HCn x0 x1 x2 x3 x4 x5 x6 x7 x8 x9 x10 x11 y4 HOm HOq HWs HEc;clear hX;have HA:=hide (fun (v:World) (hv:Below w1.heap.size w1 v)=>at45_any (c:=e.pc) (n:=qp) (ListIn.below HE.out.1 hv) (by omega) HPn.out);obtain⟨dA,hdA⟩:∃ q,atS PP qp=q:=⟨_,rfl⟩;have hzA:dA.size≤9000000:=by rw[← hdA];exact atS_size HPn.out _
 have HDeA:=hide hdA;change Hid (∀ (v:World),Below w1.heap.size w1 v→Calls pG 32 #[vS e.pa PP.length e.pc,vI kI qp] v fun e w'=>e=.returned (vT (atS PP qp))∧w'=v) at HA;rw[hdA]at HA;clear hdA;have hlz0:(⟨#[115,112,111,105,108,32]⟩:ByteArray).size=6:=rfl;have HSq:Hid (joinS ws=(⟨#[115,112,111,105,108,32]⟩:ByteArray) ++ dA):=by rw[Hid,← HWs.out];show joinS [bOf wSpoil,atS PP qp]=_;rw[HDeA.out];apply ByteArray.ext;apply Array.toList_inj.1;simp[joinS,Lib.join,List.intercalate,List.intersperse,bOf,wSpoil]
 go_enter Tryz.func13,Tryz.ntmps13;go_upto_region 1 with fail;rw[HW1.out];go_wp2_with fail;refine(HA.out _ (bR _ _)).mono ?_;rintro en w2 ⟨rfl,rfl⟩;go_upto_region 49 with fail;obtain⟨hx3',hE',hO',hb'⟩:=HTl.out w2 (bR _ _);exact wp_close (pr49 (o:=O) (s:=(⟨#[115,112,111,105,108,32]⟩:ByteArray) ++ dA) HLe.out hx3' rfl hE' hP HPn.out hC HCn.out hO' HOm.out.1 HOm.out.2 hb' (pr_fin HSq)) (by assumption)
theorem print45_3 {b:PrD}  (H:PrH 3 b):PrG 3 b:=by
 refine pr_go (X:=fun _ _=>True) H trivial ?_;clear H;intro e PP CC qp qc qs n ql qm qk qo qd qt qx A D c d w w1 ecs O ws hP hC hm hk hX HLe HTl HE HW1 HX3 HPn HCn x0 x1 x2 x3 x4 x5 x6 x7 x8 x9 x10 x11 y4 HOm HOq HWs HEc;clear hX;obtain⟨d1,hz1,HDe1,HD1⟩:=dec_go qs;obtain⟨d2,hz2,HDe2,HD2⟩:=dec_go n;have hlz0:(⟨#[102,101,101,100,32]⟩:ByteArray).size=5:=rfl;have hlz1:(⟨#[32]⟩:ByteArray).size=1:=rfl;have HSq:Hid (joinS ws=(⟨#[102,101,101,100,32]⟩:ByteArray) ++ d1 ++ (⟨#[32]⟩:ByteArray) ++ d2):=by rw[Hid,← HWs.out];show joinS [bOf wFeed,decS qs,decS n]=_;rw[HDe1.out,HDe2.out];apply ByteArray.ext;apply Array.toList_inj.1;simp[joinS,Lib.join,List.intercalate,List.intersperse,bOf,wFeed]
 go_enter Tryz.func13,Tryz.ntmps13;go_upto_region 1 with fail;rw[HW1.out];go_upto_region 12 with fail;refine wp_region_held_drew (S:=fun v=>Below w1.heap.size w1 v) (by kernel_rfl) (below_drew (bR _ _) 1) (fun hH=>?_);refine wT 0 ?xv0 ?xy0 hH ?xr0;case xy0=>intro v hv;go_simp;first|rfl|rw[if_neg (by omega)]
 try simp only[aP,aS,aZ,aU]
 refine wT 1 ?xv1 ?xy1 hH ?xr1;case xy1=>intro v hv;have q0:=(cB (hv.block _ HX3.out.lt)).trans x3;go_simp;first|rfl|rw[if_neg (by omega)]
 try simp only[aP,aS,aZ,aU]
 refine wT 5 ?xv5 ?xy5 hH ?xr5;case xy5=>intro v hv;go_simp;first|rfl|rw[if_neg (by omega)]
 try simp only[aP,aS,aZ,aU]
 refine wT 6 ?xv6 ?xy6 hH ?xr6;case xy6=>intro v hv;have q0:=(cB (hv.block _ HX3.out.lt)).trans x4;go_simp;first|rfl|rw[if_neg (by omega)]
 try simp only[aP,aS,aZ,aU]
 refine wR 2 fun K hK=>?_;go_simp;refine(HD1.out (w1.drewN 1)).mono ?_;rintro en w2 ⟨rfl,hbw2⟩;try dsimp only
 have hN:Below w1.heap.size w1 w2:=(below_drew (bR _ _) 1).trans hbw2;have HBw2:=hide hN;clear hbw2;refine hK.out _ _ hN fun hZ=>?_;clear hK hH hN K;have hH:=hZ;clear hZ;try simp only[aP,aS,aZ,aU]
 refine wT 3 ?xv3 ?xy3 hH ?xr3;case xy3=>intro v hv;go_simp;first|rfl|rw[if_neg (by omega)]
 try simp only[aP,aS,aZ,aU]
 refine wT 4 ?xv4 ?xy4 hH ?xr4;case xy4=>intro v hv;go_simp;first|rfl|rw[if_neg (by omega)]
 try simp only[aP,aS,aZ,aU]
 refine wR 7 fun K hK=>?_;go_simp;refine(HD2.out w2).mono ?_;rintro en w3 ⟨rfl,hbw3⟩;try dsimp only
 have hN:Below w1.heap.size w1 w3:=HBw2.out.trans (hbw3.mono HBw2.out.size);have HBw3:=hide hN;clear hbw3;refine hK.out _ _ hN fun hZ=>?_;clear hK hH hN K;have hH:=hZ;clear hZ;try simp only[aP,aS,aZ,aU]
 refine wT 8 ?xv8 ?xy8 hH ?xr8;case xy8=>intro v hv;go_simp;first|rfl|rw[if_neg (by omega)]
 try simp only[aP,aS,aZ,aU]
 refine wT 9 ?xv9 ?xy9 hH ?xr9;case xy9=>intro v hv;go_simp;first|rfl|rw[if_neg (by omega)]
 try simp only[aP,aS,aZ,aU]
 refine wpAnyH_done (by kernel_rfl) ?_ _;go_upto_region 49 with fail;obtain⟨hx3',hE',hO',hb'⟩:=HTl.out w3 HBw3.out;exact wp_close (pr49 (o:=O) (s:=(⟨#[102,101,101,100,32]⟩:ByteArray) ++ d1 ++ (⟨#[32]⟩:ByteArray) ++ d2) (le_at HLe HBw3.out) hx3' rfl hE' hP HPn.out hC HCn.out hO' HOm.out.1 HOm.out.2 hb' (pr_fin HSq)) (by assumption)
theorem print45_4 {b:PrD}  (H:PrH 4 b):PrG 4 b:=by
 refine pr_go (X:=fun _ _=>True) H trivial ?_;clear H;intro e PP CC qp qc qs n ql qm qk qo qd qt qx A D c d w w1 ecs O ws hP hC hm hk hX HLe HTl HE HW1 HX3 HPn HCn x0 x1 x2 x3 x4 x5 x6 x7 x8 x9 x10 x11 y4 HOm HOq HWs HEc;clear hX;obtain⟨d1,hz1,HDe1,HD1⟩:=dec_go qs;obtain⟨d2,hz2,HDe2,HD2⟩:=dec_go n;have hlz0:(⟨#[102,117,115,101,32]⟩:ByteArray).size=5:=rfl;have hlz1:(⟨#[32]⟩:ByteArray).size=1:=rfl;have HSq:Hid (joinS ws=(⟨#[102,117,115,101,32]⟩:ByteArray) ++ d1 ++ (⟨#[32]⟩:ByteArray) ++ d2):=by rw[Hid,← HWs.out];show joinS [bOf wFuse,decS qs,decS n]=_;rw[HDe1.out,HDe2.out];apply ByteArray.ext;apply Array.toList_inj.1;simp[joinS,Lib.join,List.intercalate,List.intersperse,bOf,wFuse]
 go_enter Tryz.func13,Tryz.ntmps13;go_upto_region 1 with fail;rw[HW1.out];go_upto_region 14 with fail;refine wp_region_held_drew (S:=fun v=>Below w1.heap.size w1 v) (by kernel_rfl) (below_drew (bR _ _) 1) (fun hH=>?_);refine wT 0 ?xv0 ?xy0 hH ?xr0;case xy0=>intro v hv;go_simp;first|rfl|rw[if_neg (by omega)]
 try simp only[aP,aS,aZ,aU]
 refine wT 1 ?xv1 ?xy1 hH ?xr1;case xy1=>intro v hv;have q0:=(cB (hv.block _ HX3.out.lt)).trans x3;go_simp;first|rfl|rw[if_neg (by omega)]
 try simp only[aP,aS,aZ,aU]
 refine wT 5 ?xv5 ?xy5 hH ?xr5;case xy5=>intro v hv;go_simp;first|rfl|rw[if_neg (by omega)]
 try simp only[aP,aS,aZ,aU]
 refine wT 6 ?xv6 ?xy6 hH ?xr6;case xy6=>intro v hv;have q0:=(cB (hv.block _ HX3.out.lt)).trans x4;go_simp;first|rfl|rw[if_neg (by omega)]
 try simp only[aP,aS,aZ,aU]
 refine wR 2 fun K hK=>?_;go_simp;refine(HD1.out (w1.drewN 1)).mono ?_;rintro en w2 ⟨rfl,hbw2⟩;try dsimp only
 have hN:Below w1.heap.size w1 w2:=(below_drew (bR _ _) 1).trans hbw2;have HBw2:=hide hN;clear hbw2;refine hK.out _ _ hN fun hZ=>?_;clear hK hH hN K;have hH:=hZ;clear hZ;try simp only[aP,aS,aZ,aU]
 refine wT 3 ?xv3 ?xy3 hH ?xr3;case xy3=>intro v hv;go_simp;first|rfl|rw[if_neg (by omega)]
 try simp only[aP,aS,aZ,aU]
 refine wT 4 ?xv4 ?xy4 hH ?xr4;case xy4=>intro v hv;go_simp;first|rfl|rw[if_neg (by omega)]
 try simp only[aP,aS,aZ,aU]
 refine wR 7 fun K hK=>?_;go_simp;refine(HD2.out w2).mono ?_;rintro en w3 ⟨rfl,hbw3⟩;try dsimp only
 have hN:Below w1.heap.size w1 w3:=HBw2.out.trans (hbw3.mono HBw2.out.size);have HBw3:=hide hN;clear hbw3;refine hK.out _ _ hN fun hZ=>?_;clear hK hH hN K;have hH:=hZ;clear hZ;try simp only[aP,aS,aZ,aU]
 refine wT 8 ?xv8 ?xy8 hH ?xr8;case xy8=>intro v hv;go_simp;first|rfl|rw[if_neg (by omega)]
 try simp only[aP,aS,aZ,aU]
 refine wT 9 ?xv9 ?xy9 hH ?xr9;case xy9=>intro v hv;go_simp;first|rfl|rw[if_neg (by omega)]
 try simp only[aP,aS,aZ,aU]
 refine wpAnyH_done (by kernel_rfl) ?_ _;go_upto_region 49 with fail;obtain⟨hx3',hE',hO',hb'⟩:=HTl.out w3 HBw3.out;exact wp_close (pr49 (o:=O) (s:=(⟨#[102,117,115,101,32]⟩:ByteArray) ++ d1 ++ (⟨#[32]⟩:ByteArray) ++ d2) (le_at HLe HBw3.out) hx3' rfl hE' hP HPn.out hC HCn.out hO' HOm.out.1 HOm.out.2 hb' (pr_fin HSq)) (by assumption)
theorem print45_6a {b:PrD}(hn:b.n=1) (H:PrH 6 b):PrG 6 b:=by
 refine pr_go (X:=fun n _=>n=1) H hn ?_;clear H;intro e PP CC qp qc qs n ql qm qk qo qd qt qx A D c d w w1 ecs O ws hP hC hm hk hX HLe HTl HE HW1 HX3 HPn HCn x0 x1 x2 x3 x4 x5 x6 x7 x8 x9 x10 x11 y4 HOm HOq HWs HEc;have hn:n=1:=hX;clear hX;obtain⟨d1,hz1,HDe1,HD1⟩:=dec_go qs;have hlz0:(⟨#[99,108,111,115,101,32]⟩:ByteArray).size=6:=rfl;have hlz1:(⟨#[102,105,110,97,108,32]⟩:ByteArray).size=6:=rfl;subst hn;have HSq:Hid (joinS ws=(⟨#[102,105,110,97,108,32]⟩:ByteArray) ++ d1):=by rw[Hid,← HWs.out];show joinS [bOf wFinal,decS qs]=_;rw[HDe1.out];apply ByteArray.ext;apply Array.toList_inj.1;simp[joinS,Lib.join,List.intercalate,List.intersperse,bOf,wFinal]
 go_enter Tryz.func13,Tryz.ntmps13;go_upto_region 1 with fail;rw[HW1.out];go_wp2_with fail;refine(HD1.out w1).mono ?_;rintro en w2 ⟨rfl,hb2⟩;have HB2:=hide hb2;have x3:=(hb2.cell (p:=⟨w.heap.size+1,3,none⟩) HX3.out.lt).trans x3;have x4:=(hb2.cell (p:=⟨w.heap.size+1,4,none⟩) HX3.out.lt).trans x4;clear hb2;go_wp2_with fail;refine(HD1.out w2).mono ?_;rintro en w3 ⟨rfl,hb3⟩;have HB3:Hid (Below w1.heap.size w1 w3):=HB2.out.trans (hb3.mono HB2.out.size);clear hb3;go_upto_region 49 with fail;obtain⟨hx3',hE',hO',hb'⟩:=HTl.out w3 HB3.out;exact wp_close (pr49 (o:=O) (s:=(⟨#[102,105,110,97,108,32]⟩:ByteArray) ++ d1) (le_at HLe HB3.out) hx3' rfl hE' hP HPn.out hC HCn.out hO' HOm.out.1 HOm.out.2 hb' (pr_fin HSq)) (by assumption)
theorem print45_6b {b:PrD}(hn:¬ b.n=1) (H:PrH 6 b):PrG 6 b:=by
 refine pr_go (X:=fun n _=>¬ n=1) H hn ?_;clear H;intro e PP CC qp qc qs n ql qm qk qo qd qt qx A D c d w w1 ecs O ws hP hC hm hk hX HLe HTl HE HW1 HX3 HPn HCn x0 x1 x2 x3 x4 x5 x6 x7 x8 x9 x10 x11 y4 HOm HOq HWs HEc;have hn:¬ n=1:=hX;clear hX;obtain⟨d1,hz1,HDe1,HD1⟩:=dec_go qs;have hlz0:(⟨#[99,108,111,115,101,32]⟩:ByteArray).size=6:=rfl;have hlz1:(⟨#[102,105,110,97,108,32]⟩:ByteArray).size=6:=rfl;have hn2:(n==1)=false:=bN hn;have HSq:Hid (joinS ws=(⟨#[99,108,111,115,101,32]⟩:ByteArray) ++ d1):=by rw[Hid,← HWs.out];show joinS (if n=1 then [bOf wFinal,decS qs] else [bOf wClose,decS qs])=_;rw[if_neg hn,HDe1.out];apply ByteArray.ext;apply Array.toList_inj.1;simp[joinS,Lib.join,List.intercalate,List.intersperse,bOf,wClose,wFinal]
 clear hn;go_enter Tryz.func13,Tryz.ntmps13;go_upto_region 1 with fail;rw[HW1.out];go_wp2_with fail;refine(HD1.out w1).mono ?_;rintro en w2 ⟨rfl,hb2⟩;have HB2:=hide hb2;have x4:=(hb2.cell (p:=⟨w.heap.size+1,4,none⟩) HX3.out.lt).trans x4;clear hb2;go_upto_region 49 with fail;obtain⟨hx3',hE',hO',hb'⟩:=HTl.out w2 HB2.out;exact wp_close (pr49 (o:=O) (s:=(⟨#[99,108,111,115,101,32]⟩:ByteArray) ++ d1) (le_at HLe HB2.out) hx3' rfl hE' hP HPn.out hC HCn.out hO' HOm.out.1 HOm.out.2 hb' (pr_fin HSq)) (by assumption)
theorem print45_7 {b:PrD}  (H:PrH 7 b):PrG 7 b:=by
 refine pr_go (X:=fun _ _=>True) H trivial ?_;clear H;intro e PP CC qp qc qs n ql qm qk qo qd qt qx A D c d w w1 ecs O ws hP hC hm hk hX HLe HTl HE HW1 HX3 HPn HCn x0 x1 x2 x3 x4 x5 x6 x7 x8 x9 x10 x11 y4 HOm HOq HWs HEc;clear hX;obtain⟨d1,hz1,HDe1,HD1⟩:=dec_go qs;have hlz0:(⟨#[115,101,110,100,32]⟩:ByteArray).size=5:=rfl;have hlz1:(⟨#[32,108,111,115,101]⟩:ByteArray).size=5:=rfl;have hlz2:(⟨#[32,100,101,97,102]⟩:ByteArray).size=5:=rfl;have hlz3:(⟨#[32,116,119,105,99,101]⟩:ByteArray).size=6:=rfl;have HSq0:Hid (joinS ws=joinS ([bOf wSend,d1] ++ flagW qo qd qt)):=by rw[Hid,← HWs.out,← HDe1.out];rfl
 go_enter Tryz.func13,Tryz.ntmps13;go_upto_region 1 with fail;rw[HW1.out];go_wp2_with fail;refine(HD1.out w1).mono ?_;rintro en w2 ⟨rfl,hb2⟩;have HB2:=hide hb2;have x8:=(hb2.cell (p:=⟨w.heap.size+1,8,none⟩) HX3.out.lt).trans x8;have x9:=(hb2.cell (p:=⟨w.heap.size+1,9,none⟩) HX3.out.lt).trans x9;have x10:=(hb2.cell (p:=⟨w.heap.size+1,10,none⟩) HX3.out.lt).trans x10;clear hb2;cases qo <;> cases qd <;> cases qt
 ·have HSq:Hid (joinS ws=(⟨#[115,101,110,100,32]⟩:ByteArray) ++ d1):=by rw[Hid,HSq0.out];apply ByteArray.ext;apply Array.toList_inj.1;simp[joinS,Lib.join,List.intercalate,List.intersperse,bOf,flagW,wSend,sLose,sDeaf,sTwice]
  go_upto_region 49 with fail;obtain⟨hx3',hE',hO',hb'⟩:=HTl.out w2 HB2.out;exact wp_close (pr49 (o:=O) (s:=(⟨#[115,101,110,100,32]⟩:ByteArray) ++ d1) (le_at HLe HB2.out) hx3' rfl hE' hP HPn.out hC HCn.out hO' HOm.out.1 HOm.out.2 hb' (pr_fin HSq)) (by assumption)
 ·have HSq:Hid (joinS ws=(⟨#[115,101,110,100,32]⟩:ByteArray) ++ d1 ++ (⟨#[32,116,119,105,99,101]⟩:ByteArray)):=by rw[Hid,HSq0.out];apply ByteArray.ext;apply Array.toList_inj.1;simp[joinS,Lib.join,List.intercalate,List.intersperse,bOf,flagW,wSend,sLose,sDeaf,sTwice]
  go_upto_region 49 with fail;obtain⟨hx3',hE',hO',hb'⟩:=HTl.out w2 HB2.out;exact wp_close (pr49 (o:=O) (s:=(⟨#[115,101,110,100,32]⟩:ByteArray) ++ d1 ++ (⟨#[32,116,119,105,99,101]⟩:ByteArray)) (le_at HLe HB2.out) hx3' rfl hE' hP HPn.out hC HCn.out hO' HOm.out.1 HOm.out.2 hb' (pr_fin HSq)) (by assumption)
 ·have HSq:Hid (joinS ws=(⟨#[115,101,110,100,32]⟩:ByteArray) ++ d1 ++ (⟨#[32,100,101,97,102]⟩:ByteArray)):=by rw[Hid,HSq0.out];apply ByteArray.ext;apply Array.toList_inj.1;simp[joinS,Lib.join,List.intercalate,List.intersperse,bOf,flagW,wSend,sLose,sDeaf,sTwice]
  go_upto_region 49 with fail;obtain⟨hx3',hE',hO',hb'⟩:=HTl.out w2 HB2.out;exact wp_close (pr49 (o:=O) (s:=(⟨#[115,101,110,100,32]⟩:ByteArray) ++ d1 ++ (⟨#[32,100,101,97,102]⟩:ByteArray)) (le_at HLe HB2.out) hx3' rfl hE' hP HPn.out hC HCn.out hO' HOm.out.1 HOm.out.2 hb' (pr_fin HSq)) (by assumption)
 ·have HSq:Hid (joinS ws=(⟨#[115,101,110,100,32]⟩:ByteArray) ++ d1 ++ (⟨#[32,100,101,97,102]⟩:ByteArray) ++ (⟨#[32,116,119,105,99,101]⟩:ByteArray)):=by rw[Hid,HSq0.out];apply ByteArray.ext;apply Array.toList_inj.1;simp[joinS,Lib.join,List.intercalate,List.intersperse,bOf,flagW,wSend,sLose,sDeaf,sTwice]
  go_upto_region 49 with fail;obtain⟨hx3',hE',hO',hb'⟩:=HTl.out w2 HB2.out;exact wp_close (pr49 (o:=O) (s:=(⟨#[115,101,110,100,32]⟩:ByteArray) ++ d1 ++ (⟨#[32,100,101,97,102]⟩:ByteArray) ++ (⟨#[32,116,119,105,99,101]⟩:ByteArray)) (le_at HLe HB2.out) hx3' rfl hE' hP HPn.out hC HCn.out hO' HOm.out.1 HOm.out.2 hb' (pr_fin HSq)) (by assumption)
 ·have HSq:Hid (joinS ws=(⟨#[115,101,110,100,32]⟩:ByteArray) ++ d1 ++ (⟨#[32,108,111,115,101]⟩:ByteArray)):=by rw[Hid,HSq0.out];apply ByteArray.ext;apply Array.toList_inj.1;simp[joinS,Lib.join,List.intercalate,List.intersperse,bOf,flagW,wSend,sLose,sDeaf,sTwice]
  go_upto_region 49 with fail;obtain⟨hx3',hE',hO',hb'⟩:=HTl.out w2 HB2.out;exact wp_close (pr49 (o:=O) (s:=(⟨#[115,101,110,100,32]⟩:ByteArray) ++ d1 ++ (⟨#[32,108,111,115,101]⟩:ByteArray)) (le_at HLe HB2.out) hx3' rfl hE' hP HPn.out hC HCn.out hO' HOm.out.1 HOm.out.2 hb' (pr_fin HSq)) (by assumption)
 ·have HSq:Hid (joinS ws=(⟨#[115,101,110,100,32]⟩:ByteArray) ++ d1 ++ (⟨#[32,108,111,115,101]⟩:ByteArray) ++ (⟨#[32,116,119,105,99,101]⟩:ByteArray)):=by rw[Hid,HSq0.out];apply ByteArray.ext;apply Array.toList_inj.1;simp[joinS,Lib.join,List.intercalate,List.intersperse,bOf,flagW,wSend,sLose,sDeaf,sTwice]
  go_upto_region 49 with fail;obtain⟨hx3',hE',hO',hb'⟩:=HTl.out w2 HB2.out;exact wp_close (pr49 (o:=O) (s:=(⟨#[115,101,110,100,32]⟩:ByteArray) ++ d1 ++ (⟨#[32,108,111,115,101]⟩:ByteArray) ++ (⟨#[32,116,119,105,99,101]⟩:ByteArray)) (le_at HLe HB2.out) hx3' rfl hE' hP HPn.out hC HCn.out hO' HOm.out.1 HOm.out.2 hb' (pr_fin HSq)) (by assumption)
 ·have HSq:Hid (joinS ws=(⟨#[115,101,110,100,32]⟩:ByteArray) ++ d1 ++ (⟨#[32,108,111,115,101]⟩:ByteArray) ++ (⟨#[32,100,101,97,102]⟩:ByteArray)):=by rw[Hid,HSq0.out];apply ByteArray.ext;apply Array.toList_inj.1;simp[joinS,Lib.join,List.intercalate,List.intersperse,bOf,flagW,wSend,sLose,sDeaf,sTwice]
  go_upto_region 49 with fail;obtain⟨hx3',hE',hO',hb'⟩:=HTl.out w2 HB2.out;exact wp_close (pr49 (o:=O) (s:=(⟨#[115,101,110,100,32]⟩:ByteArray) ++ d1 ++ (⟨#[32,108,111,115,101]⟩:ByteArray) ++ (⟨#[32,100,101,97,102]⟩:ByteArray)) (le_at HLe HB2.out) hx3' rfl hE' hP HPn.out hC HCn.out hO' HOm.out.1 HOm.out.2 hb' (pr_fin HSq)) (by assumption)
 ·have HSq:Hid (joinS ws=(⟨#[115,101,110,100,32]⟩:ByteArray) ++ d1 ++ (⟨#[32,108,111,115,101]⟩:ByteArray) ++ (⟨#[32,100,101,97,102]⟩:ByteArray) ++ (⟨#[32,116,119,105,99,101]⟩:ByteArray)):=by rw[Hid,HSq0.out];apply ByteArray.ext;apply Array.toList_inj.1;simp[joinS,Lib.join,List.intercalate,List.intersperse,bOf,flagW,wSend,sLose,sDeaf,sTwice]
  go_upto_region 49 with fail;obtain⟨hx3',hE',hO',hb'⟩:=HTl.out w2 HB2.out;exact wp_close (pr49 (o:=O) (s:=(⟨#[115,101,110,100,32]⟩:ByteArray) ++ d1 ++ (⟨#[32,108,111,115,101]⟩:ByteArray) ++ (⟨#[32,100,101,97,102]⟩:ByteArray) ++ (⟨#[32,116,119,105,99,101]⟩:ByteArray)) (le_at HLe HB2.out) hx3' rfl hE' hP HPn.out hC HCn.out hO' HOm.out.1 HOm.out.2 hb' (pr_fin HSq)) (by assumption)
theorem print45_8 {b:PrD}  (H:PrH 8 b):PrG 8 b:=by
 refine pr_go (X:=fun _ _=>True) H trivial ?_;clear H;intro e PP CC qp qc qs n ql qm qk qo qd qt qx A D c d w w1 ecs O ws hP hC hm hk hX HLe HTl HE HW1 HX3 HPn HCn x0 x1 x2 x3 x4 x5 x6 x7 x8 x9 x10 x11 y4 HOm HOq HWs HEc;clear hX;obtain⟨d1,hz1,HDe1,HD1⟩:=dec_go qs;obtain⟨d2,hz2,HDe2,HD2⟩:=dec_go n;have HAL:=hide (fun (v:World) (A:Option Addr) (h:Strs v A liesL)=>at45_any (c:=5) (n:=ql) h (by decide) (by decide));obtain⟨dL,hdL⟩:∃ q,atS liesL ql=q:=⟨_,rfl⟩;have hzL:dL.size≤9000000:=by rw[← hdL];exact atS_size (by decide) _
 have HDeL:=hide hdL;change Hid (∀ (v:World) (A:Option Addr),Strs v A liesL→Calls pG 32 #[vS A 5 5,vI kI ql] v fun e w'=>e=.returned (vT (atS liesL ql))∧w'=v) at HAL;rw[hdL]at HAL;clear hdL;have hlz0:(⟨#[108,105,101,32]⟩:ByteArray).size=4:=rfl;have hlz1:(⟨#[32]⟩:ByteArray).size=1:=rfl;have HSq:Hid (joinS ws=(⟨#[108,105,101,32]⟩:ByteArray) ++ d1 ++ (⟨#[32]⟩:ByteArray) ++ d2 ++ (⟨#[32]⟩:ByteArray) ++ dL):=by rw[Hid,← HWs.out];show joinS [bOf wLie,decS qs,decS n,atS liesL ql]=_;rw[HDe1.out,HDe2.out,HDeL.out];apply ByteArray.ext;apply Array.toList_inj.1;simp[joinS,Lib.join,List.intercalate,List.intersperse,bOf,wLie]
 go_enter Tryz.func13,Tryz.ntmps13;go_upto_region 1 with fail;rw[HW1.out];go_upto_region 38 with fail;refine wp_region_held_drew (S:=fun v=>Below w1.heap.size w1 v) (by kernel_rfl) (below_drew (bR _ _) 1) (fun hH=>?_);refine wT 0 ?xv0 ?xy0 hH ?xr0;case xy0=>intro v hv;go_simp;first|rfl|rw[if_neg (by omega)]
 try simp only[aP,aS,aZ,aU]
 refine wT 1 ?xv1 ?xy1 hH ?xr1;case xy1=>intro v hv;have q0:=(cB (hv.block _ HX3.out.lt)).trans x3;go_simp;first|rfl|rw[if_neg (by omega)]
 try simp only[aP,aS,aZ,aU]
 refine wT 5 ?xv5 ?xy5 hH ?xr5;case xy5=>intro v hv;go_simp;first|rfl|rw[if_neg (by omega)]
 try simp only[aP,aS,aZ,aU]
 refine wT 6 ?xv6 ?xy6 hH ?xr6;case xy6=>intro v hv;have q0:=(cB (hv.block _ HX3.out.lt)).trans x4;go_simp;first|rfl|rw[if_neg (by omega)]
 try simp only[aP,aS,aZ,aU]
 refine wT 11 ?xv11 ?xy11 hH ?xr11;case xy11=>intro v hv;go_simp;first|rfl|rw[if_neg (by omega)]
 try simp only[aP,aS,aZ,aU]
 refine wT 12 ?xv12 ?xy12 hH ?xr12;case xy12=>intro v hv;have q0:=(cB (hv.block _ HX3.out.lt)).trans x5;go_simp;first|rfl|rw[if_neg (by omega)]
 try simp only[aP,aS,aZ,aU]
 refine wR 2 fun K hK=>?_;go_simp;refine(HD1.out (w1.drewN 1)).mono ?_;rintro en w2 ⟨rfl,hbw2⟩;try dsimp only
 have hN:Below w1.heap.size w1 w2:=(below_drew (bR _ _) 1).trans hbw2;have HBw2:=hide hN;clear hbw2;refine hK.out _ _ hN fun hZ=>?_;clear hK hH hN K;have hH:=hZ;clear hZ;try simp only[aP,aS,aZ,aU]
 refine wT 3 ?xv3 ?xy3 hH ?xr3;case xy3=>intro v hv;go_simp;first|rfl|rw[if_neg (by omega)]
 try simp only[aP,aS,aZ,aU]
 refine wT 4 ?xv4 ?xy4 hH ?xr4;case xy4=>intro v hv;go_simp;first|rfl|rw[if_neg (by omega)]
 try simp only[aP,aS,aZ,aU]
 refine wR 7 fun K hK=>?_;go_simp;refine(HD2.out w2).mono ?_;rintro en w3 ⟨rfl,hbw3⟩;try dsimp only
 have hN:Below w1.heap.size w1 w3:=HBw2.out.trans (hbw3.mono HBw2.out.size);have HBw3:=hide hN;clear hbw3;refine hK.out _ _ hN fun hZ=>?_;clear hK hH hN K;have hH:=hZ;clear hZ;try simp only[aP,aS,aZ,aU]
 refine wT 8 ?xv8 ?xy8 hH ?xr8;case xy8=>intro v hv;go_simp;first|rfl|rw[if_neg (by omega)]
 try simp only[aP,aS,aZ,aU]
 refine wT 9 ?xv9 ?xy9 hH ?xr9;case xy9=>intro v hv;go_simp;first|rfl|rw[if_neg (by omega)]
 try simp only[aP,aS,aZ,aU]
 refine wR 10 fun K hK=>?_;go_simp;refine(lies45_any (w:=w3)).mono ?_;rintro en w4 ⟨rfl,hl4,hb4⟩;try dsimp only
 have hN:Below w1.heap.size w1 w4:=HBw3.out.trans (hb4.mono HBw3.out.size);have HBw4:=hide hN;have HL4:=hide hl4;clear hl4 hb4;refine hK.out _ _ hN fun hZ=>?_;clear hK hH hN K;have hH:=hZ;clear hZ;try simp only[aP,aS,aZ,aU]
 refine wR 13 fun K hK=>?_;go_simp;refine(HAL.out w4 _ HL4.out).mono ?_;rintro en w5 ⟨rfl,hw5⟩;try dsimp only
 have hN:Below w1.heap.size w1 w5:=by rw[hw5];exact HBw4.out
 have HBw5:=hide hN;clear hw5;refine hK.out _ _ hN fun hZ=>?_;clear hK hH hN K;have hH:=hZ;clear hZ;try simp only[aP,aS,aZ,aU]
 refine wT 14 ?xv14 ?xy14 hH ?xr14;case xy14=>intro v hv;go_simp;first|rfl|rw[if_neg (by omega)]
 try simp only[aP,aS,aZ,aU]
 refine wT 15 ?xv15 ?xy15 hH ?xr15;case xy15=>intro v hv;go_simp;first|rfl|rw[if_neg (by omega)]
 try simp only[aP,aS,aZ,aU]
 refine wpAnyH_done (by kernel_rfl) ?_ _;go_upto_region 49 with fail;obtain⟨hx3',hE',hO',hb'⟩:=HTl.out w5 HBw5.out;exact wp_close (pr49 (o:=O) (s:=(⟨#[108,105,101,32]⟩:ByteArray) ++ d1 ++ (⟨#[32]⟩:ByteArray) ++ d2 ++ (⟨#[32]⟩:ByteArray) ++ dL) (le_at HLe HBw5.out) hx3' rfl hE' hP HPn.out hC HCn.out hO' HOm.out.1 HOm.out.2 hb' (pr_fin HSq)) (by assumption)
theorem print45_9 {b:PrD}  (H:PrH 9 b):PrG 9 b:=by
 refine pr_go (X:=fun _ _=>True) H trivial ?_;clear H;intro e PP CC qp qc qs n ql qm qk qo qd qt qx A D c d w w1 ecs O ws hP hC hm hk hX HLe HTl HE HW1 HX3 HPn HCn x0 x1 x2 x3 x4 x5 x6 x7 x8 x9 x10 x11 y4 HOm HOq HWs HEc;clear hX;obtain⟨d1,hz1,HDe1,HD1⟩:=dec_go n;have hlz0:(⟨#[118,97,110,105,115,104,32]⟩:ByteArray).size=7:=rfl;have HSq:Hid (joinS ws=(⟨#[118,97,110,105,115,104,32]⟩:ByteArray) ++ d1):=by rw[Hid,← HWs.out];show joinS [bOf wVanish,decS n]=_;rw[HDe1.out];apply ByteArray.ext;apply Array.toList_inj.1;simp[joinS,Lib.join,List.intercalate,List.intersperse,bOf,wVanish]
 go_enter Tryz.func13,Tryz.ntmps13;go_upto_region 1 with fail;rw[HW1.out];go_wp2_with fail;refine(HD1.out w1).mono ?_;rintro en w2 ⟨rfl,hb2⟩;have HB2:=hide hb2;clear hb2;go_upto_region 49 with fail;obtain⟨hx3',hE',hO',hb'⟩:=HTl.out w2 HB2.out;exact wp_close (pr49 (o:=O) (s:=(⟨#[118,97,110,105,115,104,32]⟩:ByteArray) ++ d1) (le_at HLe HB2.out) hx3' rfl hE' hP HPn.out hC HCn.out hO' HOm.out.1 HOm.out.2 hb' (pr_fin HSq)) (by assumption)
theorem print45_10 {b:PrD}  (H:PrH 10 b):PrG 10 b:=by
 refine pr_go (X:=fun _ _=>True) H trivial ?_;clear H;intro e PP CC qp qc qs n ql qm qk qo qd qt qx A D c d w w1 ecs O ws hP hC hm hk hX HLe HTl HE HW1 HX3 HPn HCn x0 x1 x2 x3 x4 x5 x6 x7 x8 x9 x10 x11 y4 HOm HOq HWs HEc;clear hX;have HSq:Hid (joinS ws=(⟨#[99,111,117,110,116]⟩:ByteArray)):=by rw[Hid,← HWs.out];show joinS [bOf wCount]=_;apply ByteArray.ext;apply Array.toList_inj.1;simp[joinS,Lib.join,List.intercalate,List.intersperse,bOf,wCount]
 go_enter Tryz.func13,Tryz.ntmps13;go_upto_region 1 with fail;rw[HW1.out];go_upto_region 49 with fail;obtain⟨hx3',hE',hO',hb'⟩:=HTl.out w1 (bR _ _);exact wp_close (pr49 (o:=O) (s:=(⟨#[99,111,117,110,116]⟩:ByteArray)) HLe.out hx3' rfl hE' hP HPn.out hC HCn.out hO' HOm.out.1 HOm.out.2 hb' (pr_fin HSq)) (by assumption)
theorem print45_13 {b:PrD}  (H:PrH 13 b):PrG 13 b:=by
 refine pr_go (X:=fun _ _=>True) H trivial ?_;clear H;intro e PP CC qp qc qs n ql qm qk qo qd qt qx A D c d w w1 ecs O ws hP hC hm hk hX HLe HTl HE HW1 HX3 HPn HCn x0 x1 x2 x3 x4 x5 x6 x7 x8 x9 x10 x11 y4 HOm HOq HWs HEc;clear hX;have HSq:Hid (joinS ws=(⟨#[102,105,110,105,115,104]⟩:ByteArray)):=by rw[Hid,← HWs.out];show joinS [bOf wFinish]=_;apply ByteArray.ext;apply Array.toList_inj.1;simp[joinS,Lib.join,List.intercalate,List.intersperse,bOf,wFinish]
 go_enter Tryz.func13,Tryz.ntmps13;go_upto_region 1 with fail;rw[HW1.out];go_upto_region 49 with fail;obtain⟨hx3',hE',hO',hb'⟩:=HTl.out w1 (bR _ _);exact wp_close (pr49 (o:=O) (s:=(⟨#[102,105,110,105,115,104]⟩:ByteArray)) HLe.out hx3' rfl hE' hP HPn.out hC HCn.out hO' HOm.out.1 HOm.out.2 hb' (pr_fin HSq)) (by assumption)
theorem print45_11a {b:PrD}(ht:b.text.size≤200) (H:PrH 11 b):PrG 11 b:=by
 refine pr_go (X:=fun _ t=>t.size≤200) H ht ?_;clear H;intro e PP CC qp qc qs n ql qm qk qo qd qt qx A D c d w w1 ecs O ws hP hC hm hk hX HLe HTl HE HW1 HX3 HPn HCn x0 x1 x2 x3 x4 x5 x6 x7 x8 x9 x10 x11 y4 HOm HOq HWs HEc;have ht:qx.size≤200:=hX;clear hX;have hlz0:(⟨#[115,101,101,100,32]⟩:ByteArray).size=5:=rfl;have hmn:min qx.size 200=qx.size:=by omega
 have hmi:min (qx.size:Int) 200=(qx.size:Int):=by omega
 have HMn:=hide hmn;have HSq:Hid (joinS ws=(⟨#[115,101,101,100,32]⟩:ByteArray) ++ qx):=by rw[Hid,← HWs.out];show joinS [bOf [115,101,101,100],qx.extract 0 (min qx.size 200)]=_;rw[HMn.out,show qx.extract 0 qx.size=qx from by simp];apply ByteArray.ext;apply Array.toList_inj.1;simp[joinS,Lib.join,List.intercalate,List.intersperse,bOf]
 have hez:(qx.extract 0 qx.size).size≤200:=by rw[ByteArray.size_extract];omega
 clear hmn;go_enter Tryz.func13,Tryz.ntmps13;go_upto_region 1 with fail;rw[HW1.out];go_upto_region 49 with fail;obtain⟨hx3',hE',hO',hb'⟩:=HTl.out w1 (bR _ _);exact wp_close (pr49 (o:=O) (s:=(⟨#[115,101,101,100,32]⟩:ByteArray) ++ qx) HLe.out hx3' rfl hE' hP HPn.out hC HCn.out hO' HOm.out.1 HOm.out.2 hb' (pr_fin HSq)) (by assumption)
theorem print45_11b {b:PrD}(ht:200 < b.text.size∧b.text.size≤9223372036854775807) (H:PrH 11 b):PrG 11 b:=by
 refine pr_go (X:=fun _ t=>200 < t.size∧t.size≤9223372036854775807) H ht ?_;clear H;intro e PP CC qp qc qs n ql qm qk qo qd qt qx A D c d w w1 ecs O ws hP hC hm hk hX HLe HTl HE HW1 HX3 HPn HCn x0 x1 x2 x3 x4 x5 x6 x7 x8 x9 x10 x11 y4 HOm HOq HWs HEc;obtain⟨ht,ht2⟩:200 < qx.size∧qx.size≤9223372036854775807:=hX;have hlz0:(⟨#[115,101,101,100,32]⟩:ByteArray).size=5:=rfl;have hmn:min qx.size 200=200:=by omega
 have hmi:min (qx.size:Int) 200=(200:Int):=by omega
 have HMn:=hide hmn;have HSq:Hid (joinS ws=(⟨#[115,101,101,100,32]⟩:ByteArray) ++ qx.extract 0 200):=by rw[Hid,← HWs.out];show joinS [bOf [115,101,101,100],qx.extract 0 (min qx.size 200)]=_;rw[HMn.out];apply ByteArray.ext;apply Array.toList_inj.1;simp[joinS,Lib.join,List.intercalate,List.intersperse,bOf]
 have hez:(qx.extract 0 200).size≤200:=by rw[ByteArray.size_extract];omega
 clear hmn;go_enter Tryz.func13,Tryz.ntmps13;go_upto_region 1 with fail;rw[HW1.out];go_upto_region 49 with fail;obtain⟨hx3',hE',hO',hb'⟩:=HTl.out w1 (bR _ _);exact wp_close (pr49 (o:=O) (s:=(⟨#[115,101,101,100,32]⟩:ByteArray) ++ qx.extract 0 200) HLe.out hx3' rfl hE' hP HPn.out hC HCn.out hO' HOm.out.1 HOm.out.2 hb' (pr_fin HSq)) (by assumption)
theorem print45_12 {b:PrD}  (H:PrH 12 b):PrG 12 b:=by
 refine pr_go (X:=fun _ _=>True) H trivial ?_;clear H;intro e PP CC qp qc qs n ql qm qk qo qd qt qx A D c d w w1 ecs O ws hP hC hm hk hX HLe HTl HE HW1 HX3 HPn HCn x0 x1 x2 x3 x4 x5 x6 x7 x8 x9 x10 x11 y4 HOm HOq HWs HEc;clear hX;obtain⟨d2,hz2,HDe2,HD2⟩:=dec_go n;have HCt:=hide (fun (v:World) (hv:Below w1.heap.size w1 v)=>contests45_any (e:=e) (p:=PP.length) (Cons.below HE.out.2 hv) (by omega));rw[HEc.out]at HCt;have HAC:=hide (fun (v:World) (A:Option Addr) (c:Nat) (h:Strs v A CC)=>at45_any (c:=c) (n:=qc) h (by omega) HCn.out);obtain⟨dC,hdC⟩:∃ q,atS CC qc=q:=⟨_,rfl⟩;have hzC:dC.size≤9000000:=by rw[← hdC];exact atS_size HCn.out _
 have HDeC:=hide hdC;change Hid (∀ (v:World) (A:Option Addr) (c:Nat),Strs v A CC→Calls pG 32 #[vS A CC.length c,vI kI qc] v fun e w'=>e=.returned (vT (atS CC qc))∧w'=v) at HAC;rw[hdC]at HAC;clear hdC;have hlz0:(⟨#[97,117,100,105,116,32]⟩:ByteArray).size=6:=rfl;have hlz1:(⟨#[32]⟩:ByteArray).size=1:=rfl;have HSq:Hid (joinS ws=(⟨#[97,117,100,105,116,32]⟩:ByteArray) ++ dC ++ (⟨#[32]⟩:ByteArray) ++ d2):=by rw[Hid,← HWs.out];show joinS [bOf wAudit,atS CC qc,decS n]=_;rw[HDeC.out,HDe2.out];apply ByteArray.ext;apply Array.toList_inj.1;simp[joinS,Lib.join,List.intercalate,List.intersperse,bOf,wAudit]
 go_enter Tryz.func13,Tryz.ntmps13;go_upto_region 1 with fail;rw[HW1.out];go_upto_region 46 with fail;refine wp_region_held_drew (S:=fun v=>Below w1.heap.size w1 v) (by kernel_rfl) (below_drew (bR _ _) 1) (fun hH=>?_);refine wT 0 ?xv0 ?xy0 hH ?xr0;case xy0=>intro v hv;refine Eq.trans (b:=Result.ok (Next.value (.agg ecs)) v) (gives_load rfl rfl (by rw[← HEc.out];exact HLe.out v hv)) ?_;first|rfl|rw[if_neg (by omega)]
 try simp only[aP,aS,aZ,aU]
 refine wT 2 ?xv2 ?xy2 hH ?xr2;case xy2=>intro v hv;go_simp;first|rfl|rw[if_neg (by omega)]
 try simp only[aP,aS,aZ,aU]
 refine wT 3 ?xv3 ?xy3 hH ?xr3;case xy3=>intro v hv;have q0:=(cB (hv.block _ HX3.out.lt)).trans x2;go_simp;first|rfl|rw[if_neg (by omega)]
 try simp only[aP,aS,aZ,aU]
 refine wT 7 ?xv7 ?xy7 hH ?xr7;case xy7=>intro v hv;go_simp;first|rfl|rw[if_neg (by omega)]
 try simp only[aP,aS,aZ,aU]
 refine wT 8 ?xv8 ?xy8 hH ?xr8;case xy8=>intro v hv;have q0:=(cB (hv.block _ HX3.out.lt)).trans x4;go_simp;first|rfl|rw[if_neg (by omega)]
 try simp only[aP,aS,aZ,aU]
 refine wR 1 fun K hK=>?_;go_simp;refine(HCt.out (w1.drewN 1) (below_drew (bR _ _) 1)).mono ?_;rintro en w2 ⟨v2,rfl,hO2,hb2⟩;obtain⟨A4,c4,rfl,hc4,hL4,_⟩:=hO2.form;try dsimp only
 have hN:Below w1.heap.size w1 w2:=(below_drew (bR _ _) 1).trans hb2;have HBw2:=hide hN;have HL4:Hid (Strs w2 A4 CC):=hL4.mono fun i hi=>hi.1;clear hO2 hb2 hL4 hc4;refine hK.out _ _ hN fun hZ=>?_;clear hK hH hN K;have hH:=hZ;clear hZ;try simp only[aP,aS,aZ,aU]
 refine wR 4 fun K hK=>?_;go_simp;refine(HAC.out w2 A4 c4 HL4.out).mono ?_;rintro en w3 ⟨rfl,hw3⟩;try dsimp only
 have hN:Below w1.heap.size w1 w3:=by rw[hw3];exact HBw2.out
 have HBw3:=hide hN;clear hw3;refine hK.out _ _ hN fun hZ=>?_;clear hK hH hN K;have hH:=hZ;clear hZ;try simp only[aP,aS,aZ,aU]
 refine wT 5 ?xv5 ?xy5 hH ?xr5;case xy5=>intro v hv;go_simp;first|rfl|rw[if_neg (by omega)]
 try simp only[aP,aS,aZ,aU]
 refine wT 6 ?xv6 ?xy6 hH ?xr6;case xy6=>intro v hv;go_simp;first|rfl|rw[if_neg (by omega)]
 try simp only[aP,aS,aZ,aU]
 refine wR 9 fun K hK=>?_;go_simp;refine(HD2.out w3).mono ?_;rintro en w4 ⟨rfl,hbw4⟩;try dsimp only
 have hN:Below w1.heap.size w1 w4:=HBw3.out.trans (hbw4.mono HBw3.out.size);have HBw4:=hide hN;clear hbw4;refine hK.out _ _ hN fun hZ=>?_;clear hK hH hN K;have hH:=hZ;clear hZ;try simp only[aP,aS,aZ,aU]
 refine wT 10 ?xv10 ?xy10 hH ?xr10;case xy10=>intro v hv;go_simp;first|rfl|rw[if_neg (by omega)]
 try simp only[aP,aS,aZ,aU]
 refine wT 11 ?xv11 ?xy11 hH ?xr11;case xy11=>intro v hv;go_simp;first|rfl|rw[if_neg (by omega)]
 try simp only[aP,aS,aZ,aU]
 refine wpAnyH_done (by kernel_rfl) ?_ _;go_upto_region 49 with fail;obtain⟨hx3',hE',hO',hb'⟩:=HTl.out w4 HBw4.out;exact wp_close (pr49 (o:=O) (s:=(⟨#[97,117,100,105,116,32]⟩:ByteArray) ++ dC ++ (⟨#[32]⟩:ByteArray) ++ d2) (le_at HLe HBw4.out) hx3' rfl hE' hP HPn.out hC HCn.out hO' HOm.out.1 HOm.out.2 hb' (pr_fin HSq)) (by assumption)
theorem print45_0 {kind:Int}{b:PrD}(h1:¬ kind=1) (h2:¬ kind=2) (h3:¬ kind=3) (h4:¬ kind=4) (h5:¬ kind=5) (h6:¬ kind=6) (h7:¬ kind=7) (h8:¬ kind=8) (h9:¬ kind=9) (h10:¬ kind=10) (h11:¬ kind=11) (h12:¬ kind=12) (h13:¬ kind=13) (H:PrH kind b):PrG kind b:=by
 refine pr_go (X:=fun _ _=>True) H trivial ?_;clear H;intro e PP CC qp qc qs n ql qm qk qo qd qt qx A D c d w w1 ecs O ws hP hC hm hk hX HLe HTl HE HW1 HX3 HPn HCn x0 x1 x2 x3 x4 x5 x6 x7 x8 x9 x10 x11 y4 HOm HOq HWs HEc;clear hX;have HSq:Hid (joinS ws=⟨#[]⟩):=by rw[Hid,← HWs.out];unfold wordsG cutO;rw[if_neg h1,if_neg h2,if_neg h3,if_neg h4,if_neg h5,if_neg h6,if_neg h7,if_neg h8,if_neg h9,if_neg h10,if_neg h11,if_neg h12,if_neg h13];rfl
 have g1:(kind==1)=false:=bN h1;have g2:(kind==2)=false:=bN h2;have g3:(kind==3)=false:=bN h3;have g4:(kind==4)=false:=bN h4;have g5:(kind==5)=false:=bN h5;have g6:(kind==6)=false:=bN h6;have g7:(kind==7)=false:=bN h7;have g8:(kind==8)=false:=bN h8;have g9:(kind==9)=false:=bN h9;have g10:(kind==10)=false:=bN h10;have g11:(kind==11)=false:=bN h11;have g12:(kind==12)=false:=bN h12;have g13:(kind==13)=false:=bN h13;clear h1 h2 h3 h4 h5 h6 h7 h8 h9 h10 h11 h12 h13;go_enter Tryz.func13,Tryz.ntmps13;go_upto_region 1 with fail;rw[HW1.out];go_upto_region 49 with fail;obtain⟨hx3',hE',hO',hb'⟩:=HTl.out w1 (bR _ _);exact wp_close (pr49 (o:=O) (s:=⟨#[]⟩) HLe.out hx3' rfl hE' hP HPn.out hC HCn.out hO' HOm.out.1 HOm.out.2 hb' (pr_fin HSq)) (by assumption)
end
section
set_option maxHeartbeats 16000000
set_option maxRecDepth 1000000
theorem print45_1 {b:PrD}  (H:PrH 1 b):PrG 1 b:=by
 refine pr_go (X:=fun _ _=>True) H trivial ?_;clear H;intro e PP CC qp qc qs n ql qm qk qo qd qt qx A D c d w w1 ecs O ws hP hC hm hk hX HLe HTl HE HW1 HX3 HPn HCn x0 x1 x2 x3 x4 x5 x6 x7 x8 x9 x10 x11 y4 HOm HOq HWs HEc;clear hX;have HA:=hide (fun (v:World) (hv:Below w1.heap.size w1 v)=>at45_any (c:=e.pc) (n:=qp) (ListIn.below HE.out.1 hv) (by omega) HPn.out);obtain⟨dA,hdA⟩:∃ q,atS PP qp=q:=⟨_,rfl⟩;have hzA:dA.size≤9000000:=by rw[← hdA];exact atS_size HPn.out _
 have HDeA:=hide hdA;change Hid (∀ (v:World),Below w1.heap.size w1 v→Calls pG 32 #[vS e.pa PP.length e.pc,vI kI qp] v fun e w'=>e=.returned (vT (atS PP qp))∧w'=v) at HA;rw[hdA]at HA;clear hdA;have hlz0:(⟨#[105,115,115,117,101,32]⟩:ByteArray).size=6:=rfl;have hlz1:(⟨#[32]⟩:ByteArray).size=1:=rfl;have hmi:(qm.length:Int)≤1000000:=by omega
 have HMk:Hid (Ints w1 A qm):=by obtain⟨A',c',D',d',e',h1,_⟩:=(HTl.out w1 (bR _ _)).2.2.1;injection e' with e';rw[← HOq.out]at h1 e';have:=congrArg (fun a:Array Value=>a[6]?) e';simp[Opn.cells]at this;rw[this.1];exact h1
 have HS0:Hid (⟨#[105,115,115,117,101,32]⟩ ++ dA=joinS [sIssue,dA]):=by rw[Hid];apply ByteArray.ext;apply Array.toList_inj.1;simp[joinS,Lib.join,List.intercalate,List.intersperse,bOf,sIssue]
 go_enter Tryz.func13,Tryz.ntmps13;go_upto_region 1 with fail;rw[HW1.out];go_wp2_with fail;refine(HA.out _ (bR _ _)).mono ?_;rintro en w2 ⟨rfl,rfl⟩;go_upto_block 1 with fail;go_wp2_with fail;go_loopw [6,7] (fun v i wr=>∃ k:Nat,k≤qm.length∧k≤200∧i=vI kI k∧∃ s:ByteArray,v=vT s∧s.size≤9000100+k * 40∧Hid (s=joinS ([sIssue,dA] ++ (qm.take k).map decS))∧Hid (Below w2.heap.size w2 wr)) (fun _ i _=>qm.length - (iOf i).toNat);case atStart=>exact⟨0,zL _,by omega,rfl,_,rfl,by rw[ByteArray.size_append];omega,by rw[Hid,HS0.out];simp,bR _ _⟩
 case round=>
  obtain⟨k,hk1,hk2,rfl,s,rfl,hsz,HS,HB⟩:=hrel;have x6:=(HB.out.cell (p:=⟨w.heap.size+1,6,none⟩) HX3.out.lt).trans x6;have hwl:=HB.out.size;by_cases hlt:k < qm.length
  ·by_cases h200:k < 200
   ·obtain⟨mb,mo,rfl,hmb,h0⟩:=HMk.out.at_ hlt;have h0:=(HB.out.cell (p:=⟨mb,mo+k,none⟩) hmb).trans h0;have hts:Hid (qm.take (k+1)=qm.take k ++ [qm.getD k default]):=take_succD hlt;generalize qm.getD k default=m at *;simp only[iv]at h0;have HD:=hide (fun (v:World)=>dec45_any (n:=m) (w:=v));obtain⟨dm,hdm⟩:∃ q,decS m=q:=⟨_,rfl⟩;have hzm:dm.size≤30:=by rw[← hdm];exact decS_size _
    change Hid (∀ v:World,Calls pG 33 #[vI kI m] v fun e w'=>e=.returned (vT (decS m))∧Below v.heap.size v w') at HD;rw[hdm]at HD;have HN:Hid (s ++ (⟨#[32]⟩ ++ dm)=joinS ([sIssue,dA] ++ (qm.take (k+1)).map decS)):=by rw[Hid,hts.out,List.map_append,← List.append_assoc,List.map_cons,List.map_nil,hdm,joinS_snoc (by simp),HS.out]
    clear hdm hts;have hz2:((⟨#[32]⟩:ByteArray) ++ dm).size≤31:=by rw[ByteArray.size_append];have:(⟨#[32]⟩:ByteArray).size=1:=rfl;omega
    go_wp2_with fail;refine(HD.out _).mono ?_;rintro en w3 ⟨rfl,hb3⟩;have HB3:Hid (Below w2.heap.size w2 w3):=HB.out.trans (hb3.mono HB.out.size);clear hb3;go_wp2_with fail;go_roundw;case rel=>exact⟨k+1,by omega,by omega,by go_num,_,rfl,by rw[ByteArray.size_append];omega,HN.out,HB3.out⟩
    case measure=>simp[iOf];omega
   ·obtain rfl:k=200:=by omega
    have HSq:Hid (joinS ws=s):=by rw[Hid,HS.out,← HWs.out,← HDeA.out];rfl
    go_upto_region 49 with fail;obtain⟨hx3',hE',hO',hb'⟩:=HTl.out wr HB.out;exact wp_close (pr49 (o:=O) (s:=s) (le_at HLe HB.out) hx3' rfl hE' hP HPn.out hC HCn.out hO' HOm.out.1 HOm.out.2 hb' (pr_fin HSq)) (by assumption)
  ·have HE2:Hid (s=joinS ([sIssue,dA] ++ (qm.take 200).map decS)):=by rw[Hid,HS.out,List.take_of_length_le (by omega),List.take_of_length_le (by omega)]
   obtain rfl:k=qm.length:=by omega
   have HSq:Hid (joinS ws=s):=by rw[Hid,HE2.out,← HWs.out,← HDeA.out];rfl
   go_upto_region 49 with fail;obtain⟨hx3',hE',hO',hb'⟩:=HTl.out wr HB.out;exact wp_close (pr49 (o:=O) (s:=s) (le_at HLe HB.out) hx3' rfl hE' hP HPn.out hC HCn.out hO' HOm.out.1 HOm.out.2 hb' (pr_fin HSq)) (by assumption)
theorem print45_5 {b:PrD}  (H:PrH 5 b):PrG 5 b:=by
 refine pr_go (X:=fun _ _=>True) H trivial ?_;clear H;intro e PP CC qp qc qs n ql qm qk qo qd qt qx A D c d w w1 ecs O ws hP hC hm hk hX HLe HTl HE HW1 HX3 HPn HCn x0 x1 x2 x3 x4 x5 x6 x7 x8 x9 x10 x11 y4 HOm HOq HWs HEc;clear hX;obtain⟨d1,hz1,HDe1,HD1⟩:=dec_go qs;have hlz0:(⟨#[114,101,115,116,97,114,116,32]⟩:ByteArray).size=8:=rfl;have hlz1:(⟨#[32]⟩:ByteArray).size=1:=rfl;have hlz2:(⟨#[48]⟩:ByteArray).size=1:=rfl;have hlz3:(⟨#[49]⟩:ByteArray).size=1:=rfl;have hlz4:(⟨#[45]⟩:ByteArray).size=1:=rfl;have hmi:(qk.length:Int)≤1000000:=by omega
 have HKk:Hid (Bools w1 D qk):=by obtain⟨A',c',D',d',e',_,_,h1,_⟩:=(HTl.out w1 (bR _ _)).2.2.1;injection e' with e';rw[← HOq.out]at h1 e';have:=congrArg (fun a:Array Value=>a[7]?) e';simp[Opn.cells]at this;rw[this.1];exact h1
 obtain⟨s0,hs0⟩:∃ q,(⟨#[114,101,115,116,97,114,116,32]⟩:ByteArray) ++ d1 ++ (⟨#[32]⟩:ByteArray)=q:=⟨_,rfl⟩;have hsz0:s0.size≤100:=by rw[← hs0,ByteArray.size_append,ByteArray.size_append];omega
 have HSr:Hid (∀ y:List UInt8,joinS [bOf wRestart,d1,bOf y]=s0 ++ bOf y):=fun y=>by rw[← hs0];apply ByteArray.ext;apply Array.toList_inj.1;simp[joinS,Lib.join,List.intercalate,List.intersperse,bOf,wRestart]
 have HS0:=hide hs0;clear hs0;go_enter Tryz.func13,Tryz.ntmps13;go_upto_region 1 with fail;rw[HW1.out];go_wp2_with fail;refine(HD1.out w1).mono ?_;rintro en w2 ⟨rfl,hb2⟩;have HB2:=hide hb2;have x7b:=(hb2.cell (p:=⟨w.heap.size+1,7,none⟩) HX3.out.lt).trans x7;clear hb2 x7;go_upto_block 3 with fail;rw[HS0.out];go_cut [6] (fun v wx=>∃ s:ByteArray,v=vT s∧s.size≤1000∧Hid (s=s0 ++ bOf ((qk.take 200).map chB))∧Hid (Below w2.heap.size w2 wx));case first=>
  go_wp2_with fail;go_loopw [6,8] (fun v i wr=>∃ k:Nat,k≤qk.length∧k≤200∧i=vI kI k∧∃ s:ByteArray,v=vT s∧s.size≤100+k∧Hid (s=s0 ++ bOf ((qk.take k).map chB))∧Hid (Below w2.heap.size w2 wr)) (fun _ i _=>qk.length - (iOf i).toNat);case atStart=>exact⟨0,zL _,by omega,rfl,_,rfl,by omega,by rw[Hid];apply ByteArray.ext;simp[bOf],bR _ _⟩
  case round=>
   obtain⟨k,hk1,hk2,rfl,s,rfl,hsz,HS,HB⟩:=hrel;have x7:=(HB.out.cell (p:=⟨w.heap.size+1,7,none⟩) (lL HX3.out.lt HB2.out.size)).trans x7b;by_cases hlt:k < qk.length
   ·by_cases h200:k < 200
    ·obtain⟨mb,mo,rfl,hmb,h0⟩:=HKk.out.at_ hlt;have h0:=((HB2.out.trans (HB.out.mono HB2.out.size)).cell (p:=⟨mb,mo+k,none⟩) hmb).trans h0;have HN:Hid (s ++ bOf [chB (qk.getD k default)]=s0 ++ bOf ((qk.take (k+1)).map chB)):=by rw[Hid,take_succD hlt,HS.out];apply ByteArray.ext;simp[bOf]
     generalize qk.getD k default=m at *;cases m with
     |true=>
      have HN:Hid (s ++ ⟨#[49]⟩=s0 ++ bOf ((qk.take (k+1)).map chB)):=HN.out;go_wp2_with fail;go_roundw;case rel=>exact⟨k+1,by omega,by omega,by go_num,_,rfl,by rw[ByteArray.size_append];omega,HN.out,HB.out⟩
      case measure=>simp[iOf];omega
     |false=>
      have HN:Hid (s ++ ⟨#[48]⟩=s0 ++ bOf ((qk.take (k+1)).map chB)):=HN.out;go_wp2_with fail;go_roundw;case rel=>exact⟨k+1,by omega,by omega,by go_num,_,rfl,by rw[ByteArray.size_append];omega,HN.out,HB.out⟩
      case measure=>simp[iOf];omega
    ·obtain rfl:k=200:=by omega
     go_wp2_with fail;go_meet;exact⟨_,rfl,by omega,HS.out,HB.out⟩
   ·have HE2:Hid (s=s0 ++ bOf ((qk.take 200).map chB)):=by rw[Hid,HS.out,List.take_of_length_le (by omega),List.take_of_length_le (by omega)]
    obtain rfl:k=qk.length:=by omega
    go_wp2_with fail;go_meet;exact⟨_,rfl,by omega,HE2.out,HB.out⟩
 case rest=>
  obtain⟨s,rfl,hsz,HS,HB⟩:=hcut;have HBc:Hid (Below w1.heap.size w1 wc):=HB2.out.trans (HB.out.mono HB2.out.size);have x7:=(HB.out.cell (p:=⟨w.heap.size+1,7,none⟩) (lL HX3.out.lt HB2.out.size)).trans x7b;have HW5:Hid (joinS ws=joinS [bOf wRestart,d1,choicesS (qk.take 200)]):=by rw[Hid,← HWs.out,← HDe1.out];rfl
  cases qk with
  |nil=>
   have HSq:Hid (joinS ws=s ++ ⟨#[45]⟩):=by rw[Hid,HW5.out,HS.out];show joinS [bOf wRestart,d1,bOf [45]]=_;rw[HSr.out];apply ByteArray.ext;simp[bOf]
   go_upto_region 49 with fail;obtain⟨hx3',hE',hO',hb'⟩:=HTl.out wc HBc.out;exact wp_close (pr49 (o:=O) (s:=s ++ (⟨#[45]⟩:ByteArray)) (le_at HLe HBc.out) hx3' rfl hE' hP HPn.out hC HCn.out hO' HOm.out.1 HOm.out.2 hb' (pr_fin HSq)) (by assumption)
  |cons m t=>
   have hne:(((t.length:Int)+1)==0)=false:=bN (by omega);have HSq:Hid (joinS ws=s):=by rw[Hid,HW5.out,HS.out,← HSr.out];rfl
   go_upto_region 49 with fail;obtain⟨hx3',hE',hO',hb'⟩:=HTl.out wc HBc.out;exact wp_close (pr49 (o:=O) (s:=s) (le_at HLe HBc.out) hx3' rfl hE' hP HPn.out hC HCn.out hO' HOm.out.1 HOm.out.2 hb' (pr_fin HSq)) (by assumption)
set_option maxHeartbeats 200000
set_option maxRecDepth 512
theorem print45_any {e:EV}{PP CC:List ByteArray}{o:Opn}{v:Value}{w:World}(hE:Elec w e PP CC) (hP:PP.length≤1000) (hPn:∀ s ∈ PP,s.size≤3000000) (hC:CC.length≤1000) (hCn:∀ s ∈ CC,s.size≤3000000) (hO:OpV (All w) w v o) (hm:o.marks.length≤1000000) (hk:o.keep.length≤1000000) (ht:o.text.size≤9223372036854775807) :
  Calls pG 13 #[.agg (e.cells PP.length CC.length),v] w (PrintTo PP CC (wordsG atS decS PP CC (cutO o)) o w):=by
 have hO2:=hO;obtain⟨A,c,D,d,rfl,_⟩:=hO;obtain⟨kind,qp,qc,qs,n,ql,qm,qk,qo,qd,qt,qx⟩:=o;have H:PrH kind ⟨e,PP,CC,qp,qc,qs,n,ql,qm,qk,qo,qd,qt,qx,A,D,c,d,w⟩:=⟨hE,hP,hPn,hC,hCn,hO2,hm,hk⟩;show PrG kind ⟨e,PP,CC,qp,qc,qs,n,ql,qm,qk,qo,qd,qt,qx,A,D,c,d,w⟩;by_cases h1:kind=1
 ·subst h1;exact print45_1 H
 by_cases h2:kind=2
 ·subst h2;exact print45_2 H
 by_cases h3:kind=3
 ·subst h3;exact print45_3 H
 by_cases h4:kind=4
 ·subst h4;exact print45_4 H
 by_cases h5:kind=5
 ·subst h5;exact print45_5 H
 by_cases h6:kind=6
 ·subst h6;by_cases hn:n=1
  ·exact print45_6a hn H
  ·exact print45_6b hn H
 by_cases h7:kind=7
 ·subst h7;exact print45_7 H
 by_cases h8:kind=8
 ·subst h8;exact print45_8 H
 by_cases h9:kind=9
 ·subst h9;exact print45_9 H
 by_cases h10:kind=10
 ·subst h10;exact print45_10 H
 by_cases h11:kind=11
 ·subst h11;by_cases hz:qx.size≤200
  ·exact print45_11a hz H
  ·exact print45_11b ⟨Nat.lt_of_not_le hz,ht⟩ H
 by_cases h12:kind=12
 ·subst h12;exact print45_12 H
 by_cases h13:kind=13
 ·subst h13;exact print45_13 H
 exact print45_0 h1 h2 h3 h4 h5 h6 h7 h8 h9 h10 h11 h12 h13 H
end
end Go.Proofs.YtnndaemmgbkjbaaGreatDoor
