/-
  console.Parse: a line that is no seed.
-/
import Derived.Test.YtnndaemmgbkjbaaDoorWIssue
namespace Go.Proofs.YtnndaemmgbkjbaaDoor
open Go.RowKit
set_option linter.unusedVariables false
set_option linter.unusedSimpArgs false

theorem aggE : AggT 34 14 := by
  refine ⟨?_, fun w => ?_⟩
  · have h : (Tryd.prog.info? 34).map (fun i => i.size) = some 14 := by kernel_rfl
    obtain ⟨i0, h1, h2⟩ := Option.map_eq_some_iff.1 h
    exact ⟨i0, h1, h2⟩
  · unfold isAgg
    rw [Sem.run_bind, run_underlying Tryd.underlying34 w]
    rfl
def sSeed : ByteArray := ⟨#[115, 101, 101, 100, 32]⟩
/-- words gives this operation, whatever the world -/
def WordsTo (ecs : Array Value) (w0 : World) (x0 : ByteArray) (l : List ByteArray) (o : Opn) (ok : Bool) : Prop :=
  ∀ (wq : World) (B : Option Addr) (d : Nat), Below w0.heap.size w0 wq → Strs wq B l → l.length ≤ d → d ≤ 1000 →
    Calls Tryd.prog 14 #[.agg ecs, .string x0, .slice B l.length d] wq fun en w' => ∃ v, en = .returned (.tuple #[v, .bool ok]) ∧ OpV (fun i => wq.heap.size ≤ i ∧ i < w'.heap.size) w' v o ∧ Below wq.heap.size wq w'
theorem EV.one (e : EV) (p c : Nat) : OneC (e.cells p c) := by
  intro v hv
  simp only [EV.cells, List.mem_cons, List.not_mem_nil, or_false] at hv
  rcases hv with rfl | rfl | rfl | rfl | rfl | rfl | rfl | rfl | rfl | rfl | rfl | rfl | rfl | rfl <;> rfl
/-- the world behind the boxes of Parse: the election, the result -/
theorem parse_boxes {w : World} {e : EV} {p c : Nat} : ∃ w1, (w.alloc (.cells (e.cells p c) 34)).alloc (.cells (zeroO.cells none 0 none 0) 39) = w1 ∧ w1.heap.size = w.heap.size + 1 + 1 ∧ Below w.heap.size w w1 ∧
    Box w1 w.heap.size 34 (e.cells p c) ∧ Box w1 (w.heap.size + 1) 39 (zeroO.cells none 0 none 0) := by
  refine ⟨_, rfl, by simp, ((Below.refl _ _).alloc (Nat.le_refl _) _).alloc (by simp) _, ?_, ?_⟩
  · exact (Box.new _ _ _).alloc _
  · have := Box.new (w.alloc (.cells (e.cells p c) 34)) 39 (zeroO.cells none 0 none 0)
    rwa [World.size_alloc] at this
/-- an operation in a box of its own, above B -/
def OBox (B : Nat) (w : World) (g : Nat) (o : Opn) : Prop := ∃ A c D d, Box w g 39 (o.cells A c D d) ∧ OpV (fun i => B ≤ i ∧ i < w.heap.size ∧ i ≠ g) w (.agg (o.cells A c D d)) o ∧ B ≤ g
theorem obox_of {B : Nat} {w w5 : World} {g : Nat} {o : Opn} {A : Option Addr} {c : Nat} {D : Option Addr} {d : Nat} {F : Nat → Prop} (hV : OpV F w (.agg (o.cells A c D d)) o) (hX : Box w5 g 39 (o.cells A c D d)) (hg : w.grownBy w5 (some g)) (hF : ∀ i, F i → B ≤ i ∧ i < w.heap.size ∧ i ≠ g) (hB : B ≤ g) : OBox B w5 g o := by
  refine ⟨A, c, D, d, hX, ?_, hB⟩
  refine (hV.agree (F := F) fun i hi => hg.block i (hF i hi).2.1 fun e => (hF i hi).2.2 (Option.some.inj e)).mono fun i hi => ⟨(hF i hi).1, Nat.lt_of_lt_of_le (hF i hi).2.1 hg.size, (hF i hi).2.2⟩
set_option maxHeartbeats 16000000 in
set_option maxRecDepth 100000 in
theorem parse_words {e : EV} {P C : List ByteArray} {line x0 : ByteArray} {l : List ByteArray} {o : Opn} {ok : Bool} {w : World} (hsz : line.size ≤ 200) (hp : Lib.hasPrefix line.data.toList [115, 101, 101, 100, 32] = false) (hsp : splitW line = x0 :: l) (hM : Max w) (hW : WordsTo (e.cells P.length C.length) w x0 l o ok) :
    Calls Tryd.prog 8 #[.agg (e.cells P.length C.length), .string line] w fun en w' => ∃ v, en = .returned (.tuple #[v, .bool ok]) ∧ OpV (fun i => w.heap.size ≤ i ∧ i < w'.heap.size) w' v (if ok = true then o else zeroO) ∧ Below w.heap.size w w' := by
  obtain ⟨w1, hw1, hs1, hb1, hXe, hXr⟩ := parse_boxes (w := w) (e := e) (p := P.length) (c := C.length)
  have hS := split_any (s := line) (by omega) (hM.below hb1)
  rw [hsp] at hS
  have HS := hide hS
  have HXe := hide hXe
  have HXr := hide hXr
  have HB1 := hide hb1
  have HW1 := hide hw1
  have HWd := hide hW
  have HCut := hide (Tryd.strings_CutPrefix line sSeed w1)
  rw [show Lib.hasPrefix line.data.toList sSeed.data.toList = false from hp] at HCut
  have hls : l.length ≤ 200 := by
    have h1 := splitW_length line
    have h2 := count_le_size line 32
    rw [hsp, List.length_cons] at h1
    have h3 : Lib.countB line ⟨#[32]⟩ ≤ line.size := h2
    omega
  clear hp hsp hM hW hw1 hb1 hXe hXr hS
  obtain ⟨ecs, hecs⟩ : ∃ q, q = e.cells P.length C.length := ⟨_, rfl⟩
  rw [← hecs] at HWd
  have HEc := hide hecs
  clear hecs
  obtain ⟨title, dots, blank, marked, pa, pc, ca, cc, sa, sn, sc, scanners, batch, neg, na, nn, nc, da, dn, dc, cell, seed⟩ := e
  unfold EV.cells at *
  simp only [] at *
  go_enter Tryd.func8, Tryd.ntmps8
  go_upto_region 1 with (fail)
  rw [show (w.alloc (.cells #[.string title, .int .i64 dots, .int .i64 blank, .int .i64 marked, .slice pa P.length pc, .slice ca C.length cc, .slice sa sn sc, .int .i64 scanners, .int .i64 batch, .bool neg, .slice na nn nc, .slice da dn dc, .int .i64 cell, .string seed] 34)).alloc (.cells #[.int .i64 0, .int .i64 0, .int .i64 0, .int .i64 0, .int .i64 0, .int .i64 0, .slice none 0 0, .slice none 0 0, .bool false, .bool false, .bool false, .string ⟨#[]⟩] 39) = w1 from HW1.out]
  go_wp2_with fail
  refine HCut.out.mono ?_
  rintro en wz ⟨rfl, hwz⟩
  have hwz := hwz.symm
  subst hwz
  go_wp2_with fail
  refine HS.out.mono ?_
  rintro en w2 ⟨b8, rfl, hS2, hb2⟩
  rw [List.length_cons]
  have hXe2 := HXe.out.kept hb2
  have hXr2 := HXr.out.kept hb2
  have hs2 := hb2.size
  obtain ⟨b8', off8, e8, hb8, h08⟩ := hS2.at_ (k := 0) (by simp)
  obtain ⟨b8'', off8', e8', hT8⟩ := hS2.tail
  cases e8
  cases e8'
  have h08 : w2.cell? ⟨b8, 0, none⟩ = some (.string x0) := h08
  have hb8 : b8 < w2.heap.size := hb8
  have hd2 : Below w2.heap.size w2 w2.drew := below_drew (Below.refl _ _) 1
  have hsd : w2.drew.heap.size = w2.heap.size := rfl
  -- the operation's box made before the call, or behind it
  obtain ⟨wa, hwa⟩ : ∃ q, (w2.alloc (.cells (zeroO.cells none 0 none 0) 39)).drew = q := ⟨_, rfl⟩
  have hba : Below w2.heap.size w2 wa := by rw [← hwa]; exact below_drew ((Below.refl _ _).alloc (Nat.le_refl _) _) 1
  have hXa : Box wa w2.heap.size 39 (zeroO.cells none 0 none 0) := by rw [← hwa]; exact (Box.new w2 _ _).drew
  have hcell : Hid (∀ v, Below w2.heap.size w2 v → Box v w.heap.size 34 ecs ∧ v.cell? ⟨b8, 0, none⟩ = some (.string x0)) := fun v hv => ⟨by rw [HEc.out]; exact hXe2.kept hv, (hv.cell (p := ⟨b8, 0, none⟩) hb8).trans h08⟩
  have HS0 := hide (hcell.out w2 (Below.refl _ _))
  have HSa := hide (hcell.out wa hba)
  have HWl := hide (fun (wq : World) (h : Below w1.heap.size w1 wq) (B : Option Addr) (d : Nat) => HWd.out wq B d (HB1.out.trans (h.mono HB1.out.size)))
  have HB2 := hide hb2
  have HBa := hide hba
  have HXa := hide hXa
  have HXr2 := hide hXr2
  have HT8 := hide hT8
  have HWa := hide hwa
  have HL : Hid (l.length = 0 → l = []) := fun e => List.length_eq_zero_iff.1 e
  clear hXe2 hXr2 hS2 hb2 hT8 hwa hba hXa hd2
  by_cases hl0 : l.length = 0
  · obtain rfl := HL.out hl0
    have HCA := hide (HWl.out wa (HB2.out.trans (HBa.out.mono hs2)) (some ⟨b8, 0, none⟩) 0 (ListIn.nil _ _ _ _) (Nat.le_refl _) (by omega))
    have HCB := hide (HWl.out w2.drew (HB2.out.trans (below_drew (Below.refl _ _) 1)) (some ⟨b8, 0, none⟩) 0 (ListIn.nil _ _ _ _) (Nat.le_refl _) (by omega))
    go_upto_region 9 with (fail)
    go_cut [9, 10] (fun v u wx => ∃ g : Nat, v = .pointer (some ⟨g, 0, none⟩) ∧ u = .bool ok ∧ Hid (OBox w2.heap.size wx g o) ∧ Hid (Below w2.heap.size w2 wx))
    case first =>
      refine wp_region_held_drew (S := fun v => Box v w.heap.size 34 ecs ∧ v.cell? ⟨b8, 0, none⟩ = some (.string x0)) (by kernel_rfl) (HS0.out) (fun hH => ?_)
      refine wpAnyH_take (i := 0) (v := ?xv0) (by simp only [List.getElem?_toArray, List.getElem?_cons_succ, List.getElem?_cons_zero]; exact rfl) (by kernel_rfl) (by kernel_rfl) (by kernel_rfl) ?xq0 ?xy0 hH ?xr0
      case xq0 => exact fun _ _ _ h => h
      case xy0 =>
        refine Or.inl ⟨by rfl, fun v hv => ?_⟩
        refine Eq.trans (b := Result.ok (Next.value (.agg ecs)) v) (gives_load rfl rfl (box_load aggE hv.1 (by rw [HEc.out]; rfl))) ?_
        rfl
      try simp only [Act.put, List.setIfInBounds_toArray, List.set_cons_zero, List.set_cons_succ]
      refine wpAnyH_take (i := 1) (v := ?xv1) (by simp only [List.getElem?_toArray, List.getElem?_cons_succ, List.getElem?_cons_zero]; exact rfl) (by kernel_rfl) (by kernel_rfl) (by kernel_rfl) ?xq1 ?xy1 hH ?xr1
      case xq1 => exact fun _ _ _ h => h
      case xy1 =>
        refine Or.inl ⟨by rfl, fun v hv => ?_⟩
        go_simp
        rfl
      try simp only [Act.put, List.setIfInBounds_toArray, List.set_cons_zero, List.set_cons_succ]
      refine wpAnyH_take (i := 2) (v := ?xv2) (by simp only [List.getElem?_toArray, List.getElem?_cons_succ, List.getElem?_cons_zero]; exact rfl) (by kernel_rfl) (by kernel_rfl) (by kernel_rfl) ?xq2 ?xy2 hH ?xr2
      case xq2 => exact fun _ _ _ h => h
      case xy2 =>
        refine Or.inl ⟨by rfl, fun v hv => ?_⟩
        go_simp
        rfl
      try simp only [Act.put, List.setIfInBounds_toArray, List.set_cons_zero, List.set_cons_succ]
      refine wpAnyH_take (i := 3) (v := ?xv3) (by simp only [List.getElem?_toArray, List.getElem?_cons_succ, List.getElem?_cons_zero]; exact rfl) (by kernel_rfl) (by kernel_rfl) (by kernel_rfl) ?xq3 ?xy3 hH ?xr3
      case xq3 => exact fun _ _ _ h => h
      case xy3 =>
        refine Or.inl ⟨by rfl, fun v hv => ?_⟩
        have q0 := hv.2
        go_simp
        rfl
      try simp only [Act.put, List.setIfInBounds_toArray, List.set_cons_zero, List.set_cons_succ]
      refine wpAnyH_take (i := 4) (v := ?xv4) (by simp only [List.getElem?_toArray, List.getElem?_cons_succ, List.getElem?_cons_zero]; exact rfl) (by kernel_rfl) (by kernel_rfl) (by kernel_rfl) ?xq4 ?xy4 hH ?xr4
      case xq4 => exact fun _ _ _ h => h
      case xy4 =>
        refine Or.inl ⟨by rfl, fun v hv => ?_⟩
        go_simp
        rfl
      try simp only [Act.put, List.setIfInBounds_toArray, List.set_cons_zero, List.set_cons_succ]
      refine wpAnyH_take (i := 5) (v := ?xv5) (by simp only [List.getElem?_toArray, List.getElem?_cons_succ, List.getElem?_cons_zero]; exact rfl) (by kernel_rfl) (by kernel_rfl) (by kernel_rfl) ?xq5 ?xy5 hH ?xr5
      case xq5 => exact fun _ _ _ h => h
      case xy5 =>
        refine Or.inl ⟨by rfl, fun v hv => ?_⟩
        go_simp
        rfl
      try simp only [Act.put, List.setIfInBounds_toArray, List.set_cons_zero, List.set_cons_succ]
      refine wpAnyH_ready (rs := [6, 10]) (by kernel_rfl) (by simp) ?_
      refine AllReadyH.cons (by simp only [List.getElem?_toArray, List.getElem?_cons_succ, List.getElem?_cons_zero]; exact rfl) (fun K hK => ?xb6) (AllReadyH.cons (by simp only [List.getElem?_toArray, List.getElem?_cons_succ, List.getElem?_cons_zero]; exact rfl) (fun K hK => ?xb10) (AllReadyH.nil))
      case xb6 =>
        go_simp
        refine HCB.out.mono ?_
        rintro en w4 ⟨_, rfl, ⟨A4, c4, D4, d4, rfl, hV4⟩, hb4⟩
        have hb4' : Below w2.heap.size w2 w4 := (below_drew (Below.refl _ _) 1).trans hb4
        have hN := hcell.out w4 hb4'
        obtain ⟨wb, hwb⟩ : ∃ q, w4.alloc (.cells (zeroO.cells none 0 none 0) 39) = q := ⟨_, rfl⟩
        have hs4 : w2.heap.size ≤ w4.heap.size := hb4'.size
        have hbb : Below w2.heap.size w2 wb := by rw [← hwb]; exact hb4'.alloc hs4 _
        have hXb : Box wb w4.heap.size 39 (zeroO.cells none 0 none 0) := by rw [← hwb]; exact Box.new w4 _ _
        have hVb : OpV (fun i => w2.heap.size ≤ i ∧ i < w4.heap.size) wb (.agg (o.cells A4 c4 D4 d4)) o := by
          rw [← hwb]
          exact OpV.agree (show OpV (fun i => w2.heap.size ≤ i ∧ i < w4.heap.size) w4 _ o from ⟨A4, c4, D4, d4, rfl, hV4⟩) fun i hi => Below.heap_alloc w4 _ i hi.2
        obtain ⟨w5, hst, hX5, hg5⟩ := box_store aggOp hXb rfl rfl (Opn.one o A4 c4 D4 d4)
        have HOB := hide (obox_of (B := w2.heap.size) hVb hX5 hg5 (fun i hi => ⟨hi.1, by have := hXb.lt; omega, by omega⟩) hs4)
        have HBw := hide (below_grown hbb hg5 hs4)
        have HSb := hide (hcell.out wb hbb)
        have HWb := hide hwb
        have HS5 := hide (hcell.out w5 HBw.out)
        have HR5 := hide hst
        clear hst hX5 hg5 hV4 hb4 hb4' hwb hbb hXb hVb hs4
        refine hK.out _ _ hN (fun hH' => ?_)
        clear hK hH hN K
        have hH := hH'
        clear hH'
        try simp only [Act.put, List.setIfInBounds_toArray, List.set_cons_zero, List.set_cons_succ]
        refine wpAnyH_take (i := 7) (v := ?xc6v7) (by simp only [List.getElem?_toArray, List.getElem?_cons_succ, List.getElem?_cons_zero]; exact rfl) (by kernel_rfl) (by kernel_rfl) (by kernel_rfl) ?xc6q7 ?xc6y7 hH ?xc6r7
        case xc6q7 => exact fun _ _ _ h => h
        case xc6y7 =>
          refine Or.inl ⟨by rfl, fun v hv => ?_⟩
          go_simp
          rfl
        try simp only [Act.put, List.setIfInBounds_toArray, List.set_cons_zero, List.set_cons_succ]
        refine wpAnyH_take (i := 8) (v := ?xc6v8) (by simp only [List.getElem?_toArray, List.getElem?_cons_succ, List.getElem?_cons_zero]; exact rfl) (by kernel_rfl) (by kernel_rfl) (by kernel_rfl) ?xc6q8 ?xc6y8 hH ?xc6r8
        case xc6q8 => exact fun _ _ _ h => h
        case xc6y8 =>
          refine Or.inl ⟨by rfl, fun v hv => ?_⟩
          go_simp
          rfl
        try simp only [Act.put, List.setIfInBounds_toArray, List.set_cons_zero, List.set_cons_succ]
        refine wpAnyH_take (i := 9) (v := ?xc6v9) (by simp only [List.getElem?_toArray, List.getElem?_cons_succ, List.getElem?_cons_zero]; exact rfl) (by kernel_rfl) (by kernel_rfl) (by kernel_rfl) ?xc6q9 ?xc6y9 hH ?xc6r9
        case xc6q9 => exact fun _ _ _ h => h
        case xc6y9 =>
          refine Or.inl ⟨by rfl, fun v hv => ?_⟩
          go_simp
          rfl
        try simp only [Act.put, List.setIfInBounds_toArray, List.set_cons_zero, List.set_cons_succ]
        refine wpAnyH_ready (rs := [10]) (by kernel_rfl) (by simp) ?_
        refine AllReadyH.cons (by simp only [List.getElem?_toArray, List.getElem?_cons_succ, List.getElem?_cons_zero]; exact rfl) (fun K hK => ?_) AllReadyH.nil
        go_simp
        rw [show w4.alloc (.cells #[.int .i64 0, .int .i64 0, .int .i64 0, .int .i64 0, .int .i64 0, .int .i64 0, .slice none 0 0, .slice none 0 0, .bool false, .bool false, .bool false, .string ⟨#[]⟩] 39) = wb from HWb.out]
        have hN := HSb.out
        refine hK.out _ _ hN (fun hH' => ?_)
        clear hK hH hN K
        have hH := hH'
        clear hH'
        try simp only [Act.put, List.setIfInBounds_toArray, List.set_cons_zero, List.set_cons_succ]
        refine wpAnyH_ready (rs := [11]) (by kernel_rfl) (by simp) ?_
        refine AllReadyH.cons (by simp only [List.getElem?_toArray, List.getElem?_cons_succ, List.getElem?_cons_zero]; exact rfl) (fun K hK => ?_) AllReadyH.nil
        refine step_does rfl (does_store rfl rfl rfl HR5.out) ?_
        have hN := HS5.out
        refine hK.out _ _ hN (fun hH' => ?_)
        clear hK hH hN K
        have hH := hH'
        clear hH'
        try simp only [Act.put, List.setIfInBounds_toArray, List.set_cons_zero, List.set_cons_succ]
        refine wpAnyH_take (i := 12) (v := ?xc6v12) (by simp only [List.getElem?_toArray, List.getElem?_cons_succ, List.getElem?_cons_zero]; exact rfl) (by kernel_rfl) (by kernel_rfl) (by kernel_rfl) ?xc6q12 ?xc6y12 hH ?xc6r12
        case xc6q12 => exact fun _ _ _ h => h
        case xc6y12 =>
          refine Or.inl ⟨by rfl, fun v hv => ?_⟩
          go_simp
          rfl
        try simp only [Act.put, List.setIfInBounds_toArray, List.set_cons_zero, List.set_cons_succ]
        refine wpAnyH_done (by kernel_rfl) ?_ _
        clear hH
        go_wp2_with fail
        go_meet
        exact ⟨_, rfl, rfl, HOB.out, HBw.out⟩
      case xb10 =>
        go_simp
        rw [show (w2.alloc (.cells #[.int .i64 0, .int .i64 0, .int .i64 0, .int .i64 0, .int .i64 0, .int .i64 0, .slice none 0 0, .slice none 0 0, .bool false, .bool false, .bool false, .string ⟨#[]⟩] 39)).drew = wa from HWa.out]
        have hN := HSa.out
        refine hK.out _ _ hN (fun hH' => ?_)
        clear hK hH hN K
        have hH := hH'
        clear hH'
        try simp only [Act.put, List.setIfInBounds_toArray, List.set_cons_zero, List.set_cons_succ]
        refine wpAnyH_ready (rs := [6]) (by kernel_rfl) (by simp) ?_
        refine AllReadyH.cons (by simp only [List.getElem?_toArray, List.getElem?_cons_succ, List.getElem?_cons_zero]; exact rfl) (fun K hK => ?_) AllReadyH.nil
        go_simp
        refine HCA.out.mono ?_
        rintro en w4 ⟨_, rfl, ⟨A4, c4, D4, d4, rfl, hV4⟩, hb4⟩
        have hN := hcell.out w4 (HBa.out.trans (hb4.mono HBa.out.size))
        obtain ⟨w5, hst, hX5, hg5⟩ := box_store aggOp (HXa.out.kept hb4) rfl rfl (Opn.one o A4 c4 D4 d4)
        have HOB := hide (obox_of (B := w2.heap.size) (F := fun i => wa.heap.size ≤ i ∧ i < w4.heap.size) (show OpV _ w4 _ o from ⟨A4, c4, D4, d4, rfl, hV4⟩) hX5 hg5 (fun i hi => ⟨by have := HBa.out.size; omega, hi.2, by have := HXa.out.lt; omega⟩) (Nat.le_refl _))
        have HBw := hide (below_grown (HBa.out.trans (hb4.mono HBa.out.size)) hg5 (Nat.le_refl _))
        have HS5 := hide (hcell.out w5 HBw.out)
        have HR5 := hide hst
        clear hst hX5 hg5 hV4 hb4
        refine hK.out _ _ hN (fun hH' => ?_)
        clear hK hH hN K
        have hH := hH'
        clear hH'
        try simp only [Act.put, List.setIfInBounds_toArray, List.set_cons_zero, List.set_cons_succ]
        refine wpAnyH_take (i := 7) (v := ?xc10v7) (by simp only [List.getElem?_toArray, List.getElem?_cons_succ, List.getElem?_cons_zero]; exact rfl) (by kernel_rfl) (by kernel_rfl) (by kernel_rfl) ?xc10q7 ?xc10y7 hH ?xc10r7
        case xc10q7 => exact fun _ _ _ h => h
        case xc10y7 =>
          refine Or.inl ⟨by rfl, fun v hv => ?_⟩
          go_simp
          rfl
        try simp only [Act.put, List.setIfInBounds_toArray, List.set_cons_zero, List.set_cons_succ]
        refine wpAnyH_take (i := 8) (v := ?xc10v8) (by simp only [List.getElem?_toArray, List.getElem?_cons_succ, List.getElem?_cons_zero]; exact rfl) (by kernel_rfl) (by kernel_rfl) (by kernel_rfl) ?xc10q8 ?xc10y8 hH ?xc10r8
        case xc10q8 => exact fun _ _ _ h => h
        case xc10y8 =>
          refine Or.inl ⟨by rfl, fun v hv => ?_⟩
          go_simp
          rfl
        try simp only [Act.put, List.setIfInBounds_toArray, List.set_cons_zero, List.set_cons_succ]
        refine wpAnyH_take (i := 9) (v := ?xc10v9) (by simp only [List.getElem?_toArray, List.getElem?_cons_succ, List.getElem?_cons_zero]; exact rfl) (by kernel_rfl) (by kernel_rfl) (by kernel_rfl) ?xc10q9 ?xc10y9 hH ?xc10r9
        case xc10q9 => exact fun _ _ _ h => h
        case xc10y9 =>
          refine Or.inl ⟨by rfl, fun v hv => ?_⟩
          go_simp
          rfl
        try simp only [Act.put, List.setIfInBounds_toArray, List.set_cons_zero, List.set_cons_succ]
        refine wpAnyH_ready (rs := [11]) (by kernel_rfl) (by simp) ?_
        refine AllReadyH.cons (by simp only [List.getElem?_toArray, List.getElem?_cons_succ, List.getElem?_cons_zero]; exact rfl) (fun K hK => ?_) AllReadyH.nil
        refine step_does rfl (does_store rfl rfl rfl HR5.out) ?_
        have hN := HS5.out
        refine hK.out _ _ hN (fun hH' => ?_)
        clear hK hH hN K
        have hH := hH'
        clear hH'
        try simp only [Act.put, List.setIfInBounds_toArray, List.set_cons_zero, List.set_cons_succ]
        refine wpAnyH_take (i := 12) (v := ?xc10v12) (by simp only [List.getElem?_toArray, List.getElem?_cons_succ, List.getElem?_cons_zero]; exact rfl) (by kernel_rfl) (by kernel_rfl) (by kernel_rfl) ?xc10q12 ?xc10y12 hH ?xc10r12
        case xc10q12 => exact fun _ _ _ h => h
        case xc10y12 =>
          refine Or.inl ⟨by rfl, fun v hv => ?_⟩
          go_simp
          rfl
        try simp only [Act.put, List.setIfInBounds_toArray, List.set_cons_zero, List.set_cons_succ]
        refine wpAnyH_done (by kernel_rfl) ?_ _
        clear hH
        go_wp2_with fail
        go_meet
        exact ⟨_, rfl, rfl, HOB.out, HBw.out⟩
    case rest =>
      obtain ⟨g9, rfl, rfl, HOB, HBx⟩ := hcut
      obtain ⟨A9, c9, D9, d9, hX9, hV9, hB9⟩ := HOB.out
      have hXr9 := HXr2.out.kept HBx.out
      have hg2 := HXr2.out.lt
      have hBf : Below w.heap.size w wc := (HB1.out.trans (HB2.out.mono HB1.out.size)).trans (HBx.out.mono (Nat.le_trans HB1.out.size hs2))
      have HBf := hide hBf
      cases ok with
      | true =>
        obtain ⟨w6, hst, hX6, hg6⟩ := box_store aggOp hXr9 rfl rfl (Opn.one o A9 c9 D9 d9)
        have HLd := hide (box_load aggOp hX9 rfl)
        have HSt := hide hst
        have HX6 := hide hX6
        have HV6 := hide ((hV9.agree fun i hi => hg6.block i hi.2.1 fun e => by have := Option.some.inj e; omega).mono fun i hi => (⟨by omega, Nat.lt_of_lt_of_le hi.2.1 hg6.size⟩ : w.heap.size ≤ i ∧ i < w6.heap.size))
        have HB6 := hide (below_grown HBf.out hg6 (Nat.le_succ _))
        clear hX9 hV9 hXr9 hst hX6 hg6 hBf
        go_wp2_with (first | ((with_reducible refine wpList_gives (o := ⟨some 41, _, _, _, _, _⟩) (v := .agg (o.cells A9 c9 D9 d9)) (w' := wc) ?_ ?_ ?_); rfl; exact gives_load rfl rfl HLd.out) | ((with_reducible refine wpList_does (o := ⟨none, _, _, _, _, _⟩) (w' := w6) ?_ ?_ ?_); rfl; exact does_store rfl rfl rfl HSt.out))
        refine bodyPost_ret (v := .tuple #[.agg (o.cells A9 c9 D9 d9), .bool true]) (by refine results_ct (p := 4) (q := 5) ?_ ?_ (box_load aggOp HX6.out rfl) <;> rfl) rfl ?_
        exact ⟨_, rfl, HV6.out, HB6.out⟩
      | false =>
        obtain ⟨w6, hst, hX6, hg6⟩ := box_store aggOp hXr9 rfl rfl (Opn.one zeroO none 0 none 0)
        have HSt := hide hst
        have HX6 := hide hX6
        have HB6 := hide (below_grown HBf.out hg6 (Nat.le_succ _))
        clear hX9 hV9 hXr9 hst hX6 hg6 hBf
        go_wp2_with ((with_reducible refine wpList_does (o := ⟨none, _, _, _, _, _⟩) (w' := w6) ?_ ?_ ?_); rfl; exact does_store rfl rfl rfl HSt.out)
        refine bodyPost_ret (v := .tuple #[.agg (zeroO.cells none 0 none 0), .bool false]) (by refine results_ct (p := 4) (q := 5) ?_ ?_ (box_load aggOp HX6.out rfl) <;> rfl) rfl ?_
        exact ⟨_, rfl, opv_nil rfl rfl, HB6.out⟩
  · have hl1 : 1 < l.length + 1 := by omega
    have hl2 : (1 : Int) ≤ (l.length : Int) + 1 := by omega
    have HCA := hide (HWl.out wa (HB2.out.trans (HBa.out.mono hs2)) (some ⟨b8, 1, none⟩) l.length (ListIn.below HT8.out HBa.out) (Nat.le_refl _) (by omega))
    have HCB := hide (HWl.out w2.drew (HB2.out.trans (below_drew (Below.refl _ _) 1)) (some ⟨b8, 1, none⟩) l.length (ListIn.below HT8.out (below_drew (Below.refl _ _) 1)) (Nat.le_refl _) (by omega))
    go_upto_region 9 with (fail)
    go_cut [9, 10] (fun v u wx => ∃ g : Nat, v = .pointer (some ⟨g, 0, none⟩) ∧ u = .bool ok ∧ Hid (OBox w2.heap.size wx g o) ∧ Hid (Below w2.heap.size w2 wx))
    case first =>
      refine wp_region_held_drew (S := fun v => Box v w.heap.size 34 ecs ∧ v.cell? ⟨b8, 0, none⟩ = some (.string x0)) (by kernel_rfl) (HS0.out) (fun hH => ?_)
      refine wpAnyH_take (i := 0) (v := ?yv0) (by simp only [List.getElem?_toArray, List.getElem?_cons_succ, List.getElem?_cons_zero]; exact rfl) (by kernel_rfl) (by kernel_rfl) (by kernel_rfl) ?yq0 ?yy0 hH ?yr0
      case yq0 => exact fun _ _ _ h => h
      case yy0 =>
        refine Or.inl ⟨by rfl, fun v hv => ?_⟩
        refine Eq.trans (b := Result.ok (Next.value (.agg ecs)) v) (gives_load rfl rfl (box_load aggE hv.1 (by rw [HEc.out]; rfl))) ?_
        rfl
      try simp only [Act.put, List.setIfInBounds_toArray, List.set_cons_zero, List.set_cons_succ]
      refine wpAnyH_take (i := 1) (v := ?yv1) (by simp only [List.getElem?_toArray, List.getElem?_cons_succ, List.getElem?_cons_zero]; exact rfl) (by kernel_rfl) (by kernel_rfl) (by kernel_rfl) ?yq1 ?yy1 hH ?yr1
      case yq1 => exact fun _ _ _ h => h
      case yy1 =>
        refine Or.inl ⟨by rfl, fun v hv => ?_⟩
        go_simp
        rfl
      try simp only [Act.put, List.setIfInBounds_toArray, List.set_cons_zero, List.set_cons_succ]
      refine wpAnyH_take (i := 2) (v := ?yv2) (by simp only [List.getElem?_toArray, List.getElem?_cons_succ, List.getElem?_cons_zero]; exact rfl) (by kernel_rfl) (by kernel_rfl) (by kernel_rfl) ?yq2 ?yy2 hH ?yr2
      case yq2 => exact fun _ _ _ h => h
      case yy2 =>
        refine Or.inl ⟨by rfl, fun v hv => ?_⟩
        go_simp
        rfl
      try simp only [Act.put, List.setIfInBounds_toArray, List.set_cons_zero, List.set_cons_succ]
      refine wpAnyH_take (i := 3) (v := ?yv3) (by simp only [List.getElem?_toArray, List.getElem?_cons_succ, List.getElem?_cons_zero]; exact rfl) (by kernel_rfl) (by kernel_rfl) (by kernel_rfl) ?yq3 ?yy3 hH ?yr3
      case yq3 => exact fun _ _ _ h => h
      case yy3 =>
        refine Or.inl ⟨by rfl, fun v hv => ?_⟩
        have q0 := hv.2
        go_simp
        rfl
      try simp only [Act.put, List.setIfInBounds_toArray, List.set_cons_zero, List.set_cons_succ]
      refine wpAnyH_take (i := 4) (v := ?yv4) (by simp only [List.getElem?_toArray, List.getElem?_cons_succ, List.getElem?_cons_zero]; exact rfl) (by kernel_rfl) (by kernel_rfl) (by kernel_rfl) ?yq4 ?yy4 hH ?yr4
      case yq4 => exact fun _ _ _ h => h
      case yy4 =>
        refine Or.inl ⟨by rfl, fun v hv => ?_⟩
        go_simp
        rfl
      try simp only [Act.put, List.setIfInBounds_toArray, List.set_cons_zero, List.set_cons_succ]
      refine wpAnyH_take (i := 5) (v := ?yv5) (by simp only [List.getElem?_toArray, List.getElem?_cons_succ, List.getElem?_cons_zero]; exact rfl) (by kernel_rfl) (by kernel_rfl) (by kernel_rfl) ?yq5 ?yy5 hH ?yr5
      case yq5 => exact fun _ _ _ h => h
      case yy5 =>
        refine Or.inl ⟨by rfl, fun v hv => ?_⟩
        go_simp
        rfl
      try simp only [Act.put, List.setIfInBounds_toArray, List.set_cons_zero, List.set_cons_succ]
      refine wpAnyH_ready (rs := [6, 10]) (by kernel_rfl) (by simp) ?_
      refine AllReadyH.cons (by simp only [List.getElem?_toArray, List.getElem?_cons_succ, List.getElem?_cons_zero]; exact rfl) (fun K hK => ?yb6) (AllReadyH.cons (by simp only [List.getElem?_toArray, List.getElem?_cons_succ, List.getElem?_cons_zero]; exact rfl) (fun K hK => ?yb10) (AllReadyH.nil))
      case yb6 =>
        go_simp
        refine HCB.out.mono ?_
        rintro en w4 ⟨_, rfl, ⟨A4, c4, D4, d4, rfl, hV4⟩, hb4⟩
        have hb4' : Below w2.heap.size w2 w4 := (below_drew (Below.refl _ _) 1).trans hb4
        have hN := hcell.out w4 hb4'
        obtain ⟨wb, hwb⟩ : ∃ q, w4.alloc (.cells (zeroO.cells none 0 none 0) 39) = q := ⟨_, rfl⟩
        have hs4 : w2.heap.size ≤ w4.heap.size := hb4'.size
        have hbb : Below w2.heap.size w2 wb := by rw [← hwb]; exact hb4'.alloc hs4 _
        have hXb : Box wb w4.heap.size 39 (zeroO.cells none 0 none 0) := by rw [← hwb]; exact Box.new w4 _ _
        have hVb : OpV (fun i => w2.heap.size ≤ i ∧ i < w4.heap.size) wb (.agg (o.cells A4 c4 D4 d4)) o := by
          rw [← hwb]
          exact OpV.agree (show OpV (fun i => w2.heap.size ≤ i ∧ i < w4.heap.size) w4 _ o from ⟨A4, c4, D4, d4, rfl, hV4⟩) fun i hi => Below.heap_alloc w4 _ i hi.2
        obtain ⟨w5, hst, hX5, hg5⟩ := box_store aggOp hXb rfl rfl (Opn.one o A4 c4 D4 d4)
        have HOB := hide (obox_of (B := w2.heap.size) hVb hX5 hg5 (fun i hi => ⟨hi.1, by have := hXb.lt; omega, by omega⟩) hs4)
        have HBw := hide (below_grown hbb hg5 hs4)
        have HSb := hide (hcell.out wb hbb)
        have HWb := hide hwb
        have HS5 := hide (hcell.out w5 HBw.out)
        have HR5 := hide hst
        clear hst hX5 hg5 hV4 hb4 hb4' hwb hbb hXb hVb hs4
        refine hK.out _ _ hN (fun hH' => ?_)
        clear hK hH hN K
        have hH := hH'
        clear hH'
        try simp only [Act.put, List.setIfInBounds_toArray, List.set_cons_zero, List.set_cons_succ]
        refine wpAnyH_take (i := 7) (v := ?yc6v7) (by simp only [List.getElem?_toArray, List.getElem?_cons_succ, List.getElem?_cons_zero]; exact rfl) (by kernel_rfl) (by kernel_rfl) (by kernel_rfl) ?yc6q7 ?yc6y7 hH ?yc6r7
        case yc6q7 => exact fun _ _ _ h => h
        case yc6y7 =>
          refine Or.inl ⟨by rfl, fun v hv => ?_⟩
          go_simp
          rfl
        try simp only [Act.put, List.setIfInBounds_toArray, List.set_cons_zero, List.set_cons_succ]
        refine wpAnyH_take (i := 8) (v := ?yc6v8) (by simp only [List.getElem?_toArray, List.getElem?_cons_succ, List.getElem?_cons_zero]; exact rfl) (by kernel_rfl) (by kernel_rfl) (by kernel_rfl) ?yc6q8 ?yc6y8 hH ?yc6r8
        case yc6q8 => exact fun _ _ _ h => h
        case yc6y8 =>
          refine Or.inl ⟨by rfl, fun v hv => ?_⟩
          go_simp
          rfl
        try simp only [Act.put, List.setIfInBounds_toArray, List.set_cons_zero, List.set_cons_succ]
        refine wpAnyH_take (i := 9) (v := ?yc6v9) (by simp only [List.getElem?_toArray, List.getElem?_cons_succ, List.getElem?_cons_zero]; exact rfl) (by kernel_rfl) (by kernel_rfl) (by kernel_rfl) ?yc6q9 ?yc6y9 hH ?yc6r9
        case yc6q9 => exact fun _ _ _ h => h
        case yc6y9 =>
          refine Or.inl ⟨by rfl, fun v hv => ?_⟩
          go_simp
          rfl
        try simp only [Act.put, List.setIfInBounds_toArray, List.set_cons_zero, List.set_cons_succ]
        refine wpAnyH_ready (rs := [10]) (by kernel_rfl) (by simp) ?_
        refine AllReadyH.cons (by simp only [List.getElem?_toArray, List.getElem?_cons_succ, List.getElem?_cons_zero]; exact rfl) (fun K hK => ?_) AllReadyH.nil
        go_simp
        rw [show w4.alloc (.cells #[.int .i64 0, .int .i64 0, .int .i64 0, .int .i64 0, .int .i64 0, .int .i64 0, .slice none 0 0, .slice none 0 0, .bool false, .bool false, .bool false, .string ⟨#[]⟩] 39) = wb from HWb.out]
        have hN := HSb.out
        refine hK.out _ _ hN (fun hH' => ?_)
        clear hK hH hN K
        have hH := hH'
        clear hH'
        try simp only [Act.put, List.setIfInBounds_toArray, List.set_cons_zero, List.set_cons_succ]
        refine wpAnyH_ready (rs := [11]) (by kernel_rfl) (by simp) ?_
        refine AllReadyH.cons (by simp only [List.getElem?_toArray, List.getElem?_cons_succ, List.getElem?_cons_zero]; exact rfl) (fun K hK => ?_) AllReadyH.nil
        refine step_does rfl (does_store rfl rfl rfl HR5.out) ?_
        have hN := HS5.out
        refine hK.out _ _ hN (fun hH' => ?_)
        clear hK hH hN K
        have hH := hH'
        clear hH'
        try simp only [Act.put, List.setIfInBounds_toArray, List.set_cons_zero, List.set_cons_succ]
        refine wpAnyH_take (i := 12) (v := ?yc6v12) (by simp only [List.getElem?_toArray, List.getElem?_cons_succ, List.getElem?_cons_zero]; exact rfl) (by kernel_rfl) (by kernel_rfl) (by kernel_rfl) ?yc6q12 ?yc6y12 hH ?yc6r12
        case yc6q12 => exact fun _ _ _ h => h
        case yc6y12 =>
          refine Or.inl ⟨by rfl, fun v hv => ?_⟩
          go_simp
          rfl
        try simp only [Act.put, List.setIfInBounds_toArray, List.set_cons_zero, List.set_cons_succ]
        refine wpAnyH_done (by kernel_rfl) ?_ _
        clear hH
        go_wp2_with fail
        go_meet
        exact ⟨_, rfl, rfl, HOB.out, HBw.out⟩
      case yb10 =>
        go_simp
        rw [show (w2.alloc (.cells #[.int .i64 0, .int .i64 0, .int .i64 0, .int .i64 0, .int .i64 0, .int .i64 0, .slice none 0 0, .slice none 0 0, .bool false, .bool false, .bool false, .string ⟨#[]⟩] 39)).drew = wa from HWa.out]
        have hN := HSa.out
        refine hK.out _ _ hN (fun hH' => ?_)
        clear hK hH hN K
        have hH := hH'
        clear hH'
        try simp only [Act.put, List.setIfInBounds_toArray, List.set_cons_zero, List.set_cons_succ]
        refine wpAnyH_ready (rs := [6]) (by kernel_rfl) (by simp) ?_
        refine AllReadyH.cons (by simp only [List.getElem?_toArray, List.getElem?_cons_succ, List.getElem?_cons_zero]; exact rfl) (fun K hK => ?_) AllReadyH.nil
        go_simp
        refine HCA.out.mono ?_
        rintro en w4 ⟨_, rfl, ⟨A4, c4, D4, d4, rfl, hV4⟩, hb4⟩
        have hN := hcell.out w4 (HBa.out.trans (hb4.mono HBa.out.size))
        obtain ⟨w5, hst, hX5, hg5⟩ := box_store aggOp (HXa.out.kept hb4) rfl rfl (Opn.one o A4 c4 D4 d4)
        have HOB := hide (obox_of (B := w2.heap.size) (F := fun i => wa.heap.size ≤ i ∧ i < w4.heap.size) (show OpV _ w4 _ o from ⟨A4, c4, D4, d4, rfl, hV4⟩) hX5 hg5 (fun i hi => ⟨by have := HBa.out.size; omega, hi.2, by have := HXa.out.lt; omega⟩) (Nat.le_refl _))
        have HBw := hide (below_grown (HBa.out.trans (hb4.mono HBa.out.size)) hg5 (Nat.le_refl _))
        have HS5 := hide (hcell.out w5 HBw.out)
        have HR5 := hide hst
        clear hst hX5 hg5 hV4 hb4
        refine hK.out _ _ hN (fun hH' => ?_)
        clear hK hH hN K
        have hH := hH'
        clear hH'
        try simp only [Act.put, List.setIfInBounds_toArray, List.set_cons_zero, List.set_cons_succ]
        refine wpAnyH_take (i := 7) (v := ?yc10v7) (by simp only [List.getElem?_toArray, List.getElem?_cons_succ, List.getElem?_cons_zero]; exact rfl) (by kernel_rfl) (by kernel_rfl) (by kernel_rfl) ?yc10q7 ?yc10y7 hH ?yc10r7
        case yc10q7 => exact fun _ _ _ h => h
        case yc10y7 =>
          refine Or.inl ⟨by rfl, fun v hv => ?_⟩
          go_simp
          rfl
        try simp only [Act.put, List.setIfInBounds_toArray, List.set_cons_zero, List.set_cons_succ]
        refine wpAnyH_take (i := 8) (v := ?yc10v8) (by simp only [List.getElem?_toArray, List.getElem?_cons_succ, List.getElem?_cons_zero]; exact rfl) (by kernel_rfl) (by kernel_rfl) (by kernel_rfl) ?yc10q8 ?yc10y8 hH ?yc10r8
        case yc10q8 => exact fun _ _ _ h => h
        case yc10y8 =>
          refine Or.inl ⟨by rfl, fun v hv => ?_⟩
          go_simp
          rfl
        try simp only [Act.put, List.setIfInBounds_toArray, List.set_cons_zero, List.set_cons_succ]
        refine wpAnyH_take (i := 9) (v := ?yc10v9) (by simp only [List.getElem?_toArray, List.getElem?_cons_succ, List.getElem?_cons_zero]; exact rfl) (by kernel_rfl) (by kernel_rfl) (by kernel_rfl) ?yc10q9 ?yc10y9 hH ?yc10r9
        case yc10q9 => exact fun _ _ _ h => h
        case yc10y9 =>
          refine Or.inl ⟨by rfl, fun v hv => ?_⟩
          go_simp
          rfl
        try simp only [Act.put, List.setIfInBounds_toArray, List.set_cons_zero, List.set_cons_succ]
        refine wpAnyH_ready (rs := [11]) (by kernel_rfl) (by simp) ?_
        refine AllReadyH.cons (by simp only [List.getElem?_toArray, List.getElem?_cons_succ, List.getElem?_cons_zero]; exact rfl) (fun K hK => ?_) AllReadyH.nil
        refine step_does rfl (does_store rfl rfl rfl HR5.out) ?_
        have hN := HS5.out
        refine hK.out _ _ hN (fun hH' => ?_)
        clear hK hH hN K
        have hH := hH'
        clear hH'
        try simp only [Act.put, List.setIfInBounds_toArray, List.set_cons_zero, List.set_cons_succ]
        refine wpAnyH_take (i := 12) (v := ?yc10v12) (by simp only [List.getElem?_toArray, List.getElem?_cons_succ, List.getElem?_cons_zero]; exact rfl) (by kernel_rfl) (by kernel_rfl) (by kernel_rfl) ?yc10q12 ?yc10y12 hH ?yc10r12
        case yc10q12 => exact fun _ _ _ h => h
        case yc10y12 =>
          refine Or.inl ⟨by rfl, fun v hv => ?_⟩
          go_simp
          rfl
        try simp only [Act.put, List.setIfInBounds_toArray, List.set_cons_zero, List.set_cons_succ]
        refine wpAnyH_done (by kernel_rfl) ?_ _
        clear hH
        go_wp2_with fail
        go_meet
        exact ⟨_, rfl, rfl, HOB.out, HBw.out⟩
    case rest =>
      obtain ⟨g9, rfl, rfl, HOB, HBx⟩ := hcut
      obtain ⟨A9, c9, D9, d9, hX9, hV9, hB9⟩ := HOB.out
      have hXr9 := HXr2.out.kept HBx.out
      have hg2 := HXr2.out.lt
      have hBf : Below w.heap.size w wc := (HB1.out.trans (HB2.out.mono HB1.out.size)).trans (HBx.out.mono (Nat.le_trans HB1.out.size hs2))
      have HBf := hide hBf
      cases ok with
      | true =>
        obtain ⟨w6, hst, hX6, hg6⟩ := box_store aggOp hXr9 rfl rfl (Opn.one o A9 c9 D9 d9)
        have HLd := hide (box_load aggOp hX9 rfl)
        have HSt := hide hst
        have HX6 := hide hX6
        have HV6 := hide ((hV9.agree fun i hi => hg6.block i hi.2.1 fun e => by have := Option.some.inj e; omega).mono fun i hi => (⟨by omega, Nat.lt_of_lt_of_le hi.2.1 hg6.size⟩ : w.heap.size ≤ i ∧ i < w6.heap.size))
        have HB6 := hide (below_grown HBf.out hg6 (Nat.le_succ _))
        clear hX9 hV9 hXr9 hst hX6 hg6 hBf
        go_wp2_with (first | ((with_reducible refine wpList_gives (o := ⟨some 41, _, _, _, _, _⟩) (v := .agg (o.cells A9 c9 D9 d9)) (w' := wc) ?_ ?_ ?_); rfl; exact gives_load rfl rfl HLd.out) | ((with_reducible refine wpList_does (o := ⟨none, _, _, _, _, _⟩) (w' := w6) ?_ ?_ ?_); rfl; exact does_store rfl rfl rfl HSt.out))
        refine bodyPost_ret (v := .tuple #[.agg (o.cells A9 c9 D9 d9), .bool true]) (by refine results_ct (p := 4) (q := 5) ?_ ?_ (box_load aggOp HX6.out rfl) <;> rfl) rfl ?_
        exact ⟨_, rfl, HV6.out, HB6.out⟩
      | false =>
        obtain ⟨w6, hst, hX6, hg6⟩ := box_store aggOp hXr9 rfl rfl (Opn.one zeroO none 0 none 0)
        have HSt := hide hst
        have HX6 := hide hX6
        have HB6 := hide (below_grown HBf.out hg6 (Nat.le_succ _))
        clear hX9 hV9 hXr9 hst hX6 hg6 hBf
        go_wp2_with ((with_reducible refine wpList_does (o := ⟨none, _, _, _, _, _⟩) (w' := w6) ?_ ?_ ?_); rfl; exact does_store rfl rfl rfl HSt.out)
        refine bodyPost_ret (v := .tuple #[.agg (zeroO.cells none 0 none 0), .bool false]) (by refine results_ct (p := 4) (q := 5) ?_ ?_ (box_load aggOp HX6.out rfl) <;> rfl) rfl ?_
        exact ⟨_, rfl, opv_nil rfl rfl, HB6.out⟩
end Go.Proofs.YtnndaemmgbkjbaaDoor
