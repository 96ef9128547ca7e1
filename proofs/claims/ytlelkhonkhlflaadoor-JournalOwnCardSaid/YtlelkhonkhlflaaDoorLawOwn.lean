/-
  THE LAW JournalOwn: changing an entry after Append, or a result of All, does not change the journal. For every slice of bytes, no condition.
-/
import Derived.Test.YtlelkhonkhlflaaDoorFrame
namespace Go.Proofs.YtlelkhonkhlflaaDoor.lawOwn
open Go.ChangeShapes Go.WideShapes Go.ChangeAt Go.RowKit
set_option linter.unusedVariables false
set_option linter.unusedSimpArgs false
set_option maxRecDepth 100000

theorem jrn_other {F G M : Nat → Prop} {w w' : World} {j s : Nat} {ss : List (List UInt8)} {e : Nat → Option (List UInt8)} {fuse : Int} {dead : Bool} {last : List UInt8} {es : List (List UInt8)} (h : Jrn F G w j s ss e fuse dead last es) (hc : Chg M w w') (hF : ∀ i, F i → ¬ M i) (hG : ∀ i, G i → ¬ M i) : Jrn F G w' j s ss e fuse dead last es := by
  obtain ⟨v, vals, h1, h2⟩ := h.box
  have ha : Agree G w w' := Agree.of_chg hc h.lt hG
  exact ⟨⟨v, vals, h1.of_eq (ha j h.mem), h2.agree (ha.mono fun i hi => hi.1)⟩, h.dsk.chg hc hF, h.mem, h.lt.size hc.size, h.apart⟩
theorem own_single {w : World} {B : Nat} {v : Value} {r c : Nat → Nat} {f : List UInt8} (h : Own w B v r c [f]) :
    ∃ gl cc, v = .slice (some ⟨gl, 0, none⟩) 1 cc ∧ B ≤ gl ∧ w.cell? ⟨gl, 0, none⟩ = some (.slice (some ⟨r 0, 0, none⟩) f.length (c 0)) ∧ Row w (r 0) f ∧ B ≤ r 0 ∧ gl ≠ r 0 := by
  obtain ⟨h1, h2, h3, h4⟩ := h.2.1 0 (by simp)
  rcases h.1.2 with ⟨_, h0⟩ | ⟨g, cap, cur, rfl, hb, hg, hc, hm, hz, ht⟩
  · simp at h0
  · refine ⟨g, cap, rfl, hb, ?_, h1, h2, fun e => h3 (by rw [← e]; rfl)⟩
    rw [cell_of_row w g 0 cur 22 (0, 0) hg]
    have e1 : cur.toList.take 1 = [.slice (some ⟨r 0, 0, none⟩) f.length (c 0)] := ht
    have e2 : (cur.toList.take 1)[0]? = cur.toList[0]? := List.getElem?_take_of_lt (by omega)
    rw [e1] at e2
    rw [← Array.getElem?_toList, ← e2]
    rfl
/-- an append of nothing -/
theorem append_nothing (w : World) (ty : TypeId) (b : Addr) (n c : Nat) (hn : n ≤ c) (A : Option Addr) (d : Nat) : (Builtin.append_ #[22, 22] ty #[.slice (some b) n c, .slice A 0 d]).run Tryd.prog w = .ok (.slice (some b) n c) w := by
  obtain ⟨i0, hi, hz0, hz1, hz2⟩ := info_parts u8info
  have hf : (Builtin.firstCells i0.size 0 (.slice A 0 d)).run Tryd.prog w = .ok #[] w := by
    cases A with
    | none => exact run_firstCells_none w i0.size 0 0 d
    | some b =>
      have := run_firstCells_some (P := Tryd.prog) w i0.size 0 b 0 d [] (by simp) (fun j v h => by simp at h)
      simpa using this
  simp [Builtin.append_, run_underlying Tryd.underlying22, sizeOf, typeInfo, hi, Builtin.lenOf, hf, storeCells, hn]
/-- the entry that the law makes -/
theorem begin_any (A : Option Addr) (c : Nat) (us : List UInt8) (W : World) (hu : Bys W A us) (hl : us.length ≤ 100) :
    ∃ g d w', (Builtin.append_ #[22, 22] 22 #[.slice (some ⟨W.heap.size, 0, none⟩) 1 1, .slice A us.length c]).run Tryd.prog (W.alloc (.cells #[.int .u8 7] 5)) = .ok (.slice (some ⟨g, 0, none⟩) (1 + us.length) d) w' ∧ Row w' g (7 :: us) ∧ W.heap.size ≤ g ∧ Below W.heap.size W w' ∧ 1 + us.length ≤ d := by
  have hB : Below W.heap.size W (W.alloc (.cells #[.int .u8 7] 5)) := (Below.refl _ _).alloc (Nat.le_refl _) _
  have hR : Row (W.alloc (.cells #[.int .u8 7] 5)) W.heap.size [7] := ⟨[], heap_alloc_new W _⟩
  by_cases h0 : us.length = 0
  · obtain rfl := List.length_eq_zero_iff.1 h0
    exact ⟨W.heap.size, 1, _, append_nothing _ _ _ 1 1 (Nat.le_refl _) A c, hR, Nat.le_refl _, hB, Nat.le_refl _⟩
  · have hO : OwnBy W.heap.size (W.alloc (.cells #[.int .u8 7] 5)) (.slice (some ⟨W.heap.size, 0, none⟩) 1 1) [7] :=
      ⟨rfl, .inr ⟨W.heap.size, 1, _, rfl, Nat.le_refl _, heap_alloc_new W _, Nat.le_refl _, by decide, rfl, rfl⟩⟩
    obtain ⟨b, off, rfl, hb, _⟩ := hu (by omega)
    obtain ⟨A', d, w', hr, hO', hB'⟩ := push_bytes (c := c) hO (by simp) (by simp) (hu.below hB) (by omega) (by omega) 22
    obtain ⟨g, cap, hv, hg, hrow, hcap⟩ := own_row hO' (by simp)
    injection hv with e1 e2 e3
    subst e1
    have e : ([7] ++ us : List UInt8).length = 1 + us.length := by rw [List.length_append]; rfl
    rw [e] at hr
    exact ⟨g, d, w', hr, hrow, hg, hB.trans hB', by rw [← e]; omega⟩
theorem fr_one {w : World} {g d L : Nat} {xs : List UInt8} (hR : Row w g xs) (hL : xs.length = L) (hd : L ≤ d) : Fr (w.alloc (.cells #[.slice (some ⟨g, 0, none⟩) L d] 22)) (some ⟨w.heap.size, 0, none⟩) [xs] := fun _ => ⟨w.heap.size, 0, rfl, by simp, fun k hk => by
  obtain rfl : k = 0 := by have : k < 1 := hk; omega
  subst hL
  exact ⟨some ⟨g, 0, none⟩, d, (Box.new w 22 #[.slice (some ⟨g, 0, none⟩) xs.length d]).cell 0, (hR.alloc _).bys, hd⟩⟩
set_option maxHeartbeats 3200000 in
theorem walk (A : Option Addr) (c : Nat) (us : List UInt8) {W : World} (hK : Kon konN W) (hu : Bys W A us) (hm : us.length ≤ maxLen) (hcu : us.length ≤ c) : Calls Tryd.prog 3 #[.slice A us.length c] W fun e W' => e = .returned (.bool true) ∧ Below W.heap.size W W' := by
  have h0 := hK.some_
  have HK := hide hK
  obtain ⟨n, hn⟩ : ∃ n, n = min us.length 100 := ⟨_, rfl⟩
  have hmin : min (us.length : Int) 100 = (n : Int) := by omega
  have hvl : (us.take n).length = n := by rw [List.length_take]; omega
  have hnc : (n : Int) ≤ (c : Int) := by omega
  have hnu : (n : Int) ≤ (us.length : Int) := by omega
  obtain ⟨g, d, w1, hr1, hR1, hg1, hB1, hd1⟩ := begin_any A c (us.take n) W (bys_take hu n) (by omega)
  rw [hvl] at hr1 hd1
  obtain ⟨xs, hxs⟩ : ∃ xs, xs = 7 :: us.take n := ⟨_, rfl⟩
  have hxl : xs.length = 1 + n := by rw [hxs, List.length_cons, hvl]; omega
  have hx0 : xs.getD 0 0 = 7 := by rw [hxs]; rfl
  rw [← hxs] at hR1
  have hn100 : n ≤ 100 := by omega
  have HR1 := hide hr1
  have HX := hide hxl
  have HX0 := hide hx0
  have HRW := hide hR1
  have HB1 := hide hB1
  clear hr1 hxl hx0 hR1 hB1 hxs hvl hn hm hcu hu hK
  go_enter Tryd.func3, Tryd.ntmps3
  go_upto_region 2 with ((with_reducible refine wpList_gives (o := ⟨some 14, _, _, _, _, _⟩) (v := .slice (some ⟨g, 0, none⟩) (1 + n) d) (w' := w1) ?_ ?_ ?_); rfl; exact gives_append rfl rfl rfl HR1.out)
  obtain ⟨L, hL⟩ : ∃ L, L = 1 + n := ⟨_, rfl⟩
  rw [← hL] at HX ⊢
  have hL1 : 1 ≤ L := by omega
  have hL2 : L ≤ 101 := by omega
  have hLd : L ≤ d := by omega
  clear hmin hnc hnu hd1 hn100 hL HR1
  -- the journal
  have HF := hide (fresh_any (n := 16) (HK.out.below HB1.out h0) (by omega) (by omega))
  have hs1 := HB1.out.size
  have hgw1 := HRW.out.lt
  go_wp2_with fail
  refine HF.out.mono ?_
  rintro en w2 ⟨s, j, ss, F, G, rfl, hJ2, hsl, hB2, hF2, hG2⟩
  have hs2 := hB2.size
  have hRW2 := HRW.out.kept hB2
  obtain ⟨A3, d3, w3, hr3, hO3, hB3⟩ := push_bytes (w := w2) (c := d) (OwnBy.nil w2.heap.size w2) (Nat.le_refl _) (by simp) hRW2.bys (by rw [HX.out]; omega) (by rw [HX.out]; omega) 22
  rw [List.nil_append, HX.out] at hr3 hO3
  obtain ⟨gw, capw, hvw, hgw, hRw3, hcw⟩ := own_row (n := L) (bs := xs) (by have := hO3; rw [OwnBy, HX.out] at this; exact this) (by omega)
  injection hvw with e1 e2 e3
  subst e1
  subst e3
  clear e2
  have hJ3 := hJ2.kept hB3
  have hB13 : Below w1.heap.size w1 w3 := hB2.trans (hB3.mono hs2)
  have hgF : ¬ F g := fun h1 => by have := hF2 g h1; omega
  have hgG : ¬ G g := fun h1 => by have := hG2 g h1; omega
  have hgwF : ¬ F gw := fun h1 => by have := hJ2.jrn.dsk.lt gw h1; omega
  have hgwG : ¬ G gw := fun h1 => by have := hJ2.jrn.lt gw h1; omega
  have hap := append_jok (c := d) hJ3 (HK.out.below (HB1.out.trans (hB13.mono hs1)) h0) (by rw [hsl]; decide) (HRW.out.kept hB13).bys hgF hgG (by rw [HX.out]; omega) (by rw [HX.out]; omega) (by rw [HX.out]; omega)
  rw [HX.out] at hap
  have HAP := hide hap
  have HR3 := hide hr3
  have HRW3 := hide (HRW.out.kept hB13)
  have HWS3 := hide hRw3
  have HB3 := hide (HB1.out.trans (hB13.mono hs1))
  have HJ3 := hide hJ3
  have HFL := hide hF2
  have HGL := hide hG2
  have hs3 := hB3.size
  have HSL := hide hsl
  clear hap hr3 hO3 hJ2 hJ3 hB2 hB3 hB13 hRW2 hRw3 hF2 hG2 hsl
  go_wp2_with ((with_reducible refine wpList_gives (o := ⟨some 21, _, _, _, _, _⟩) (v := .slice (some ⟨gw, 0, none⟩) L d3) (w' := w3) ?_ ?_ ?_); rfl; exact gives_append rfl rfl rfl HR3.out)
  refine HAP.out.mono ?_
  rintro en w4 ⟨rfl, G4, ss4, hJ4, hsl4, hC4, hG4⟩
  have hs4 := hC4.size
  have hR4 : Row w4 g xs := by
    obtain ⟨rest, h1⟩ := HRW3.out
    exact ⟨rest, (hC4.block g HRW3.out.lt (fun h2 => h2.elim hgF hgG)).trans h1⟩
  have hRw4 : Row w4 gw xs := by
    obtain ⟨rest, h1⟩ := HWS3.out
    exact ⟨rest, (hC4.block gw HWS3.out.lt (fun h2 => h2.elim hgwF hgwG)).trans h1⟩
  have hB4 : Below W.heap.size W w4 := HB3.out.trans (hC4.below (fun i hi h1 => h1.elim (fun h2 => by have := HFL.out i h2; omega) (fun h2 => by have := HGL.out i h2; omega)) (by omega))
  have hgG4 : ¬ G4 g := fun h1 => (hG4 g h1).elim hgG (fun h2 => by have := HRW3.out.lt; omega)
  -- the law's entry is turned
  have q7 : w4.cell? ⟨g, 0, none⟩ = some (.int .u8 7) := by
    rw [hR4.cell (k := 0) (by rw [HX.out]; omega), HX0.out]
    rfl
  have hfz := hR4.frozen 0
  obtain ⟨w5, hw5⟩ : ∃ w5, w5 = w4.setCell ⟨g, 0, none⟩ (.int .u8 8) := ⟨_, rfl⟩
  have hC5 : Chg (fun b => b = g) w4 w5 := by rw [hw5]; exact Chg.set1 w4 g 0 _
  have hJ5 := jrn_other hJ4.jrn hC5 (fun i hi h1 => hgF (h1 ▸ hi)) (fun i hi h1 => hgG4 (h1 ▸ hi))
  have hggw : gw ≠ g := by omega
  have hRw5 : Row w5 gw xs := by rw [hw5]; exact hRw4.far (by exact hggw) _
  have hB5 : Below W.heap.size W w5 := by rw [hw5]; exact hB4.setCell (by exact hg1) _
  have hes : ∀ i, (([] ++ [xs] : List (List UInt8)).getD i []).length ≤ 1000 := fun i => by
    rcases i with _ | i
    · show xs.length ≤ 1000
      rw [HX.out]; omega
    · exact Nat.zero_le _
  have hes0 : ∀ i, i < ([] ++ [xs] : List (List UInt8)).length → 0 < (([] ++ [xs] : List (List UInt8)).getD i []).length := fun i hi => by
    obtain rfl : i = 0 := by have : i < 1 := hi; omega
    show 0 < xs.length
    rw [HX.out]; omega
  have hmx : ∀ i, (([xs] : List (List UInt8)).getD i []).length ≤ maxLen := fun i => Nat.le_trans (hes i) (by decide)
  have HAL := hide (all_any hJ5 (by show 1 ≤ 100000; omega) hes0 hes)
  have HES := hide hes
  have HES0 := hide hes0
  have HMX := hide hmx
  have HJ5 := hide hJ5
  have HRw5 := hide hRw5
  have HB5 := hide hB5
  have HW5 := hide hw5
  have hs5 := hB5.size
  have hJl5 := HJ5.out.lt
  have HLF5 := hide HJ5.out.dsk.lt
  have HLG5 := hide HJ5.out.lt
  clear hC4 hR4 hRw4 hB4 hw5 hC5 hJ5 hRw5 hB5 hes hes0 hmx hJ4 hJl5 hsl4 hG4
  go_upto_region 7 with fail
  rw [← HW5.out]
  clear q7 hfz
  go_wp2_with fail
  refine HAL.out.mono ?_
  rintro en w6 ⟨v, r, cc, rfl, hO6, hB6⟩
  obtain ⟨gl, cl, rfl, hgl, hcl, hRr, hr0, hglr⟩ := own_single hO6
  have hRw6 := HRw5.out.kept hB6
  have hs6 := hB6.size
  have hfr6 : Fr w6 (some ⟨gl, 0, none⟩) [xs] := by
    obtain ⟨A', c', e1, _, h2⟩ := hO6.frIn
    injection e1 with e1 e2 e3
    have h3 := h2.fr (fun i hi => hi.2)
    rw [← e1] at h3
    exact h3
  have hB67 : Below w6.heap.size w6 (w6.alloc (.cells #[.slice (some ⟨gw, 0, none⟩) L d3] 22)) := (Below.refl _ _).alloc (Nat.le_refl _) _
  have HLI := hide (lists_any (some ⟨gl, 0, none⟩) (some ⟨w6.heap.size, 0, none⟩) cl 1 [xs] [xs] _ (hfr6.below hB67) (fr_one hRw6 HX.out hcw) rfl (by show 1 ≤ 1000000; omega) HMX.out HMX.out rfl)
  have HJ7 := hide (HJ5.out.kept (hB6.trans (hB67.mono hs6)))
  have HRw7 := hide (hRw6.kept hB67)
  have HRr7 := hide (hRr.kept hB67)
  have HB7 := hide (HB5.out.trans ((hB6.trans (hB67.mono hs6)).mono hs5))
  have HCL7 : Hid ((w6.alloc (.cells #[.slice (some ⟨gw, 0, none⟩) L d3] 22)).cell? ⟨gl, 0, none⟩ = some (.slice (some ⟨r 0, 0, none⟩) xs.length (cc 0))) := (hB67.cell (p := ⟨gl, 0, none⟩) (World.block_lt_of_cell? w6 _ hcl)).trans hcl
  have hgl6 := World.block_lt_of_cell? w6 _ hcl
  have hr6 := hRr.lt
  clear hO6 hB6 hcl hRr hRw6 hfr6 hB67
  go_wp2_with fail
  refine HLI.out.mono ?_
  rintro en w8 ⟨rfl, hB8⟩
  have hg7 : gl < (w6.alloc (.cells #[.slice (some ⟨gw, 0, none⟩) L d3] 22)).heap.size := by simp; omega
  have c8 : w8.cell? ⟨gl, 0, none⟩ = some (.slice (some ⟨r 0, 0, none⟩) xs.length (cc 0)) := (hB8.cell (p := ⟨gl, 0, none⟩) hg7).trans HCL7.out
  rw [HX.out] at c8
  have hRr8 := HRr7.out.kept hB8
  have q8 : w8.cell? ⟨r 0, 0, none⟩ = some (.int .u8 7) := by
    rw [hRr8.cell (k := 0) (by rw [HX.out]; omega), HX0.out]
    rfl
  have hfz := hRr8.frozen 0
  obtain ⟨w9, hw9⟩ : ∃ w9, w9 = w8.setCell ⟨r 0, 0, none⟩ (.int .u8 8) := ⟨_, rfl⟩
  have hC9 : Chg (fun b => b = r 0) w8 w9 := by rw [hw9]; exact Chg.set1 w8 (r 0) 0 _
  have hJ8 := HJ7.out.kept hB8
  have hJ9 := jrn_other hJ8 hC9 (fun i hi h1 => by have := HLF5.out i hi; omega) (fun i hi h1 => by have := HLG5.out i hi; omega)
  have hgwr : gw ≠ r 0 := by have := HRw5.out.lt; omega
  have hRw9 : Row w9 gw xs := by rw [hw9]; exact (HRw7.out.kept hB8).far (by exact hgwr) _
  have hB8' := HB7.out.trans (hB8.mono HB7.out.size)
  have hB9 : Below W.heap.size W w9 := by rw [hw9]; exact hB8'.setCell (by show W.heap.size ≤ r 0; omega) _
  have HW9 := hide hw9
  have HJ9 := hide hJ9
  have HRw9 := hide hRw9
  have HB9 := hide hB9
  have HAW := hide (awake_any (HK.out.below hB9 h0))
  clear hB8 hRr8 hw9 hC9 hJ8 hJ9 hRw9 hB8' hB9 hg7
  go_upto_region 11 with fail
  rw [← HW9.out]
  clear q8 hfz c8
  go_wp2_with fail
  refine HAW.out.mono ?_
  rintro en w10 ⟨rfl, hB10⟩
  have hJ10 := HJ9.out.kept hB10
  have HAL2 := hide (all_any hJ10 (by show 1 ≤ 100000; omega) HES0.out HES.out)
  have HRw10 := hide (HRw9.out.kept hB10)
  have HB10 := hide (HB9.out.trans (hB10.mono HB9.out.size))
  clear hB10 hJ10
  go_wp2_with fail
  refine HAL2.out.mono ?_
  rintro en w11 ⟨v2, r2, cc2, rfl, hO11, hB11⟩
  obtain ⟨gl2, cl2, rfl, _⟩ := own_single hO11
  have hRw11 := HRw10.out.kept hB11
  have hfr11 : Fr w11 (some ⟨gl2, 0, none⟩) [xs] := by
    obtain ⟨A', c', e1, _, h2⟩ := hO11.frIn
    injection e1 with e1 e2 e3
    have h3 := h2.fr (fun i hi => hi.2)
    rw [← e1] at h3
    exact h3
  have hB12 : Below w11.heap.size w11 (w11.alloc (.cells #[.slice (some ⟨gw, 0, none⟩) L d3] 22)) := (Below.refl _ _).alloc (Nat.le_refl _) _
  have HLI2 := hide (lists_any (some ⟨gl2, 0, none⟩) (some ⟨w11.heap.size, 0, none⟩) cl2 1 [xs] [xs] _ (hfr11.below hB12) (fr_one hRw11 HX.out hcw) rfl (by show 1 ≤ 1000000; omega) HMX.out HMX.out rfl)
  have HB12 := hide (HB10.out.trans ((hB11.trans (hB12.mono hB11.size)).mono HB10.out.size))
  clear hO11 hB11 hRw11 hfr11 hB12
  go_wp2_with fail
  refine HLI2.out.mono ?_
  rintro en w13 ⟨rfl, hB13⟩
  go_wp2_with fail
  go_ret
  exact ⟨rfl, HB12.out.trans (hB13.mono HB12.out.size)⟩

theorem laid_met (os : Os) : laidMet Tryd.prog Rows.journalOwnRow.laid ((laidWorld os).forCall (fun _ _ => 0) ⟨#[], #[.slice none 0 0], []⟩).memory :=
  laidMet_of_run' 8 (by kernel_rfl) (by kernel_rfl)
theorem lifted (os : Os) (started : os.Started) (H : Type) (enc : TypeId × Value → H) :
    ReturnsInHanded {} Tryd.checked os 3 .any (fun w args => (Rows.journalOwnSpec.pre enc Tryd.prog Tryd.f3 [] false w args ∧ laidMetH Tryd.prog Rows.journalOwnRow.laid w) ∧ sizedMet enc Tryd.prog Tryd.f3 (OpenSpec.ofChange Rows.journalOwnSpec) false w args)
      (Rows.journalOwnSpec.post enc Tryd.prog Tryd.f3 false true false false) := by
  refine returnsInHanded_of_change_and (C := Tryd.checked) (X := fun w _ => laidMetH Tryd.prog Rows.journalOwnRow.laid w) (fun _ _ _ hh h => h.of_heap hh) own started (by kernel_rfl) Tryd.func3
    (ChangeSpec.witness_at (enc := enc) (C := Tryd.checked) (os := os) (X := fun w _ => laidMetH Tryd.prog Rows.journalOwnRow.laid w) false (laidWorld os) #[.slice none 0 0] 8 rfl (by kernel_rfl) (by kernel_rfl) (by kernel_rfl) (by kernel_rfl) (by kernel_rfl) (laid_met os)) ?_
  intro W base args ds gs before hval0 hW hcnd _ hL _
  have hval : ∀ (j : Nat) t v, Tryd.f3.params[j]? = some t → args[j]? = some v → Value.okWide Tryd.prog W .any base t v := hval0
  have hK : Kon konN W := kon_of_laid hL
  have hW' := hW
  obtain ⟨p, q, hA0, hV, rfl, hfz, hnd⟩ := hW
  have hA : DataW.TrodAll enc Tryd.prog W 0 (fun _ => true) true Tryd.f3.params.toList args.toList ds p := hA0
  rw [Tryd.params3] at hA hval
  obtain ⟨v0, vs0, d0, ds0, p0, q0, hargs, rfl, rfl, h0, r0⟩ := trodAll_cons hA
  obtain ⟨rfl, rfl, rfl⟩ := trodAll_nil r0
  obtain rfl : args = #[v0] := by cases args; simp_all
  obtain ⟨A0, c0, bs0, rfl, hb0, hm0, hcp0⟩ := open_bytes_arg (hval 0 22 v0 rfl rfl) h0
  refine (walk A0 c0 bs0 hK hb0 hm0 hcp0).mono fun e W' ⟨he, hb⟩ => ?_
  subst he
  exact ⟨_, rfl, post_law hW' rfl hb (by rw [Tryd.params3]; exact params_ok (by kernel_rfl)) rfl rfl⟩

theorem over : Rows.journalOwnRow.holds Tryd.pinned (OpenSpec.ofChange Rows.journalOwnSpec) :=
  OpenClaim.holds_of_wide 3 Tryd.f3 rfl rfl rfl rfl rfl rfl rfl ⟨rfl, rfl, rfl, rfl, rfl⟩ rfl rfl rfl rfl rfl (by kernel_rfl) Tryd.func3 (by kernel_rfl)
    (of_decide_eq_true (by kernel_rfl)) (by unfold Func.isWrapper; first | (rw [if_pos (by decide +kernel)]; kernel_rfl) | (rw [if_neg (by decide +kernel)]; exact ⟨rfl, rfl⟩))
    (fun os started H enc _ => lifted os started H enc)

theorem plain (f : FuncId) (fn : Func) (hf : Tryd.pinned.checked.prog.funcNamed "election/electionlaw16.JournalOwn" = some f) (hfn : Tryd.pinned.checked.prog.funcs[f]? = some fn) :
    false = Tryd.pinned.checked.prog.looks [] ∧ ∀ (j : Nat) t, fn.params[j]? = some t → Tryd.pinned.checked.prog.wantsStandIn t = false := by
  obtain rfl : f = 3 := Option.some.inj ((show Tryd.prog.funcNamed "election/electionlaw16.JournalOwn" = some 3 by kernel_rfl).symm.trans hf) |>.symm
  obtain rfl : fn = Tryd.f3 := (Option.some.inj (Tryd.func3.symm.trans hfn)).symm
  refine ⟨by kernel_rfl, fun j t ht => ?_⟩
  rw [Tryd.params3] at ht
  have hm := Array.mem_of_getElem? ht
  simp only [List.mem_toArray, List.mem_cons, List.not_mem_nil, or_false] at hm
  subst hm; exact (show Tryd.prog.wantsStandIn 22 = false by kernel_rfl)
theorem proved : Rows.JournalOwnCardSaid :=
  Claim7.holds_tied_plain_at .later [] _ _ _ _ over (fun _ h => by cases h) (by kernel_rfl) (fun _ h => by cases h) journalOwn_row_tie rfl ⟨rfl, rfl⟩ (by kernel_rfl) rfl plain (by kernel_rfl)
end Go.Proofs.YtlelkhonkhlflaaDoor.lawOwn
