/-
  Write.
-/
import Derived.Test.YtlelkhonkhlflaaDoorDsk
import Derived.StillTailTactics
import Derived.Deep.DeepCutAuto
namespace Go.Proofs.YtlelkhonkhlflaaDoor
open Go.RowKit
set_option linter.unusedVariables false
set_option linter.unusedSimpArgs false

/-- as Dsk, the blocks named -/
structure DskAt (F : Nat → Prop) (w : World) (s g mb : Nat) (ss : List (List UInt8)) (e : Nat → Option (List UInt8)) (fuse : Int) (dead : Bool) : Prop where
  box : Box w s 68 #[.slice (some ⟨g, 0, none⟩) ss.length ss.length, .map (some mb), .int .i64 fuse, .bool dead]
  secs : Secs w g ss
  safe : SafeM w mb ss.length e
  mg : F g
  mm : F mb
  sg : s ≠ g
  sm : s ≠ mb
  gm : g ≠ mb
  mem : F s
  lt : Lt F w
  some_ : 1 ≤ ss.length
  most : ss.length ≤ 4096
section
variable {F G M : Nat → Prop} {w w' : World} {s g mb : Nat} {ss : List (List UInt8)} {e : Nat → Option (List UInt8)} {fuse : Int} {dead : Bool}
theorem Dsk.at_ (h : Dsk F w s ss e fuse dead) : ∃ g mb, DskAt F w s g mb ss e fuse dead := by
  obtain ⟨g, mb, h1, h2, h3, h4, h5, h6, h7, h8⟩ := h.box
  exact ⟨g, mb, ⟨h1, h2, h3, h4, h5, h6, h7, h8, h.mem, h.lt, h.some_, h.most⟩⟩
theorem DskAt.dsk (h : DskAt F w s g mb ss e fuse dead) : Dsk F w s ss e fuse dead := ⟨⟨g, mb, h.box, h.secs, h.safe, h.mg, h.mm, h.sg, h.sm, h.gm⟩, h.mem, h.lt, h.some_, h.most⟩
theorem DskAt.agree (h : DskAt F w s g mb ss e fuse dead) (ha : Agree F w w') (hl : w.heap.size ≤ w'.heap.size) : DskAt F w' s g mb ss e fuse dead :=
  ⟨h.box.agree ha h.mem, h.secs.of_eq (ha g h.mg), h.safe.of_eq (ha mb h.mm), h.mg, h.mm, h.sg, h.sm, h.gm, h.mem, h.lt.size hl, h.some_, h.most⟩
theorem DskAt.kept (h : DskAt F w s g mb ss e fuse dead) (hb : Below w.heap.size w w') : DskAt F w' s g mb ss e fuse dead := h.agree (Agree.of_below hb h.lt) hb.size
theorem DskAt.cells (h : DskAt F w s g mb ss e fuse dead) : w.cell? ⟨s, 0, none⟩ = some (.slice (some ⟨g, 0, none⟩) ss.length ss.length) ∧ w.cell? ⟨s, 1, none⟩ = some (.map (some mb)) ∧ w.cell? ⟨s, 2, none⟩ = some (.int .i64 fuse) ∧ w.cell? ⟨s, 3, none⟩ = some (.bool dead) :=
  ⟨h.box.cell 0, h.box.cell 1, h.box.cell 2, h.box.cell 3⟩
theorem DskAt.newSafe (h : DskAt F w s g mb ss e fuse dead) {e' : Nat → Option (List UInt8)} (hs : SafeM w' mb ss.length e') (hg : w.grownBy w' (some mb)) : DskAt F w' s g mb ss e' fuse dead := by
  have hl := hg.size
  refine ⟨h.box.grown hg (fun e => h.sm (by injection e)), h.secs.of_eq (hg.block g h.secs.lt (fun e => h.gm (by injection e))), hs, h.mg, h.mm, h.sg, h.sm, h.gm, h.mem, h.lt.size hl, h.some_, h.most⟩
theorem DskAt.newSecs (h : DskAt F w s g mb ss e fuse dead) {tt : List (List UInt8)} (hs : Secs w' g tt) (hl : tt.length = ss.length) (hg : w.grownBy w' (some g)) : DskAt F w' s g mb tt e fuse dead := by
  have hz := hg.size
  refine ⟨?_, hs, ?_, h.mg, h.mm, h.sg, h.sm, h.gm, h.mem, h.lt.size hz, by rw [hl]; exact h.some_, by rw [hl]; exact h.most⟩
  · rw [hl]
    exact h.box.grown hg (fun e => h.sg (by injection e))
  · rw [hl]
    exact h.safe.of_eq (hg.block mb h.safe.lt (fun e => h.gm (by injection e with e; exact e.symm)))
end
/-- what a sector reads as behind a write -/
def padS (bs : List UInt8) : List UInt8 := bs ++ List.replicate (64 - bs.length) 0
theorem padS_length {bs : List UInt8} (h : bs.length ≤ 64) : (padS bs).length = 64 := by rw [padS, List.length_append, List.length_replicate]; omega
theorem padS_drop {bs : List UInt8} : bs ++ zeroS.drop bs.length = padS bs := by rw [padS, zeroS, List.drop_replicate]
/-- the safe contents behind a write -/
def markE (e : Nat → Option (List UInt8)) (ss : List (List UInt8)) (i : Nat) : Nat → Option (List UInt8) := fun j => if j = i then (match e i with | some s => some s | none => some (ss.getD i [])) else e j
theorem markE_some {e : Nat → Option (List UInt8)} {ss : List (List UInt8)} {i : Nat} {s : List UInt8} (h : e i = some s) : markE e ss i = e := by
  funext j
  unfold markE
  by_cases hj : j = i
  · subst hj; rw [if_pos rfl, h]
  · rw [if_neg hj]
theorem markE_none {e : Nat → Option (List UInt8)} {ss : List (List UInt8)} {i : Nat} (h : e i = none) : markE e ss i = fun j => if j = i then some (ss.getD i []) else e j := by
  funext j
  unfold markE
  rw [h]
def WrPost (F : Nat → Prop) (w : World) (s : Nat) (ss : List (List UInt8)) (e : Nat → Option (List UInt8)) (fuse : Int) (dead : Bool) (k : Int) (en : Ending) (w' : World) : Prop :=
  en = .returned (.int .i64 k) ∧ Chg F w w' ∧ Dsk F w' s ss e fuse dead
theorem len_ne (ss : List (List UInt8)) (i : Nat) (x : List UInt8) : (ss.set i x).length = ss.length := List.length_set
theorem set_at (ss : List (List UInt8)) (i : Nat) (x : List UInt8) (h : i < ss.length) : (ss.set i x).getD i [] = x := by simp [List.getD_eq_getElem?_getD, h]

set_option maxHeartbeats 3200000 in
set_option maxRecDepth 100000 in
theorem write_ok {F G : Nat → Prop} {w : World} {s : Nat} {ss : List (List UInt8)} {e : Nat → Option (List UInt8)} {fuse : Int} (h : Dsk F w s ss e fuse false) (hf1 : -1 ≤ fuse) (hf2 : fuse ≤ 9223372036854775807) (hf0 : fuse ≠ 0) (i : Nat) (hi : i < ss.length) (A : Option Addr) (c : Nat) (bs : List UInt8) (hb : BysIn G w A bs) (hG : Lt G w) (hd : ∀ j, G j → ¬ F j) (hm : bs.length ≤ 64) :
    Calls Tryd.prog 27 #[.pointer (some ⟨s, 0, none⟩), .int .i64 (i : Int), .slice A bs.length c] w (WrPost F w s (ss.set i (padS bs)) (markE e ss i) (burnF fuse) false 0) := by
  have hchk : chkE false ss.length (i : Int) = 0 := by unfold chkE; rw [if_neg (by simp), if_neg (by omega), if_neg (by omega)]
  have HK := hide (check_any h (i : Int))
  rw [hchk] at HK
  have HB := hide (burn_any h hf1 hf2)
  have hfz : decide (fuse = 0) = false := decide_eq_false hf0
  unfold BurnPost at HB
  rw [hfz] at HB
  have t1 : decide ((64 : Int) < (bs.length : Int)) = false := decide_eq_false (by omega)
  have HBY := hide hb
  have HG := hide hG
  have HD := hide hd
  have hlt := h.lt
  have HLT := hide hlt
  clear h hb hG hd hfz hchk hlt
  generalize hfu : burnF fuse = fu at HB ⊢
  clear hfu hf0 hf1 hf2
  go_enter Tryd.func27, Tryd.ntmps27
  go_wp2_with fail
  refine HK.out.mono ?_
  rintro en w1 ⟨rfl, rfl⟩
  go_wp2_with fail
  refine HB.out.mono ?_
  rintro en w1 ⟨rfl, hC1, hD1⟩
  obtain ⟨g, mb, hD1⟩ := hD1.at_
  have HFs := hide hD1.mem
  have HC1 := hide (hC1.mono (N := F) fun j _ hj => by subst hj; exact HFs.out)
  have HBY1 := hide (HBY.out.agree (Agree.of_chg HC1.out HG.out HD.out))
  have HD1 := hide hD1
  have hmo := hD1.most
  obtain ⟨c0, c1, _, _⟩ := hD1.cells
  clear hD1 hC1 HBY HB HK
  cases he : e i with
  | some x =>
    have HE := hide he
    clear he
    have hx := HD1.out.safe.look_some hmo hi HE.out
    have HX := hide hx
    clear hx
    obtain ⟨w3, hr3, _, hg3⟩ := (Secs.one w1).store (i := 0) (by simp) (HD1.out.safe.len64 hi HE.out)
    rw [Nat.zero_mul] at hr3
    have HR3 := hide hr3
    have HB13 : Hid (Below w1.heap.size w1 w3) := ((Below.refl _ _).alloc (Nat.le_refl _) _).grown hg3 (by simp) (fun j e => by injection e with e; omega)
    have HD3 := hide (HD1.out.kept HB13.out)
    obtain ⟨d0, d1, _, _⟩ := HD3.out.cells
    have HC3 := hide (HC1.out.trans (Chg.of_below HB13.out (fun _ => False)) fun _ _ e => e.elim)
    have HBY3 := hide ((HBY1.out.agree (Agree.of_below HB13.out (fun j hj => HG.out.chg HC1.out j hj))))
    clear hr3 hg3
    obtain ⟨w5, hr5, hS5, hg5⟩ := HD3.out.secs.store hi zeroS_length
    have HR5 := hide hr5
    have HG5 := hide hg5
    have HD5 := hide (HD3.out.newSecs hS5 (len_ne _ _ _) hg5)
    have HC5 := hide (HC3.out.trans (Chg.of_grown hg5) fun j _ e => by injection e with e; subst e; exact HD1.out.mg)
    obtain ⟨e0, e1, _, _⟩ := HD5.out.cells
    rw [len_ne] at e0
    have HBY5 := hide (HBY3.out.agree (Agree.of_chg (Chg.of_grown hg5) (HG.out.chg HC3.out) fun j hj e => by injection e with e; subst e; exact HD.out _ hj HD1.out.mg))
    clear hr5 hS5 hg5
    have hi5 : i < (ss.set i zeroS).length := by rw [len_ne]; exact hi
    obtain ⟨w6, hr6, hS6, hg6⟩ := HD5.out.secs.copy hi5 A c bs (HBY5.out.bys (HG.out.chg HC5.out)) hm 3
    rw [set_at _ _ _ hi, List.set_set, padS_drop] at hS6
    have HR6 := hide hr6
    have HD6 := hide (HD5.out.newSecs hS6 (by rw [len_ne, len_ne]) hg6)
    have HC6 := hide (HC5.out.trans (Chg.of_grown hg6) fun j _ e => by injection e with e; subst e; exact HD1.out.mg)
    clear hr6 hS6 hg6
    go_wp2_with (first | ((with_reducible refine wpList_gives (o := ⟨some 30, _, _, _, _, _⟩) (v := Value.tuple #[.agg (secA x), .bool true]) (w' := w1) ?_ ?_ ?_); rfl; exact gives_lookup rfl rfl rfl HX.out) | ((with_reducible refine wpList_gives (o := ⟨some 8, _, _, _, _, _⟩) (v := Value.pointer (some ⟨w1.heap.size, 0, none⟩)) (w' := w1.alloc (.cells (secA zeroS) 75)) ?_ ?_ ?_); rfl; exact gives_alloc_sec rfl) | ((with_reducible refine wpList_does (o := ⟨none, .store 75 (.tmp 8) _, _, _, _, _⟩) (w' := w3) ?_ ?_ ?_); rfl; exact does_store rfl rfl rfl HR3.out) | ((with_reducible refine wpList_gives (o := ⟨some 52, _, _, _, _, _⟩) (v := Value.agg (secA zeroS)) (w' := w3) ?_ ?_ ?_); rfl; exact gives_build_sec rfl) | ((with_reducible refine wpList_does (o := ⟨none, .store 75 (.tmp 53) _, _, _, _, _⟩) (w' := w5) ?_ ?_ ?_); rfl; exact does_store rfl rfl rfl HR5.out) | ((with_reducible refine wpList_gives (o := ⟨some 62, _, _, _, _, _⟩) (v := goInt bs.length) (w' := w6) ?_ ?_ ?_); rfl; exact gives_copy rfl rfl rfl HR6.out))
    go_ret
    exact ⟨rfl, HC6.out, by rw [markE_some HE.out]; exact HD6.out.dsk⟩
  | none =>
    have HE := hide he
    clear he
    have hx := HD1.out.safe.look_none hmo hi HE.out
    have HX := hide hx
    clear hx
    obtain ⟨w3, hr3, _, hg3⟩ := (Secs.one w1).store (i := 0) (by simp) zeroS_length
    rw [Nat.zero_mul] at hr3
    have HR3 := hide hr3
    have HB13 : Hid (Below w1.heap.size w1 w3) := ((Below.refl _ _).alloc (Nat.le_refl _) _).grown hg3 (by simp) (fun j e => by injection e with e; omega)
    have HD3 := hide (HD1.out.kept HB13.out)
    obtain ⟨d0, d1, _, _⟩ := HD3.out.cells
    have HC3 := hide (HC1.out.trans (Chg.of_below HB13.out (fun _ => False)) fun _ _ e => e.elim)
    have HBY3 := hide ((HBY1.out.agree (Agree.of_below HB13.out (fun j hj => HG.out.chg HC1.out j hj))))
    clear hr3 hg3
    obtain ⟨w9, hw9⟩ : ∃ w9, w9 = w3.drew := ⟨_, rfl⟩
    have HD9 : Hid (DskAt F w9 s g mb ss e fu false) := by rw [hw9]; exact HD3.out.agree (fun _ _ => rfl) (Nat.le_refl _)
    have HC9 : Hid (Chg F w w9) := by rw [hw9]; exact HC3.out.drew
    have HBY9 : Hid (BysIn G w9 A bs) := by rw [hw9]; exact HBY3.out
    have HL := hide (HD9.out.secs.load hi)
    have HW9 := hide hw9
    clear hw9
    obtain ⟨w4, hr4, hM4, hg4⟩ := HD9.out.safe.store hmo hi (ss.getD i []) (HD9.out.secs.at_len hi)
    rw [← markE_none HE.out] at hM4
    have HR4 := hide hr4
    have HD4 := hide (HD9.out.newSafe hM4 hg4)
    have HC4 := hide (HC9.out.trans (Chg.of_grown hg4) fun j _ e => by injection e with e; subst e; exact HD1.out.mm)
    have HBY4 := hide (HBY9.out.agree (Agree.of_chg (Chg.of_grown hg4) (HG.out.chg HC9.out) fun j hj e => by injection e with e; subst e; exact HD.out _ hj HD1.out.mm))
    obtain ⟨k0, k1, _, _⟩ := HD4.out.cells
    clear hr4 hM4 hg4
    obtain ⟨w5, hr5, hS5, hg5⟩ := HD4.out.secs.store hi zeroS_length
    have HR5 := hide hr5
    have HD5 := hide (HD4.out.newSecs hS5 (len_ne _ _ _) hg5)
    have HC5 := hide (HC4.out.trans (Chg.of_grown hg5) fun j _ e => by injection e with e; subst e; exact HD1.out.mg)
    obtain ⟨e0, e1, _, _⟩ := HD5.out.cells
    rw [len_ne] at e0
    have HBY5 := hide (HBY4.out.agree (Agree.of_chg (Chg.of_grown hg5) (HG.out.chg HC4.out) fun j hj e => by injection e with e; subst e; exact HD.out _ hj HD1.out.mg))
    clear hr5 hS5 hg5
    have hi5 : i < (ss.set i zeroS).length := by rw [len_ne]; exact hi
    obtain ⟨w6, hr6, hS6, hg6⟩ := HD5.out.secs.copy hi5 A c bs (HBY5.out.bys (HG.out.chg HC5.out)) hm 3
    rw [set_at _ _ _ hi, List.set_set, padS_drop] at hS6
    have HR6 := hide hr6
    have HD6 := hide (HD5.out.newSecs hS6 (by rw [len_ne, len_ne]) hg6)
    have HC6 := hide (HC5.out.trans (Chg.of_grown hg6) fun j _ e => by injection e with e; subst e; exact HD1.out.mg)
    clear hr6 hS6 hg6
    go_upto_region 10 with (first | ((with_reducible refine wpList_gives (o := ⟨some 30, _, _, _, _, _⟩) (v := Value.tuple #[.agg (secA zeroS), .bool false]) (w' := w1) ?_ ?_ ?_); rfl; exact gives_lookup rfl rfl rfl HX.out) | ((with_reducible refine wpList_gives (o := ⟨some 8, _, _, _, _, _⟩) (v := Value.pointer (some ⟨w1.heap.size, 0, none⟩)) (w' := w1.alloc (.cells (secA zeroS) 75)) ?_ ?_ ?_); rfl; exact gives_alloc_sec rfl) | ((with_reducible refine wpList_does (o := ⟨none, .store 75 (.tmp 8) _, _, _, _, _⟩) (w' := w3) ?_ ?_ ?_); rfl; exact does_store rfl rfl rfl HR3.out))
    refine wp_region_still_tail 12 (by kernel_rfl) (by kernel_rfl) ?_
    simp only [List.take_succ_cons, List.take_zero, List.drop_succ_cons, List.drop_zero]
    iterate 11 still_step
    refine wpStill_gives (o := ⟨some 46, _, _, _, _, _⟩) (v := Value.agg (secA (ss.getD i []))) rfl (gives_load rfl rfl (by have h := HL.out; rw [HW9.out] at h; exact h)) ?_
    refine wpStill_nil ?_
    change wpList _ _ _ _ _ w3.drew
    rw [← HW9.out]
    go_wp2_with (first | ((with_reducible refine wpList_does (o := ⟨none, .mapUpdate 66 _ _ _, _, _, _, _⟩) (w' := w4) ?_ ?_ ?_); rfl; exact does_mapUpdate rfl rfl rfl rfl HR4.out) | ((with_reducible refine wpList_gives (o := ⟨some 52, _, _, _, _, _⟩) (v := Value.agg (secA zeroS)) (w' := w4) ?_ ?_ ?_); rfl; exact gives_build_sec rfl) | ((with_reducible refine wpList_does (o := ⟨none, .store 75 (.tmp 53) _, _, _, _, _⟩) (w' := w5) ?_ ?_ ?_); rfl; exact does_store rfl rfl rfl HR5.out) | ((with_reducible refine wpList_gives (o := ⟨some 62, _, _, _, _, _⟩) (v := goInt bs.length) (w' := w6) ?_ ?_ ?_); rfl; exact gives_copy rfl rfl rfl HR6.out))
    go_ret
    exact ⟨rfl, HC6.out, HD6.out.dsk⟩
end Go.Proofs.YtlelkhonkhlflaaDoor
