/-
  The receiver: Receive.
-/
import Derived.Test.YthhelhggggbaiaaPush
namespace Go.Proofs.Ythhelhggggbaiaa
open Go.RowKit
set_option linter.unusedVariables false
set_option linter.unusedSimpArgs false
attribute [local go_sem ↓] Go.wp_at_zero Go.wp_at_succ

/-- the frames got, the early ones: of what was accepted -/
def gots (H : Nat → Option (List UInt8)) (g : Nat) : List (List UInt8) := (List.range g).map fun k => (H k).getD []
def earlyOf (H : Nat → Option (List UInt8)) (g : Nat) : Int → Option (List UInt8) := fun k => if (g : Int) ≤ k then H k.toNat else none
def putH (H : Nat → Option (List UInt8)) (m : Nat) (bs : List UInt8) : Nat → Option (List UInt8) := fun j => if j = m then some bs else H j
def recvH (H : Nat → Option (List UInt8)) (m : Nat) (bs : List UInt8) : Nat → Option (List UInt8) := if (H m).isSome then H else putH H m bs
def recvLast (H : Nat → Option (List UInt8)) (m : Nat) (lst : Bool) (last : Int) : Int := if (H m).isSome then last else if lst then (m : Int) else last
theorem gots_length (H : Nat → Option (List UInt8)) (g : Nat) : (gots H g).length = g := by simp [gots]
theorem gots_succ (H : Nat → Option (List UInt8)) (g : Nat) {bs : List UInt8} (h : H g = some bs) : gots H (g + 1) = gots H g ++ [bs] := by simp [gots, List.range_succ, h]
theorem gots_getD (H : Nat → Option (List UInt8)) (g k : Nat) (h : k < g) : (gots H g).getD k [] = (H k).getD [] := by simp [gots, List.getD_eq_getElem?_getD, h]
theorem earlyOf_next (H : Nat → Option (List UInt8)) (k : Nat) : (fun j : Int => if j = (k : Int) then none else earlyOf H k j) = earlyOf H (k + 1) := by
  funext j
  unfold earlyOf
  by_cases h1 : j = (k : Int)
  · rw [if_pos h1, if_neg (by omega)]
  · rw [if_neg h1]
    by_cases h2 : (k : Int) ≤ j
    · rw [if_pos h2, if_pos (by omega)]
    · rw [if_neg h2, if_neg (by omega)]
theorem earlyOf_put (H : Nat → Option (List UInt8)) (g m : Nat) (bs : List UInt8) (h : g ≤ m) : (fun j : Int => if j = (m : Int) then some bs else earlyOf H g j) = earlyOf (putH H m bs) g := by
  funext j
  unfold earlyOf putH
  by_cases h1 : j = (m : Int)
  · rw [if_pos h1, if_pos (by omega), if_pos (by omega)]
  · rw [if_neg h1]
    by_cases h2 : (g : Int) ≤ j
    · rw [if_pos h2, if_pos h2, if_neg (by omega)]
    · rw [if_neg h2, if_neg h2]
theorem gots_put (H : Nat → Option (List UInt8)) (g m : Nat) (bs : List UInt8) (h : g ≤ m) : gots (putH H m bs) g = gots H g := by
  unfold gots putH
  apply List.map_congr_left
  intro k hk
  rw [List.mem_range] at hk
  rw [if_neg (by omega)]
theorem earlyOf_at (H : Nat → Option (List UInt8)) (k : Nat) : earlyOf H k (k : Int) = H k := by
  unfold earlyOf
  rw [if_pos (Int.le_refl _), Int.toNat_natCast]

section
variable {F G : Nat → Prop} {w w' : World} {r W : Nat} {got : List (List UInt8)} {e : Int → Option (List UInt8)} {last : Int} {n n' : Nat} {mb : Nat} {v : Value} {vals : List Value}
theorem Early.monoN (h : Early F w mb n e) (hn : n ≤ n') : Early F w mb n' e := by
  obtain ⟨D, h1, h2⟩ := h
  exact ⟨D, h1.mono hn, h2⟩
theorem Rcv.monoN (h : Rcv F w r W got e last n) (hn : n ≤ n') : Rcv F w r W got e last n' := by
  obtain ⟨v, mb, h1, h2, h3, h4, h5⟩ := h.box
  exact ⟨⟨v, mb, h1, h2, h3.monoN hn, h4, h5⟩, h.mem, h.lt⟩
theorem Rcv.far (h : Rcv F w r W got e last n) {p : Addr} (hp : ¬ F p.block) (u : Value) : Rcv F (w.setCell p u) r W got e last n :=
  h.agree (fun i hi => Below.heap_setCell _ _ _ _ fun e => hp (e ▸ hi)) (by simp [World.setCell])
theorem Parts.grow (h : Parts F w r mb W v vals got e last n) (hF : ∀ i, F i → G i) (hG : Lt G w) : Parts G w r mb W v vals got e last n :=
  ⟨h.box, ⟨h.gots.1, h.gots.2.1, fun g e => ⟨hF g (h.gots.2.2.1 g e).1, (h.gots.2.2.1 g e).2⟩, fun k hk => by
    obtain ⟨Ak, ck, g1, g2, g3⟩ := h.gots.2.2.2 k hk
    exact ⟨Ak, ck, g1, g2.mono fun i hi => ⟨⟨hF i hi.1.1, hi.1.2⟩, hi.2⟩, g3⟩⟩, h.early.mono fun i hi => ⟨hF i hi.1, hi.2⟩, hF mb h.map, h.ne, hF r h.mem, hG⟩
end

def gotLen (r : Nat) (w : World) : Nat := match w.cell? ⟨r, 1, none⟩ with | some (.slice _ n _) => n | _ => 0
theorem gotLen_of {r : Nat} {w : World} {A : Option Addr} {n c : Nat} (h : w.cell? ⟨r, 1, none⟩ = some (.slice A n c)) : gotLen r w = n := by
  unfold gotLen
  rw [h]

/-- what the calls of Receive hold on to -/
def RSt (F : Nat → Prop) (w : World) (r W : Nat) (H : Nat → Option (List UInt8)) (k : Nat) (last : Int) (n : Nat) (wx : World) : Prop :=
  ∃ F', Rcv F' wx r W (gots H k) (earlyOf H k) last n ∧ (∀ i, F' i → F i ∨ w.heap.size + 2 ≤ i) ∧ Chg F w wx ∧ Box wx (w.heap.size + 1) 34 #[.bool false, .int .i64 0, .bool false, .slice none 0 0]
/-- what Receive leaves where the message is accepted -/
def Accepted (F : Nat → Prop) (w : World) (r W : Nat) (H : Nat → Option (List UInt8)) (k : Nat) (last : Int) (n : Nat) (en : Ending) (w' : World) : Prop :=
  en = .returned (.tuple #[.agg #[.bool true, .int .i64 (k : Int), .bool false, .slice none 0 0], .bool true]) ∧ ∃ F', Rcv F' w' r W (gots H k) (earlyOf H k) last n ∧ (∀ i, F' i → F i ∨ w.heap.size ≤ i) ∧ Chg F w w'

set_option maxHeartbeats 1600000 in
theorem receive_no {F : Nat → Prop} {w : World} {r W : Nat} {got : List (List UInt8)} {e : Int → Option (List UInt8)} {last : Int} {n : Nat} (h : Rcv F w r W got e last n) (hl : got.length ≤ 100000) (hW : W ≤ 8) (hlast : -1 ≤ last) (hlast2 : last ≤ 9223372036854775807)
    (ack lst : Bool) (num : Int) (hnum : InR num) (A : Option Addr) (m c : Nat) (hm : m ≤ maxLen) (hI : Ign W got.length e last ack num lst m) :
    Calls Try.prog 21 #[.pointer (some ⟨r, 0, none⟩), .agg #[.bool ack, .int .i64 num, .bool lst, .slice A m c]] w (NoMsg w) := by
  obtain ⟨M, hM⟩ : ∃ M, M = Obj.cells #[.bool ack, .int .i64 num, .bool lst, .slice A m c] 34 := ⟨_, rfl⟩
  obtain ⟨w1, hw1⟩ : ∃ w1, w1 = (w.alloc M).alloc (.cells #[.bool false, .int .i64 0, .bool false, .slice none 0 0] 34) := ⟨_, rfl⟩
  have HBl : Hid (Below w.heap.size w w1) := by rw [hw1]; exact ((Below.refl _ _).alloc (Nat.le_refl _) _).alloc (by simp) _
  have HX : Hid (Box w1 w.heap.size 34 #[.bool ack, .int .i64 num, .bool lst, .slice A m c]) := by rw [hw1, hM]; exact (Box.new _ _ _).alloc _
  have HZ : Hid (Box w1 (w.heap.size + 1) 34 #[.bool false, .int .i64 0, .bool false, .slice none 0 0]) := by
    have hz := Box.new (w.alloc M) 34 #[.bool false, .int .i64 0, .bool false, .slice none 0 0]
    rw [World.size_alloc] at hz
    rw [hw1]
    exact hz
  rw [hM] at hw1
  have HW := hide hw1
  have HS := hide (h.kept HBl.out)
  have hsz1 : w.heap.size + 2 = w1.heap.size := by rw [hw1]; simp
  have HSZ := hide hsz1
  clear hM hw1 hsz1
  have HC := hide (ignored_any HS.out hl hW hlast hlast2 ack lst num hnum A m c hm)
  have x0 : w1.cell? ⟨w.heap.size, 0, none⟩ = some (.bool ack) := HX.out.cell 0
  have x1 : w1.cell? ⟨w.heap.size, 1, none⟩ = some (.int .i64 num) := HX.out.cell 1
  have x2 : w1.cell? ⟨w.heap.size, 2, none⟩ = some (.bool lst) := HX.out.cell 2
  have x3 : w1.cell? ⟨w.heap.size, 3, none⟩ = some (.slice A m c) := HX.out.cell 3
  go_enter Try.func21, Try.ntmps21
  go_upto_region 1 with fail
  rw [← HW.out]
  go_wp2_with fail
  refine HC.out.mono ?_
  rintro en w2 ⟨b, rfl, hb, hB2⟩
  cases b
  case false => exact absurd hI hb.false_
  case true =>
    have HB2 := hide (HBl.out.trans (hB2.mono HBl.out.size))
    have Z2 := hide (HZ.out.kept hB2)
    have z0 : w2.cell? ⟨w.heap.size + 1, 0, none⟩ = some (.bool false) := Z2.out.cell 0
    have z1 : w2.cell? ⟨w.heap.size + 1, 1, none⟩ = some (.int .i64 0) := Z2.out.cell 1
    have z2 : w2.cell? ⟨w.heap.size + 1, 2, none⟩ = some (.bool false) := Z2.out.cell 2
    have z3 : w2.cell? ⟨w.heap.size + 1, 3, none⟩ = some (.slice none 0 0) := Z2.out.cell 3
    have e0 := Z2.out.frozen 0
    have e1 := Z2.out.frozen 1
    have e2 := Z2.out.frozen 2
    have e3 := Z2.out.frozen 3
    clear hB2 hb x0 x1 x2 x3
    go_wp2_with fail
    refine bodyPost_ret (v := .tuple #[.agg #[.bool false, .int .i64 0, .bool false, .slice none 0 0], .bool false]) (by simp [results, Try.results21, go_sem, z0, z1, z2, z3]) rfl ⟨rfl, ?_⟩
    first | exact HB2.out | exact Below.set4 HB2.out (by omega) _ _ _ _

set_option maxHeartbeats 3200000 in
set_option maxRecDepth 100000 in
theorem receive_yes {F : Nat → Prop} {w : World} {r W : Nat} {H : Nat → Option (List UInt8)} {g : Nat} {last : Int} {n : Nat} (h : Rcv F w r W (gots H g) (earlyOf H g) last n) (hgl : g ≤ 100000) (hW : W ≤ 8) (hlast : -1 ≤ last) (hlast2 : last ≤ 9223372036854775807) (hn : n ≤ 1000000)
    (lst : Bool) (m : Nat) (hm : m ≤ 1000000) (A : Option Addr) (c : Nat) (data : List UInt8) (hd : Bys w A data) (hdl : data.length ≤ 4096) (hNI : ¬ Ign W g (earlyOf H g) last false (m : Int) lst data.length) (hgH : ∀ k, k < g → (H k).isSome = true)
    (g' : Nat) (hg1 : ∀ k, k < g' → (recvH H m data k).isSome = true) (hg2 : recvH H m data g' = none) (hgg : g ≤ g') (hg' : g' ≤ 100000) :
    Calls Try.prog 21 #[.pointer (some ⟨r, 0, none⟩), .agg #[.bool false, .int .i64 (m : Int), .bool lst, .slice A data.length c]] w (Accepted F w r W (recvH H m data) g' (recvLast H m lst last) (n + 1)) := by
  obtain ⟨M, hM⟩ : ∃ M, M = Obj.cells #[.bool false, .int .i64 (m : Int), .bool lst, .slice A data.length c] 34 := ⟨_, rfl⟩
  obtain ⟨w1, hw1⟩ : ∃ w1, w1 = (w.alloc M).alloc (.cells #[.bool false, .int .i64 0, .bool false, .slice none 0 0] 34) := ⟨_, rfl⟩
  have HBl : Hid (Below w.heap.size w w1) := by rw [hw1]; exact ((Below.refl _ _).alloc (Nat.le_refl _) _).alloc (by simp) _
  have HX : Hid (Box w1 w.heap.size 34 #[.bool false, .int .i64 (m : Int), .bool lst, .slice A data.length c]) := by rw [hw1, hM]; exact (Box.new _ _ _).alloc _
  have HZ : Hid (Box w1 (w.heap.size + 1) 34 #[.bool false, .int .i64 0, .bool false, .slice none 0 0]) := by
    have hz := Box.new (w.alloc M) 34 #[.bool false, .int .i64 0, .bool false, .slice none 0 0]
    rw [World.size_alloc] at hz
    rw [hw1]
    exact hz
  rw [hM] at hw1
  have HW := hide hw1
  have HS := hide (h.kept HBl.out)
  have hsz1 : w.heap.size + 2 = w1.heap.size := by rw [hw1]; simp
  have HSZ := hide hsz1
  clear hM hw1 hsz1
  have hmr : InR (m : Int) := by unfold InR; omega
  have HGL := hide (gots_length H g)
  have HC := hide (ignored_any HS.out (by rw [gots_length]; exact hgl) hW hlast hlast2 false lst (m : Int) hmr A data.length c (by unfold maxLen; omega))
  have HK := hide (fun (w2 : World) (h2 : Rcv F w2 r W (gots H g) (earlyOf H g) last n) => known_any h2 (by rw [gots_length]; exact hgl) (m : Int) hmr)
  have HD0 := hide (hd.below HBl.out)
  have HNI : Hid (¬ Ign W (gots H g).length (earlyOf H g) last false (m : Int) lst data.length) := by rw [gots_length]; exact hNI
  have HgH := hide hgH
  have Hg1 := hide hg1
  have Hg2 := hide hg2
  have HLT := hide h.lt
  have hrw := h.here
  have x0 : w1.cell? ⟨w.heap.size, 0, none⟩ = some (.bool false) := HX.out.cell 0
  have x1 : w1.cell? ⟨w.heap.size, 1, none⟩ = some (.int .i64 (m : Int)) := HX.out.cell 1
  have x2 : w1.cell? ⟨w.heap.size, 2, none⟩ = some (.bool lst) := HX.out.cell 2
  have x3 : w1.cell? ⟨w.heap.size, 3, none⟩ = some (.slice A data.length c) := HX.out.cell 3
  clear hNI hgH hg1 hg2 h hd
  go_enter Try.func21, Try.ntmps21
  go_upto_region 1 with fail
  rw [← HW.out]
  go_wp2_with fail
  refine HC.out.mono ?_
  rintro en w2 ⟨b, rfl, hb, hB2⟩
  cases b
  case true => exact absurd hb.true_ HNI.out
  case false =>
    have HBA := hide (HBl.out.trans (hB2.mono HBl.out.size))
    have HS2 := hide (HS.out.kept hB2)
    have X2 := hide (HX.out.kept hB2)
    have Z2 := hide (HZ.out.kept hB2)
    have HD2 := hide (HD0.out.below hB2)
    have hs2 : w.heap.size + 2 ≤ w2.heap.size := by have := hB2.size; have := HSZ.out; omega
    clear hB2 hb x0 x1 x2 x3
    have x1 : w2.cell? ⟨w.heap.size, 1, none⟩ = some (.int .i64 (m : Int)) := X2.out.cell 1
    have x2 : w2.cell? ⟨w.heap.size, 2, none⟩ = some (.bool lst) := X2.out.cell 2
    have x3 : w2.cell? ⟨w.heap.size, 3, none⟩ = some (.slice A data.length c) := X2.out.cell 3
    go_wp2_with fail
    refine (HK.out _ HS2.out).mono ?_
    rintro en w3 ⟨rfl, hw3⟩
    have hw3 := hw3.symm
    subst hw3
    obtain ⟨kn, hkn⟩ : ∃ kn, kn = (H m).isSome := ⟨_, rfl⟩
    have HKN : Hid ((decide ((m : Int) < ((gots H g).length : Int)) || (earlyOf H g (m : Int)).isSome) = kn) := by
      rw [Hid, gots_length, hkn, earlyOf]
      by_cases hlt : m < g
      · rw [HgH.out m hlt]
        simp [hlt]
      · rw [if_pos (by omega), Int.toNat_natCast]
        simp [hlt]
    rw [HKN.out]
    have HKN := hide hkn
    clear hkn
    go_upto_if 20 with fail
    go_cut [] (fun wx => Hid (RSt F w r W (recvH H m data) g (recvLast H m lst last) (n + 1) wx))
    case first =>
      cases kn
      case true =>
        go_wp2_with fail
        go_meet
        refine ⟨F, ?_, fun i hi => .inl hi, Chg.of_below HBA.out _, Z2.out⟩
        rw [recvH, if_pos HKN.out.symm, recvLast, if_pos HKN.out.symm]
        exact HS2.out.monoN (by omega)
      case false =>
        have hgm : g ≤ m := by
          rcases Nat.lt_or_ge m g with hlt | hge
          · have := HgH.out m hlt
            rw [← HKN.out] at this
            cases this
          · exact hge
        obtain ⟨v, mb, vals, hP⟩ := HS2.out.parts
        have HP := hide hP
        have c2 : w2.cell? ⟨r, 2, none⟩ = some (.map (some mb)) := hP.box.cell 2
        have hrm := hP.ne
        have hlr := hP.lt r hP.mem
        have hlm := HLT.out mb hP.map
        have hxm : w.heap.size ≠ mb := by omega
        have hlx : w.heap.size < w2.heap.size := by omega
        have HBD : Hid (∀ v, Chg (fun i => i = mb) w2 v → Bys v A data) := fun v hv hp => by
          obtain ⟨b, off, e, hlt, hc⟩ := HD2.out hp
          by_cases hbm : b = mb
          · subst hbm
            obtain ⟨D, ⟨es, clock, hh, _⟩, _⟩ := hP.early
            have := hc 0 hp
            simp [World.cell?, hh] at this
          · exact ⟨b, off, e, Nat.lt_of_lt_of_le hlt hv.size, fun k hk => (World.cell?_of_block (a := ⟨b, off + k, none⟩) (hv.block b hlt hbm)).trans (hc k hk)⟩
        have PGrow : Hid (∀ v2, Below w2.heap.size w2 v2 → Parts (fun i => F i ∨ (w2.heap.size ≤ i ∧ i < v2.heap.size)) v2 r mb W v vals (gots H g) (earlyOf H g) last n) := fun v2 hb =>
          (HP.out.agree (Agree.of_below hb HP.out.lt) hb.size).grow (fun i hi => .inl hi) (fun i hi => by rcases hi with hi | hi; exact Nat.lt_of_lt_of_le (HP.out.lt i hi) hb.size; exact hi.2)
        have PBys : Hid (∀ (v2 : World) (D : Option Addr) (d : Nat), NewB w2.heap.size v2 D d data → BysIn (fun i => (F i ∨ (w2.heap.size ≤ i ∧ i < v2.heap.size)) ∧ i ≠ r ∧ i ≠ mb ∧ v.ownBlock ≠ some i) v2 D data) := fun v2 D d hN => hN.bysIn.mono fun i hi => ⟨.inr hi, by omega, by omega, fun e => by
          have := HP.out.lt i (HP.out.gots.2.2.1 i e).1
          omega⟩
        clear hP
        go_upto_region 4 with fail
        refine wp_region_held_drew (S := fun v => Chg (fun i => i = mb) w2 v) (by kernel_rfl) ((Chg.refl _ _).drew) (fun hH => ?_)
        obtain ⟨v0, hv0⟩ : ∃ v0, v0 = w2.drew := ⟨_, rfl⟩
        rw [← hv0] at hH ⊢
        have HB0 : Hid (Below w2.heap.size w2 v0) := by rw [hv0]; exact (Below.refl _ _).drew
        clear hv0
        refine wpAnyH_take (i := 0) (v := ?xv0) (by simp only [List.getElem?_toArray, List.getElem?_cons_succ, List.getElem?_cons_zero]; exact rfl) (by kernel_rfl) (by kernel_rfl) (by kernel_rfl) ?xq0 ?xy0 hH ?xr0
        case xq0 => exact fun _ _ _ h => h
        case xy0 =>
          refine Or.inl ⟨by rfl, fun v hv => ?_⟩
          go_simp
          rfl
        try simp only [Act.put, List.setIfInBounds_toArray, List.set_cons_zero, List.set_cons_succ]
        refine wpAnyH_take (i := 1) (v := ?xv1) (by simp only [List.getElem?_toArray, List.getElem?_cons_succ, List.getElem?_cons_zero]; exact rfl) (by kernel_rfl) (by kernel_rfl) (by kernel_rfl) ?xq1 ?xy1 hH ?xr1
        case xq1 => exact fun _ _ _ h => h
        case xy1 =>
          refine Or.inl ⟨by rfl, fun v hv => ?_⟩
          go_simp
          rfl
        try simp only [Act.put, List.setIfInBounds_toArray, List.set_cons_zero, List.set_cons_succ]
        refine wpAnyH_take (i := 2) (v := ?xv2) (by simp only [List.getElem?_toArray, List.getElem?_cons_succ, List.getElem?_cons_zero]; exact rfl) (by kernel_rfl) (by kernel_rfl) (by kernel_rfl) ?xq2 ?xy2 hH ?xr2
        case xq2 => exact fun _ _ _ h => h
        case xy2 =>
          refine Or.inl ⟨by rfl, fun v hv => ?_⟩
          go_simp
          rfl
        try simp only [Act.put, List.setIfInBounds_toArray, List.set_cons_zero, List.set_cons_succ]
        refine wpAnyH_take (i := 3) (v := ?xv3) (by simp only [List.getElem?_toArray, List.getElem?_cons_succ, List.getElem?_cons_zero]; exact rfl) (by kernel_rfl) (by kernel_rfl) (by kernel_rfl) ?xq3 ?xy3 hH ?xr3
        case xq3 => exact fun _ _ _ h => h
        case xy3 =>
          refine Or.inl ⟨by rfl, fun v hv => ?_⟩
          have y2 := (World.cell?_of_block (a := ⟨r, 2, none⟩) (hv.block r hlr hrm)).trans c2; have y1 := (World.cell?_of_block (a := ⟨w.heap.size, 1, none⟩) (hv.block w.heap.size hlx hxm)).trans x1; have y3 := (World.cell?_of_block (a := ⟨w.heap.size, 3, none⟩) (hv.block w.heap.size hlx hxm)).trans x3
          go_simp
          rfl
        try simp only [Act.put, List.setIfInBounds_toArray, List.set_cons_zero, List.set_cons_succ]
        refine wpAnyH_take (i := 4) (v := ?xv4) (by simp only [List.getElem?_toArray, List.getElem?_cons_succ, List.getElem?_cons_zero]; exact rfl) (by kernel_rfl) (by kernel_rfl) (by kernel_rfl) ?xq4 ?xy4 hH ?xr4
        case xq4 => exact fun _ _ _ h => h
        case xy4 =>
          refine Or.inl ⟨by rfl, fun v hv => ?_⟩
          go_simp
          rfl
        try simp only [Act.put, List.setIfInBounds_toArray, List.set_cons_zero, List.set_cons_succ]
        refine wpAnyH_take (i := 5) (v := ?xv5) (by simp only [List.getElem?_toArray, List.getElem?_cons_succ, List.getElem?_cons_zero]; exact rfl) (by kernel_rfl) (by kernel_rfl) (by kernel_rfl) ?xq5 ?xy5 hH ?xr5
        case xq5 => exact fun _ _ _ h => h
        case xy5 =>
          refine Or.inl ⟨by rfl, fun v hv => ?_⟩
          have y2 := (World.cell?_of_block (a := ⟨r, 2, none⟩) (hv.block r hlr hrm)).trans c2; have y1 := (World.cell?_of_block (a := ⟨w.heap.size, 1, none⟩) (hv.block w.heap.size hlx hxm)).trans x1; have y3 := (World.cell?_of_block (a := ⟨w.heap.size, 3, none⟩) (hv.block w.heap.size hlx hxm)).trans x3
          go_simp
          rfl
        try simp only [Act.put, List.setIfInBounds_toArray, List.set_cons_zero, List.set_cons_succ]
        refine wpAnyH_take (i := 7) (v := ?xv7) (by simp only [List.getElem?_toArray, List.getElem?_cons_succ, List.getElem?_cons_zero]; exact rfl) (by kernel_rfl) (by kernel_rfl) (by kernel_rfl) ?xq7 ?xy7 hH ?xr7
        case xq7 => exact fun _ _ _ h => h
        case xy7 =>
          refine Or.inl ⟨by rfl, fun v hv => ?_⟩
          go_simp
          rfl
        try simp only [Act.put, List.setIfInBounds_toArray, List.set_cons_zero, List.set_cons_succ]
        refine wpAnyH_take (i := 8) (v := ?xv8) (by simp only [List.getElem?_toArray, List.getElem?_cons_succ, List.getElem?_cons_zero]; exact rfl) (by kernel_rfl) (by kernel_rfl) (by kernel_rfl) ?xq8 ?xy8 hH ?xr8
        case xq8 => exact fun _ _ _ h => h
        case xy8 =>
          refine Or.inl ⟨by rfl, fun v hv => ?_⟩
          have y2 := (World.cell?_of_block (a := ⟨r, 2, none⟩) (hv.block r hlr hrm)).trans c2; have y1 := (World.cell?_of_block (a := ⟨w.heap.size, 1, none⟩) (hv.block w.heap.size hlx hxm)).trans x1; have y3 := (World.cell?_of_block (a := ⟨w.heap.size, 3, none⟩) (hv.block w.heap.size hlx hxm)).trans x3
          go_simp
          rfl
        try simp only [Act.put, List.setIfInBounds_toArray, List.set_cons_zero, List.set_cons_succ]
        refine wpAnyH_ready (rs := [6]) (by kernel_rfl) (by simp) ?_
        refine AllReadyH.cons (by simp only [List.getElem?_toArray, List.getElem?_cons_succ, List.getElem?_cons_zero]; exact rfl) (fun K hK => ?_) AllReadyH.nil
        go_simp
        obtain ⟨v1, hv1⟩ : ∃ x, x = v0.alloc (.cells #[] 5) := ⟨_, rfl⟩
        rw [← hv1]
        have hB1 : Below v0.heap.size v0 v1 := below_eq ((Below.refl _ _).alloc (Nat.le_refl _) _) hv1
        have HB1 := hide (below_then HB0.out hB1)
        have hN := hH.trans (Chg.of_below hB1 (fun _ => False)) (fun _ _ e => e.elim)
        clear hv1 hB1
        refine hK.out _ _ hN (fun hH' => ?_)
        clear hK hH hN K
        have hH := hH'
        clear hH'
        try simp only [Act.put, List.setIfInBounds_toArray, List.set_cons_zero, List.set_cons_succ]
        refine wpAnyH_ready (rs := [9]) (by kernel_rfl) (by simp) ?_
        refine AllReadyH.cons (by simp only [List.getElem?_toArray, List.getElem?_cons_succ, List.getElem?_cons_zero]; exact rfl) (fun K hK => ?_) AllReadyH.nil
        refine step_append_copyP (by rfl) _ _ (by rfl) _ A c data (by rfl) (by rfl) (.inr ⟨_, _, rfl⟩) (HBD.out _ hH) (by omega) ?_
        intro D d v2 hnew hB2 hpl
        have HD := hide hnew
        have HPL := hide hpl
        have hN := hH.trans (Chg.of_below hB2 (fun _ => False)) (fun _ _ e => e.elim)
        have HC1 := hide hH.size
        have HC2 := hide hN
        have HB2 := hide (below_then HB1.out hB2)
        clear hnew hB2 hpl
        refine hK.out _ _ hN (fun hH' => ?_)
        clear hK hH hN K
        have hH := hH'
        clear hH'
        try simp only [Act.put, List.setIfInBounds_toArray, List.set_cons_zero, List.set_cons_succ]
        refine wpAnyH_ready (rs := [10]) (by kernel_rfl) (by simp) ?_
        refine AllReadyH.cons (by simp only [List.getElem?_toArray, List.getElem?_cons_succ, List.getElem?_cons_zero]; exact rfl) (fun K hK => ?_) AllReadyH.nil
        have HP2 := hide (PGrow.out v2 HB2.out)
        refine step_mapUpdate (by rfl) _ _ _ (by rfl) HP2.out.early (k := (m : Int)) hmr (by unfold maxLen; omega) (fun h => h.2.2.1 rfl) HPL.out (PBys.out v2 D d (HD.out.mono HC1.out)) HD.out.1 (by rfl) (by rfl) (by rfl) ?_
        intro v3 hE3 hg3
        have HP3 := hide (HP2.out.turn hE3 hg3)
        have hN := HC2.out.trans (Chg.of_grown hg3) (fun i _ e => (by injection e with e; exact e.symm))
        clear hE3 hg3
        refine hK.out _ _ hN (fun hH' => ?_)
        clear hK hH hN K
        have hH := hH'
        clear hH'
        try simp only [Act.put, List.setIfInBounds_toArray, List.set_cons_zero, List.set_cons_succ]
        refine wpAnyH_done (by kernel_rfl) ?_ _
        have HC3 := hide hH
        have HZ3 : Hid (Box v3 (w.heap.size + 1) 34 #[.bool false, .int .i64 0, .bool false, .slice none 0 0]) := (HC3.out.block (w.heap.size + 1) (by omega) (by omega)).trans Z2.out
        have z1 := (World.cell?_of_block (a := ⟨w.heap.size, 1, none⟩) (HC3.out.block w.heap.size hlx hxm)).trans x1
        have z2 := (World.cell?_of_block (a := ⟨w.heap.size, 2, none⟩) (HC3.out.block w.heap.size hlx hxm)).trans x2
        have c3' : v3.cell? ⟨r, 3, none⟩ = some (.int .i64 last) := HP3.out.box.cell 3
        have f3' := HP3.out.box.frozen 3
        have hFm := HP2.out.map
        have hFr := HP.out.mem
        have hFm' := HP.out.map
        have hput : recvH H m data = putH H m data := by rw [recvH, if_neg (by rw [← HKN.out]; simp)]
        have HPUT := hide hput
        have HLS : Hid (recvLast H m lst last = if lst then (m : Int) else last) := by rw [Hid, recvLast, if_neg (by rw [← HKN.out]; simp)]
        have HCC : Hid (Chg F w v3) := (Chg.of_below HBA.out F).trans HC3.out (fun i _ e => by rw [e]; exact hFm')
        have HSUB : Hid (∀ i, (F i ∨ (w2.heap.size ≤ i ∧ i < v2.heap.size)) → F i ∨ w.heap.size + 2 ≤ i) := fun i hi => by rcases hi with hi | hi; exact .inl hi; exact .inr (by omega)
        clear hH hput x1 x2 x3 c2
        cases lst
        case false =>
          go_wp2_with fail
          go_meet
          rw [HPUT.out, HLS.out]
          refine ⟨_, ?_, HSUB.out, HCC.out, HZ3.out⟩
          have h := HP3.out.rcv
          rw [earlyOf_put H g m data hgm, ← gots_put H g m data hgm] at h
          exact h
        case true =>
          go_wp2_with fail
          go_meet
          rw [HPUT.out, HLS.out]
          refine ⟨_, ?_, HSUB.out, HCC.out.setCell (fun _ => hFr) _ _, HZ3.out.far (by show w.heap.size + 1 ≠ r; omega) _⟩
          have h := (HP3.out.setLast (m : Int)).rcv
          rw [earlyOf_put H g m data hgm, ← gots_put H g m data hgm] at h
          exact h
    case rest =>
      have HR0 := hcut
      clear hcut HNI HKN HC HK HD0 HX HZ HW HS HS2 X2 Z2 HD2 x1 x2 x3 HgH
      generalize hH' : recvH H m data = H' at Hg1 Hg2 HR0 ⊢
      generalize hL' : recvLast H m lst last = last' at HR0 ⊢
      have HH' := hide hH'
      have HL' := hide hL'
      clear hH' hL'
      obtain ⟨i0, hi, hz0, hz1, hz2⟩ := info_parts sliceinfo
      go_wp2_with fail
      go_loopw [6] (fun _ wr => ∃ k : Nat, g ≤ k ∧ k ≤ g' ∧ Hid (RSt F w r W H' k last' (n + 1) wr)) (fun _ wr => g' - gotLen r wr)
      case atStart => exact ⟨g, Nat.le_refl _, hgg, HR0⟩
      case round =>
        clear HR0
        obtain ⟨k, hk1, hk2, hR⟩ := hrel
        obtain ⟨F', hRc, hsub, hchg, hZ⟩ := hR.out
        obtain ⟨v, mb, vals, hP⟩ := hRc.parts
        obtain ⟨A', c', rfl, hc', _, _⟩ := Gots.shape ⟨vals, hP.gots⟩
        have HL := hide (gots_length H' k)
        have q1 : wr.cell? ⟨r, 1, none⟩ = some (.slice A' k c') := by
          have h1 : wr.cell? ⟨r, 1, none⟩ = some (.slice A' (gots H' k).length c') := hP.box.cell 1
          rw [HL.out] at h1
          exact h1
        rw [HL.out] at hP
        have HGL0 := hide (gotLen_of q1)
        have q2 : wr.cell? ⟨r, 2, none⟩ = some (.map (some mb)) := hP.box.cell 2
        have hkr : InR (k : Int) := by unfold InR; omega
        have HP := hide hP
        have HSB := hide hsub
        have HCH := hide hchg
        have HZ := hide hZ
        have hrm := hP.ne
        have hlr := hP.lt r hP.mem
        have hszw := hchg.size
        have hwz : w.heap.size + 1 < wr.heap.size := hZ.lt
        clear hR hRc hsub hchg hZ
        by_cases hlt : k < g'
        · obtain ⟨bs, hbs⟩ := Option.isSome_iff_exists.1 (Hg1.out k hlt)
          obtain ⟨Ab, cb, hpl, hby, hcb, hrun⟩ := hP.early.look_some hkr ((earlyOf_at H' k).trans hbs)
          have hrunN := fun nq => hrun (wr.drewN nq) rfl
          have HBY := hide hby
          have HPL := hide hpl
          have HBS := hide hbs
          clear hpl hby hrun hbs hP
          go_wp2_with fail
          go_quiet (fail)
          go_wp2_with fail
          obtain ⟨v5, hv5⟩ : ∃ v5, v5 = (wr.drewN nq).drew := ⟨_, rfl⟩
          have HP5 : Hid (Parts F' v5 r mb W (.slice A' k c') vals (gots H' k) (earlyOf H' k) last' (n + 1)) := by rw [hv5]; exact HP.out.agree (fun i hi => rfl) (Nat.le_refl _)
          have HC5 : Hid (Chg F' wr v5) := by rw [hv5]; exact ((Chg.refl _ _).drewN nq).drew
          have HBY5 : Hid (BysIn (fun i => F' i ∧ i ≠ r ∧ i ≠ mb ∧ (Value.slice A' k c').ownBlock ≠ some i) v5 Ab bs) := by rw [hv5]; exact HBY.out.agree (fun i hi => rfl)
          have q1 : v5.cell? ⟨r, 1, none⟩ = some (.slice A' k c') := HP5.out.box.cell 1
          have q2 : v5.cell? ⟨r, 2, none⟩ = some (.map (some mb)) := HP5.out.box.cell 2
          have hlr : r < v5.heap.size := HP5.out.lt r HP5.out.mem
          refine wp_region_held_drew (S := fun v => Chg (fun i => i = mb) v5 v) (by kernel_rfl) (by rw [← hv5]; exact Chg.refl _ _) (fun hH => ?_)
          rw [← hv5] at hH ⊢
          refine wpAnyH_take (i := 0) (v := ?yv0) (by simp only [List.getElem?_toArray, List.getElem?_cons_succ, List.getElem?_cons_zero]; exact rfl) (by kernel_rfl) (by kernel_rfl) (by kernel_rfl) ?yq0 ?yy0 hH ?yr0
          case yq0 => exact fun _ _ _ h => h
          case yy0 =>
            refine Or.inl ⟨by rfl, fun v hv => ?_⟩
            go_simp
            rfl
          try simp only [Act.put, List.setIfInBounds_toArray, List.set_cons_zero, List.set_cons_succ]
          refine wpAnyH_take (i := 1) (v := ?yv1) (by simp only [List.getElem?_toArray, List.getElem?_cons_succ, List.getElem?_cons_zero]; exact rfl) (by kernel_rfl) (by kernel_rfl) (by kernel_rfl) ?yq1 ?yy1 hH ?yr1
          case yq1 => exact fun _ _ _ h => h
          case yy1 =>
            refine Or.inl ⟨by rfl, fun v hv => ?_⟩
            go_simp
            rfl
          try simp only [Act.put, List.setIfInBounds_toArray, List.set_cons_zero, List.set_cons_succ]
          refine wpAnyH_take (i := 2) (v := ?yv2) (by simp only [List.getElem?_toArray, List.getElem?_cons_succ, List.getElem?_cons_zero]; exact rfl) (by kernel_rfl) (by kernel_rfl) (by kernel_rfl) ?yq2 ?yy2 hH ?yr2
          case yq2 => exact fun _ _ _ h => h
          case yy2 =>
            refine Or.inl ⟨by rfl, fun v hv => ?_⟩
            go_simp
            rfl
          try simp only [Act.put, List.setIfInBounds_toArray, List.set_cons_zero, List.set_cons_succ]
          refine wpAnyH_take (i := 3) (v := ?yv3) (by simp only [List.getElem?_toArray, List.getElem?_cons_succ, List.getElem?_cons_zero]; exact rfl) (by kernel_rfl) (by kernel_rfl) (by kernel_rfl) ?yq3 ?yy3 hH ?yr3
          case yq3 => exact fun _ _ _ h => h
          case yy3 =>
            refine Or.inl ⟨by rfl, fun v hv => ?_⟩
            have y2 := (World.cell?_of_block (a := ⟨r, 2, none⟩) (hv.block r hlr hrm)).trans q2; have y1 := (World.cell?_of_block (a := ⟨r, 1, none⟩) (hv.block r hlr hrm)).trans q1
            go_simp
            rfl
          try simp only [Act.put, List.setIfInBounds_toArray, List.set_cons_zero, List.set_cons_succ]
          refine wpAnyH_take (i := 4) (v := ?yv4) (by simp only [List.getElem?_toArray, List.getElem?_cons_succ, List.getElem?_cons_zero]; exact rfl) (by kernel_rfl) (by kernel_rfl) (by kernel_rfl) ?yq4 ?yy4 hH ?yr4
          case yq4 => exact fun _ _ _ h => h
          case yy4 =>
            refine Or.inl ⟨by rfl, fun v hv => ?_⟩
            go_simp
            rfl
          try simp only [Act.put, List.setIfInBounds_toArray, List.set_cons_zero, List.set_cons_succ]
          refine wpAnyH_take (i := 5) (v := ?yv5) (by simp only [List.getElem?_toArray, List.getElem?_cons_succ, List.getElem?_cons_zero]; exact rfl) (by kernel_rfl) (by kernel_rfl) (by kernel_rfl) ?yq5 ?yy5 hH ?yr5
          case yq5 => exact fun _ _ _ h => h
          case yy5 =>
            refine Or.inl ⟨by rfl, fun v hv => ?_⟩
            go_simp
            rfl
          try simp only [Act.put, List.setIfInBounds_toArray, List.set_cons_zero, List.set_cons_succ]
          refine wpAnyH_take (i := 6) (v := ?yv6) (by simp only [List.getElem?_toArray, List.getElem?_cons_succ, List.getElem?_cons_zero]; exact rfl) (by kernel_rfl) (by kernel_rfl) (by kernel_rfl) ?yq6 ?yy6 hH ?yr6
          case yq6 => exact fun _ _ _ h => h
          case yy6 =>
            refine Or.inl ⟨by rfl, fun v hv => ?_⟩
            go_simp
            rfl
          try simp only [Act.put, List.setIfInBounds_toArray, List.set_cons_zero, List.set_cons_succ]
          refine wpAnyH_take (i := 7) (v := ?yv7) (by simp only [List.getElem?_toArray, List.getElem?_cons_succ, List.getElem?_cons_zero]; exact rfl) (by kernel_rfl) (by kernel_rfl) (by kernel_rfl) ?yq7 ?yy7 hH ?yr7
          case yq7 => exact fun _ _ _ h => h
          case yy7 =>
            refine Or.inl ⟨by rfl, fun v hv => ?_⟩
            have y2 := (World.cell?_of_block (a := ⟨r, 2, none⟩) (hv.block r hlr hrm)).trans q2; have y1 := (World.cell?_of_block (a := ⟨r, 1, none⟩) (hv.block r hlr hrm)).trans q1
            go_simp
            rfl
          try simp only [Act.put, List.setIfInBounds_toArray, List.set_cons_zero, List.set_cons_succ]
          refine wpAnyH_take (i := 8) (v := ?yv8) (by simp only [List.getElem?_toArray, List.getElem?_cons_succ, List.getElem?_cons_zero]; exact rfl) (by kernel_rfl) (by kernel_rfl) (by kernel_rfl) ?yq8 ?yy8 hH ?yr8
          case yq8 => exact fun _ _ _ h => h
          case yy8 =>
            refine Or.inl ⟨by rfl, fun v hv => ?_⟩
            go_simp
            rfl
          try simp only [Act.put, List.setIfInBounds_toArray, List.set_cons_zero, List.set_cons_succ]
          refine wpAnyH_ready (rs := [9]) (by kernel_rfl) (by simp) ?_
          refine AllReadyH.cons (by simp only [List.getElem?_toArray, List.getElem?_cons_succ, List.getElem?_cons_zero]; exact rfl) (fun K hK => ?_) AllReadyH.nil
          refine step_delete (by rfl) _ _ (by rfl) HP5.out.early (k := (k : Int)) hkr (fun h => h.2.2.1 rfl) (by rfl) (by rfl) ?_
          intro v6 hE6 hg6
          have HP6 := hide (HP5.out.turn hE6 hg6)
          have hN : Chg (fun i => i = mb) v5 v6 := (Chg.of_grown hg6).mono (fun i _ e => (by injection e with e; exact e.symm))
          have HG6 := hide hN
          clear hE6 hg6
          refine hK.out _ _ hN (fun hH' => ?_)
          clear hK hH hN K
          have hH := hH'
          clear hH'
          try simp only [Act.put, List.setIfInBounds_toArray, List.set_cons_zero, List.set_cons_succ]
          refine wpAnyH_done (by kernel_rfl) ?_ _
          clear hH
          obtain ⟨W7, hW7⟩ : ∃ x, x = v6.alloc (.cells #[.slice Ab bs.length cb] 32) := ⟨_, rfl⟩
          have HB7 : Hid (Below v6.heap.size v6 W7) := below_eq ((Below.refl _ _).alloc (Nat.le_refl _) _) hW7
          have HP7 := hide (HP6.out.agree (Agree.of_below HB7.out HP6.out.lt) HB7.out.size)
          have HBY7 := hide ((HBY5.out.agree (fun i hi => HG6.out.block i (HP5.out.lt i hi.1) hi.2.2.1)).agree (Agree.of_below HB7.out (fun i hi => HP6.out.lt i hi.1)))
          have HC7 : Hid (Chg F' wr W7) := (HC5.out.trans HG6.out (fun i _ e => by rw [e]; exact HP5.out.map)).trans (Chg.of_below HB7.out (fun _ => False)) (fun _ _ e => e.elim)
          have HO : Hid (W7.ownsRow 0 32 1 (.slice A' k c') k vals) := by
            have h1 := HP7.out.gots.1
            rw [HL.out] at h1
            exact h1
          have hn7 : ⟨v6.heap.size, 0, none⟩ = (⟨v6.heap.size, 0, none⟩ : Addr) := rfl
          have HN7 : Hid (∀ j u, [Value.slice Ab bs.length cb][j]? = some u → W7.cell? ((⟨v6.heap.size, 0, none⟩ : Addr).add j) = some u) := by rw [hW7]; exact cell_one_new _ _ _
          rw [hW7] at HO HN7
          have HWW := hide hW7
          have q1 : v6.cell? ⟨r, 1, none⟩ = some (.slice A' k c') := HP6.out.box.cell 1
          have q2 := HP6.out.box.frozen 1
          have hm7 : k + 1 ≤ maxLen := by unfold maxLen; omega
          clear hW7 hn7 hv5 HBY HBY5 HP hrunN
          go_wp2_with (at_builtin; refine Go.wpList_append_own_at _ rfl _ _ 22 rfl 0 32 i0 (.slice none 0 0) 1 24 Try.underlying22 hi hz0 hz1 hz2 rfl (by decide) (.slice A' k c') k vals rfl HO.out ⟨v6.heap.size, 0, none⟩ 1 1 [.slice Ab bs.length cb] rfl rfl HN7.out (by intro u hu; simp at hu; subst hu; rfl) hm7 (by omega) (Nat.zero_le _) ?_; intro v' w7 ho hg hn hor; rw [← HWW.out] at hg hor; obtain ⟨g7, cap7, rfl, _, hlt7⟩ := ho.form (Nat.succ_pos _); rw [← HL.out] at ho; obtain ⟨vals', HP8⟩ := HP7.out.push HBY7.out hcb ho hg hor; have HP8 := hide HP8; have HG7 := hide hg; have HOR := hide hor; have hb7 := HP7.out.box.grown hg (fun e => (HP7.out.gots.2.2.1 r e.symm).2.1 rfl); have t1 : w7.cell? ⟨r, 1, none⟩ = some (.slice A' k c') := hb7.cell 1; have t2 := hb7.frozen 1; clear ho hg hn hor hb7)
          have hF1 : ¬ F' (w.heap.size + 1) := fun h => by
            rcases HSB.out _ h with h1 | h1
            · have := HLT.out _ h1; omega
            · omega
          have hch : Hid (Chg F' wr (w7.setCell ⟨r, 1, none⟩ (.slice (some ⟨g7, 0, none⟩) (k + 1) cap7))) := (HC7.out.trans (Chg.of_grown HG7.out) (fun i _ e => (HP7.out.gots.2.2.1 i e).1)).setCell (fun _ => HP7.out.mem) 1 _
          go_roundw
          case rel =>
            refine ⟨k + 1, by omega, by omega, fun i => F' i ∨ (Value.slice (some ⟨g7, 0, none⟩) (k + 1) cap7).ownBlock = some i, ?_, fun i hi => ?_, ?_, ?_⟩
            · have h := HP8.out.rcv
              rw [← gots_succ H' k HBS.out, earlyOf_next, HL.out] at h
              exact h
            · rcases hi with hi | hi
              · exact HSB.out i hi
              · rcases HOR.out with e | e
                · rw [e] at hi
                  exact HSB.out i (HP7.out.gots.2.2.1 i hi).1
                · rw [e] at hi
                  injection hi with hi
                  have := HC7.out.size
                  exact .inr (by omega)
            · exact HCH.out.trans hch.out (fun i hi e => (HSB.out i e).resolve_right (by omega))
            · exact (hch.out.block (w.heap.size + 1) hwz hF1).trans HZ.out
          case measure =>
            have h1 := HP8.out.box.cell 1
            rw [HL.out] at h1
            rw [gotLen_of h1, HGL0.out]
            omega
        · obtain rfl : k = g' := by omega
          have hrun := hP.early.look_none hkr ((earlyOf_at H' k).trans Hg2.out)
          have hrunN := fun nq => hrun (wr.drewN nq) rfl
          clear hrun hP
          have z0 : wr.cell? ⟨w.heap.size + 1, 0, none⟩ = some (.bool false) := HZ.out.cell 0
          have z1 : wr.cell? ⟨w.heap.size + 1, 1, none⟩ = some (.int .i64 0) := HZ.out.cell 1
          have z2 : wr.cell? ⟨w.heap.size + 1, 2, none⟩ = some (.bool false) := HZ.out.cell 2
          have z3 : wr.cell? ⟨w.heap.size + 1, 3, none⟩ = some (.slice none 0 0) := HZ.out.cell 3
          have e0 := HZ.out.frozen 0
          have e1 := HZ.out.frozen 1
          have e2 := HZ.out.frozen 2
          have e3 := HZ.out.frozen 3
          have hF1 : ¬ F' (w.heap.size + 1) := fun h => by
            rcases HSB.out _ h with h1 | h1
            · have := HLT.out _ h1; omega
            · omega
          go_wp2_with fail
          go_quiet (fail)
          go_wp2_with fail
          refine bodyPost_ret (v := .tuple #[.agg #[.bool true, .int .i64 (k : Int), .bool false, .slice none 0 0], .bool true]) (by simp [results, Try.results21, go_sem, z0, z1, z2, z3]) rfl ?_
          rw [HH'.out, HL'.out]
          refine ⟨rfl, F', ?_, fun i hi => (HSB.out i hi).imp id (fun h => by omega), ?_⟩
          · have hF2 : ∀ j, ¬ F' (Addr.block ⟨w.heap.size + 1, j, none⟩) := fun _ => hF1
            exact ((((HP.out.rcv.agree (w' := wr.drewN nq) (fun i hi => rfl) (Nat.le_refl _)).far (hF2 0) _).far (hF2 1) _).far (hF2 2) _).far (hF2 3) _
          · exact ((((HCH.out.drewN _).setCell (fun h => absurd h (by omega)) _ _).setCell (fun h => absurd h (by omega)) _ _).setCell (fun h => absurd h (by omega)) _ _).setCell (fun h => absurd h (by omega)) _ _
end Go.Proofs.Ythhelhggggbaiaa
