/-
  The reference's Shift and Turn.
-/
import Derived.Test.YtebahhmajllmnaaBlank
import Derived.Test.YtebahhmajllmnaaRefFill
import Derived.Deep.RegionHeld3
namespace Go.Proofs.Ytebahhmajllmnaa
open Go.RowKit
set_option linter.unusedVariables false
set_option linter.unusedSimpArgs false

def part (G : Nat → Nat → Bool) (r c : Nat) (k i : Nat) : Bool := if k < r ∨ (k = r ∧ i < c) then G k i else false
theorem part_start (G : Nat → Nat → Bool) (k i : Nat) : part G 0 0 k i = false := by simp [part]
theorem part_step (G : Nat → Nat → Bool) (r c k i : Nat) : (if k = r ∧ i = c then G r c else part G r c k i) = part G r (c + 1) k i := by
  unfold part
  by_cases e : k = r ∧ i = c
  · obtain ⟨rfl, rfl⟩ := e; simp
  · rw [if_neg e]
    by_cases h : k < r ∨ (k = r ∧ i < c)
    · rw [if_pos h, if_pos (by omega)]
    · rw [if_neg h, if_neg (by omega)]
theorem part_row (G : Nat → Nat → Bool) {W : Nat} (r k : Nat) {i : Nat} (hi : i < W) : part G r W k i = part G (r + 1) 0 k i := by
  unfold part
  by_cases h : k < r ∨ (k = r ∧ i < W)
  · rw [if_pos h, if_pos (by omega)]
  · rw [if_neg h, if_neg (by omega)]
theorem part_end (G : Nat → Nat → Bool) {H k : Nat} (hk : k < H) (i : Nat) : part G H 0 k i = G k i := by simp [part, hk]
def RW (w : World) (P W H : Nat) (A : Option Addr) (c : Nat) (bk : Nat → Nat) (bs : List UInt8) (v : World) : Prop := ∃ g, RFill w P W H A c bk bs g v
theorem RFill.rw_ {w wr : World} {P W H c : Nat} {A : Option Addr} {bk : Nat → Nat} {bs : List UInt8} {g : Nat → Nat → Bool} (h : RFill w P W H A c bk bs g wr) : RW w P W H A c bk bs wr := ⟨g, h⟩
theorem RFill.drew {w wr : World} {P W H c : Nat} {A : Option Addr} {bk : Nat → Nat} {bs : List UInt8} {g : Nat → Nat → Bool} (h : RFill w P W H A c bk bs g wr) : RFill w P W H A c bk bs g wr.drew :=
  h.kept ((Below.refl _ _).drew)
theorem RW.cells {w wr : World} {P W H c : Nat} {A : Option Addr} {bk : Nat → Nat} {bs : List UInt8} (h : RW w P W H A c bk bs wr) {r : Nat} (hr : r < H) :
    wr.cell? ⟨w.heap.size, 0, none⟩ = some (.int .i64 (W : Int)) ∧ wr.cell? ⟨w.heap.size, 1, none⟩ = some (.int .i64 (H : Int)) ∧ wr.cell? ⟨w.heap.size, 2, none⟩ = some (.slice A bs.length c) ∧
    wr.cell? ⟨P, r, none⟩ = some (.slice (some ⟨bk r, 0, none⟩) W W) := by
  obtain ⟨g, h1, h2, _⟩ := h
  exact ⟨h2.cell 0, h2.cell 1, h2.cell 2, h1.row hr⟩

def shiftG (W H : Nat) (f : Nat → Bool) (dx dy : Int) (k i : Nat) : Bool := getB W H f ((i : Int) - dx) ((k : Int) - dy)
def turnG (W H : Nat) (f : Nat → Bool) (k i : Nat) : Bool := getB W H f ((W : Int) - 1 - i) ((H : Int) - 1 - k)

set_option maxHeartbeats 1000000 in
theorem refshift_any (W H : Nat) (A : Option Addr) (c : Nat) (f : Nat → Bool) (dx dy : Int) (w : World) (hb : Bys w A (pack (W * H) f)) (hW1 : 1 ≤ W) (hW : W ≤ 512) (hH1 : 1 ≤ H) (hH : H ≤ 512) (hd1 : -512 < dx) (hd2 : dx < 512) (hd3 : -512 < dy) (hd4 : dy < 512) :
    Calls Try.prog 28 #[.agg #[.int .i64 (W : Int), .int .i64 (H : Int), .slice A (pack (W * H) f).length c], .int .i64 dx, .int .i64 dy] w (Fresh w W H (pack (W * H) (flat W (shiftG W H f dx dy)))) :=  by
  have HG : Hid (∀ (i k : Nat) (v : World), i < W → k < H → Bys v A (pack (W * H) f) → Calls Try.prog 20 #[.agg #[.int .i64 (W : Int), .int .i64 (H : Int), .slice A (pack (W * H) f).length c], .int .i64 ((i : Int) - dx), .int .i64 ((k : Int) - dy)] v fun e w' => e = .returned (.bool (shiftG W H f dx dy k i)) ∧ Below v.heap.size v w') := fun i k v hi hk hb =>
    refget_any W H A c f _ _ v hb hW hH
  generalize shiftG W H f dx dy = G at *
  have HBl := hide (fun w => blankrows_any W H w hW hH1 hH)
  have HCL : Hid (∀ v cap base P bk w', GridAt w' base P H W bk G → v = .slice (some ⟨P, 0, none⟩) H cap → Calls Try.prog 45 #[v] w' (Fresh w' W H (pack (W * H) (flat W G)))) := fun v cap base P bk w' hg e => by
    subst e
    exact close_any W H base _ _ w' (hg.grid cap) hW1 hW hH1 hH
  have HBY := hide hb
  have a1 : (1 : Int) ≤ (W : Int) := by omega
  have a2 : (W : Int) ≤ 512 := by omega
  have a3 : (1 : Int) ≤ (H : Int) := by omega
  have a4 : (H : Int) ≤ 512 := by omega
  obtain ⟨bs, hbs⟩ : ∃ bs, bs = pack (W * H) f := ⟨_, rfl⟩
  rw [← hbs] at HG HBY ⊢
  have HAd : Hid (∀ b off, A = some ⟨b, off, none⟩ → b < w.heap.size) := addr_of_pack hb (Nat.mul_pos hW1 hH1)
  clear hbs hb
  go_enter Try.func28, Try.ntmps28
  go_wp2_with fail
  refine (HBl.out _).mono ?_
  rintro e w1 ⟨v, rfl, hg, hb1⟩
  simp only [World.size_alloc] at hg
  obtain ⟨P, cap, bk, rfl, hat⟩ := hg
  have HR : Hid (RFill w P W H A c bk bs (part G 0 0) w1) := by
    refine ⟨GridAt.congr hat fun k i hk hi => (part_start G k i).symm, ?_, ?_, below_box (below_box hb1)⟩
    · exact ((Box.new w 24 _).alloc _).kept hb1
    · have h := (Box.new (w.alloc (.cells #[.int .i64 (W : Int), .int .i64 (H : Int), .slice A bs.length c] 24)) 24 #[.int .i64 0, .int .i64 0, .slice none 0 0]).kept hb1
      rw [World.size_alloc] at h
      exact h
  have HYS : Hid (∀ g v, RFill w P W H A c bk bs g v → Bys v A bs) := fun g v h => HBY.out.below h.2.2.2
  clear hat hb1
  go_wp2_with fail
  go_loopw [8] (fun i wr => ∃ r : Nat, r ≤ H ∧ i = .int .i64 r ∧ Hid (RFill w P W H A c bk bs (part G r 0) wr) ∧ (wr.cell? ⟨w.heap.size, 0, none⟩ = some (.int .i64 (W : Int)) ∧ wr.cell? ⟨w.heap.size, 1, none⟩ = some (.int .i64 (H : Int)))) (fun i _ => H - (intOf i).toNat)
  case atStart => exact ⟨0, by omega, rfl, HR, HR.out.cells⟩
  case round =>
    clear HR
    obtain ⟨r, hr, rfl, hR, hc0, hc1⟩ := hrel
    by_cases hlt : r < H
    · go_wp2_with fail
      obtain ⟨wo, rfl⟩ : ∃ wo : World, wo = wr := ⟨_, rfl⟩
      go_loopw [9] (fun i wr => ∃ cc : Nat, cc ≤ W ∧ i = .int .i64 cc ∧ Hid (RFill w P W H A c bk bs (part G r cc) wr) ∧ (wr.cell? ⟨w.heap.size, 0, none⟩ = some (.int .i64 (W : Int)) ∧ wr.cell? ⟨w.heap.size, 1, none⟩ = some (.int .i64 (H : Int)))) (fun i _ => W - (intOf i).toNat)
      case atStart => exact ⟨0, by omega, rfl, hR, hc0, hc1⟩
      case round =>
        clear hR hc0 hc1
        obtain ⟨cc, hcc, rfl, hR, hc0, hc1⟩ := hrel
        by_cases hcW : cc < W
        · have HRp := hide hR.out.drew
          have i0 : (0 : Int) ≤ (r : Int) := by omega
          have i1 : (r : Int) < (H : Int) := by omega
          have i2 : (0 : Int) ≤ (cc : Int) := by omega
          have i3 : (cc : Int) < (W : Int) := by omega
          have e1 : IntKind.i64.wrap ((cc : Int) - dx) = (cc : Int) - dx := IntWalk.i64_in _ (by omega)
          have e2 : IntKind.i64.wrap ((r : Int) - dy) = (r : Int) - dy := IntWalk.i64_in _ (by omega)
          clear hR
          go_wp2_with fail
          refine wp_region_held_drew (S := fun v => RW w P W H A c bk bs v) (by kernel_rfl) (HRp.out.rw_) (fun hH => ?_)
          refine wpAnyH_take (i := 0) (v := ?sv0) (by simp only [List.getElem?_toArray, List.getElem?_cons_succ, List.getElem?_cons_zero]; exact rfl) (by kernel_rfl) (by kernel_rfl) (by kernel_rfl) ?sq0 ?sy0 hH ?sr0
          case sq0 => exact fun _ _ _ h => h
          case sy0 =>
            refine Or.inl ⟨by rfl, fun v hv => ?_⟩
            go_simp
            rfl
          try simp only [Act.put, List.setIfInBounds_toArray, List.set_cons_zero, List.set_cons_succ]
          refine wpAnyH_take (i := 1) (v := ?sv1) (by simp only [List.getElem?_toArray, List.getElem?_cons_succ, List.getElem?_cons_zero]; exact rfl) (by kernel_rfl) (by kernel_rfl) (by kernel_rfl) ?sq1 ?sy1 hH ?sr1
          case sq1 => exact fun _ _ _ h => h
          case sy1 =>
            refine Or.inl ⟨by rfl, fun v hv => ?_⟩
            go_simp
            rfl
          try simp only [Act.put, List.setIfInBounds_toArray, List.set_cons_zero, List.set_cons_succ]
          refine wpAnyH_take (i := 2) (v := ?sv2) (by simp only [List.getElem?_toArray, List.getElem?_cons_succ, List.getElem?_cons_zero]; exact rfl) (by kernel_rfl) (by kernel_rfl) (by kernel_rfl) ?sq2 ?sy2 hH ?sr2
          case sq2 => exact fun _ _ _ h => h
          case sy2 =>
            refine Or.inl ⟨by rfl, fun v hv => ?_⟩
            go_simp
            rfl
          try simp only [Act.put, List.setIfInBounds_toArray, List.set_cons_zero, List.set_cons_succ]
          refine wpAnyH_take (i := 3) (v := ?sv3) (by simp only [List.getElem?_toArray, List.getElem?_cons_succ, List.getElem?_cons_zero]; exact rfl) (by kernel_rfl) (by kernel_rfl) (by kernel_rfl) ?sq3 ?sy3 hH ?sr3
          case sq3 => exact fun _ _ _ h => h
          case sy3 =>
            refine Or.inl ⟨by rfl, fun v hv => ?_⟩
            obtain ⟨q0, q1, q2, q3⟩ := RW.cells hv hlt
            go_simp
            rfl
          try simp only [Act.put, List.setIfInBounds_toArray, List.set_cons_zero, List.set_cons_succ]
          refine wpAnyH_take (i := 4) (v := ?sv4) (by simp only [List.getElem?_toArray, List.getElem?_cons_succ, List.getElem?_cons_zero]; exact rfl) (by kernel_rfl) (by kernel_rfl) (by kernel_rfl) ?sq4 ?sy4 hH ?sr4
          case sq4 => exact fun _ _ _ h => h
          case sy4 =>
            refine Or.inl ⟨by rfl, fun v hv => ?_⟩
            go_simp
            rfl
          try simp only [Act.put, List.setIfInBounds_toArray, List.set_cons_zero, List.set_cons_succ]
          refine wpAnyH_take (i := 5) (v := ?sv5) (by simp only [List.getElem?_toArray, List.getElem?_cons_succ, List.getElem?_cons_zero]; exact rfl) (by kernel_rfl) (by kernel_rfl) (by kernel_rfl) ?sq5 ?sy5 hH ?sr5
          case sq5 => exact fun _ _ _ h => h
          case sy5 =>
            refine Or.inl ⟨by rfl, fun v hv => ?_⟩
            obtain ⟨q0, q1, q2, q3⟩ := RW.cells hv hlt
            go_simp
            rfl
          try simp only [Act.put, List.setIfInBounds_toArray, List.set_cons_zero, List.set_cons_succ]
          refine wpAnyH_take (i := 6) (v := ?sv6) (by simp only [List.getElem?_toArray, List.getElem?_cons_succ, List.getElem?_cons_zero]; exact rfl) (by kernel_rfl) (by kernel_rfl) (by kernel_rfl) ?sq6 ?sy6 hH ?sr6
          case sq6 => exact fun _ _ _ h => h
          case sy6 =>
            refine Or.inl ⟨by rfl, fun v hv => ?_⟩
            go_simp
            rfl
          try simp only [Act.put, List.setIfInBounds_toArray, List.set_cons_zero, List.set_cons_succ]
          refine wpAnyH_take (i := 7) (v := ?sv7) (by simp only [List.getElem?_toArray, List.getElem?_cons_succ, List.getElem?_cons_zero]; exact rfl) (by kernel_rfl) (by kernel_rfl) (by kernel_rfl) ?sq7 ?sy7 hH ?sr7
          case sq7 => exact fun _ _ _ h => h
          case sy7 =>
            refine Or.inl ⟨by rfl, fun v hv => ?_⟩
            go_simp
            rfl
          try simp only [Act.put, List.setIfInBounds_toArray, List.set_cons_zero, List.set_cons_succ]
          refine wpAnyH_take (i := 8) (v := ?sv8) (by simp only [List.getElem?_toArray, List.getElem?_cons_succ, List.getElem?_cons_zero]; exact rfl) (by kernel_rfl) (by kernel_rfl) (by kernel_rfl) ?sq8 ?sy8 hH ?sr8
          case sq8 => exact fun _ _ _ h => h
          case sy8 =>
            refine Or.inl ⟨by rfl, fun v hv => ?_⟩
            go_simp
            rfl
          try simp only [Act.put, List.setIfInBounds_toArray, List.set_cons_zero, List.set_cons_succ]
          refine wpAnyH_take (i := 9) (v := ?sv9) (by simp only [List.getElem?_toArray, List.getElem?_cons_succ, List.getElem?_cons_zero]; exact rfl) (by kernel_rfl) (by kernel_rfl) (by kernel_rfl) ?sq9 ?sy9 hH ?sr9
          case sq9 => exact fun _ _ _ h => h
          case sy9 =>
            refine Or.inl ⟨by rfl, fun v hv => ?_⟩
            go_simp
            rfl
          try simp only [Act.put, List.setIfInBounds_toArray, List.set_cons_zero, List.set_cons_succ]
          refine wpAnyH_take (i := 10) (v := ?sv10) (by simp only [List.getElem?_toArray, List.getElem?_cons_succ, List.getElem?_cons_zero]; exact rfl) (by kernel_rfl) (by kernel_rfl) (by kernel_rfl) ?sq10 ?sy10 hH ?sr10
          case sq10 => exact fun _ _ _ h => h
          case sy10 =>
            refine Or.inl ⟨by rfl, fun v hv => ?_⟩
            go_simp
            rfl
          try simp only [Act.put, List.setIfInBounds_toArray, List.set_cons_zero, List.set_cons_succ]
          refine wpAnyH_take (i := 11) (v := ?sv11) (by simp only [List.getElem?_toArray, List.getElem?_cons_succ, List.getElem?_cons_zero]; exact rfl) (by kernel_rfl) (by kernel_rfl) (by kernel_rfl) ?sq11 ?sy11 hH ?sr11
          case sq11 => exact fun _ _ _ h => h
          case sy11 =>
            refine Or.inl ⟨by rfl, fun v hv => ?_⟩
            go_simp
            rfl
          try simp only [Act.put, List.setIfInBounds_toArray, List.set_cons_zero, List.set_cons_succ]
          refine wpAnyH_ready (rs := [12]) (by kernel_rfl) (by simp) ?_
          refine AllReadyH.cons (by simp only [List.getElem?_toArray, List.getElem?_cons_succ, List.getElem?_cons_zero]; exact rfl) (fun K hK => ?_) AllReadyH.nil
          go_simp
          refine (HG.out cc r _ hcW hlt (HYS.out _ _ HRp.out)).mono ?_
          rintro e w5 ⟨rfl, hb1⟩
          have HRk := hide (HRp.out.kept hb1)
          have hN := HRk.out.rw_
          have z0 := HRk.out.1.pix hlt hcW
          have zf := HRk.out.1.frozen hlt cc
          clear hb1 HRp
          refine hK.out _ _ hN (fun hH' => ?_)
          clear hK hH hN K
          have hH := hH'
          clear hH'
          try simp only [Act.put, List.setIfInBounds_toArray, List.set_cons_zero, List.set_cons_succ]
          refine wpAnyH_take (i := 13) (v := ?sv13) (by simp only [List.getElem?_toArray, List.getElem?_cons_succ, List.getElem?_cons_zero]; exact rfl) (by kernel_rfl) (by kernel_rfl) (by kernel_rfl) ?sq13 ?sy13 hH ?sr13
          case sq13 => exact fun _ _ _ h => h
          case sy13 =>
            refine Or.inl ⟨by rfl, fun v hv => ?_⟩
            go_simp
            rfl
          try simp only [Act.put, List.setIfInBounds_toArray, List.set_cons_zero, List.set_cons_succ]
          refine wpAnyH_ready (rs := [14]) (by kernel_rfl) (by simp) ?_
          refine AllReadyH.cons (by simp only [List.getElem?_toArray, List.getElem?_cons_succ, List.getElem?_cons_zero]; exact rfl) (fun K hK => ?_) AllReadyH.nil
          go_simp
          have HRq := hide ((HRk.out.set (i := cc) hlt (G r cc)).congr fun k i hk hi => part_step G r cc k i)
          have hN := HRq.out.rw_
          clear HRk z0 zf
          refine hK.out _ _ hN (fun hH' => ?_)
          clear hK hH hN K
          have hH := hH'
          clear hH'
          try simp only [Act.put, List.setIfInBounds_toArray, List.set_cons_zero, List.set_cons_succ]
          refine wpAnyH_done (by kernel_rfl) ?_ _
          go_wp2_with fail
          go_roundw
          case rel => exact ⟨cc + 1, by omega, by go_num, HRq, HRq.out.cells⟩
          case measure => simp [intOf]; omega
        · obtain rfl : W = cc := by omega
          have HR2 := hide (hR.out.congr fun k i hk hi => part_row G r k hi)
          go_wp2_with fail
          go_roundw
          case rel => exact ⟨r + 1, by omega, by go_num, HR2, hc0, hc1⟩
          case measure => simp [intOf]; omega
    · obtain rfl : H = r := by omega
      have HR3 := hide (hR.out.congr (g' := G) fun k i hk hi => part_end G hk i)
      clear hR
      go_wp2_with fail
      refine (HCL.out _ cap _ P bk _ HR3.out.1 rfl).mono ?_
      rintro e w2 ⟨g2, gc2, hg2, rfl, hrow, hb2⟩
      have S0 := HR3.out.2.2.1.kept hb2
      have s0 : w2.cell? ⟨w.heap.size + 1, 0, none⟩ = some (.int .i64 0) := S0.cell 0
      have s1 : w2.cell? ⟨w.heap.size + 1, 1, none⟩ = some (.int .i64 0) := S0.cell 1
      have s2 : w2.cell? ⟨w.heap.size + 1, 2, none⟩ = some (.slice none 0 0) := S0.cell 2
      have f0 := S0.frozen 0
      have f1 := S0.frozen 1
      have f2 := S0.frozen 2
      have l1 := S0.lt
      have HROW := hide hrow
      have HB2 := hide hb2
      have hge : w.heap.size + 1 + 1 ≤ g2 := by have := HR3.out.2.2.1.lt; omega
      clear S0 hrow hb2 hc0 hc1
      go_wp2_with fail
      refine bodyPost_ret (v := .agg #[.int .i64 (W : Int), .int .i64 (H : Int), .slice (some ⟨g2, 0, none⟩) (pack (W * H) (flat W G)).length gc2]) (by simp [results, Try.results28, go_sem, s0, s1, s2]) rfl ?_
      exact ⟨g2, gc2, by omega, rfl, ((HROW.out.far (by simp; omega) _).far (by simp; omega) _).far (by simp; omega) _, (((below_then HR3.out.2.2.2 HB2.out).setCell (by simp) _).setCell (by simp) _).setCell (by simp) _⟩

set_option maxHeartbeats 1000000 in
theorem refturn_any (W H : Nat) (A : Option Addr) (c : Nat) (f : Nat → Bool)  (w : World) (hb : Bys w A (pack (W * H) f)) (hW1 : 1 ≤ W) (hW : W ≤ 512) (hH1 : 1 ≤ H) (hH : H ≤ 512) :
    Calls Try.prog 30 #[.agg #[.int .i64 (W : Int), .int .i64 (H : Int), .slice A (pack (W * H) f).length c]] w (Fresh w W H (pack (W * H) (flat W (turnG W H f)))) :=  by
  have HG : Hid (∀ (i k : Nat) (v : World), i < W → k < H → Bys v A (pack (W * H) f) → Calls Try.prog 20 #[.agg #[.int .i64 (W : Int), .int .i64 (H : Int), .slice A (pack (W * H) f).length c], .int .i64 ((W : Int) - 1 - i), .int .i64 ((H : Int) - 1 - k)] v fun e w' => e = .returned (.bool (turnG W H f k i)) ∧ Below v.heap.size v w') := fun i k v hi hk hb =>
    refget_any W H A c f _ _ v hb hW hH
  generalize turnG W H f = G at *
  have HBl := hide (fun w => blankrows_any W H w hW hH1 hH)
  have HCL : Hid (∀ v cap base P bk w', GridAt w' base P H W bk G → v = .slice (some ⟨P, 0, none⟩) H cap → Calls Try.prog 45 #[v] w' (Fresh w' W H (pack (W * H) (flat W G)))) := fun v cap base P bk w' hg e => by
    subst e
    exact close_any W H base _ _ w' (hg.grid cap) hW1 hW hH1 hH
  have HBY := hide hb
  have a1 : (1 : Int) ≤ (W : Int) := by omega
  have a2 : (W : Int) ≤ 512 := by omega
  have a3 : (1 : Int) ≤ (H : Int) := by omega
  have a4 : (H : Int) ≤ 512 := by omega
  obtain ⟨bs, hbs⟩ : ∃ bs, bs = pack (W * H) f := ⟨_, rfl⟩
  rw [← hbs] at HG HBY ⊢
  have HAd : Hid (∀ b off, A = some ⟨b, off, none⟩ → b < w.heap.size) := addr_of_pack hb (Nat.mul_pos hW1 hH1)
  clear hbs hb
  go_enter Try.func30, Try.ntmps30
  go_wp2_with fail
  refine (HBl.out _).mono ?_
  rintro e w1 ⟨v, rfl, hg, hb1⟩
  simp only [World.size_alloc] at hg
  obtain ⟨P, cap, bk, rfl, hat⟩ := hg
  have HR : Hid (RFill w P W H A c bk bs (part G 0 0) w1) := by
    refine ⟨GridAt.congr hat fun k i hk hi => (part_start G k i).symm, ?_, ?_, below_box (below_box hb1)⟩
    · exact ((Box.new w 24 _).alloc _).kept hb1
    · have h := (Box.new (w.alloc (.cells #[.int .i64 (W : Int), .int .i64 (H : Int), .slice A bs.length c] 24)) 24 #[.int .i64 0, .int .i64 0, .slice none 0 0]).kept hb1
      rw [World.size_alloc] at h
      exact h
  have HYS : Hid (∀ g v, RFill w P W H A c bk bs g v → Bys v A bs) := fun g v h => HBY.out.below h.2.2.2
  clear hat hb1
  go_wp2_with fail
  go_loopw [4] (fun i wr => ∃ r : Nat, r ≤ H ∧ i = .int .i64 r ∧ Hid (RFill w P W H A c bk bs (part G r 0) wr) ∧ (wr.cell? ⟨w.heap.size, 0, none⟩ = some (.int .i64 (W : Int)) ∧ wr.cell? ⟨w.heap.size, 1, none⟩ = some (.int .i64 (H : Int)))) (fun i _ => H - (intOf i).toNat)
  case atStart => exact ⟨0, by omega, rfl, HR, HR.out.cells⟩
  case round =>
    clear HR
    obtain ⟨r, hr, rfl, hR, hc0, hc1⟩ := hrel
    by_cases hlt : r < H
    · go_wp2_with fail
      obtain ⟨wo, rfl⟩ : ∃ wo : World, wo = wr := ⟨_, rfl⟩
      go_loopw [5] (fun i wr => ∃ cc : Nat, cc ≤ W ∧ i = .int .i64 cc ∧ Hid (RFill w P W H A c bk bs (part G r cc) wr) ∧ (wr.cell? ⟨w.heap.size, 0, none⟩ = some (.int .i64 (W : Int)) ∧ wr.cell? ⟨w.heap.size, 1, none⟩ = some (.int .i64 (H : Int)))) (fun i _ => W - (intOf i).toNat)
      case atStart => exact ⟨0, by omega, rfl, hR, hc0, hc1⟩
      case round =>
        clear hR hc0 hc1
        obtain ⟨cc, hcc, rfl, hR, hc0, hc1⟩ := hrel
        by_cases hcW : cc < W
        · have HRp := hide hR.out.drew
          have i0 : (0 : Int) ≤ (r : Int) := by omega
          have i1 : (r : Int) < (H : Int) := by omega
          have i2 : (0 : Int) ≤ (cc : Int) := by omega
          have i3 : (cc : Int) < (W : Int) := by omega
          have e1 : IntKind.i64.wrap ((W : Int) - 1) = (W : Int) - 1 := IntWalk.i64_in _ (by omega)
          have e2 : IntKind.i64.wrap ((W : Int) - 1 - (cc : Int)) = (W : Int) - 1 - (cc : Int) := IntWalk.i64_in _ (by omega)
          have e3 : IntKind.i64.wrap ((H : Int) - 1) = (H : Int) - 1 := IntWalk.i64_in _ (by omega)
          have e4 : IntKind.i64.wrap ((H : Int) - 1 - (r : Int)) = (H : Int) - 1 - (r : Int) := IntWalk.i64_in _ (by omega)
          clear hR
          go_wp2_with fail
          refine wp_region_held_drew (S := fun v => RW w P W H A c bk bs v) (by kernel_rfl) (HRp.out.rw_) (fun hH => ?_)
          refine wpAnyH_take (i := 0) (v := ?tv0) (by simp only [List.getElem?_toArray, List.getElem?_cons_succ, List.getElem?_cons_zero]; exact rfl) (by kernel_rfl) (by kernel_rfl) (by kernel_rfl) ?tq0 ?ty0 hH ?tr0
          case tq0 => exact fun _ _ _ h => h
          case ty0 =>
            refine Or.inl ⟨by rfl, fun v hv => ?_⟩
            go_simp
            rfl
          try simp only [Act.put, List.setIfInBounds_toArray, List.set_cons_zero, List.set_cons_succ]
          refine wpAnyH_take (i := 1) (v := ?tv1) (by simp only [List.getElem?_toArray, List.getElem?_cons_succ, List.getElem?_cons_zero]; exact rfl) (by kernel_rfl) (by kernel_rfl) (by kernel_rfl) ?tq1 ?ty1 hH ?tr1
          case tq1 => exact fun _ _ _ h => h
          case ty1 =>
            refine Or.inl ⟨by rfl, fun v hv => ?_⟩
            go_simp
            rfl
          try simp only [Act.put, List.setIfInBounds_toArray, List.set_cons_zero, List.set_cons_succ]
          refine wpAnyH_take (i := 2) (v := ?tv2) (by simp only [List.getElem?_toArray, List.getElem?_cons_succ, List.getElem?_cons_zero]; exact rfl) (by kernel_rfl) (by kernel_rfl) (by kernel_rfl) ?tq2 ?ty2 hH ?tr2
          case tq2 => exact fun _ _ _ h => h
          case ty2 =>
            refine Or.inl ⟨by rfl, fun v hv => ?_⟩
            go_simp
            rfl
          try simp only [Act.put, List.setIfInBounds_toArray, List.set_cons_zero, List.set_cons_succ]
          refine wpAnyH_take (i := 3) (v := ?tv3) (by simp only [List.getElem?_toArray, List.getElem?_cons_succ, List.getElem?_cons_zero]; exact rfl) (by kernel_rfl) (by kernel_rfl) (by kernel_rfl) ?tq3 ?ty3 hH ?tr3
          case tq3 => exact fun _ _ _ h => h
          case ty3 =>
            refine Or.inl ⟨by rfl, fun v hv => ?_⟩
            obtain ⟨q0, q1, q2, q3⟩ := RW.cells hv hlt
            go_simp
            rfl
          try simp only [Act.put, List.setIfInBounds_toArray, List.set_cons_zero, List.set_cons_succ]
          refine wpAnyH_take (i := 4) (v := ?tv4) (by simp only [List.getElem?_toArray, List.getElem?_cons_succ, List.getElem?_cons_zero]; exact rfl) (by kernel_rfl) (by kernel_rfl) (by kernel_rfl) ?tq4 ?ty4 hH ?tr4
          case tq4 => exact fun _ _ _ h => h
          case ty4 =>
            refine Or.inl ⟨by rfl, fun v hv => ?_⟩
            go_simp
            rfl
          try simp only [Act.put, List.setIfInBounds_toArray, List.set_cons_zero, List.set_cons_succ]
          refine wpAnyH_take (i := 5) (v := ?tv5) (by simp only [List.getElem?_toArray, List.getElem?_cons_succ, List.getElem?_cons_zero]; exact rfl) (by kernel_rfl) (by kernel_rfl) (by kernel_rfl) ?tq5 ?ty5 hH ?tr5
          case tq5 => exact fun _ _ _ h => h
          case ty5 =>
            refine Or.inl ⟨by rfl, fun v hv => ?_⟩
            obtain ⟨q0, q1, q2, q3⟩ := RW.cells hv hlt
            go_simp
            rfl
          try simp only [Act.put, List.setIfInBounds_toArray, List.set_cons_zero, List.set_cons_succ]
          refine wpAnyH_take (i := 6) (v := ?tv6) (by simp only [List.getElem?_toArray, List.getElem?_cons_succ, List.getElem?_cons_zero]; exact rfl) (by kernel_rfl) (by kernel_rfl) (by kernel_rfl) ?tq6 ?ty6 hH ?tr6
          case tq6 => exact fun _ _ _ h => h
          case ty6 =>
            refine Or.inl ⟨by rfl, fun v hv => ?_⟩
            go_simp
            rfl
          try simp only [Act.put, List.setIfInBounds_toArray, List.set_cons_zero, List.set_cons_succ]
          refine wpAnyH_take (i := 7) (v := ?tv7) (by simp only [List.getElem?_toArray, List.getElem?_cons_succ, List.getElem?_cons_zero]; exact rfl) (by kernel_rfl) (by kernel_rfl) (by kernel_rfl) ?tq7 ?ty7 hH ?tr7
          case tq7 => exact fun _ _ _ h => h
          case ty7 =>
            refine Or.inl ⟨by rfl, fun v hv => ?_⟩
            obtain ⟨q0, q1, q2, q3⟩ := RW.cells hv hlt
            go_simp
            rfl
          try simp only [Act.put, List.setIfInBounds_toArray, List.set_cons_zero, List.set_cons_succ]
          refine wpAnyH_take (i := 8) (v := ?tv8) (by simp only [List.getElem?_toArray, List.getElem?_cons_succ, List.getElem?_cons_zero]; exact rfl) (by kernel_rfl) (by kernel_rfl) (by kernel_rfl) ?tq8 ?ty8 hH ?tr8
          case tq8 => exact fun _ _ _ h => h
          case ty8 =>
            refine Or.inl ⟨by rfl, fun v hv => ?_⟩
            go_simp
            rfl
          try simp only [Act.put, List.setIfInBounds_toArray, List.set_cons_zero, List.set_cons_succ]
          refine wpAnyH_take (i := 9) (v := ?tv9) (by simp only [List.getElem?_toArray, List.getElem?_cons_succ, List.getElem?_cons_zero]; exact rfl) (by kernel_rfl) (by kernel_rfl) (by kernel_rfl) ?tq9 ?ty9 hH ?tr9
          case tq9 => exact fun _ _ _ h => h
          case ty9 =>
            refine Or.inl ⟨by rfl, fun v hv => ?_⟩
            go_simp
            rfl
          try simp only [Act.put, List.setIfInBounds_toArray, List.set_cons_zero, List.set_cons_succ]
          refine wpAnyH_take (i := 10) (v := ?tv10) (by simp only [List.getElem?_toArray, List.getElem?_cons_succ, List.getElem?_cons_zero]; exact rfl) (by kernel_rfl) (by kernel_rfl) (by kernel_rfl) ?tq10 ?ty10 hH ?tr10
          case tq10 => exact fun _ _ _ h => h
          case ty10 =>
            refine Or.inl ⟨by rfl, fun v hv => ?_⟩
            go_simp
            rfl
          try simp only [Act.put, List.setIfInBounds_toArray, List.set_cons_zero, List.set_cons_succ]
          refine wpAnyH_take (i := 11) (v := ?tv11) (by simp only [List.getElem?_toArray, List.getElem?_cons_succ, List.getElem?_cons_zero]; exact rfl) (by kernel_rfl) (by kernel_rfl) (by kernel_rfl) ?tq11 ?ty11 hH ?tr11
          case tq11 => exact fun _ _ _ h => h
          case ty11 =>
            refine Or.inl ⟨by rfl, fun v hv => ?_⟩
            go_simp
            rfl
          try simp only [Act.put, List.setIfInBounds_toArray, List.set_cons_zero, List.set_cons_succ]
          refine wpAnyH_take (i := 12) (v := ?tv12) (by simp only [List.getElem?_toArray, List.getElem?_cons_succ, List.getElem?_cons_zero]; exact rfl) (by kernel_rfl) (by kernel_rfl) (by kernel_rfl) ?tq12 ?ty12 hH ?tr12
          case tq12 => exact fun _ _ _ h => h
          case ty12 =>
            refine Or.inl ⟨by rfl, fun v hv => ?_⟩
            obtain ⟨q0, q1, q2, q3⟩ := RW.cells hv hlt
            go_simp
            rfl
          try simp only [Act.put, List.setIfInBounds_toArray, List.set_cons_zero, List.set_cons_succ]
          refine wpAnyH_take (i := 13) (v := ?tv13) (by simp only [List.getElem?_toArray, List.getElem?_cons_succ, List.getElem?_cons_zero]; exact rfl) (by kernel_rfl) (by kernel_rfl) (by kernel_rfl) ?tq13 ?ty13 hH ?tr13
          case tq13 => exact fun _ _ _ h => h
          case ty13 =>
            refine Or.inl ⟨by rfl, fun v hv => ?_⟩
            go_simp
            rfl
          try simp only [Act.put, List.setIfInBounds_toArray, List.set_cons_zero, List.set_cons_succ]
          refine wpAnyH_take (i := 14) (v := ?tv14) (by simp only [List.getElem?_toArray, List.getElem?_cons_succ, List.getElem?_cons_zero]; exact rfl) (by kernel_rfl) (by kernel_rfl) (by kernel_rfl) ?tq14 ?ty14 hH ?tr14
          case tq14 => exact fun _ _ _ h => h
          case ty14 =>
            refine Or.inl ⟨by rfl, fun v hv => ?_⟩
            go_simp
            rfl
          try simp only [Act.put, List.setIfInBounds_toArray, List.set_cons_zero, List.set_cons_succ]
          refine wpAnyH_take (i := 15) (v := ?tv15) (by simp only [List.getElem?_toArray, List.getElem?_cons_succ, List.getElem?_cons_zero]; exact rfl) (by kernel_rfl) (by kernel_rfl) (by kernel_rfl) ?tq15 ?ty15 hH ?tr15
          case tq15 => exact fun _ _ _ h => h
          case ty15 =>
            refine Or.inl ⟨by rfl, fun v hv => ?_⟩
            go_simp
            rfl
          try simp only [Act.put, List.setIfInBounds_toArray, List.set_cons_zero, List.set_cons_succ]
          refine wpAnyH_ready (rs := [16]) (by kernel_rfl) (by simp) ?_
          refine AllReadyH.cons (by simp only [List.getElem?_toArray, List.getElem?_cons_succ, List.getElem?_cons_zero]; exact rfl) (fun K hK => ?_) AllReadyH.nil
          go_simp
          refine (HG.out cc r _ hcW hlt (HYS.out _ _ HRp.out)).mono ?_
          rintro e w5 ⟨rfl, hb1⟩
          have HRk := hide (HRp.out.kept hb1)
          have hN := HRk.out.rw_
          have z0 := HRk.out.1.pix hlt hcW
          have zf := HRk.out.1.frozen hlt cc
          clear hb1 HRp
          refine hK.out _ _ hN (fun hH' => ?_)
          clear hK hH hN K
          have hH := hH'
          clear hH'
          try simp only [Act.put, List.setIfInBounds_toArray, List.set_cons_zero, List.set_cons_succ]
          refine wpAnyH_take (i := 17) (v := ?tv17) (by simp only [List.getElem?_toArray, List.getElem?_cons_succ, List.getElem?_cons_zero]; exact rfl) (by kernel_rfl) (by kernel_rfl) (by kernel_rfl) ?tq17 ?ty17 hH ?tr17
          case tq17 => exact fun _ _ _ h => h
          case ty17 =>
            refine Or.inl ⟨by rfl, fun v hv => ?_⟩
            go_simp
            rfl
          try simp only [Act.put, List.setIfInBounds_toArray, List.set_cons_zero, List.set_cons_succ]
          refine wpAnyH_ready (rs := [18]) (by kernel_rfl) (by simp) ?_
          refine AllReadyH.cons (by simp only [List.getElem?_toArray, List.getElem?_cons_succ, List.getElem?_cons_zero]; exact rfl) (fun K hK => ?_) AllReadyH.nil
          go_simp
          have HRq := hide ((HRk.out.set (i := cc) hlt (G r cc)).congr fun k i hk hi => part_step G r cc k i)
          have hN := HRq.out.rw_
          clear HRk z0 zf
          refine hK.out _ _ hN (fun hH' => ?_)
          clear hK hH hN K
          have hH := hH'
          clear hH'
          try simp only [Act.put, List.setIfInBounds_toArray, List.set_cons_zero, List.set_cons_succ]
          refine wpAnyH_done (by kernel_rfl) ?_ _
          go_wp2_with fail
          go_roundw
          case rel => exact ⟨cc + 1, by omega, by go_num, HRq, HRq.out.cells⟩
          case measure => simp [intOf]; omega
        · obtain rfl : W = cc := by omega
          have HR2 := hide (hR.out.congr fun k i hk hi => part_row G r k hi)
          go_wp2_with fail
          go_roundw
          case rel => exact ⟨r + 1, by omega, by go_num, HR2, hc0, hc1⟩
          case measure => simp [intOf]; omega
    · obtain rfl : H = r := by omega
      have HR3 := hide (hR.out.congr (g' := G) fun k i hk hi => part_end G hk i)
      clear hR
      go_wp2_with fail
      refine (HCL.out _ cap _ P bk _ HR3.out.1 rfl).mono ?_
      rintro e w2 ⟨g2, gc2, hg2, rfl, hrow, hb2⟩
      have S0 := HR3.out.2.2.1.kept hb2
      have s0 : w2.cell? ⟨w.heap.size + 1, 0, none⟩ = some (.int .i64 0) := S0.cell 0
      have s1 : w2.cell? ⟨w.heap.size + 1, 1, none⟩ = some (.int .i64 0) := S0.cell 1
      have s2 : w2.cell? ⟨w.heap.size + 1, 2, none⟩ = some (.slice none 0 0) := S0.cell 2
      have f0 := S0.frozen 0
      have f1 := S0.frozen 1
      have f2 := S0.frozen 2
      have l1 := S0.lt
      have HROW := hide hrow
      have HB2 := hide hb2
      have hge : w.heap.size + 1 + 1 ≤ g2 := by have := HR3.out.2.2.1.lt; omega
      clear S0 hrow hb2 hc0 hc1
      go_wp2_with fail
      refine bodyPost_ret (v := .agg #[.int .i64 (W : Int), .int .i64 (H : Int), .slice (some ⟨g2, 0, none⟩) (pack (W * H) (flat W G)).length gc2]) (by simp [results, Try.results30, go_sem, s0, s1, s2]) rfl ?_
      exact ⟨g2, gc2, by omega, rfl, ((HROW.out.far (by simp; omega) _).far (by simp; omega) _).far (by simp; omega) _, (((below_then HR3.out.2.2.2 HB2.out).setCell (by simp) _).setCell (by simp) _).setCell (by simp) _⟩

set_option maxHeartbeats 1000000 in
theorem refshift_far_any (W H : Nat) (A : Option Addr) (c : Nat) (f : Nat → Bool) (dx dy : Int) (w : World) (hb : Bys w A (pack (W * H) f)) (hW1 : 1 ≤ W) (hW : W ≤ 512) (hH1 : 1 ≤ H) (hH : H ≤ 512) (hfar : dx ≤ -512 ∨ 512 ≤ dx ∨ dy ≤ -512 ∨ 512 ≤ dy) :
    Calls Try.prog 28 #[.agg #[.int .i64 (W : Int), .int .i64 (H : Int), .slice A (pack (W * H) f).length c], .int .i64 dx, .int .i64 dy] w (Fresh w W H (pack (W * H) (flat W fun _ _ => false))) :=  by
  have HG := trivial
  obtain ⟨G, hG⟩ : ∃ G : Nat → Nat → Bool, G = fun _ _ => false := ⟨_, rfl⟩
  rw [← hG]
  have HBl := hide (fun w => blankrows_any W H w hW hH1 hH)
  have HCL : Hid (∀ v cap base P bk w', GridAt w' base P H W bk G → v = .slice (some ⟨P, 0, none⟩) H cap → Calls Try.prog 45 #[v] w' (Fresh w' W H (pack (W * H) (flat W G)))) := fun v cap base P bk w' hg e => by
    subst e
    exact close_any W H base _ _ w' (hg.grid cap) hW1 hW hH1 hH
  have HBY := hide hb
  have a1 : (1 : Int) ≤ (W : Int) := by omega
  have a2 : (W : Int) ≤ 512 := by omega
  have a3 : (1 : Int) ≤ (H : Int) := by omega
  have a4 : (H : Int) ≤ 512 := by omega
  obtain ⟨bs, hbs⟩ : ∃ bs, bs = pack (W * H) f := ⟨_, rfl⟩
  rw [← hbs] at HBY ⊢
  have HAd : Hid (∀ b off, A = some ⟨b, off, none⟩ → b < w.heap.size) := addr_of_pack hb (Nat.mul_pos hW1 hH1)
  clear hbs hb HG
  go_enter Try.func28, Try.ntmps28
  go_wp2_with fail
  refine (HBl.out _).mono ?_
  rintro e w1 ⟨v, rfl, hg, hb1⟩
  simp only [World.size_alloc] at hg
  obtain ⟨P, cap, bk, rfl, hat⟩ := hg
  have HR : Hid (RFill w P W H A c bk bs (part G 0 0) w1) := by
    refine ⟨GridAt.congr hat fun k i hk hi => (part_start G k i).symm, ?_, ?_, below_box (below_box hb1)⟩
    · exact ((Box.new w 24 _).alloc _).kept hb1
    · have h := (Box.new (w.alloc (.cells #[.int .i64 (W : Int), .int .i64 (H : Int), .slice A bs.length c] 24)) 24 #[.int .i64 0, .int .i64 0, .slice none 0 0]).kept hb1
      rw [World.size_alloc] at h
      exact h
  have HYS : Hid (∀ g v, RFill w P W H A c bk bs g v → Bys v A bs) := fun g v h => HBY.out.below h.2.2.2
  clear hat hb1
  have HR3 : Hid (RFill w P W H A c bk bs G w1) := HR.out.congr fun k i _ _ => by rw [hG]; simp [part]
  have four : dx ≤ -512 ∨ (-512 < dx ∧ 512 ≤ dx) ∨ ((-512 < dx ∧ dx < 512) ∧ dy ≤ -512) ∨ ((-512 < dx ∧ dx < 512) ∧ -512 < dy ∧ 512 ≤ dy) := by omega
  clear HR hG hfar
  rcases four with h1 | ⟨h1, h2⟩ | ⟨⟨h1, h2⟩, h3⟩ | ⟨⟨h1, h2⟩, h3, h4⟩
  all_goals
    go_wp2_with fail
    refine (HCL.out _ cap _ P bk _ HR3.out.1 rfl).mono ?_
    rintro e w2 ⟨g2, gc2, hg2, rfl, hrow, hb2⟩
    have S0 := HR3.out.2.2.1.kept hb2
    have s0 : w2.cell? ⟨w.heap.size + 1, 0, none⟩ = some (.int .i64 0) := S0.cell 0
    have s1 : w2.cell? ⟨w.heap.size + 1, 1, none⟩ = some (.int .i64 0) := S0.cell 1
    have s2 : w2.cell? ⟨w.heap.size + 1, 2, none⟩ = some (.slice none 0 0) := S0.cell 2
    have f0 := S0.frozen 0
    have f1 := S0.frozen 1
    have f2 := S0.frozen 2
    have l1 := S0.lt
    have HROW := hide hrow
    have HB2 := hide hb2
    have hge : w.heap.size + 1 + 1 ≤ g2 := by have := HR3.out.2.2.1.lt; omega
    clear S0 hrow hb2
    go_wp2_with fail
    refine bodyPost_ret (v := .agg #[.int .i64 (W : Int), .int .i64 (H : Int), .slice (some ⟨g2, 0, none⟩) (pack (W * H) (flat W G)).length gc2]) (by simp [results, Try.results28, go_sem, s0, s1, s2]) rfl ?_
    exact ⟨g2, gc2, by omega, rfl, ((HROW.out.far (by simp; omega) _).far (by simp; omega) _).far (by simp; omega) _, (((below_then HR3.out.2.2.2 HB2.out).setCell (by simp) _).setCell (by simp) _).setCell (by simp) _⟩
end Go.Proofs.Ytebahhmajllmnaa
