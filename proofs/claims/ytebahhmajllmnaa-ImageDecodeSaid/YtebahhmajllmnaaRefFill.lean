/-
  The reference's Fill and Count.
-/
import Derived.Test.YtebahhmajllmnaaClose
namespace Go.Proofs.Ytebahhmajllmnaa
open Go.RowKit
set_option linter.unusedVariables false
set_option linter.unusedSimpArgs false

/-- pixels of row k, column i when row r has been met up to column c -/
def filled (W : Nat) (f : Nat → Bool) (x y ww hh : Int) (on : Bool) (r c : Nat) (k i : Nat) : Bool := if met W x y ww hh (r : Int) (c : Int) (k * W + i) then on else f (k * W + i)
theorem filled_yes {W : Nat} {f : Nat → Bool} {x y ww hh : Int} {on : Bool} {r c k i : Nat} (hc : c < W) (hi : i < W) (h : inR W x y ww hh (r * W + c) = true) :
    (if k = r ∧ i = c then on else filled W f x y ww hh on r c k i) = filled W f x y ww hh on r (c + 1) k i := by
  unfold filled
  rw [met_all_step hc hi, h]
  by_cases e : k = r ∧ i = c
  · simp [e]
  · simp [e]
theorem filled_no {W : Nat} {f : Nat → Bool} {x y ww hh : Int} {on : Bool} {r c k i : Nat} (hc : c < W) (hi : i < W) (h : inR W x y ww hh (r * W + c) = false) :
    filled W f x y ww hh on r c k i = filled W f x y ww hh on r (c + 1) k i := by
  unfold filled
  rw [met_all_step hc hi, h]
  simp
theorem filled_row {W : Nat} {f : Nat → Bool} {x y ww hh : Int} {on : Bool} {r k i : Nat} (hW : 0 < W) : filled W f x y ww hh on r W k i = filled W f x y ww hh on (r + 1) 0 k i := by
  unfold filled
  rw [met_all_row hW]
  rfl
theorem filled_end {W H : Nat} {f : Nat → Bool} {x y ww hh : Int} {on : Bool} {j : Nat} (hW : 0 < W) (hj : j < W * H) : flat W (filled W f x y ww hh on H 0) j = if inR W x y ww hh j then on else f j := by
  unfold flat filled
  have e : j / W * W + j % W = j := Nat.div_add_mod' j W
  rw [e]
  have := met_all_end (x := x) (y := y) (ww := ww) (hh := hh) hW hj
  rw [show ((0 : Nat) : Int) = 0 from rfl, this]

def RFill (w : World) (P W H : Nat) (A : Option Addr) (c : Nat) (bk : Nat → Nat) (bs : List UInt8) (g : Nat → Nat → Bool) (wr : World) : Prop :=
  GridAt wr (w.heap.size + 1 + 1) P H W bk g ∧ Box wr w.heap.size 24 #[.int .i64 (W : Int), .int .i64 (H : Int), .slice A bs.length c] ∧
  Box wr (w.heap.size + 1) 24 #[.int .i64 0, .int .i64 0, .slice none 0 0] ∧ Below w.heap.size w wr
section
variable {w wr : World} {P W H c : Nat} {A : Option Addr} {bk : Nat → Nat} {bs : List UInt8} {g : Nat → Nat → Bool}
theorem RFill.congr {g' : Nat → Nat → Bool} (h : RFill w P W H A c bk bs g wr) (e : ∀ k i, k < H → i < W → g k i = g' k i) : RFill w P W H A c bk bs g' wr := ⟨h.1.congr e, h.2⟩
theorem RFill.set (h : RFill w P W H A c bk bs g wr) {r i : Nat} (hr : r < H) (u : Bool) : RFill w P W H A c bk bs (fun k x => if k = r ∧ x = i then u else g k x) (wr.setCell ⟨bk r, i, none⟩ (.bool u)) := by
  have := h.1.ge hr
  exact ⟨h.1.set hr u, h.2.1.far (by simp; omega) _, h.2.2.1.far (by simp; omega) _, h.2.2.2.setCell (by simp; omega) _⟩
theorem RFill.kept {w' : World} (h : RFill w P W H A c bk bs g wr) (hb : Below wr.heap.size wr w') : RFill w P W H A c bk bs g w' :=
  ⟨h.1.kept hb, h.2.1.kept hb, h.2.2.1.kept hb, below_then h.2.2.2 hb⟩
theorem RFill.cells (h : RFill w P W H A c bk bs g wr) : wr.cell? ⟨w.heap.size, 0, none⟩ = some (.int .i64 (W : Int)) ∧ wr.cell? ⟨w.heap.size, 1, none⟩ = some (.int .i64 (H : Int)) := ⟨h.2.1.cell 0, h.2.1.cell 1⟩
end

set_option maxHeartbeats 3200000 in
theorem reffill_any (W H : Nat) (A : Option Addr) (c : Nat) (f : Nat → Bool) (x y ww hh : Int) (on : Bool) (w : World) (hb : Bys w A (pack (W * H) f)) (hW1 : 1 ≤ W) (hW : W ≤ 512) (hH1 : 1 ≤ H) (hH : H ≤ 512)
    (hx : -9223372036854775808 ≤ x ∧ x ≤ 9223372036854775807 ∧ -9223372036854775808 ≤ ww ∧ ww ≤ 9223372036854775807)
    (hy : -9223372036854775808 ≤ y ∧ y ≤ 9223372036854775807 ∧ -9223372036854775808 ≤ hh ∧ hh ≤ 9223372036854775807) :
    Calls Try.prog 24 #[.agg #[.int .i64 (W : Int), .int .i64 (H : Int), .slice A (pack (W * H) f).length c], .int .i64 x, .int .i64 y, .int .i64 ww, .int .i64 hh, .bool on] w
      (Fresh w W H (pack (W * H) fun j => if inR W x y ww hh j then on else f j)) := by
  have HO : Hid (∀ v, Bys v A (pack (W * H) f) → Calls Try.prog 43 #[.agg #[.int .i64 (W : Int), .int .i64 (H : Int), .slice A (pack (W * H) f).length c]] v (OpenPost v W H f)) := fun v hb => open_any W H A c f v hb hW1 hW hH1 hH
  have HWx : Hid (∀ (i : Nat) v, i < W → Calls Try.prog 44 #[.int .i64 (i : Int), .int .i64 x, .int .i64 ww] v fun e w' => e = .returned (.bool (withinB (i : Int) x ww)) ∧ v = w') := fun i v hi => within_any i x ww v (by omega) (by omega) hx.1 hx.2.1 hx.2.2.1 hx.2.2.2
  have HWy : Hid (∀ (i : Nat) v, i < H → Calls Try.prog 44 #[.int .i64 (i : Int), .int .i64 y, .int .i64 hh] v fun e w' => e = .returned (.bool (withinB (i : Int) y hh)) ∧ v = w') := fun i v hi => within_any i y hh v (by omega) (by omega) hy.1 hy.2.1 hy.2.2.1 hy.2.2.2
  have HBY := hide (((hb.alloc (.cells #[.int .i64 (W : Int), .int .i64 (H : Int), .slice A (pack (W * H) f).length c] 24)).alloc (.cells #[.int .i64 0, .int .i64 0, .slice none 0 0] 24)))
  have a1 : (1 : Int) ≤ (W : Int) := by omega
  have a2 : (W : Int) ≤ 512 := by omega
  have a3 : (1 : Int) ≤ (H : Int) := by omega
  have a4 : (H : Int) ≤ 512 := by omega
  obtain ⟨bs, hbs⟩ : ∃ bs, bs = pack (W * H) f := ⟨_, rfl⟩
  rw [← hbs] at HO HBY ⊢
  have HPE : Hid (∀ v cap base P bk w', GridAt w' base P H W bk (filled W f x y ww hh on H 0) → v = .slice (some ⟨P, 0, none⟩) H cap → Calls Try.prog 45 #[v] w' (Fresh w' W H (pack (W * H) fun j => if inR W x y ww hh j then on else f j))) := fun v cap base P bk w' hg e => by
    subst e
    rw [← pack_congr fun j hj => filled_end (by omega) hj]
    exact close_any W H base _ _ w' (hg.grid cap) hW1 hW hH1 hH
  clear hbs hb hx hy
  go_enter Try.func24, Try.ntmps24
  go_wp2_with fail
  refine (HO.out _ HBY.out).mono ?_
  rintro e w1 ⟨v, rfl, hg, hb1⟩
  simp only [World.size_alloc] at hg
  obtain ⟨P, cap, bk, rfl, hat⟩ := hg
  have HR : Hid (RFill w P W H A c bk bs (filled W f x y ww hh on 0 0) w1) := by
    refine ⟨GridAt.congr hat fun k i hk hi => ?_, ?_, ?_, below_box (below_box hb1)⟩
    · unfold px filled
      have := met_all_start W x y ww hh (k * W + i)
      rw [show ((0 : Nat) : Int) = 0 from rfl, this]
      rfl
    · exact ((Box.new w 24 _).alloc _).kept hb1
    · have h := (Box.new (w.alloc (.cells #[.int .i64 (W : Int), .int .i64 (H : Int), .slice A bs.length c] 24)) 24 #[.int .i64 0, .int .i64 0, .slice none 0 0]).kept hb1
      rw [World.size_alloc] at h
      exact h
  clear hat hb1
  go_wp2_with fail
  go_loopw [14] (fun i wr => ∃ r : Nat, r ≤ H ∧ i = .int .i64 r ∧ Hid (RFill w P W H A c bk bs (filled W f x y ww hh on r 0) wr) ∧ (wr.cell? ⟨w.heap.size, 0, none⟩ = some (.int .i64 (W : Int)) ∧ wr.cell? ⟨w.heap.size, 1, none⟩ = some (.int .i64 (H : Int)))) (fun i _ => H - (intOf i).toNat)
  case atStart => exact ⟨0, by omega, rfl, HR, HR.out.cells⟩
  case round =>
    clear HR
    obtain ⟨r, hr, rfl, hR, hc0, hc1⟩ := hrel
    by_cases hlt : r < H
    · go_wp2_with fail
      obtain ⟨wo, rfl⟩ : ∃ wo : World, wo = wr := ⟨_, rfl⟩
      go_loopw [15] (fun i wr => ∃ cc : Nat, cc ≤ W ∧ i = .int .i64 cc ∧ Hid (RFill w P W H A c bk bs (filled W f x y ww hh on r cc) wr) ∧ (wr.cell? ⟨w.heap.size, 0, none⟩ = some (.int .i64 (W : Int)) ∧ wr.cell? ⟨w.heap.size, 1, none⟩ = some (.int .i64 (H : Int)))) (fun i _ => W - (intOf i).toNat)
      case atStart => exact ⟨0, by omega, rfl, hR, hc0, hc1⟩
      case round =>
        clear hR hc0 hc1
        obtain ⟨cc, hcc, rfl, hR, hc0, hc1⟩ := hrel
        by_cases hcW : cc < W
        · have hin := inR_at (W := W) (x := x) (y := y) (ww := ww) (hh := hh) (r := r) hcW
          have p0 := hR.out.1.row hlt
          have p1 := hR.out.1.pix hlt hcW
          have pf := hR.out.1.frozen hlt cc
          by_cases hwx : withinB (cc : Int) x ww = true
          · by_cases hwy : withinB (r : Int) y hh = true
            · have HI : Hid (inR W x y ww hh (r * W + cc) = true) := by rw [Hid, hin, hwx, hwy]; rfl
              have HX := hide hwx
              have HY := hide hwy
              have HR2 := hide ((hR.out.set (i := cc) hlt on).congr fun k i hk hi => filled_yes hcW hi HI.out)
              clear hwx hwy hin
              go_wp2_with fail
              refine (HWx.out cc _ hcW).mono ?_
              rw [HX.out]
              rintro e w2 ⟨rfl, rfl⟩
              go_wp2_with fail
              refine (HWy.out r _ hlt).mono ?_
              rw [HY.out]
              rintro e w2 ⟨rfl, rfl⟩
              go_wp2_with fail
              go_roundw
              case rel => exact ⟨cc + 1, by omega, by go_num, HR2, HR2.out.cells⟩
              case measure => simp [intOf]; omega
            · have hwy' := Bool.eq_false_iff.2 hwy
              have HI : Hid (inR W x y ww hh (r * W + cc) = false) := by rw [Hid, hin, hwx, hwy']; rfl
              have HX := hide hwx
              have HY := hide hwy'
              have HR2 := hide (hR.out.congr fun k i hk hi => filled_no hcW hi HI.out)
              clear hwx hwy hwy' hin
              go_wp2_with fail
              refine (HWx.out cc _ hcW).mono ?_
              rw [HX.out]
              rintro e w2 ⟨rfl, rfl⟩
              go_wp2_with fail
              refine (HWy.out r _ hlt).mono ?_
              rw [HY.out]
              rintro e w2 ⟨rfl, rfl⟩
              go_wp2_with fail
              go_roundw
              case rel => exact ⟨cc + 1, by omega, by go_num, HR2, HR2.out.cells⟩
              case measure => simp [intOf]; omega
          · have hwx' := Bool.eq_false_iff.2 hwx
            have HI : Hid (inR W x y ww hh (r * W + cc) = false) := by rw [Hid, hin, hwx']; rfl
            have HX := hide hwx'
            have HR2 := hide (hR.out.congr fun k i hk hi => filled_no hcW hi HI.out)
            clear hwx hwx' hin
            go_wp2_with fail
            refine (HWx.out cc _ hcW).mono ?_
            rw [HX.out]
            rintro e w2 ⟨rfl, rfl⟩
            go_wp2_with fail
            go_roundw
            case rel => exact ⟨cc + 1, by omega, by go_num, HR2, HR2.out.cells⟩
            case measure => simp [intOf]; omega
        · obtain rfl : W = cc := by omega
          have HR2 := hide (hR.out.congr fun k i hk hi => filled_row (by omega))
          go_wp2_with fail
          go_roundw
          case rel => exact ⟨r + 1, by omega, by go_num, HR2, hc0, hc1⟩
          case measure => simp [intOf]; omega
    · obtain rfl : H = r := by omega
      go_wp2_with fail
      refine (HPE.out _ cap _ P bk _ hR.out.1 rfl).mono ?_
      rintro e w2 ⟨g2, gc2, hg2, rfl, hrow, hb2⟩
      have S0 := hR.out.2.2.1.kept hb2
      have s0 : w2.cell? ⟨w.heap.size + 1, 0, none⟩ = some (.int .i64 0) := S0.cell 0
      have s1 : w2.cell? ⟨w.heap.size + 1, 1, none⟩ = some (.int .i64 0) := S0.cell 1
      have s2 : w2.cell? ⟨w.heap.size + 1, 2, none⟩ = some (.slice none 0 0) := S0.cell 2
      have f0 := S0.frozen 0
      have f1 := S0.frozen 1
      have f2 := S0.frozen 2
      have l1 := S0.lt
      have HROW := hide hrow
      have HB2 := hide hb2
      have hge : w.heap.size + 1 + 1 ≤ g2 := by have := hR.out.2.2.1.lt; omega
      clear S0 hrow hb2 hc0 hc1
      go_wp2_with fail
      refine bodyPost_ret (v := .agg #[.int .i64 (W : Int), .int .i64 (H : Int), .slice (some ⟨g2, 0, none⟩) (pack (W * H) fun j => if inR W x y ww hh j then on else f j).length gc2]) (by simp [results, Try.results24, go_sem, s0, s1, s2]) rfl ?_
      exact ⟨g2, gc2, by omega, rfl, ((HROW.out.far (by simp; omega) _).far (by simp; omega) _).far (by simp; omega) _, (((below_then hR.out.2.2.2 HB2.out).setCell (by simp) _).setCell (by simp) _).setCell (by simp) _⟩
end Go.Proofs.Ytebahhmajllmnaa
