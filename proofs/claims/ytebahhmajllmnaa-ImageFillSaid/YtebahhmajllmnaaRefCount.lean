/-
  The reference's Count.
-/
import Derived.Test.YtebahhmajllmnaaRefFill
namespace Go.Proofs.Ytebahhmajllmnaa
open Go.RowKit
set_option linter.unusedVariables false
set_option linter.unusedSimpArgs false

def cntTo (W H : Nat) (f : Nat → Bool) (x y ww hh : Int) (r c : Nat) : Nat := cnt (W * H) fun j => met W x y ww hh (r : Int) (c : Int) j && f j
section
variable {W H : Nat} {f : Nat → Bool} {x y ww hh : Int}
theorem cntTo_start : cntTo W H f x y ww hh 0 0 = 0 := by
  unfold cntTo
  rw [cnt_congr (q := fun _ => false) fun j hj => by rw [show ((0 : Nat) : Int) = 0 from rfl, met_all_start]; rfl]
  unfold cnt
  simp
theorem cntTo_row {r : Nat} (hW : 0 < W) : cntTo W H f x y ww hh r W = cntTo W H f x y ww hh (r + 1) 0 := by
  unfold cntTo
  exact cnt_congr fun j hj => by rw [met_all_row hW]; rfl
theorem cntTo_end (hW : 0 < W) : cntTo W H f x y ww hh H 0 = cnt (W * H) fun j => inR W x y ww hh j && f j := by
  unfold cntTo
  exact cnt_congr fun j hj => by rw [show ((0 : Nat) : Int) = 0 from rfl, met_all_end hW hj]
theorem met_at {r c j : Nat} (hc : c < W) (hW : 0 < W) : met W x y ww hh (r : Int) ((c + 1 : Nat) : Int) j = ((decide (j = r * W + c) && inR W x y ww hh (r * W + c)) || met W x y ww hh (r : Int) (c : Int) j) := by
  have h := met_all_step (x := x) (y := y) (ww := ww) (hh := hh) (r := r) (c := c) (k := j / W) (i := j % W) hc (Nat.mod_lt _ hW)
  rw [show j / W * W + j % W = j from Nat.div_add_mod' j W] at h
  rw [h]
  congr 2
  rw [decide_eq_decide]
  constructor
  · rintro ⟨h1, h2⟩
    have := Nat.div_add_mod' j W
    rw [h1, h2] at this
    exact this.symm
  · rintro rfl
    exact idx_split hc
theorem cntTo_no {r c : Nat} (hc : c < W) (h : (inR W x y ww hh (r * W + c) && f (r * W + c)) = false) : cntTo W H f x y ww hh r (c + 1) = cntTo W H f x y ww hh r c := by
  unfold cntTo
  refine cnt_congr fun j hj => ?_
  rw [met_at hc (by omega)]
  by_cases e : j = r * W + c
  · rw [← e] at h ⊢
    cases hi : inR W x y ww hh j
    · simp
    · rw [hi] at h; simp at h; simp [h]
  · simp [e]
theorem cntTo_yes {r c : Nat} (hc : c < W) (hr : r < H) (h : inR W x y ww hh (r * W + c) = true) (hf : f (r * W + c) = true) : cntTo W H f x y ww hh r (c + 1) = cntTo W H f x y ww hh r c + 1 := by
  unfold cntTo
  have hlt : r * W + c < W * H := by
    have : (r + 1) * W ≤ H * W := Nat.mul_le_mul_right _ (by omega)
    rw [Nat.add_mul] at this
    rw [Nat.mul_comm W H]
    omega
  have hm : met W x y ww hh (r : Int) (c : Int) (r * W + c) = false := by
    obtain ⟨h1, h2⟩ := idx_split (r := r) hc
    unfold met
    rw [h1, h2, decide_eq_false (show ¬ (r : Int) < r by omega), decide_eq_false (show ¬ (c : Int) < c by omega)]
    simp
  refine cnt_add hlt (by rw [hm]; rfl) fun j hj => ?_
  rw [met_at hc (by omega)]
  by_cases e : j = r * W + c
  · rw [e, h, hf]; simp
  · simp [e]
theorem cntTo_le (r c : Nat) : cntTo W H f x y ww hh r c ≤ W * H := cnt_le _ _
end

set_option maxHeartbeats 3200000 in
theorem refcount_any (W H : Nat) (A : Option Addr) (c : Nat) (f : Nat → Bool) (x y ww hh : Int) (w : World) (hb : Bys w A (pack (W * H) f)) (hW1 : 1 ≤ W) (hW : W ≤ 512) (hH1 : 1 ≤ H) (hH : H ≤ 512)
    (hx : -9223372036854775808 ≤ x ∧ x ≤ 9223372036854775807 ∧ -9223372036854775808 ≤ ww ∧ ww ≤ 9223372036854775807)
    (hy : -9223372036854775808 ≤ y ∧ y ≤ 9223372036854775807 ∧ -9223372036854775808 ≤ hh ∧ hh ≤ 9223372036854775807) :
    Calls Try.prog 25 #[.agg #[.int .i64 (W : Int), .int .i64 (H : Int), .slice A (pack (W * H) f).length c], .int .i64 x, .int .i64 y, .int .i64 ww, .int .i64 hh] w
      fun e w' => e = .returned (.int .i64 ((cnt (W * H) fun j => inR W x y ww hh j && f j : Nat) : Int)) ∧ Below w.heap.size w w' := by
  have HG : Hid (∀ (i k : Nat) (v : World), i < W → k < H → Bys v A (pack (W * H) f) → Calls Try.prog 20 #[.agg #[.int .i64 (W : Int), .int .i64 (H : Int), .slice A (pack (W * H) f).length c], .int .i64 (i : Int), .int .i64 (k : Int)] v fun e w' => e = .returned (.bool (f (k * W + i))) ∧ Below v.heap.size v w') := fun i k v hi hk hb => by
    have h := refget_any W H A c f i k v hb hW hH
    rw [getB_px hi hk] at h
    exact h
  have HWx : Hid (∀ (i : Nat) v, i < W → Calls Try.prog 44 #[.int .i64 (i : Int), .int .i64 x, .int .i64 ww] v fun e w' => e = .returned (.bool (withinB (i : Int) x ww)) ∧ v = w') := fun i v hi => within_any i x ww v (by omega) (by omega) hx.1 hx.2.1 hx.2.2.1 hx.2.2.2
  have HWy : Hid (∀ (i : Nat) v, i < H → Calls Try.prog 44 #[.int .i64 (i : Int), .int .i64 y, .int .i64 hh] v fun e w' => e = .returned (.bool (withinB (i : Int) y hh)) ∧ v = w') := fun i v hi => within_any i y hh v (by omega) (by omega) hy.1 hy.2.1 hy.2.2.1 hy.2.2.2
  have S0 := hide (ImgSt.start (W := (W : Int)) (H := (H : Int)) (c := c) hb)
  have a1 : (1 : Int) ≤ (W : Int) := by omega
  have a2 : (W : Int) ≤ 512 := by omega
  have a3 : (1 : Int) ≤ (H : Int) := by omega
  have a4 : (H : Int) ≤ 512 := by omega
  have HN := size_bd hW hH
  have HE : Hid (cntTo W H f x y ww hh H 0 = cnt (W * H) fun j => inR W x y ww hh j && f j) := cntTo_end (by omega)
  rw [← HE.out]
  obtain ⟨bs, hbs⟩ : ∃ bs, bs = pack (W * H) f := ⟨_, rfl⟩
  rw [← hbs] at HG S0 ⊢
  clear hbs hb hx hy
  go_enter Try.func25, Try.ntmps25
  go_wp2_with fail
  go_loopw [11, 12] (fun n i wr => ∃ r : Nat, r ≤ H ∧ i = .int .i64 r ∧ n = .int .i64 (cntTo W H f x y ww hh r 0 : Nat) ∧ Hid (ImgSt w w.heap.size W H A c bs wr) ∧ (wr.cell? ⟨w.heap.size, 0, none⟩ = some (.int .i64 (W : Int)) ∧ wr.cell? ⟨w.heap.size, 1, none⟩ = some (.int .i64 (H : Int)) ∧ wr.cell? ⟨w.heap.size, 2, none⟩ = some (.slice A bs.length c))) (fun _ i _ => H - (intOf i).toNat)
  case atStart => exact ⟨0, by omega, rfl, by rw [cntTo_start]; rfl, S0, S0.out.cells⟩
  case round =>
    clear S0
    obtain ⟨r, hr, rfl, rfl, hR, hc0, hc1, hc2⟩ := hrel
    by_cases hlt : r < H
    · go_wp2_with fail
      obtain ⟨wo, rfl⟩ : ∃ wo : World, wo = wr := ⟨_, rfl⟩
      go_loopw [11, 13] (fun n i wr => ∃ cc : Nat, cc ≤ W ∧ i = .int .i64 cc ∧ n = .int .i64 (cntTo W H f x y ww hh r cc : Nat) ∧ Hid (ImgSt w w.heap.size W H A c bs wr) ∧ (wr.cell? ⟨w.heap.size, 0, none⟩ = some (.int .i64 (W : Int)) ∧ wr.cell? ⟨w.heap.size, 1, none⟩ = some (.int .i64 (H : Int)) ∧ wr.cell? ⟨w.heap.size, 2, none⟩ = some (.slice A bs.length c))) (fun _ i _ => W - (intOf i).toNat)
      case atStart => exact ⟨0, by omega, rfl, rfl, hR, hc0, hc1, hc2⟩
      case round =>
        clear hR hc0 hc1 hc2
        obtain ⟨cc, hcc, rfl, rfl, hR, hc0, hc1, hc2⟩ := hrel
        have hle := cntTo_le (W := W) (H := H) (f := f) (x := x) (y := y) (ww := ww) (hh := hh) r cc
        by_cases hcW : cc < W
        · have hin := inR_at (W := W) (x := x) (y := y) (ww := ww) (hh := hh) (r := r) hcW
          by_cases hwx : withinB (cc : Int) x ww = true
          · by_cases hwy : withinB (r : Int) y hh = true
            · have HI : Hid (inR W x y ww hh (r * W + cc) = true) := by rw [Hid, hin, hwx, hwy]; rfl
              have HX := hide hwx
              have HY := hide hwy
              have HBy := hide (hR.out.2.1)
              by_cases hf : f (r * W + cc) = true
              · have HC := hide (cntTo_yes (H := H) hcW hlt HI.out hf)
                have HF := hide hf
                clear hwx hwy hin hf
                go_wp2_with fail
                refine (HWx.out cc _ hcW).mono ?_
                rw [HX.out]
                rintro e w2 ⟨rfl, rfl⟩
                go_wp2_with fail
                refine (HWy.out r _ hlt).mono ?_
                rw [HY.out]
                rintro e w2 ⟨rfl, rfl⟩
                go_wp2_with fail
                refine (HG.out cc r _ hcW hlt HBy.out).mono ?_
                rw [HF.out]
                rintro e w2 ⟨rfl, hb2⟩
                have HR2 := hide (hR.out.next hb2)
                clear hb2 hc0 hc1 hc2
                go_wp2_with fail
                go_roundw
                case rel => exact ⟨cc + 1, by omega, by go_num, by rw [HC.out]; go_num, HR2, HR2.out.cells⟩
                case measure => simp [intOf]; omega
              · have hf' := Bool.eq_false_iff.2 hf
                have HC := hide (cntTo_no (H := H) (f := f) hcW (by rw [HI.out, hf']; rfl))
                have HF := hide hf'
                clear hwx hwy hin hf hf'
                go_wp2_with fail
                refine (HWx.out cc _ hcW).mono ?_
                rw [HX.out]
                rintro e w2 ⟨rfl, rfl⟩
                go_wp2_with fail
                refine (HWy.out r _ hlt).mono ?_
                rw [HY.out]
                rintro e w2 ⟨rfl, rfl⟩
                go_wp2_with fail
                refine (HG.out cc r _ hcW hlt HBy.out).mono ?_
                rw [HF.out]
                rintro e w2 ⟨rfl, hb2⟩
                have HR2 := hide (hR.out.next hb2)
                clear hb2 hc0 hc1 hc2
                go_wp2_with fail
                go_roundw
                case rel => exact ⟨cc + 1, by omega, by go_num, by rw [HC.out], HR2, HR2.out.cells⟩
                case measure => simp [intOf]; omega
            · have hwy' := Bool.eq_false_iff.2 hwy
              have HC := hide (cntTo_no (H := H) (f := f) hcW (by rw [hin, hwx, hwy']; rfl))
              have HX := hide hwx
              have HY := hide hwy'
              clear hwx hwy hwy' hin
              go_wp2_with fail
              refine (HWx.out cc _ hcW).mono ?_
              rw [HX.out]
              rintro e w2 ⟨rfl, rfl⟩
              go_wp2_with fail
              refine (HWy.out r _ hlt).mono ?_
              rw [HY.out]
              rintro e w2 ⟨rfl, rfl⟩
              go_wp2_with fail
              go_roundw
              case rel => exact ⟨cc + 1, by omega, by go_num, by rw [HC.out], hR, hc0, hc1, hc2⟩
              case measure => simp [intOf]; omega
          · have hwx' := Bool.eq_false_iff.2 hwx
            have HC := hide (cntTo_no (H := H) (f := f) hcW (by rw [hin, hwx']; rfl))
            have HX := hide hwx'
            clear hwx hwx' hin
            go_wp2_with fail
            refine (HWx.out cc _ hcW).mono ?_
            rw [HX.out]
            rintro e w2 ⟨rfl, rfl⟩
            go_wp2_with fail
            go_roundw
            case rel => exact ⟨cc + 1, by omega, by go_num, by rw [HC.out], hR, hc0, hc1, hc2⟩
            case measure => simp [intOf]; omega
        · obtain rfl : W = cc := by omega
          have HC : Hid (cntTo W H f x y ww hh r W = cntTo W H f x y ww hh (r + 1) 0) := cntTo_row (by omega)
          go_wp2_with fail
          go_roundw
          case rel => exact ⟨r + 1, by omega, by go_num, by rw [HC.out], hR, hc0, hc1, hc2⟩
          case measure => simp [intOf]; omega
    · obtain rfl : H = r := by omega
      go_wp2_with fail
      go_ret
      exact ⟨rfl, hR.out.2.2⟩
end Go.Proofs.Ytebahhmajllmnaa
