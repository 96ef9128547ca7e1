/-
  each: a function value is called once for each pixel of a rectangle.
-/
import Derived.Test.YtebahhmajllmnaaMake
namespace Go.Proofs.Ytebahhmajllmnaa
open Go.RowKit
set_option linter.unusedVariables false
set_option linter.unusedSimpArgs false

def EachPost (w : World) (g : Nat) (d : Int) (I : Int → Int → World → Prop) (e : Ending) (w' : World) : Prop :=
  e = .returned (.tuple #[]) ∧ (∃ r c, d ≤ r ∧ I r c w') ∧ w.grownBy w' (some g)
def StepPost (v : World) (g : Nat) (I : Int → Int → World → Prop) (r c : Int) (e : Ending) (v' : World) : Prop :=
  e = .returned (.tuple #[]) ∧ I r (c + 1) v' ∧ v.grownBy v' (some g)

set_option maxHeartbeats 1600000 in
theorem each_any (W H : Nat) (A : Option Addr) (n c : Nat) (x y ww hh : Int) (fid : FuncId) (caps : Array Value) (g : Nat) (I : Int → Int → World → Prop) (w : World)
    (hW : W ≤ 512) (hH : H ≤ 512) (hg : g < w.heap.size) (hcall : ∀ (vs : Array Value) (v : World), (callFunc fid vs).run Try.prog v = .ok (.enter fid vs) v)
    (hx1 : -9223372036854775808 ≤ x) (hx2 : x ≤ 9223372036854775807) (hn1 : -9223372036854775808 ≤ ww) (hn2 : ww ≤ 9223372036854775807)
    (hy1 : -9223372036854775808 ≤ y) (hy2 : y ≤ 9223372036854775807) (hm1 : -9223372036854775808 ≤ hh) (hm2 : hh ≤ 9223372036854775807)
    (h0 : I (clipA y hh H) (clipA x ww W) w)
    (halloc : ∀ r cc v o, I r cc v → I r cc (v.alloc o))
    (hstep : ∀ (r cc : Int) (v : World), clipA y hh H ≤ r → r < clipB y hh H → clipA x ww W ≤ cc → cc < clipB x ww W → w.grownBy v (some g) → I r cc v →
      Calls Try.prog fid (#[.int .i64 (r * W + cc)] ++ caps) v (StepPost v g I r cc))
    (hrow : ∀ (r cc : Int) (v : World), clipB x ww W ≤ cc → I r cc v → I (r + 1) (clipA x ww W) v) :
    Calls Try.prog 39 #[.agg #[.int .i64 (W : Int), .int .i64 (H : Int), .slice A n c], .int .i64 x, .int .i64 y, .int .i64 ww, .int .i64 hh, .func (.func fid) #[] caps] w
      (EachPost w g (clipB y hh H) I) := by
  obtain ⟨ha0, ha1, hb1⟩ := clip_bd x ww W (by omega)
  obtain ⟨ht0, ht1, hd1⟩ := clip_bd y hh H (by omega)
  have HX := hide (clip_any x ww W · (by omega) (by omega) hx1 hx2 hn1 hn2)
  have HY := hide (clip_any y hh H · (by omega) (by omega) hy1 hy2 hm1 hm2)
  have H0 := hide h0
  have HA := hide halloc
  have HS := hide hstep
  have HR := hide hrow
  clear h0 halloc hstep hrow hx1 hx2 hn1 hn2 hy1 hy2 hm1 hm2
  generalize clipA x ww W = a at *
  generalize clipB x ww W = b at *
  generalize clipA y hh H = t at *
  generalize clipB y hh H = d at *
  have hWi : (W : Int) ≤ 512 := by omega
  have hHi : (H : Int) ≤ 512 := by omega
  go_enter Try.func39, Try.ntmps39
  go_wp2_with fail
  refine (HX.out _).mono ?_
  rintro e w1 ⟨rfl, rfl⟩
  go_wp2_with fail
  refine (HY.out _).mono ?_
  rintro e w1 ⟨rfl, rfl⟩
  go_wp2_with fail
  go_loopw [16] (fun i wr => ∃ r : Int, t ≤ r ∧ i = .int .i64 r ∧ Hid (I r a wr) ∧ Hid (w.grownBy wr (some g)) ∧ wr.cell? ⟨w.heap.size, 0, none⟩ = some (.int .i64 (W : Int))) (fun i _ => (d - intOf i).toNat)
  case atStart => exact ⟨t, by omega, rfl, HA.out _ _ _ _ H0.out, World.grownBy_alloc _ _ _, by simp⟩
  case round =>
    obtain ⟨r, hr0, rfl, hI, hG, hcell⟩ := hrel
    by_cases hrd : r < d
    · go_wp2_with fail
      obtain ⟨wo, rfl⟩ : ∃ wo : World, wo = wr := ⟨_, rfl⟩
      go_loopw [17] (fun i wr => ∃ cc : Int, a ≤ cc ∧ i = .int .i64 cc ∧ Hid (I r cc wr) ∧ Hid (w.grownBy wr (some g)) ∧ wr.cell? ⟨w.heap.size, 0, none⟩ = some (.int .i64 (W : Int))) (fun i _ => (b - intOf i).toNat)
      case atStart => exact ⟨a, by omega, rfl, hI, hG, hcell⟩
      case round =>
        clear hcell hI hG
        obtain ⟨cc, hc0, rfl, hI, hG, hcell⟩ := hrel
        by_cases hcb : cc < b
        · have qr : 0 ≤ r * (W : Int) ∧ r * (W : Int) ≤ 262144 := by
            obtain ⟨r', rfl⟩ := Int.eq_ofNat_of_zero_le (show 0 ≤ r by omega)
            have : r' * W ≤ 512 * 512 := Nat.mul_le_mul (by omega) hW
            have e : (r' : Int) * (W : Int) = ((r' * W : Nat) : Int) := by simp
            omega
          obtain ⟨qr1, qr2⟩ := qr
          have qc : 0 ≤ cc := by omega
          have qc2 : cc ≤ 512 := by omega
          go_wp2_with fail
          refine (HS.out r cc wr (by omega) (by omega) (by omega) (by omega) hG.out hI.out).mono ?_
          rintro e w2 ⟨rfl, hI2, hG2⟩
          have HI2 := hide hI2
          have HG2 := hide (grown_trans hG.out hG2)
          have hcell2 : w2.cell? ⟨w.heap.size, 0, none⟩ = some (.int .i64 (W : Int)) := hG2.cell hcell (by simp; omega)
          clear hI2 hG2 hI hG hcell
          go_wp2_with fail
          go_roundw
          case rel => exact ⟨cc + 1, by omega, by go_num, HI2, HG2, hcell2⟩
          case measure => simp [intOf]; omega
        · go_wp2_with fail
          go_roundw
          case rel => exact ⟨r + 1, by omega, by go_num, HR.out _ _ _ (by omega) hI.out, hG, hcell⟩
          case measure => simp [intOf]; omega
    · go_wp2_with fail
      go_end0
      exact ⟨rfl, ⟨r, a, by omega, hI.out⟩, hG.out⟩
end Go.Proofs.Ytebahhmajllmnaa
