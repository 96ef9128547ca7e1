/-
  Shift: what it returns.
-/
import Derived.Test.YtebahhmajllmnaaRefShift
namespace Go.Proofs.Ytebahhmajllmnaa
open Go.RowKit
set_option linter.unusedVariables false
set_option linter.unusedSimpArgs false

/-- the pixels met so far, moved -/
def shF (W H : Nat) (f m : Nat → Bool) (dx dy : Int) (j : Nat) : Bool :=
  decide (0 ≤ (j : Int) - dy * W - dx) && decide ((j : Int) - dy * W - dx < (W * H : Nat)) && m ((j : Int) - dy * W - dx).toNat && f ((j : Int) - dy * W - dx).toNat
theorem shF_congr {W H : Nat} {f m m' : Nat → Bool} {dx dy : Int} (h : ∀ s, s < W * H → m s = m' s) (j : Nat) : shF W H f m dx dy j = shF W H f m' dx dy j := by
  unfold shF
  by_cases h1 : 0 ≤ (j : Int) - dy * W - dx
  · by_cases h2 : (j : Int) - dy * W - dx < (W * H : Nat)
    · rw [h _ (by omega)]
    · rw [decide_eq_false h2]; simp
  · rw [decide_eq_false h1]; simp
theorem within_wide {W : Nat} {p d : Int} (h : withinB p (-d) W = true) : 0 ≤ p + d ∧ p + d < W := by
  unfold withinB at h
  simp only [Bool.and_eq_true, decide_eq_true_eq] at h
  omega
theorem within_mk {W : Nat} {p d : Int} (h1 : 0 ≤ p + d) (h2 : p + d < W) : withinB p (-d) W = true := by
  unfold withinB
  simp only [Bool.and_eq_true, decide_eq_true_eq]
  omega
theorem shF_end {W H : Nat} {f : Nat → Bool} {dx dy : Int} (hW : 0 < W) {j : Nat} (hj : j < W * H) : shF W H f (inR W (-dx) (-dy) W H) dx dy j = flat W (shiftG W H f dx dy) j := by
  obtain ⟨l1, l2⟩ := lt_of_div hj hW
  have hjs := Nat.div_add_mod' j W
  unfold flat shiftG getB
  generalize j / W = k at *
  generalize j % W = i at *
  rw [Bool.eq_iff_iff]
  have hjz : (j : Int) = (k : Int) * W + i := by rw [← hjs]; simp
  unfold shF
  simp only [Bool.and_eq_true, decide_eq_true_eq]
  constructor
  · rintro ⟨⟨⟨h1, h2⟩, h3⟩, h4⟩
    obtain ⟨s, hs⟩ := Int.eq_ofNat_of_zero_le h1
    rw [hs] at h2 h3 h4
    simp only [Int.toNat_natCast] at h3 h4
    have hsN : s < W * H := by omega
    obtain ⟨m1, m2⟩ := lt_of_div hsN hW
    unfold inR at h3
    rw [Bool.and_eq_true] at h3
    obtain ⟨c1, c2⟩ := within_wide h3.1
    obtain ⟨r1, r2⟩ := within_wide h3.2
    have hss := Nat.div_add_mod' s W
    have hsz : (s : Int) = ((s / W : Nat) : Int) * W + ((s % W : Nat) : Int) := by rw [← Int.natCast_mul, ← Int.natCast_add, hss]
    generalize s / W = r' at *
    generalize s % W = c' at *
    -- j = (r' + dy) * W + (c' + dx)
    obtain ⟨a, ha⟩ := Int.eq_ofNat_of_zero_le c1
    obtain ⟨b, hb⟩ := Int.eq_ofNat_of_zero_le r1
    have hj2 : (j : Int) = (b : Int) * W + a := by
      have : (b : Int) * W = (r' : Int) * W + dy * W := by rw [← hb, Int.add_mul]
      omega
    have hj3 : j = b * W + a := by
      have : ((b * W + a : Nat) : Int) = (b : Int) * W + a := by simp
      omega
    obtain ⟨ek, ei⟩ := idx_inj (W := W) l2 (show a < W by omega) (hjs.trans hj3)
    refine ⟨⟨⟨⟨by omega, by omega⟩, by omega⟩, by omega⟩, ?_⟩
    have et1 : ((k : Int) - dy).toNat = r' := by omega
    have et2 : ((i : Int) - dx).toNat = c' := by omega
    rw [et1, et2, hss]
    exact h4
  · rintro ⟨⟨⟨⟨h1, h2⟩, h3⟩, h4⟩, h5⟩
    obtain ⟨c', hc⟩ := Int.eq_ofNat_of_zero_le h1
    obtain ⟨r', hr⟩ := Int.eq_ofNat_of_zero_le h3
    rw [hc, hr] at h5
    simp only [Int.toNat_natCast] at h5
    have hs : (j : Int) - dy * W - dx = ((r' * W + c' : Nat) : Int) := by
      have : (r' : Int) * W = (k : Int) * W - dy * W := by rw [← hr, Int.sub_mul]
      simp only [Int.natCast_add, Int.natCast_mul]
      omega
    rw [hs]
    simp only [Int.toNat_natCast]
    have hlt : r' * W + c' < W * H := by
      have : (r' + 1) * W ≤ H * W := Nat.mul_le_mul_right _ (by omega)
      rw [Nat.add_mul] at this
      rw [Nat.mul_comm W H]
      omega
    obtain ⟨e1, e2⟩ := idx_split (W := W) (r := r') (c := c') (by omega)
    refine ⟨⟨⟨by omega, by omega⟩, ?_⟩, h5⟩
    unfold inR
    rw [e1, e2, Bool.and_eq_true]
    exact ⟨within_mk (by omega) (by omega), within_mk (by omega) (by omega)⟩
theorem shift_far {W H : Nat} {f : Nat → Bool} {dx dy : Int} (hW1 : 0 < W) (hW : W ≤ 512) (hH : H ≤ 512) (h : dx ≤ -512 ∨ 512 ≤ dx ∨ dy ≤ -512 ∨ 512 ≤ dy) {j : Nat} (hj : j < W * H) : flat W (shiftG W H f dx dy) j = false := by
  obtain ⟨l1, l2⟩ := lt_of_div hj hW1
  unfold flat shiftG getB
  generalize j / W = k at *
  generalize j % W = i at *
  rw [← Bool.not_eq_true]
  simp only [Bool.and_eq_true, decide_eq_true_eq]
  omega
/-- the target of a pixel -/
theorem target {W H : Nat} {dx dy r c : Int} (hr0 : clipA (-dy) H H ≤ r) (hr : r < clipB (-dy) H H) (hc0 : clipA (-dx) W W ≤ c) (hc : c < clipB (-dx) W W) :
    (0 ≤ r ∧ r < H ∧ 0 ≤ c ∧ c < W) ∧ (0 ≤ r + dy ∧ r + dy < H ∧ 0 ≤ c + dx ∧ c + dx < W) := by
  obtain ⟨a0, a1, b1⟩ := clip_bd (-dx) W W (by omega)
  obtain ⟨t0, t1, d1⟩ := clip_bd (-dy) H H (by omega)
  have h1 := within_wide ((clip_in (-dx) W W c (by omega) (by omega)).1 ⟨hc0, hc⟩)
  have h2 := within_wide ((clip_in (-dy) H H r (by omega) (by omega)).1 ⟨hr0, hr⟩)
  omega
theorem shF_step {W H : Nat} {f : Nat → Bool} {dx dy r c : Int} (hr0 : clipA (-dy) H H ≤ r) (hr : r < clipB (-dy) H H) (hc0 : clipA (-dx) W W ≤ c) (hc : c < clipB (-dx) W W) (j : Nat) :
    shF W H f (met W (-dx) (-dy) W H r (c + 1)) dx dy j = if (j : Int) = r * W + c + dy * W + dx ∧ f (r * W + c).toNat = true then true else shF W H f (met W (-dx) (-dy) W H r c) dx dy j := by
  obtain ⟨⟨g1, g2, g3, g4⟩, _⟩ := target hr0 hr hc0 hc
  obtain ⟨i1, i2⟩ := idx_lt (W := W) (H := H) (r := r) (c := c) g1 g2 g3 g4
  have hW : 0 < W := by omega
  unfold shF
  by_cases h1 : 0 ≤ (j : Int) - dy * W - dx
  · by_cases h2 : (j : Int) - dy * W - dx < (W * H : Nat)
    · rw [met_step hW (by omega) hr0 hr hc0 hc]
      by_cases e : (j : Int) = r * W + c + dy * W + dx
      · have es : ((j : Int) - dy * W - dx).toNat = (r * W + c).toNat := by congr 1; omega
        rw [es, decide_eq_true h1, decide_eq_true h2]
        by_cases hf : f (r * W + c).toNat = true
        · simp [e, hf]
        · rw [Bool.eq_false_iff.2 hf]; simp
      · have es : ¬ ((j : Int) - dy * W - dx).toNat = (r * W + c).toNat := by omega
        rw [decide_eq_false es]
        simp [e]
    · have e : ¬ (j : Int) = r * W + c + dy * W + dx := by omega
      rw [decide_eq_false h2]; simp [e]
  · have e : ¬ (j : Int) = r * W + c + dy * W + dx := by omega
    rw [decide_eq_false h1]; simp [e]
theorem target_lt {W H : Nat} {dx dy r c : Int} (h : (0 ≤ r ∧ r < H ∧ 0 ≤ c ∧ c < W) ∧ (0 ≤ r + dy ∧ r + dy < H ∧ 0 ≤ c + dx ∧ c + dx < W)) : 0 ≤ r * W + c + dy * W + dx ∧ r * W + c + dy * W + dx < (W * H : Nat) := by
  obtain ⟨_, h1, h2, h3, h4⟩ := h
  obtain ⟨i1, i2⟩ := idx_lt (W := W) (H := H) (r := r + dy) (c := c + dx) h1 h2 h3 h4
  have e : (r + dy) * (W : Int) + (c + dx) = r * W + c + dy * W + dx := by rw [Int.add_mul]; omega
  rw [e] at i1 i2
  omega
end Go.Proofs.Ytebahhmajllmnaa
