/-
  Which pixels of a rectangle have been met, row by row. No program in sight.
-/
import Derived.Test.YtebahhmajllmnaaPlain
namespace Go.Proofs.Ytebahhmajllmnaa
set_option linter.unusedVariables false
set_option linter.unusedSimpArgs false

def withinB (p x n : Int) : Bool := decide (0 < n) && decide (x ≤ p) && decide (p - x < n)
def clipA (x n L : Int) : Int := if n ≤ 0 ∨ L ≤ x then 0 else if 0 ≤ x then x else 0
def clipB (x n L : Int) : Int := if n ≤ 0 ∨ L ≤ x then 0 else if 0 ≤ x ∧ L - x < n then L else min (x + n) L
theorem clip_in (x n L p : Int) (h0 : 0 ≤ p) (hL : p < L) : (clipA x n L ≤ p ∧ p < clipB x n L) ↔ withinB p x n = true := by
  unfold clipA clipB withinB
  simp only [Bool.and_eq_true, decide_eq_true_eq]
  split
  · omega
  · split
    · split <;> omega
    · split <;> omega
theorem clip_bd (x n L : Int) (hL : 0 ≤ L) : 0 ≤ clipA x n L ∧ clipA x n L ≤ L ∧ clipB x n L ≤ L := by
  unfold clipA clipB
  split
  · omega
  · split <;> split <;> omega

/-- pixel j lies in the rectangle -/
def inR (W : Nat) (x y ww hh : Int) (j : Nat) : Bool := withinB ((j % W : Nat) : Int) x ww && withinB ((j / W : Nat) : Int) y hh
/-- .. and comes before row r, column c -/
def met (W : Nat) (x y ww hh : Int) (r c : Int) (j : Nat) : Bool :=
  inR W x y ww hh j && (decide (((j / W : Nat) : Int) < r) || decide (((j / W : Nat) : Int) = r) && decide (((j % W : Nat) : Int) < c))

section
variable {W H : Nat} {x y ww hh : Int}
theorem lt_of_div {W H j : Nat} (h : j < W * H) (hW : 0 < W) : j / W < H ∧ j % W < W :=
  ⟨Nat.div_lt_of_lt_mul h, Nat.mod_lt _ hW⟩
theorem inR_iff {j : Nat} (hW : 0 < W) (h : j < W * H) : inR W x y ww hh j = true ↔
    (clipA x ww W ≤ ((j % W : Nat) : Int) ∧ ((j % W : Nat) : Int) < clipB x ww W) ∧ (clipA y hh H ≤ ((j / W : Nat) : Int) ∧ ((j / W : Nat) : Int) < clipB y hh H) := by
  obtain ⟨h1, h2⟩ := lt_of_div h hW
  unfold inR
  rw [Bool.and_eq_true, ← clip_in x ww W _ (Int.natCast_nonneg _) (Int.ofNat_lt.2 h2), ← clip_in y hh H _ (Int.natCast_nonneg _) (Int.ofNat_lt.2 h1)]
theorem met_start {j : Nat} (hW : 0 < W) (h : j < W * H) : met W x y ww hh (clipA y hh H) (clipA x ww W) j = false := by
  unfold met
  by_cases hr : inR W x y ww hh j = true
  · have g := (inR_iff hW h).1 hr
    rw [hr, decide_eq_false (by omega), decide_eq_false (show ¬ ((j % W : Nat) : Int) < clipA x ww W by omega)]
    simp
  · rw [Bool.eq_false_iff.2 hr]; rfl
theorem met_row {j : Nat} {r c : Int} (hW : 0 < W) (h : j < W * H) (hc : clipB x ww W ≤ c) : met W x y ww hh r c j = met W x y ww hh (r + 1) (clipA x ww W) j := by
  unfold met
  by_cases hr : inR W x y ww hh j = true
  · have g := (inR_iff hW h).1 hr
    rw [hr, decide_eq_true (show ((j % W : Nat) : Int) < c by omega), decide_eq_false (show ¬ ((j % W : Nat) : Int) < clipA x ww W by omega)]
    simp only [Bool.true_and, Bool.and_true, Bool.and_false, Bool.or_false]
    rw [← Bool.decide_or, decide_eq_decide]
    omega
  · rw [Bool.eq_false_iff.2 hr]; rfl
theorem met_end {j : Nat} {r c : Int} (hW : 0 < W) (h : j < W * H) (hr : clipB y hh H ≤ r) : met W x y ww hh r c j = inR W x y ww hh j := by
  unfold met
  by_cases hi : inR W x y ww hh j = true
  · have g := (inR_iff hW h).1 hi
    rw [hi, decide_eq_true (show ((j / W : Nat) : Int) < r by omega)]
    rfl
  · rw [Bool.eq_false_iff.2 hi]; rfl
theorem split_idx {r c : Int} (hW : 0 < W) (hr : 0 ≤ r) (hc : 0 ≤ c) (hcW : c < W) (j : Nat) : j = (r * W + c).toNat ↔ ((j / W : Nat) : Int) = r ∧ ((j % W : Nat) : Int) = c := by
  obtain ⟨a, rfl⟩ := Int.eq_ofNat_of_zero_le hr
  obtain ⟨b, rfl⟩ := Int.eq_ofNat_of_zero_le hc
  have e : ((a : Int) * (W : Int) + (b : Int)).toNat = a * W + b := by
    have : (a : Int) * (W : Int) + (b : Int) = ((a * W + b : Nat) : Int) := by simp
    rw [this]; rfl
  rw [e]
  constructor
  · rintro rfl
    have h1 : (a * W + b) / W = a := by rw [Nat.add_comm, Nat.add_mul_div_right _ _ hW, Nat.div_eq_of_lt (by omega)]; omega
    have h2 : (a * W + b) % W = b := by rw [Nat.add_comm, Nat.add_mul_mod_self_right, Nat.mod_eq_of_lt (by omega)]
    rw [h1, h2]; exact ⟨rfl, rfl⟩
  · rintro ⟨h1, h2⟩
    have := Nat.div_add_mod j W
    have h1' : j / W = a := by omega
    have h2' : j % W = b := by omega
    rw [h1', h2', Nat.mul_comm] at this
    omega
theorem idx_lt {r c : Int} (hr : 0 ≤ r) (hrH : r < H) (hc : 0 ≤ c) (hcW : c < W) : (r * W + c).toNat < W * H ∧ 0 ≤ r * W + c := by
  obtain ⟨a, rfl⟩ := Int.eq_ofNat_of_zero_le hr
  obtain ⟨b, rfl⟩ := Int.eq_ofNat_of_zero_le hc
  have e : (a : Int) * (W : Int) + (b : Int) = ((a * W + b : Nat) : Int) := by simp
  rw [e]
  have : (a + 1) * W ≤ H * W := Nat.mul_le_mul_right _ (by omega)
  rw [Nat.add_mul] at this
  rw [Nat.mul_comm W H]
  constructor
  · show a * W + b < H * W; omega
  · omega
/-- the next pixel -/
theorem met_step {r c : Int} {j : Nat} (hW : 0 < W) (hj : j < W * H) (hr0 : clipA y hh H ≤ r) (hr : r < clipB y hh H) (hc0 : clipA x ww W ≤ c) (hc : c < clipB x ww W) :
    met W x y ww hh r (c + 1) j = (decide (j = (r * W + c).toNat) || met W x y ww hh r c j) := by
  obtain ⟨a0, a1, b1⟩ := clip_bd x ww W (by omega)
  obtain ⟨t0, t1, d1⟩ := clip_bd y hh H (by omega)
  have hs := split_idx hW (show 0 ≤ r by omega) (show 0 ≤ c by omega) (by omega) j
  unfold met
  by_cases hi : inR W x y ww hh j = true
  · rw [hi]
    simp only [Bool.true_and]
    rw [Bool.eq_iff_iff]
    simp only [Bool.or_eq_true, Bool.and_eq_true, decide_eq_true_eq, hs]
    omega
  · have hn : ¬ j = (r * W + c).toNat := by
      intro e
      apply hi
      rw [inR_iff hW hj, (hs.1 e).1, (hs.1 e).2]
      omega
    rw [Bool.eq_false_iff.2 hi, decide_eq_false hn]
    rfl
theorem met_not {r c : Int} (hW : 0 < W) (hr : 0 ≤ r) (hc : 0 ≤ c) (hcW : c < W) : met W x y ww hh r c (r * W + c).toNat = false := by
  obtain ⟨h1, h2⟩ := (split_idx hW hr hc hcW _).1 rfl
  unfold met
  rw [h1, h2, decide_eq_false (show ¬ r < r by omega), decide_eq_false (show ¬ c < c by omega)]
  simp
end

/-! the same, where all rows and columns are met -/
theorem met_all_start (W : Nat) (x y ww hh : Int) (j : Nat) : met W x y ww hh 0 0 j = false := by
  unfold met
  rw [decide_eq_false (show ¬ ((j / W : Nat) : Int) < 0 from Int.not_lt.2 (Int.natCast_nonneg _)), decide_eq_false (show ¬ ((j % W : Nat) : Int) < 0 from Int.not_lt.2 (Int.natCast_nonneg _))]
  simp
theorem met_all_row {W : Nat} {x y ww hh : Int} {r : Nat} {j : Nat} (hW : 0 < W) : met W x y ww hh (r : Int) (W : Int) j = met W x y ww hh ((r + 1 : Nat) : Int) 0 j := by
  have h2 := Nat.mod_lt j hW
  unfold met
  rw [decide_eq_true (show ((j % W : Nat) : Int) < (W : Int) from Int.ofNat_lt.2 h2), decide_eq_false (show ¬ ((j % W : Nat) : Int) < 0 from Int.not_lt.2 (Int.natCast_nonneg _))]
  simp only [Bool.and_true, Bool.and_false, Bool.or_false]
  rw [← Bool.decide_or]
  congr 1
  rw [decide_eq_decide]
  omega
theorem met_all_end {W H : Nat} {x y ww hh : Int} {j : Nat} (hW : 0 < W) (h : j < W * H) : met W x y ww hh (H : Int) 0 j = inR W x y ww hh j := by
  obtain ⟨h1, h2⟩ := lt_of_div h hW
  unfold met
  rw [decide_eq_true (show ((j / W : Nat) : Int) < (H : Int) from Int.ofNat_lt.2 h1)]
  simp
theorem idx_split {W r c : Nat} (hc : c < W) : (r * W + c) / W = r ∧ (r * W + c) % W = c := by
  have hW : 0 < W := by omega
  refine ⟨?_, ?_⟩
  · rw [Nat.add_comm, Nat.add_mul_div_right _ _ hW, Nat.div_eq_of_lt hc]; omega
  · rw [Nat.add_comm, Nat.add_mul_mod_self_right, Nat.mod_eq_of_lt hc]
theorem inR_at {W : Nat} {x y ww hh : Int} {r c : Nat} (hc : c < W) : inR W x y ww hh (r * W + c) = (withinB (c : Int) x ww && withinB (r : Int) y hh) := by
  obtain ⟨h1, h2⟩ := idx_split (r := r) hc
  unfold inR
  rw [h1, h2]
theorem idx_inj {W r c r' c' : Nat} (hc : c < W) (hc' : c' < W) (h : r * W + c = r' * W + c') : r = r' ∧ c = c' := by
  obtain ⟨h1, h2⟩ := idx_split (r := r) hc
  obtain ⟨h3, h4⟩ := idx_split (r := r') hc'
  rw [h] at h1 h2
  omega
theorem met_all_step {W : Nat} {x y ww hh : Int} {r c k i : Nat} (hc : c < W) (hi : i < W) :
    met W x y ww hh (r : Int) ((c + 1 : Nat) : Int) (k * W + i) = ((decide (k = r ∧ i = c) && inR W x y ww hh (r * W + c)) || met W x y ww hh (r : Int) (c : Int) (k * W + i)) := by
  obtain ⟨h1, h2⟩ := idx_split (r := k) hi
  unfold met
  rw [h1, h2]
  by_cases e : k = r ∧ i = c
  · obtain ⟨rfl, rfl⟩ := e
    rw [Bool.eq_iff_iff]
    simp
    omega
  · rw [decide_eq_false e, Bool.false_and, Bool.false_or]
    congr 1
    rw [Bool.eq_iff_iff]
    simp only [Bool.or_eq_true, Bool.and_eq_true, decide_eq_true_eq]
    omega
/-- how many of the first n numbers answer yes -/
def cnt (n : Nat) (p : Nat → Bool) : Nat := ((List.range n).filter p).length
theorem cnt_le (n : Nat) (p : Nat → Bool) : cnt n p ≤ n := by
  unfold cnt; have := List.length_filter_le p (List.range n); simpa using this
theorem cnt_succ (n : Nat) (p : Nat → Bool) : cnt (n + 1) p = cnt n p + if p n then 1 else 0 := by
  unfold cnt
  rw [List.range_succ, List.filter_append, List.length_append]
  congr 1
  by_cases h : p n = true <;> simp [List.filter, h]
theorem cnt_congr {n : Nat} {p q : Nat → Bool} (h : ∀ j, j < n → p j = q j) : cnt n p = cnt n q := by
  unfold cnt
  rw [List.filter_congr (fun j hj => h j (List.mem_range.1 hj))]
theorem cnt_add {n k : Nat} {p q : Nat → Bool} (hk : k < n) (hp : p k = false) (hq : ∀ j, j < n → q j = (decide (j = k) || p j)) : cnt n q = cnt n p + 1 := by
  induction n with
  | zero => omega
  | succ n ih =>
    rw [cnt_succ, cnt_succ]
    by_cases h : k = n
    · subst h
      rw [hq k (by omega), hp]
      have : cnt k q = cnt k p := cnt_congr fun j hj => by rw [hq j (by omega), decide_eq_false (by omega)]; rfl
      rw [this]; simp
    · have e := ih (by omega) (fun j hj => hq j (by omega))
      rw [e, hq n (by omega), decide_eq_false (show ¬ n = k by omega)]
      simp only [Bool.false_or]
      omega
end Go.Proofs.Ytebahhmajllmnaa
