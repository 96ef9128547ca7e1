/-
  The run code of an image: plain Lean.
-/
import Derived.Test.YtebahhmajllmnaaXor
namespace Go.Proofs.Ytebahhmajllmnaa
open Go.RowKit

/-- a run's bytes -/
def encRun (r : Nat) : List UInt8 := List.replicate (r / 255) 255 ++ [UInt8.ofNat (r % 255)]
theorem length_encRun (r : Nat) : (encRun r).length = r / 255 + 1 := by simp [encRun]
/-- behind k pixels: the bytes, the run, the colour -/
def encS (f : Nat → Bool) : Nat → List UInt8 × Nat × Bool
  | 0 => ([], 0, false)
  | k + 1 => if f k = (encS f k).2.2 then ((encS f k).1, (encS f k).2.1 + 1, (encS f k).2.2) else ((encS f k).1 ++ encRun (encS f k).2.1, 1, !(encS f k).2.2)
theorem encS_same {f : Nat → Bool} {k : Nat} (h : f k = (encS f k).2.2) : encS f (k + 1) = ((encS f k).1, (encS f k).2.1 + 1, (encS f k).2.2) := by
  show (if _ then _ else _) = _
  rw [if_pos h]
theorem encS_turn {f : Nat → Bool} {k : Nat} (h : f k ≠ (encS f k).2.2) : encS f (k + 1) = ((encS f k).1 ++ encRun (encS f k).2.1, 1, !(encS f k).2.2) := by
  show (if _ then _ else _) = _
  rw [if_neg h]
theorem encS_bd (f : Nat → Bool) (k : Nat) : (encS f k).1.length + (encS f k).2.1 ≤ 2 * k ∧ (encS f k).2.1 ≤ k := by
  induction k with
  | zero => simp [encS]
  | succ k ih =>
    by_cases h : f k = (encS f k).2.2
    · rw [encS_same h]; simp only []; omega
    · rw [encS_turn h]; simp only [List.length_append, length_encRun]; omega
theorem encS_congr {f g : Nat → Bool} {n : Nat} (h : ∀ j, j < n → f j = g j) : ∀ k, k ≤ n → encS f k = encS g k
  | 0, _ => rfl
  | k + 1, hk => by
    have ih := encS_congr h k (by omega)
    have e := h k (by omega)
    show (if f k = (encS f k).2.2 then _ else _) = (if g k = (encS g k).2.2 then _ else _)
    rw [ih, e]
def hdr (W H : Nat) : List UInt8 := [UInt8.ofNat (W / 256), UInt8.ofNat (W % 256), UInt8.ofNat (H / 256), UInt8.ofNat (H % 256)]
def encB (f : Nat → Bool) (n : Nat) : List UInt8 := (encS f n).1 ++ encRun (encS f n).2.1
def encode (W H : Nat) (f : Nat → Bool) : List UInt8 := hdr W H ++ encB f (W * H)
theorem encode_congr {W H : Nat} {f g : Nat → Bool} (h : ∀ j, j < W * H → f j = g j) : encode W H f = encode W H g := by
  unfold encode encB
  rw [encS_congr h _ (Nat.le_refl _)]
theorem length_encB (f : Nat → Bool) (n : Nat) : (encB f n).length ≤ 2 * n + 1 := by
  have := encS_bd f n
  unfold encB
  rw [List.length_append, length_encRun]
  omega
theorem length_encode (W H : Nat) (f : Nat → Bool) : 4 ≤ (encode W H f).length ∧ (encode W H f).length ≤ 2 * (W * H) + 5 := by
  have := length_encB f (W * H)
  unfold encode
  rw [List.length_append]
  simp only [hdr, List.length_cons, List.length_nil]
  omega

/-- the reader: how many pixels are read, the colour, the pixels -/
structure Dec where
  at_ : Nat
  on : Bool
  f : Nat → Bool
def Dec.step (n : Nat) (d : Dec) (x : Nat) : Option Dec :=
  if d.at_ + x ≤ n then some ⟨d.at_ + x, if x < 255 then !d.on else d.on, fun j => if d.at_ ≤ j ∧ j < d.at_ + x then d.on else d.f j⟩ else none
def decGo (n : Nat) (d : Option Dec) (bs : List UInt8) : Option Dec := bs.foldl (fun d x => d.bind fun d => d.step n x.toNat) d
theorem decGo_none (n : Nat) : ∀ bs : List UInt8, decGo n none bs = none
  | [] => rfl
  | _ :: bs => decGo_none n bs
theorem decGo_append (n : Nat) (d : Option Dec) (xs bs : List UInt8) : decGo n d (xs ++ bs) = decGo n (decGo n d xs) bs := by
  unfold decGo
  rw [List.foldl_append]
set_option maxRecDepth 20000 in
theorem decGo_full {n : Nat} (q : Nat) {d : Dec} (h : d.at_ + 255 * q ≤ n) :
    ∃ e, decGo n (some d) (List.replicate q 255) = some e ∧ e.at_ = d.at_ + 255 * q ∧ e.on = d.on ∧ ∀ j, e.f j = if d.at_ ≤ j ∧ j < d.at_ + 255 * q then d.on else d.f j := by
  induction q generalizing d with
  | zero => exact ⟨d, rfl, rfl, rfl, fun j => by rw [if_neg (by omega)]⟩
  | succ q ih =>
    have hs : d.step n (255 : UInt8).toNat = some ⟨d.at_ + 255, d.on, fun j => if d.at_ ≤ j ∧ j < d.at_ + 255 then d.on else d.f j⟩ := by
      have h255 : (255 : UInt8).toNat = 255 := by decide
      unfold Dec.step
      rw [h255, if_pos (by omega), if_neg (by omega)]
    obtain ⟨e, he, h1, h2, h3⟩ := ih (d := ⟨d.at_ + 255, d.on, fun j => if d.at_ ≤ j ∧ j < d.at_ + 255 then d.on else d.f j⟩) (by simp only []; omega)
    refine ⟨e, ?_, by rw [h1]; simp only []; omega, by rw [h2], fun j => ?_⟩
    · rw [← he, List.replicate_succ]
      show decGo n ((some d).bind fun d => d.step n (255 : UInt8).toNat) _ = _
      rw [Option.bind_some, hs]
    · rw [h3]
      simp only []
      by_cases a : d.at_ + 255 ≤ j ∧ j < d.at_ + 255 + 255 * q
      · rw [if_pos a, if_pos (by omega)]
      · rw [if_neg a]
        by_cases b : d.at_ ≤ j ∧ j < d.at_ + 255
        · rw [if_pos b, if_pos (by omega)]
        · rw [if_neg b, if_neg (by omega)]
theorem decGo_run {n : Nat} (r : Nat) {d : Dec} (h : d.at_ + r ≤ n) :
    ∃ e, decGo n (some d) (encRun r) = some e ∧ e.at_ = d.at_ + r ∧ e.on = !d.on ∧ ∀ j, e.f j = if d.at_ ≤ j ∧ j < d.at_ + r then d.on else d.f j := by
  obtain ⟨e, he, h1, h2, h3⟩ := decGo_full (n := n) (r / 255) (d := d) (by omega)
  have hx : (UInt8.ofNat (r % 255)).toNat = r % 255 := by rw [UInt8.toNat_ofNat']; omega
  refine ⟨⟨e.at_ + r % 255, !e.on, fun j => if e.at_ ≤ j ∧ j < e.at_ + r % 255 then e.on else e.f j⟩, ?_, by simp only []; omega, by simp only [h2], fun j => ?_⟩
  · unfold encRun
    rw [decGo_append, he]
    show (some e).bind (fun d => d.step n (UInt8.ofNat (r % 255)).toNat) = _
    rw [Option.bind_some, hx]
    unfold Dec.step
    rw [if_pos (by omega), if_pos (by omega)]
  · simp only []
    rw [h3, h2, h1]
    by_cases a : d.at_ + 255 * (r / 255) ≤ j ∧ j < d.at_ + 255 * (r / 255) + r % 255
    · rw [if_pos a, if_pos (by omega)]
    · rw [if_neg a]
      by_cases b : d.at_ ≤ j ∧ j < d.at_ + 255 * (r / 255)
      · rw [if_pos b, if_pos (by omega)]
      · rw [if_neg b, if_neg (by omega)]
theorem decGo_enc (f : Nat → Bool) {n : Nat} (k : Nat) (hk : k ≤ n) :
    (encS f k).2.1 ≤ k ∧ (∀ j, k - (encS f k).2.1 ≤ j → j < k → f j = (encS f k).2.2) ∧
    ∃ e, decGo n (some ⟨0, false, fun _ => false⟩) (encS f k).1 = some e ∧ e.at_ = k - (encS f k).2.1 ∧ e.on = (encS f k).2.2 ∧ ∀ j, e.f j = if j < k - (encS f k).2.1 then f j else false := by
  induction k with
  | zero => exact ⟨Nat.le_refl _, fun j _ h => absurd h (by omega), _, rfl, rfl, rfl, fun j => by simp⟩
  | succ k ih =>
    obtain ⟨g1, g2, e, he, h1, h2, h3⟩ := ih (by omega)
    by_cases h : f k = (encS f k).2.2
    · rw [encS_same h]
      refine ⟨by simp only []; omega, fun j a b => ?_, e, he, by simp only []; omega, h2, fun j => ?_⟩
      · simp only [] at a ⊢
        by_cases e : j = k
        · rw [e]; exact h
        · exact g2 j (by omega) (by omega)
      · simp only []
        rw [h3, show k + 1 - ((encS f k).2.1 + 1) = k - (encS f k).2.1 by omega]
    · rw [encS_turn h]
      obtain ⟨e', he', i1, i2, i3⟩ := decGo_run (n := n) (encS f k).2.1 (d := e) (by omega)
      refine ⟨by simp only []; omega, fun j a b => ?_, e', ?_, by simp only []; omega, by simp only [i2, h2], fun j => ?_⟩
      · simp only [] at a ⊢
        obtain rfl : j = k := by omega
        cases hf : f j <;> cases hg : (encS f j).2.2 <;> simp_all
      · simp only []
        rw [decGo_append, he, he']
      · simp only []
        rw [i3, h1, h2, h3, Nat.add_sub_cancel, show k - (encS f k).2.1 + (encS f k).2.1 = k by omega]
        by_cases a : k - (encS f k).2.1 ≤ j ∧ j < k
        · rw [if_pos a, if_pos a.2, g2 j a.1 a.2]
        · rw [if_neg a]
          by_cases b : j < k - (encS f k).2.1
          · rw [if_pos b, if_pos (by omega)]
          · rw [if_neg b, if_neg (by omega)]
/-- what the code says is what was coded -/
theorem decGo_code (f : Nat → Bool) (n : Nat) : ∃ e, decGo n (some ⟨0, false, fun _ => false⟩) (encB f n) = some e ∧ e.at_ = n ∧ ∀ j, j < n → e.f j = f j := by
  obtain ⟨g1, g2, e, he, h1, h2, h3⟩ := decGo_enc f n (Nat.le_refl n)
  obtain ⟨e', he', i1, i2, i3⟩ := decGo_run (n := n) (encS f n).2.1 (d := e) (by omega)
  refine ⟨e', ?_, by omega, fun j hj => ?_⟩
  · unfold encB
    rw [decGo_append, he, he']
  · rw [i3, h1, h2, h3]
    by_cases a : n - (encS f n).2.1 ≤ j ∧ j < n - (encS f n).2.1 + (encS f n).2.1
    · rw [if_pos a, g2 j a.1 (by omega)]
    · rw [if_neg a, if_pos (by omega)]
end Go.Proofs.Ytebahhmajllmnaa
