/-
  Plain facts on bits, bytes and packed pixels. No program in sight.
-/
import Derived.WalkKit
namespace Go.Proofs.Ytebahhmajllmnaa
open Go.RowKit

/-- bit n of a list of bytes, the first bit of a byte is its highest -/
def bitAt (bs : List UInt8) (n : Nat) : Bool := (bs.getD (n / 8) 0).toNat.testBit (7 - n % 8)

theorem shl_bit (x k : Nat) (hx : x ≤ 255) (hk : k < 8) : (bits BinOp.and IntKind.u8 ((x : Int) * 2 ^ k % 256) 128 != 0) = x.testBit (7 - k) := by
  have h : ∀ (k : Fin 8) (x : Fin 256), (bits BinOp.and IntKind.u8 ((x.val : Int) * 2 ^ k.val % 256) 128 != 0) = x.val.testBit (7 - k.val) := by decide +kernel
  exact h ⟨k, hk⟩ ⟨x, by omega⟩
theorem shr_bit (x k : Nat) (hx : x ≤ 255) (hk : k < 8) : (bits BinOp.and IntKind.u8 ((x : Int) / 2 ^ (7 - k)) 1 == 1) = x.testBit (7 - k) := by
  have h : ∀ (k : Fin 8) (x : Fin 256), (bits BinOp.and IntKind.u8 ((x.val : Int) / 2 ^ (7 - k.val)) 1 == 1) = x.val.testBit (7 - k.val) := by decide +kernel
  exact h ⟨k, hk⟩ ⟨x, by omega⟩

def b8 (a b c d e f g h : Bool) : Nat := (if a then 128 else 0) + (if b then 64 else 0) + (if c then 32 else 0) + (if d then 16 else 0) + (if e then 8 else 0) + (if f then 4 else 0) + (if g then 2 else 0) + (if h then 1 else 0)
theorem b8_lt (a b c d e f g h : Bool) : b8 a b c d e f g h < 256 := by
  cases a <;> cases b <;> cases c <;> cases d <;> cases e <;> cases f <;> cases g <;> cases h <;> decide
def mk8 (f : Nat → Bool) : UInt8 := UInt8.ofNat (b8 (f 0) (f 1) (f 2) (f 3) (f 4) (f 5) (f 6) (f 7))
theorem mk8_toNat (f : Nat → Bool) : (mk8 f).toNat = b8 (f 0) (f 1) (f 2) (f 3) (f 4) (f 5) (f 6) (f 7) := by
  unfold mk8
  rw [UInt8.toNat_ofNat']
  exact Nat.mod_eq_of_lt (b8_lt ..)
theorem b8_bits : ∀ a b c d e f g h : Bool, ((b8 a b c d e f g h).testBit 7 = a ∧ (b8 a b c d e f g h).testBit 6 = b ∧ (b8 a b c d e f g h).testBit 5 = c ∧ (b8 a b c d e f g h).testBit 4 = d) ∧
    ((b8 a b c d e f g h).testBit 3 = e ∧ (b8 a b c d e f g h).testBit 2 = f ∧ (b8 a b c d e f g h).testBit 1 = g ∧ (b8 a b c d e f g h).testBit 0 = h) := by decide +kernel
theorem eight {P : Nat → Prop} (h0 : P 0) (h1 : P 1) (h2 : P 2) (h3 : P 3) (h4 : P 4) (h5 : P 5) (h6 : P 6) (h7 : P 7) : ∀ t, t < 8 → P t := by
  intro t ht
  match t, ht with
  | 0, _ => exact h0
  | 1, _ => exact h1
  | 2, _ => exact h2
  | 3, _ => exact h3
  | 4, _ => exact h4
  | 5, _ => exact h5
  | 6, _ => exact h6
  | 7, _ => exact h7
theorem mk8_bit (f : Nat → Bool) : ∀ t, t < 8 → (mk8 f).toNat.testBit (7 - t) = f t := by
  rw [mk8_toNat]
  have h := b8_bits (f 0) (f 1) (f 2) (f 3) (f 4) (f 5) (f 6) (f 7)
  exact eight h.1.1 h.1.2.1 h.1.2.2.1 h.1.2.2.2 h.2.1 h.2.2.1 h.2.2.2.1 h.2.2.2.2
theorem mk8_self (x : UInt8) : mk8 (fun t => x.toNat.testBit (7 - t)) = x := by
  have h : ∀ y : Fin 256, b8 (y.val.testBit 7) (y.val.testBit 6) (y.val.testBit 5) (y.val.testBit 4) (y.val.testBit 3) (y.val.testBit 2) (y.val.testBit 1) (y.val.testBit 0) = y.val := by decide +kernel
  apply UInt8.toNat_inj.1
  rw [mk8_toNat]
  exact h ⟨x.toNat, x.toNat_lt⟩
theorem mk8_congr {f g : Nat → Bool} (h : ∀ t, t < 8 → f t = g t) : mk8 f = mk8 g := by
  unfold mk8
  rw [h 0 (by omega), h 1 (by omega), h 2 (by omega), h 3 (by omega), h 4 (by omega), h 5 (by omega), h 6 (by omega), h 7 (by omega)]
theorem byte_ext {x y : UInt8} (h : ∀ t, t < 8 → x.toNat.testBit (7 - t) = y.toNat.testBit (7 - t)) : x = y := by
  rw [← mk8_self x, ← mk8_self y]
  exact mk8_congr h

/-- n pixels as bytes -/
def pack (n : Nat) (f : Nat → Bool) : List UInt8 := (List.range ((n + 7) / 8)).map fun j => mk8 (fun t => decide (8 * j + t < n) && f (8 * j + t))
theorem length_pack (n : Nat) (f : Nat → Bool) : (pack n f).length = (n + 7) / 8 := by simp [pack]
theorem getD_pack (n : Nat) (f : Nat → Bool) (j : Nat) (h : j < (n + 7) / 8) : (pack n f).getD j 0 = mk8 (fun t => decide (8 * j + t < n) && f (8 * j + t)) := by
  unfold pack
  rw [List.getD_eq_getElem?_getD, List.getElem?_map, List.getElem?_range h]
  rfl
theorem bitAt_pack (n : Nat) (f : Nat → Bool) (k : Nat) : bitAt (pack n f) k = (decide (k < n) && f k) := by
  unfold bitAt
  by_cases h : k / 8 < (n + 7) / 8
  · rw [getD_pack n f _ h, mk8_bit _ _ (by omega)]
    have e : 8 * (k / 8) + k % 8 = k := by omega
    simp only [e]
  · rw [List.getD_eq_getElem?_getD, List.getElem?_eq_none (by rw [length_pack]; omega)]
    have : ¬ k < n := by omega
    simp [this]
theorem pack_congr {n : Nat} {f g : Nat → Bool} (h : ∀ k, k < n → f k = g k) : pack n f = pack n g := by
  unfold pack
  apply List.map_congr_left
  intro j _
  apply mk8_congr
  intro t _
  by_cases hk : 8 * j + t < n
  · simp [hk, h _ hk]
  · simp [hk]
theorem bytes_ext {xs ys : List UInt8} (hl : xs.length = ys.length) (h : ∀ k, k < 8 * xs.length → bitAt xs k = bitAt ys k) : xs = ys := by
  apply List.ext_getElem hl
  intro j hx hy
  apply byte_ext
  intro t ht
  have := h (8 * j + t) (by omega)
  unfold bitAt at this
  have e1 : (8 * j + t) / 8 = j := by omega
  have e2 : (8 * j + t) % 8 = t := by omega
  rw [e1, e2, List.getD_eq_getElem?_getD, List.getD_eq_getElem?_getD, List.getElem?_eq_getElem hx, List.getElem?_eq_getElem hy] at this
  exact this

/-- the bytes of n pixels are well formed: right length, no bit set behind the last pixel -/
def Tidy (n : Nat) (bs : List UInt8) : Prop := bs.length = (n + 7) / 8 ∧ ∀ k, n ≤ k → k < 8 * bs.length → bitAt bs k = false
theorem tidy_pack (n : Nat) (f : Nat → Bool) : Tidy n (pack n f) := ⟨length_pack n f, fun k hk _ => by rw [bitAt_pack]; simp [Nat.not_lt.2 hk]⟩
theorem Tidy.eq {n : Nat} {bs : List UInt8} (h : Tidy n bs) : bs = pack n (bitAt bs) := by
  apply bytes_ext (by rw [h.1, length_pack])
  intro k hk
  rw [bitAt_pack]
  by_cases hn : k < n
  · simp [hn]
  · rw [h.2 k (by omega) hk]; simp [hn]
/-- the byte of a pixel -/
theorem bitAt_set (xs : List UInt8) (j : Nat) (y : UInt8) (k : Nat) (hj : j < xs.length) : bitAt (xs.set j y) k = if k / 8 = j then y.toNat.testBit (7 - k % 8) else bitAt xs k := by
  unfold bitAt
  rw [List.getD_eq_getElem?_getD, List.getD_eq_getElem?_getD, List.getElem?_set]
  by_cases h : j = k / 8
  · subst h; simp [hj]
  · simp [h, Ne.symm h]
theorem pack_set {n k : Nat} {f : Nat → Bool} {b : Bool} {y : UInt8} (hk : k < n)
    (hy : ∀ t, t < 8 → y.toNat.testBit (7 - t) = if t = k % 8 then b else ((pack n f).getD (k / 8) 0).toNat.testBit (7 - t)) :
    (pack n f).set (k / 8) y = pack n (fun j => if j = k then b else f j) := by
  have hl := length_pack n f
  apply bytes_ext (by simp [length_pack])
  intro j hj
  rw [bitAt_set _ _ _ _ (by omega), bitAt_pack n (fun j => if j = k then b else f j)]
  by_cases h : j / 8 = k / 8
  · rw [if_pos h, hy _ (by omega)]
    by_cases e : j = k
    · subst e; simp [hk]
    · rw [if_neg (by omega), if_neg e, ← h]
      exact bitAt_pack n f j
  · rw [if_neg h, bitAt_pack, if_neg (fun e => h (by rw [e]))]

def tidyB (n : Nat) (bs : List UInt8) : Bool := bs.length == (n + 7) / 8 && (List.range (8 * bs.length)).all fun k => decide (k < n) || !bitAt bs k
theorem tidyB_iff (n : Nat) (bs : List UInt8) : tidyB n bs = true ↔ Tidy n bs := by
  unfold tidyB Tidy
  simp only [Bool.and_eq_true, beq_iff_eq, List.all_eq_true, List.mem_range, Bool.or_eq_true, decide_eq_true_eq, Bool.not_eq_true']
  constructor
  · rintro ⟨h1, h2⟩
    exact ⟨h1, fun k hk hl => (h2 k hl).resolve_left (by omega)⟩
  · rintro ⟨h1, h2⟩
    refine ⟨h1, fun k hl => ?_⟩
    rcases Nat.lt_or_ge k n with h | h
    · exact .inl h
    · exact .inr (h2 k h hl)
/-- an image is valid -/
def validB (W H : Int) (bs : List UInt8) : Bool := decide (1 ≤ W) && decide (W ≤ 512) && decide (1 ≤ H) && decide (H ≤ 512) && tidyB (W * H).toNat bs
theorem validB_iff (W H : Int) (bs : List UInt8) : validB W H bs = true ↔ 1 ≤ W ∧ W ≤ 512 ∧ 1 ≤ H ∧ H ≤ 512 ∧ Tidy (W * H).toNat bs := by
  unfold validB
  simp only [Bool.and_eq_true, decide_eq_true_eq, tidyB_iff, and_assoc]
theorem validB_not {W H : Int} {bs : List UInt8} (h : ¬ (1 ≤ W ∧ W ≤ 512 ∧ 1 ≤ H ∧ H ≤ 512 ∧ Tidy (W * H).toNat bs)) : validB W H bs = false := by
  rw [← Bool.not_eq_true, validB_iff]
  exact h
theorem tidy_zero {n : Nat} {bs : List UInt8} (hl : bs.length = (n + 7) / 8) (h0 : n % 8 = 0) : Tidy n bs := ⟨hl, fun k hk hlt => by omega⟩
theorem low_zero (x u : Nat) (hx : x ≤ 255) (hu : u < 8) : (((x : Int) * 2 ^ u % 256 == 0) = true) ↔ ∀ t : Nat, t < 8 → u ≤ t → x.testBit (7 - t) = false := by
  have h : ∀ (u : Fin 8) (x : Fin 256), (((x.val : Int) * 2 ^ u.val % 256 == 0) = true) ↔ ∀ t : Fin 8, u.val ≤ t.val → x.val.testBit (7 - t.val) = false := by decide +kernel
  rw [h ⟨u, hu⟩ ⟨x, by omega⟩]
  exact ⟨fun g t ht hut => g ⟨t, ht⟩ hut, fun g t hut => g t.val t.isLt hut⟩
theorem tidy_last {n : Nat} {bs : List UInt8} {x : Nat} (hl : bs.length = (n + 7) / 8) (h0 : n % 8 ≠ 0) (hx : x = (bs.getD (bs.length - 1) 0).toNat) : (((x : Int) * 2 ^ (n % 8) % 256 == 0) = true) ↔ Tidy n bs := by
  subst hx
  have hlt := (bs.getD (bs.length - 1) 0).toNat_lt
  rw [low_zero _ _ (by omega) (by omega)]
  constructor
  · intro h
    refine ⟨hl, fun k hk hlt => ?_⟩
    have := h (k % 8) (by omega) (by omega)
    unfold bitAt
    have e : k / 8 = bs.length - 1 := by omega
    rw [e]
    exact this
  · rintro ⟨_, h⟩ t ht hut
    have := h (8 * (bs.length - 1) + t) (by omega) (by omega)
    unfold bitAt at this
    have e1 : (8 * (bs.length - 1) + t) / 8 = bs.length - 1 := by omega
    have e2 : (8 * (bs.length - 1) + t) % 8 = t := by omega
    rw [e1, e2] at this
    exact this
theorem prod_bd {W H : Int} (h1 : 1 ≤ W) (h2 : W ≤ 512) (h3 : 1 ≤ H) (h4 : H ≤ 512) : 1 ≤ W * H ∧ W * H ≤ 262144 := by
  constructor
  · have := Int.mul_le_mul h1 h3 (by omega) (by omega); omega
  · have := Int.mul_le_mul h2 h4 (by omega) (by omega); omega

theorem or_byte (x k : Nat) (hx : x ≤ 255) (hk : k < 8) : ∃ y : UInt8, bits BinOp.or IntKind.u8 (x : Int) (128 / 2 ^ k) = (y.toNat : Int) ∧ ∀ t, t < 8 → y.toNat.testBit (7 - t) = if t = k then true else x.testBit (7 - t) := by
  have h : ∀ (k : Fin 8) (x : Fin 256), (0 ≤ bits BinOp.or IntKind.u8 (x.val : Int) (128 / 2 ^ k.val) ∧ bits BinOp.or IntKind.u8 (x.val : Int) (128 / 2 ^ k.val) < 256) ∧
      ∀ t : Fin 8, (bits BinOp.or IntKind.u8 (x.val : Int) (128 / 2 ^ k.val)).toNat.testBit (7 - t.val) = if t.val = k.val then true else x.val.testBit (7 - t.val) := by decide +kernel
  obtain ⟨⟨h1, h2⟩, h3⟩ := h ⟨k, hk⟩ ⟨x, by omega⟩
  simp only [] at h1 h2 h3
  have e : (UInt8.ofNat (bits BinOp.or IntKind.u8 (x : Int) (128 / 2 ^ k)).toNat).toNat = (bits BinOp.or IntKind.u8 (x : Int) (128 / 2 ^ k)).toNat := by
    rw [UInt8.toNat_ofNat']; exact Nat.mod_eq_of_lt (by omega)
  exact ⟨UInt8.ofNat (bits BinOp.or IntKind.u8 (x : Int) (128 / 2 ^ k)).toNat, by rw [e]; omega, fun t ht => by rw [e]; exact h3 ⟨t, ht⟩⟩
theorem andnot_byte (x k : Nat) (hx : x ≤ 255) (hk : k < 8) : ∃ y : UInt8, bits BinOp.andNot IntKind.u8 (x : Int) (128 / 2 ^ k) = (y.toNat : Int) ∧ ∀ t, t < 8 → y.toNat.testBit (7 - t) = if t = k then false else x.testBit (7 - t) := by
  have h : ∀ (k : Fin 8) (x : Fin 256), (0 ≤ bits BinOp.andNot IntKind.u8 (x.val : Int) (128 / 2 ^ k.val) ∧ bits BinOp.andNot IntKind.u8 (x.val : Int) (128 / 2 ^ k.val) < 256) ∧
      ∀ t : Fin 8, (bits BinOp.andNot IntKind.u8 (x.val : Int) (128 / 2 ^ k.val)).toNat.testBit (7 - t.val) = if t.val = k.val then false else x.val.testBit (7 - t.val) := by decide +kernel
  obtain ⟨⟨h1, h2⟩, h3⟩ := h ⟨k, hk⟩ ⟨x, by omega⟩
  simp only [] at h1 h2 h3
  have e : (UInt8.ofNat (bits BinOp.andNot IntKind.u8 (x : Int) (128 / 2 ^ k)).toNat).toNat = (bits BinOp.andNot IntKind.u8 (x : Int) (128 / 2 ^ k)).toNat := by
    rw [UInt8.toNat_ofNat']; exact Nat.mod_eq_of_lt (by omega)
  exact ⟨UInt8.ofNat (bits BinOp.andNot IntKind.u8 (x : Int) (128 / 2 ^ k)).toNat, by rw [e]; omega, fun t ht => by rw [e]; exact h3 ⟨t, ht⟩⟩
theorem pack_false (n : Nat) : pack n (fun _ => false) = List.replicate ((n + 7) / 8) 0 := by
  apply List.ext_getElem (by simp [length_pack])
  intro j h1 h2
  have h3 := getD_pack n (fun _ => false) j (by rwa [length_pack] at h1)
  rw [List.getD_eq_getElem?_getD, List.getElem?_eq_getElem h1, Option.getD_some] at h3
  rw [h3]
  simp only [Bool.and_false, List.getElem_replicate]
  decide
end Go.Proofs.Ytebahhmajllmnaa
