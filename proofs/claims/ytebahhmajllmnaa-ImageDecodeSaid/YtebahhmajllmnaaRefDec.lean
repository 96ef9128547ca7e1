/-
  The reference's Decode: what it returns.
-/
import Derived.Test.YtebahhmajllmnaaDecoded
import Derived.Deep.RegionHeld3
namespace Go.Proofs.Ytebahhmajllmnaa
open Go.RowKit
set_option linter.unusedVariables false
set_option linter.unusedSimpArgs false

theorem refdecode_short (A : Option Addr) (c : Nat) (b : List UInt8) (w : World) (hl : b.length < 4) :
    Calls Try.prog 34 #[.slice A b.length c] w (DecPost w b) := by
  have HP := hide (fun e w' h1 h2 => dec_short (w := w) hl (e := e) (w' := w') h1 h2)
  go_enter Try.func34, Try.ntmps34
  go_wp2_with fail
  exact bodyPost_ret (v := .tuple #[zeroIm, .bool false]) (by simp [results, Try.results34, go_sem, zeroIm]) rfl (HP.out _ _ rfl ((Below.refl _ _).alloc (Nat.le_refl _) _))

set_option maxHeartbeats 3200000 in
theorem refdecode_bad (A : Option Addr) (c : Nat) (b : List UInt8) (w : World) (hb : Bys w A b) (hm : b.length ≤ 600000) (hl : 4 ≤ b.length)
    (hsz : ¬ (1 ≤ (b.getD 0 0).toNat * 256 + (b.getD 1 0).toNat ∧ (b.getD 0 0).toNat * 256 + (b.getD 1 0).toNat ≤ 512 ∧ 1 ≤ (b.getD 2 0).toNat * 256 + (b.getD 3 0).toNat ∧ (b.getD 2 0).toNat * 256 + (b.getD 3 0).toNat ≤ 512)) :
    Calls Try.prog 34 #[.slice A b.length c] w (DecPost w b) := by
  have HP : Hid (∀ e w', e = .returned (.tuple #[zeroIm, .bool false]) → Below w.heap.size w w' → DecPost w b e w') := fun e w' h1 h2 => by
    unfold DecPost
    rw [show decodeB b = none by unfold decodeB; rw [if_neg (by omega)]; exact if_neg hsz]
    exact ⟨h1, h2⟩
  obtain ⟨bk, off, rfl, hbk, _⟩ := hb (by omega)
  have hS0 : DS w bk off b (w.alloc (.cells #[.int .i64 0, .int .i64 0, .slice none 0 0] 24)) := ⟨hb.alloc _, Box.new _ _ _, (Below.refl _ _).alloc (Nat.le_refl _) _⟩
  obtain ⟨x0, hx0⟩ : ∃ x0, x0 = (b.getD 0 0).toNat := ⟨_, rfl⟩
  obtain ⟨x1, hx1⟩ : ∃ x1, x1 = (b.getD 1 0).toNat := ⟨_, rfl⟩
  obtain ⟨x2, hx2⟩ : ∃ x2, x2 = (b.getD 2 0).toNat := ⟨_, rfl⟩
  obtain ⟨x3, hx3⟩ : ∃ x3, x3 = (b.getD 3 0).toNat := ⟨_, rfl⟩
  have hy0 : x0 ≤ 255 := by have := (b.getD 0 0).toNat_lt; omega
  have hy1 : x1 ≤ 255 := by have := (b.getD 1 0).toNat_lt; omega
  have hy2 : x2 ≤ 255 := by have := (b.getD 2 0).toNat_lt; omega
  have hy3 : x3 ≤ 255 := by have := (b.getD 3 0).toNat_lt; omega
  have HX := hide (And.intro hl (And.intro hx0 (And.intro hx1 (And.intro hx2 hx3))))
  have HW : Hid (bits BinOp.or IntKind.i64 (IntKind.i64.wrap (IntKind.i64.wrap (x0 : Int) * 256)) (IntKind.i64.wrap (x1 : Int)) = ((x0 * 256 + x1 : Nat) : Int)) := or_wrapped x0 x1 hy0 hy1
  have HH : Hid (bits BinOp.or IntKind.i64 (IntKind.i64.wrap (IntKind.i64.wrap (x2 : Int) * 256)) (IntKind.i64.wrap (x3 : Int)) = ((x2 * 256 + x3 : Nat) : Int)) := or_wrapped x2 x3 hy2 hy3
  have HD0 := hide (hS0.next ((Below.refl _ _).drew))
  rw [← hx0, ← hx1, ← hx2, ← hx3] at hsz
  have HSZ := hide hsz
  obtain ⟨W, hW'⟩ : ∃ W, W = x0 * 256 + x1 := ⟨_, rfl⟩
  obtain ⟨H, hH'⟩ : ∃ H, H = x2 * 256 + x3 := ⟨_, rfl⟩
  rw [← hW'] at HW HSZ
  rw [← hH'] at HH HSZ
  have hWb : W ≤ 65535 := by omega
  have hHb : H ≤ 65535 := by omega
  clear hb hl hx0 hx1 hx2 hx3 hsz hS0 hW' hH'
  go_enter Try.func34, Try.ntmps34
  have hlen : 4 ≤ b.length := HX.out.1
  have hl0 : 0 < b.length := by omega
  have hl1 : 1 < b.length := by omega
  have hl2 : 2 < b.length := by omega
  have hl3 : 3 < b.length := by omega
  have hi1 : (1 : Int) < (b.length : Int) := by omega
  have hi2 : (2 : Int) < (b.length : Int) := by omega
  have hi3 : (3 : Int) < (b.length : Int) := by omega
  go_wp2_with fail
  refine wp_region_held_drew (S := fun v => DS w bk off b v) (by kernel_rfl) (HD0.out) (fun hH => ?_)
  refine wpAnyH_take (i := 0) (v := ?xv0) (by simp only [List.getElem?_toArray, List.getElem?_cons_succ, List.getElem?_cons_zero]; exact rfl) (by kernel_rfl) (by kernel_rfl) (by kernel_rfl) ?xq0 ?xy0 hH ?xr0
  case xq0 => exact fun _ _ _ h => h
  case xy0 =>
    refine Or.inl ⟨by rfl, fun v hv => ?_⟩
    go_simp
    rfl
  try simp only [Act.put, List.setIfInBounds_toArray, List.set_cons_zero, List.set_cons_succ]
  refine wpAnyH_take (i := 1) (v := ?xv1) (by simp only [List.getElem?_toArray, List.getElem?_cons_succ, List.getElem?_cons_zero]; exact rfl) (by kernel_rfl) (by kernel_rfl) (by kernel_rfl) ?xq1 ?xy1 hH ?xr1
  case xq1 => exact fun _ _ _ h => h
  case xy1 =>
    refine Or.inl ⟨by rfl, fun v hv => ?_⟩
    go_simp
    rfl
  try simp only [Act.put, List.setIfInBounds_toArray, List.set_cons_zero, List.set_cons_succ]
  refine wpAnyH_take (i := 2) (v := ?xv2) (by simp only [List.getElem?_toArray, List.getElem?_cons_succ, List.getElem?_cons_zero]; exact rfl) (by kernel_rfl) (by kernel_rfl) (by kernel_rfl) ?xq2 ?xy2 hH ?xr2
  case xq2 => exact fun _ _ _ h => h
  case xy2 =>
    refine Or.inl ⟨by rfl, fun v hv => ?_⟩
    obtain ⟨q0, q1, q2, q3⟩ := DS.cells hv HX.out
    go_simp
    rfl
  try simp only [Act.put, List.setIfInBounds_toArray, List.set_cons_zero, List.set_cons_succ]
  refine wpAnyH_take (i := 3) (v := ?xv3) (by simp only [List.getElem?_toArray, List.getElem?_cons_succ, List.getElem?_cons_zero]; exact rfl) (by kernel_rfl) (by kernel_rfl) (by kernel_rfl) ?xq3 ?xy3 hH ?xr3
  case xq3 => exact fun _ _ _ h => h
  case xy3 =>
    refine Or.inl ⟨by rfl, fun v hv => ?_⟩
    go_simp
    rfl
  try simp only [Act.put, List.setIfInBounds_toArray, List.set_cons_zero, List.set_cons_succ]
  refine wpAnyH_take (i := 4) (v := ?xv4) (by simp only [List.getElem?_toArray, List.getElem?_cons_succ, List.getElem?_cons_zero]; exact rfl) (by kernel_rfl) (by kernel_rfl) (by kernel_rfl) ?xq4 ?xy4 hH ?xr4
  case xq4 => exact fun _ _ _ h => h
  case xy4 =>
    refine Or.inl ⟨by rfl, fun v hv => ?_⟩
    go_simp
    rfl
  try simp only [Act.put, List.setIfInBounds_toArray, List.set_cons_zero, List.set_cons_succ]
  refine wpAnyH_take (i := 5) (v := ?xv5) (by simp only [List.getElem?_toArray, List.getElem?_cons_succ, List.getElem?_cons_zero]; exact rfl) (by kernel_rfl) (by kernel_rfl) (by kernel_rfl) ?xq5 ?xy5 hH ?xr5
  case xq5 => exact fun _ _ _ h => h
  case xy5 =>
    refine Or.inl ⟨by rfl, fun v hv => ?_⟩
    go_simp
    rfl
  try simp only [Act.put, List.setIfInBounds_toArray, List.set_cons_zero, List.set_cons_succ]
  refine wpAnyH_take (i := 6) (v := ?xv6) (by simp only [List.getElem?_toArray, List.getElem?_cons_succ, List.getElem?_cons_zero]; exact rfl) (by kernel_rfl) (by kernel_rfl) (by kernel_rfl) ?xq6 ?xy6 hH ?xr6
  case xq6 => exact fun _ _ _ h => h
  case xy6 =>
    refine Or.inl ⟨by rfl, fun v hv => ?_⟩
    go_simp
    rfl
  try simp only [Act.put, List.setIfInBounds_toArray, List.set_cons_zero, List.set_cons_succ]
  refine wpAnyH_take (i := 7) (v := ?xv7) (by simp only [List.getElem?_toArray, List.getElem?_cons_succ, List.getElem?_cons_zero]; exact rfl) (by kernel_rfl) (by kernel_rfl) (by kernel_rfl) ?xq7 ?xy7 hH ?xr7
  case xq7 => exact fun _ _ _ h => h
  case xy7 =>
    refine Or.inl ⟨by rfl, fun v hv => ?_⟩
    obtain ⟨q0, q1, q2, q3⟩ := DS.cells hv HX.out
    go_simp
    rfl
  try simp only [Act.put, List.setIfInBounds_toArray, List.set_cons_zero, List.set_cons_succ]
  refine wpAnyH_take (i := 8) (v := ?xv8) (by simp only [List.getElem?_toArray, List.getElem?_cons_succ, List.getElem?_cons_zero]; exact rfl) (by kernel_rfl) (by kernel_rfl) (by kernel_rfl) ?xq8 ?xy8 hH ?xr8
  case xq8 => exact fun _ _ _ h => h
  case xy8 =>
    refine Or.inl ⟨by rfl, fun v hv => ?_⟩
    go_simp
    rfl
  try simp only [Act.put, List.setIfInBounds_toArray, List.set_cons_zero, List.set_cons_succ]
  refine wpAnyH_take (i := 9) (v := ?xv9) (by simp only [List.getElem?_toArray, List.getElem?_cons_succ, List.getElem?_cons_zero]; exact rfl) (by kernel_rfl) (by kernel_rfl) (by kernel_rfl) ?xq9 ?xy9 hH ?xr9
  case xq9 => exact fun _ _ _ h => h
  case xy9 =>
    refine Or.inl ⟨by rfl, fun v hv => ?_⟩
    go_simp
    rfl
  try simp only [Act.put, List.setIfInBounds_toArray, List.set_cons_zero, List.set_cons_succ]
  refine wpAnyH_take (i := 10) (v := ?xv10) (by simp only [List.getElem?_toArray, List.getElem?_cons_succ, List.getElem?_cons_zero]; exact rfl) (by kernel_rfl) (by kernel_rfl) (by kernel_rfl) ?xq10 ?xy10 hH ?xr10
  case xq10 => exact fun _ _ _ h => h
  case xy10 =>
    refine Or.inl ⟨by rfl, fun v hv => ?_⟩
    go_simp
    rfl
  try simp only [Act.put, List.setIfInBounds_toArray, List.set_cons_zero, List.set_cons_succ]
  refine wpAnyH_take (i := 11) (v := ?xv11) (by simp only [List.getElem?_toArray, List.getElem?_cons_succ, List.getElem?_cons_zero]; exact rfl) (by kernel_rfl) (by kernel_rfl) (by kernel_rfl) ?xq11 ?xy11 hH ?xr11
  case xq11 => exact fun _ _ _ h => h
  case xy11 =>
    refine Or.inl ⟨by rfl, fun v hv => ?_⟩
    go_simp
    rfl
  try simp only [Act.put, List.setIfInBounds_toArray, List.set_cons_zero, List.set_cons_succ]
  refine wpAnyH_take (i := 12) (v := ?xv12) (by simp only [List.getElem?_toArray, List.getElem?_cons_succ, List.getElem?_cons_zero]; exact rfl) (by kernel_rfl) (by kernel_rfl) (by kernel_rfl) ?xq12 ?xy12 hH ?xr12
  case xq12 => exact fun _ _ _ h => h
  case xy12 =>
    refine Or.inl ⟨by rfl, fun v hv => ?_⟩
    obtain ⟨q0, q1, q2, q3⟩ := DS.cells hv HX.out
    go_simp
    rfl
  try simp only [Act.put, List.setIfInBounds_toArray, List.set_cons_zero, List.set_cons_succ]
  refine wpAnyH_take (i := 13) (v := ?xv13) (by simp only [List.getElem?_toArray, List.getElem?_cons_succ, List.getElem?_cons_zero]; exact rfl) (by kernel_rfl) (by kernel_rfl) (by kernel_rfl) ?xq13 ?xy13 hH ?xr13
  case xq13 => exact fun _ _ _ h => h
  case xy13 =>
    refine Or.inl ⟨by rfl, fun v hv => ?_⟩
    go_simp
    rfl
  try simp only [Act.put, List.setIfInBounds_toArray, List.set_cons_zero, List.set_cons_succ]
  refine wpAnyH_take (i := 14) (v := ?xv14) (by simp only [List.getElem?_toArray, List.getElem?_cons_succ, List.getElem?_cons_zero]; exact rfl) (by kernel_rfl) (by kernel_rfl) (by kernel_rfl) ?xq14 ?xy14 hH ?xr14
  case xq14 => exact fun _ _ _ h => h
  case xy14 =>
    refine Or.inl ⟨by rfl, fun v hv => ?_⟩
    go_simp
    rfl
  try simp only [Act.put, List.setIfInBounds_toArray, List.set_cons_zero, List.set_cons_succ]
  refine wpAnyH_take (i := 15) (v := ?xv15) (by simp only [List.getElem?_toArray, List.getElem?_cons_succ, List.getElem?_cons_zero]; exact rfl) (by kernel_rfl) (by kernel_rfl) (by kernel_rfl) ?xq15 ?xy15 hH ?xr15
  case xq15 => exact fun _ _ _ h => h
  case xy15 =>
    refine Or.inl ⟨by rfl, fun v hv => ?_⟩
    go_simp
    rfl
  try simp only [Act.put, List.setIfInBounds_toArray, List.set_cons_zero, List.set_cons_succ]
  refine wpAnyH_take (i := 16) (v := ?xv16) (by simp only [List.getElem?_toArray, List.getElem?_cons_succ, List.getElem?_cons_zero]; exact rfl) (by kernel_rfl) (by kernel_rfl) (by kernel_rfl) ?xq16 ?xy16 hH ?xr16
  case xq16 => exact fun _ _ _ h => h
  case xy16 =>
    refine Or.inl ⟨by rfl, fun v hv => ?_⟩
    go_simp
    rfl
  try simp only [Act.put, List.setIfInBounds_toArray, List.set_cons_zero, List.set_cons_succ]
  refine wpAnyH_take (i := 17) (v := ?xv17) (by simp only [List.getElem?_toArray, List.getElem?_cons_succ, List.getElem?_cons_zero]; exact rfl) (by kernel_rfl) (by kernel_rfl) (by kernel_rfl) ?xq17 ?xy17 hH ?xr17
  case xq17 => exact fun _ _ _ h => h
  case xy17 =>
    refine Or.inl ⟨by rfl, fun v hv => ?_⟩
    obtain ⟨q0, q1, q2, q3⟩ := DS.cells hv HX.out
    go_simp
    rfl
  try simp only [Act.put, List.setIfInBounds_toArray, List.set_cons_zero, List.set_cons_succ]
  refine wpAnyH_take (i := 18) (v := ?xv18) (by simp only [List.getElem?_toArray, List.getElem?_cons_succ, List.getElem?_cons_zero]; exact rfl) (by kernel_rfl) (by kernel_rfl) (by kernel_rfl) ?xq18 ?xy18 hH ?xr18
  case xq18 => exact fun _ _ _ h => h
  case xy18 =>
    refine Or.inl ⟨by rfl, fun v hv => ?_⟩
    go_simp
    rfl
  try simp only [Act.put, List.setIfInBounds_toArray, List.set_cons_zero, List.set_cons_succ]
  refine wpAnyH_take (i := 19) (v := ?xv19) (by simp only [List.getElem?_toArray, List.getElem?_cons_succ, List.getElem?_cons_zero]; exact rfl) (by kernel_rfl) (by kernel_rfl) (by kernel_rfl) ?xq19 ?xy19 hH ?xr19
  case xq19 => exact fun _ _ _ h => h
  case xy19 =>
    refine Or.inl ⟨by rfl, fun v hv => ?_⟩
    go_simp
    rfl
  try simp only [Act.put, List.setIfInBounds_toArray, List.set_cons_zero, List.set_cons_succ]
  refine wpAnyH_take (i := 20) (v := ?xv20) (by simp only [List.getElem?_toArray, List.getElem?_cons_succ, List.getElem?_cons_zero]; exact rfl) (by kernel_rfl) (by kernel_rfl) (by kernel_rfl) ?xq20 ?xy20 hH ?xr20
  case xq20 => exact fun _ _ _ h => h
  case xy20 =>
    refine Or.inl ⟨by rfl, fun v hv => ?_⟩
    go_simp
    rfl
  try simp only [Act.put, List.setIfInBounds_toArray, List.set_cons_zero, List.set_cons_succ]
  refine wpAnyH_take (i := 21) (v := ?xv21) (by simp only [List.getElem?_toArray, List.getElem?_cons_succ, List.getElem?_cons_zero]; exact rfl) (by kernel_rfl) (by kernel_rfl) (by kernel_rfl) ?xq21 ?xy21 hH ?xr21
  case xq21 => exact fun _ _ _ h => h
  case xy21 =>
    refine Or.inl ⟨by rfl, fun v hv => ?_⟩
    go_simp
    rfl
  try simp only [Act.put, List.setIfInBounds_toArray, List.set_cons_zero, List.set_cons_succ]
  refine wpAnyH_done (by kernel_rfl) ?_ _
  obtain ⟨s0, s1, s2, f0, f1, f2, sl⟩ := hH.zero
  simp only [HW.out, HH.out]
  have four : W < 1 ∨ (1 ≤ W ∧ 512 < W) ∨ ((1 ≤ W ∧ W ≤ 512) ∧ H < 1) ∨ ((1 ≤ W ∧ W ≤ 512) ∧ 1 ≤ H ∧ 512 < H) := by have := HSZ.out; omega
  rcases four with h1 | ⟨h1, h2⟩ | ⟨⟨h1, h2⟩, h3⟩ | ⟨⟨h1, h2⟩, h3, h4⟩
  all_goals
    go_wp2_with fail
    exact bodyPost_ret (v := .tuple #[zeroIm, .bool false]) (by simp [results, Try.results34, go_sem, zeroIm, s0, s1, s2]) rfl (HP.out _ _ rfl hH.2.2)

theorem decEnd_short {W H : Nat} {b : List UInt8} {e : Dec} (h : decGo (W * H) (some ⟨0, false, fun _ => false⟩) (b.drop 4) = some e) (hn : e.at_ ≠ W * H) : decEnd W H b (some e) = none := by
  show (if encode W H e.f = b then _ else _) = _
  rw [if_neg]
  rintro rfl
  obtain ⟨e', he', h1, _⟩ := decGo_code e.f (W * H)
  rw [show (encode W H e.f).drop 4 = encB e.f (W * H) from rfl, he'] at h
  injection h with h
  rw [← h] at hn
  exact hn h1
theorem DI.congr {w v : World} {bk off : Nat} {b : List UInt8} {W H Oi g gc n8 : Nat} {f f' : Nat → Bool} (h : DI w bk off b W H Oi g gc n8 f v) (he : ∀ i, i < W * H → f i = f' i) : DI w bk off b W H Oi g gc n8 f' v :=
  ⟨h.1, h.2.1, by rw [← pack_congr he]; exact h.2.2⟩

set_option maxHeartbeats 6400000 in
theorem refdecode_good (A : Option Addr) (c : Nat) (b : List UInt8) (W H : Nat) (w : World) (hb : Bys w A b) (hm : b.length ≤ 600000) (hl : 4 ≤ b.length)
    (hsW : (b.getD 0 0).toNat * 256 + (b.getD 1 0).toNat = W) (hsH : (b.getD 2 0).toNat * 256 + (b.getD 3 0).toNat = H) (hW1 : 1 ≤ W) (hW2 : W ≤ 512) (hH1 : 1 ≤ H) (hH2 : H ≤ 512) :
    Calls Try.prog 34 #[.slice A b.length c] w (DecPost w b) := by
  have hN := size_bd hW2 hH2
  have hWH : Hid ((W : Int) * (H : Int) = ((W * H : Nat) : Int)) := by simp [Hid]
  have hPos := Nat.mul_pos hW1 hH1
  have p0 : 1 ≤ (W : Int) * (H : Int) := by rw [hWH.out]; omega
  have p1 : (W : Int) * (H : Int) ≤ 262144 := by rw [hWH.out]; omega
  have HDB : Hid (decodeB b = decEnd W H b (decGo (W * H) (some ⟨0, false, fun _ => false⟩) (b.drop 4))) := by
    unfold Hid decodeB
    rw [if_neg (by omega)]
    simp only [hsW, hsH]
    rw [if_pos ⟨hW1, hW2, hH1, hH2⟩]
  have hsz : (b.getD 0 0).toNat * 256 + (b.getD 1 0).toNat = W ∧ (b.getD 2 0).toNat * 256 + (b.getD 3 0).toNat = H := ⟨hsW, hsH⟩
  clear hsW hsH
  obtain ⟨bk, off, rfl, hbk, _⟩ := hb (by omega)
  have hS0 : DS w bk off b (w.alloc (.cells #[.int .i64 0, .int .i64 0, .slice none 0 0] 24)) := ⟨hb.alloc _, Box.new _ _ _, (Below.refl _ _).alloc (Nat.le_refl _) _⟩
  obtain ⟨x0, hx0⟩ : ∃ x0, x0 = (b.getD 0 0).toNat := ⟨_, rfl⟩
  obtain ⟨x1, hx1⟩ : ∃ x1, x1 = (b.getD 1 0).toNat := ⟨_, rfl⟩
  obtain ⟨x2, hx2⟩ : ∃ x2, x2 = (b.getD 2 0).toNat := ⟨_, rfl⟩
  obtain ⟨x3, hx3⟩ : ∃ x3, x3 = (b.getD 3 0).toNat := ⟨_, rfl⟩
  have hy0 : x0 ≤ 255 := by have := (b.getD 0 0).toNat_lt; omega
  have hy1 : x1 ≤ 255 := by have := (b.getD 1 0).toNat_lt; omega
  have hy2 : x2 ≤ 255 := by have := (b.getD 2 0).toNat_lt; omega
  have hy3 : x3 ≤ 255 := by have := (b.getD 3 0).toNat_lt; omega
  have HX := hide (And.intro hl (And.intro hx0 (And.intro hx1 (And.intro hx2 hx3))))
  have HW : Hid (bits BinOp.or IntKind.i64 (IntKind.i64.wrap (IntKind.i64.wrap (x0 : Int) * 256)) (IntKind.i64.wrap (x1 : Int)) = ((x0 * 256 + x1 : Nat) : Int)) := or_wrapped x0 x1 hy0 hy1
  have HH : Hid (bits BinOp.or IntKind.i64 (IntKind.i64.wrap (IntKind.i64.wrap (x2 : Int) * 256)) (IntKind.i64.wrap (x3 : Int)) = ((x2 * 256 + x3 : Nat) : Int)) := or_wrapped x2 x3 hy2 hy3
  have HD0 := hide (hS0.next ((Below.refl _ _).drew))
  rw [← hx0, ← hx1, ← hx2, ← hx3] at hsz
  rw [hsz.1] at HW
  rw [hsz.2] at HH
  have HSZ := hide hsz
  obtain ⟨n8, hn8⟩ : ∃ n8, n8 = (W * H + 7) / 8 := ⟨_, rfl⟩
  have HLf : Hid (∀ f, (pack (W * H) f).length = n8) := fun f => by rw [hn8, length_pack]
  have hlb : n8 ≤ 32768 := by omega
  have hmk : ∀ w : World, (Instr.makeSlice 22 (.int .i64 (((W : Int) * (H : Int) + 7) / 8)) (.int .i64 (((W : Int) * (H : Int) + 7) / 8))).run Try.prog w =
      .ok (.slice (some ⟨w.heap.size, 0, none⟩) n8 n8) (w.alloc (.cells (madeCells #[.int .u8 0] n8) 5)) := fun w => by
    have e : ((W : Int) * (H : Int) + 7) / 8 = ((n8 : Nat) : Int) := by rw [hn8, hWH.out]; omega
    rw [e]
    exact run_make_row' 22 5 (.int .u8 0) 1 Try.underlying22 u8info rfl .i64 .i64 _ (by omega) (by omega) w
  have hpk : Hid (pack (W * H) (fun _ => false) = List.replicate n8 0) := by rw [Hid, pack_false, hn8]
  have a1 : (1 : Int) ≤ (W : Int) := by omega
  have a2 : (W : Int) ≤ 512 := by omega
  have a3 : (1 : Int) ≤ (H : Int) := by omega
  have a4 : (H : Int) ≤ 512 := by omega
  clear hb hl hx0 hx1 hx2 hx3 hsz hS0 hn8 hy0 hy1 hy2 hy3
  go_enter Try.func34, Try.ntmps34
  have hlen : 4 ≤ b.length := HX.out.1
  have hl0 : 0 < b.length := by omega
  have hl1 : 1 < b.length := by omega
  have hl2 : 2 < b.length := by omega
  have hl3 : 3 < b.length := by omega
  have hi1 : (1 : Int) < (b.length : Int) := by omega
  have hi2 : (2 : Int) < (b.length : Int) := by omega
  have hi3 : (3 : Int) < (b.length : Int) := by omega
  go_wp2_with fail
  refine wp_region_held_drew (S := fun v => DS w bk off b v) (by kernel_rfl) (HD0.out) (fun hH => ?_)
  refine wpAnyH_take (i := 0) (v := ?xv0) (by simp only [List.getElem?_toArray, List.getElem?_cons_succ, List.getElem?_cons_zero]; exact rfl) (by kernel_rfl) (by kernel_rfl) (by kernel_rfl) ?xq0 ?xy0 hH ?xr0
  case xq0 => exact fun _ _ _ h => h
  case xy0 =>
    refine Or.inl ⟨by rfl, fun v hv => ?_⟩
    go_simp
    rfl
  try simp only [Act.put, List.setIfInBounds_toArray, List.set_cons_zero, List.set_cons_succ]
  refine wpAnyH_take (i := 1) (v := ?xv1) (by simp only [List.getElem?_toArray, List.getElem?_cons_succ, List.getElem?_cons_zero]; exact rfl) (by kernel_rfl) (by kernel_rfl) (by kernel_rfl) ?xq1 ?xy1 hH ?xr1
  case xq1 => exact fun _ _ _ h => h
  case xy1 =>
    refine Or.inl ⟨by rfl, fun v hv => ?_⟩
    go_simp
    rfl
  try simp only [Act.put, List.setIfInBounds_toArray, List.set_cons_zero, List.set_cons_succ]
  refine wpAnyH_take (i := 2) (v := ?xv2) (by simp only [List.getElem?_toArray, List.getElem?_cons_succ, List.getElem?_cons_zero]; exact rfl) (by kernel_rfl) (by kernel_rfl) (by kernel_rfl) ?xq2 ?xy2 hH ?xr2
  case xq2 => exact fun _ _ _ h => h
  case xy2 =>
    refine Or.inl ⟨by rfl, fun v hv => ?_⟩
    obtain ⟨q0, q1, q2, q3⟩ := DS.cells hv HX.out
    go_simp
    rfl
  try simp only [Act.put, List.setIfInBounds_toArray, List.set_cons_zero, List.set_cons_succ]
  refine wpAnyH_take (i := 3) (v := ?xv3) (by simp only [List.getElem?_toArray, List.getElem?_cons_succ, List.getElem?_cons_zero]; exact rfl) (by kernel_rfl) (by kernel_rfl) (by kernel_rfl) ?xq3 ?xy3 hH ?xr3
  case xq3 => exact fun _ _ _ h => h
  case xy3 =>
    refine Or.inl ⟨by rfl, fun v hv => ?_⟩
    go_simp
    rfl
  try simp only [Act.put, List.setIfInBounds_toArray, List.set_cons_zero, List.set_cons_succ]
  refine wpAnyH_take (i := 4) (v := ?xv4) (by simp only [List.getElem?_toArray, List.getElem?_cons_succ, List.getElem?_cons_zero]; exact rfl) (by kernel_rfl) (by kernel_rfl) (by kernel_rfl) ?xq4 ?xy4 hH ?xr4
  case xq4 => exact fun _ _ _ h => h
  case xy4 =>
    refine Or.inl ⟨by rfl, fun v hv => ?_⟩
    go_simp
    rfl
  try simp only [Act.put, List.setIfInBounds_toArray, List.set_cons_zero, List.set_cons_succ]
  refine wpAnyH_take (i := 5) (v := ?xv5) (by simp only [List.getElem?_toArray, List.getElem?_cons_succ, List.getElem?_cons_zero]; exact rfl) (by kernel_rfl) (by kernel_rfl) (by kernel_rfl) ?xq5 ?xy5 hH ?xr5
  case xq5 => exact fun _ _ _ h => h
  case xy5 =>
    refine Or.inl ⟨by rfl, fun v hv => ?_⟩
    go_simp
    rfl
  try simp only [Act.put, List.setIfInBounds_toArray, List.set_cons_zero, List.set_cons_succ]
  refine wpAnyH_take (i := 6) (v := ?xv6) (by simp only [List.getElem?_toArray, List.getElem?_cons_succ, List.getElem?_cons_zero]; exact rfl) (by kernel_rfl) (by kernel_rfl) (by kernel_rfl) ?xq6 ?xy6 hH ?xr6
  case xq6 => exact fun _ _ _ h => h
  case xy6 =>
    refine Or.inl ⟨by rfl, fun v hv => ?_⟩
    go_simp
    rfl
  try simp only [Act.put, List.setIfInBounds_toArray, List.set_cons_zero, List.set_cons_succ]
  refine wpAnyH_take (i := 7) (v := ?xv7) (by simp only [List.getElem?_toArray, List.getElem?_cons_succ, List.getElem?_cons_zero]; exact rfl) (by kernel_rfl) (by kernel_rfl) (by kernel_rfl) ?xq7 ?xy7 hH ?xr7
  case xq7 => exact fun _ _ _ h => h
  case xy7 =>
    refine Or.inl ⟨by rfl, fun v hv => ?_⟩
    obtain ⟨q0, q1, q2, q3⟩ := DS.cells hv HX.out
    go_simp
    rfl
  try simp only [Act.put, List.setIfInBounds_toArray, List.set_cons_zero, List.set_cons_succ]
  refine wpAnyH_take (i := 8) (v := ?xv8) (by simp only [List.getElem?_toArray, List.getElem?_cons_succ, List.getElem?_cons_zero]; exact rfl) (by kernel_rfl) (by kernel_rfl) (by kernel_rfl) ?xq8 ?xy8 hH ?xr8
  case xq8 => exact fun _ _ _ h => h
  case xy8 =>
    refine Or.inl ⟨by rfl, fun v hv => ?_⟩
    go_simp
    rfl
  try simp only [Act.put, List.setIfInBounds_toArray, List.set_cons_zero, List.set_cons_succ]
  refine wpAnyH_take (i := 9) (v := ?xv9) (by simp only [List.getElem?_toArray, List.getElem?_cons_succ, List.getElem?_cons_zero]; exact rfl) (by kernel_rfl) (by kernel_rfl) (by kernel_rfl) ?xq9 ?xy9 hH ?xr9
  case xq9 => exact fun _ _ _ h => h
  case xy9 =>
    refine Or.inl ⟨by rfl, fun v hv => ?_⟩
    go_simp
    rfl
  try simp only [Act.put, List.setIfInBounds_toArray, List.set_cons_zero, List.set_cons_succ]
  refine wpAnyH_take (i := 10) (v := ?xv10) (by simp only [List.getElem?_toArray, List.getElem?_cons_succ, List.getElem?_cons_zero]; exact rfl) (by kernel_rfl) (by kernel_rfl) (by kernel_rfl) ?xq10 ?xy10 hH ?xr10
  case xq10 => exact fun _ _ _ h => h
  case xy10 =>
    refine Or.inl ⟨by rfl, fun v hv => ?_⟩
    go_simp
    rfl
  try simp only [Act.put, List.setIfInBounds_toArray, List.set_cons_zero, List.set_cons_succ]
  refine wpAnyH_take (i := 11) (v := ?xv11) (by simp only [List.getElem?_toArray, List.getElem?_cons_succ, List.getElem?_cons_zero]; exact rfl) (by kernel_rfl) (by kernel_rfl) (by kernel_rfl) ?xq11 ?xy11 hH ?xr11
  case xq11 => exact fun _ _ _ h => h
  case xy11 =>
    refine Or.inl ⟨by rfl, fun v hv => ?_⟩
    go_simp
    rfl
  try simp only [Act.put, List.setIfInBounds_toArray, List.set_cons_zero, List.set_cons_succ]
  refine wpAnyH_take (i := 12) (v := ?xv12) (by simp only [List.getElem?_toArray, List.getElem?_cons_succ, List.getElem?_cons_zero]; exact rfl) (by kernel_rfl) (by kernel_rfl) (by kernel_rfl) ?xq12 ?xy12 hH ?xr12
  case xq12 => exact fun _ _ _ h => h
  case xy12 =>
    refine Or.inl ⟨by rfl, fun v hv => ?_⟩
    obtain ⟨q0, q1, q2, q3⟩ := DS.cells hv HX.out
    go_simp
    rfl
  try simp only [Act.put, List.setIfInBounds_toArray, List.set_cons_zero, List.set_cons_succ]
  refine wpAnyH_take (i := 13) (v := ?xv13) (by simp only [List.getElem?_toArray, List.getElem?_cons_succ, List.getElem?_cons_zero]; exact rfl) (by kernel_rfl) (by kernel_rfl) (by kernel_rfl) ?xq13 ?xy13 hH ?xr13
  case xq13 => exact fun _ _ _ h => h
  case xy13 =>
    refine Or.inl ⟨by rfl, fun v hv => ?_⟩
    go_simp
    rfl
  try simp only [Act.put, List.setIfInBounds_toArray, List.set_cons_zero, List.set_cons_succ]
  refine wpAnyH_take (i := 14) (v := ?xv14) (by simp only [List.getElem?_toArray, List.getElem?_cons_succ, List.getElem?_cons_zero]; exact rfl) (by kernel_rfl) (by kernel_rfl) (by kernel_rfl) ?xq14 ?xy14 hH ?xr14
  case xq14 => exact fun _ _ _ h => h
  case xy14 =>
    refine Or.inl ⟨by rfl, fun v hv => ?_⟩
    go_simp
    rfl
  try simp only [Act.put, List.setIfInBounds_toArray, List.set_cons_zero, List.set_cons_succ]
  refine wpAnyH_take (i := 15) (v := ?xv15) (by simp only [List.getElem?_toArray, List.getElem?_cons_succ, List.getElem?_cons_zero]; exact rfl) (by kernel_rfl) (by kernel_rfl) (by kernel_rfl) ?xq15 ?xy15 hH ?xr15
  case xq15 => exact fun _ _ _ h => h
  case xy15 =>
    refine Or.inl ⟨by rfl, fun v hv => ?_⟩
    go_simp
    rfl
  try simp only [Act.put, List.setIfInBounds_toArray, List.set_cons_zero, List.set_cons_succ]
  refine wpAnyH_take (i := 16) (v := ?xv16) (by simp only [List.getElem?_toArray, List.getElem?_cons_succ, List.getElem?_cons_zero]; exact rfl) (by kernel_rfl) (by kernel_rfl) (by kernel_rfl) ?xq16 ?xy16 hH ?xr16
  case xq16 => exact fun _ _ _ h => h
  case xy16 =>
    refine Or.inl ⟨by rfl, fun v hv => ?_⟩
    go_simp
    rfl
  try simp only [Act.put, List.setIfInBounds_toArray, List.set_cons_zero, List.set_cons_succ]
  refine wpAnyH_take (i := 17) (v := ?xv17) (by simp only [List.getElem?_toArray, List.getElem?_cons_succ, List.getElem?_cons_zero]; exact rfl) (by kernel_rfl) (by kernel_rfl) (by kernel_rfl) ?xq17 ?xy17 hH ?xr17
  case xq17 => exact fun _ _ _ h => h
  case xy17 =>
    refine Or.inl ⟨by rfl, fun v hv => ?_⟩
    obtain ⟨q0, q1, q2, q3⟩ := DS.cells hv HX.out
    go_simp
    rfl
  try simp only [Act.put, List.setIfInBounds_toArray, List.set_cons_zero, List.set_cons_succ]
  refine wpAnyH_take (i := 18) (v := ?xv18) (by simp only [List.getElem?_toArray, List.getElem?_cons_succ, List.getElem?_cons_zero]; exact rfl) (by kernel_rfl) (by kernel_rfl) (by kernel_rfl) ?xq18 ?xy18 hH ?xr18
  case xq18 => exact fun _ _ _ h => h
  case xy18 =>
    refine Or.inl ⟨by rfl, fun v hv => ?_⟩
    go_simp
    rfl
  try simp only [Act.put, List.setIfInBounds_toArray, List.set_cons_zero, List.set_cons_succ]
  refine wpAnyH_take (i := 19) (v := ?xv19) (by simp only [List.getElem?_toArray, List.getElem?_cons_succ, List.getElem?_cons_zero]; exact rfl) (by kernel_rfl) (by kernel_rfl) (by kernel_rfl) ?xq19 ?xy19 hH ?xr19
  case xq19 => exact fun _ _ _ h => h
  case xy19 =>
    refine Or.inl ⟨by rfl, fun v hv => ?_⟩
    go_simp
    rfl
  try simp only [Act.put, List.setIfInBounds_toArray, List.set_cons_zero, List.set_cons_succ]
  refine wpAnyH_take (i := 20) (v := ?xv20) (by simp only [List.getElem?_toArray, List.getElem?_cons_succ, List.getElem?_cons_zero]; exact rfl) (by kernel_rfl) (by kernel_rfl) (by kernel_rfl) ?xq20 ?xy20 hH ?xr20
  case xq20 => exact fun _ _ _ h => h
  case xy20 =>
    refine Or.inl ⟨by rfl, fun v hv => ?_⟩
    go_simp
    rfl
  try simp only [Act.put, List.setIfInBounds_toArray, List.set_cons_zero, List.set_cons_succ]
  refine wpAnyH_take (i := 21) (v := ?xv21) (by simp only [List.getElem?_toArray, List.getElem?_cons_succ, List.getElem?_cons_zero]; exact rfl) (by kernel_rfl) (by kernel_rfl) (by kernel_rfl) ?xq21 ?xy21 hH ?xr21
  case xq21 => exact fun _ _ _ h => h
  case xy21 =>
    refine Or.inl ⟨by rfl, fun v hv => ?_⟩
    go_simp
    rfl
  try simp only [Act.put, List.setIfInBounds_toArray, List.set_cons_zero, List.set_cons_succ]
  refine wpAnyH_done (by kernel_rfl) ?_ _
  simp only [HW.out, HH.out]
  have HI : Hid (DI w bk off b W H (w.heap.size + 1 + 1) (w.heap.size + 1) n8 n8 (fun _ => false) ((((w.alloc (.cells #[.int .i64 0, .int .i64 0, .slice none 0 0] 24)).drew).alloc (.cells (madeCells #[.int .u8 0] n8) 5)).alloc (.cells #[.int .i64 (W : Int), .int .i64 (H : Int), .slice (some ⟨w.heap.size + 1, 0, none⟩) n8 n8] 24))) := by
    refine ⟨(hH.alloc _).alloc _, ?_, ?_⟩
    · have h := Box.new (((w.alloc (.cells #[.int .i64 0, .int .i64 0, .slice none 0 0] 24)).drew).alloc (.cells (madeCells #[.int .u8 0] n8) 5)) 24 #[.int .i64 (W : Int), .int .i64 (H : Int), .slice (some ⟨w.heap.size + 1, 0, none⟩) n8 n8]
      simp only [World.size_alloc, World.drew] at h
      exact h
    · have h := Row.made ((w.alloc (.cells #[.int .i64 0, .int .i64 0, .slice none 0 0] 24)).drew) n8
      simp only [World.size_alloc, World.drew] at h
      rw [hpk.out]
      exact Row.alloc h _
  clear HD0 hH
  go_wp2_with fail
  obtain ⟨Oi, hOi⟩ : ∃ Oi, Oi = w.heap.size + 1 + 1 := ⟨_, rfl⟩
  obtain ⟨g, hg⟩ : ∃ g, g = w.heap.size + 1 := ⟨_, rfl⟩
  have hOg : Oi ≠ g := by omega
  have hwO : w.heap.size < Oi := by omega
  have hwg : w.heap.size < g := by omega
  rw [← hOi, ← hg] at HI ⊢
  clear hOi hg hmk hpk
  go_loopw [7, 8, 9] (fun a7 a8 i wr => ∃ p : Nat, 4 ≤ p ∧ p ≤ b.length ∧ i = .int .i64 p ∧ ∃ d : Dec, a7 = .int .i64 (d.at_ : Int) ∧ a8 = .bool d.on ∧ d.at_ ≤ W * H ∧ Hid (∀ i, d.at_ ≤ i → d.f i = false) ∧ Hid (DI w bk off b W H Oi g n8 n8 d.f wr) ∧ Hid (decGo (W * H) (some d) (b.drop p) = decGo (W * H) (some ⟨0, false, fun _ => false⟩) (b.drop 4))) (fun _ _ i _ => b.length - (intOf i).toNat)
  case atStart => exact ⟨4, by omega, hlen, rfl, ⟨0, false, fun _ => false⟩, rfl, rfl, Nat.zero_le _, fun _ _ => rfl, HI, rfl⟩
  case round =>
    clear HI
    obtain ⟨p, hp4, hp, rfl, ⟨at_, on, f⟩, rfl, rfl, hat, hF, hI, hD⟩ := hrel
    simp only [] at hat hF hI hD ⊢
    obtain ⟨z0, z1, z2, z3, z4, z5, z6, z7, z8, z9⟩ := hI.out.cells
    by_cases hlt : p < b.length
    · have hDx := hD.out
      rw [decGo_cons _ _ _ hlt] at hDx
      obtain ⟨x, hx⟩ : ∃ x, x = (b.getD p 0).toNat := ⟨_, rfl⟩
      rw [← hx] at hDx
      have hx255 : x ≤ 255 := by have := (b.getD p 0).toNat_lt; omega
      have HQ : Hid (∀ f v, DI w bk off b W H Oi g n8 n8 f v → v.cell? ⟨bk, off + p, none⟩ = some (.int .u8 (x : Int))) := fun f v h => by rw [hx]; exact h.1.at_ hlt
      have HDX := hide hDx
      clear hx hD hDx
      go_wp2_with fail
      clear z0 z1 z2 z3 z4 z5 z6 z7 z8 z9
      obtain ⟨wo, rfl⟩ : ∃ wo : World, wo = wr := ⟨_, rfl⟩
      go_loopw [7, 10] (fun a7 m wr => ∃ j n : Nat, n = at_ + j ∧ j ≤ x ∧ n ≤ W * H ∧ m = .int .i64 (j : Int) ∧ a7 = .int .i64 (n : Int) ∧ Hid (DI w bk off b W H Oi g n8 n8 (fun i => if at_ ≤ i ∧ i < n then on else f i) wr)) (fun _ m _ => x - (intOf m).toNat)
      case atStart => exact ⟨0, at_, rfl, by omega, hat, rfl, rfl, hI.out.congr fun i _ => (if_neg (by omega)).symm⟩
      case round =>
        clear hI
        obtain ⟨j, n, hn, hj, hnN, rfl, rfl, hI⟩ := hrel
        obtain ⟨z0, z1, z2, z3, z4, z5, z6, z7, z8, z9⟩ := hI.out.cells
        have q := HQ.out _ _ hI.out
        have HN := hide hn
        by_cases hjx : j < x
        · have hjx' : (j : Int) < (x : Int) := by omega
          by_cases hnl : n < W * H
          · have hz : ¬ ((W : Int) * (H : Int) ≤ (n : Int)) := by rw [hWH.out]; omega
            cases on
            · have HI4 : Hid (DI w bk off b W H Oi g n8 n8 (fun i => if at_ ≤ i ∧ i < n + 1 then false else f i) wr) := hI.out.congr fun i _ => by
                by_cases e : at_ ≤ i ∧ i < n
                · rw [if_pos e, if_pos (by omega)]
                · rw [if_neg e]
                  by_cases e2 : at_ ≤ i ∧ i < n + 1
                  · rw [if_pos e2]; exact hF.out i e2.1
                  · rw [if_neg e2]
              have hn2 : n ≤ 262144 := by omega
              clear hI hn
              go_wp2_with fail
              go_roundw
              case rel => exact ⟨j + 1, n + 1, by have := HN.out; omega, by omega, by omega, by go_num, by go_num, HI4⟩
              case measure => simp [intOf]; omega
            · have hr := hI.out.2.2
              have hkl : n / 8 < (pack (W * H) fun i => if at_ ≤ i ∧ i < n then true else f i).length := by rw [length_pack]; omega
              obtain ⟨x', hx', hX', hc'⟩ := hr.at_ hkl
              have hf' := hr.frozen (n / 8)
              have hgl := hr.lt
              obtain ⟨y, hy1, hy2⟩ := or_byte x' (n % 8) hx' (by omega)
              have HY := hide hy1
              have HR2 := hr.set hkl y
              rw [pack_set (n := W * H) (b := true) (y := y) hnl (fun t ht => by rw [hy2 t ht, hX'.out])] at HR2
              have HI4 := hide (DI.congr (hI.out.set (grown_setCell (grown_refl wr (some g)) (n / 8) (u8v y)) hbk hwg hOg HR2) (f' := fun i => if at_ ≤ i ∧ i < n + 1 then true else f i) (fun i _ => by
                by_cases e : i = n
                · rw [if_pos e, if_pos (by omega)]
                · rw [if_neg e]
                  by_cases e2 : at_ ≤ i ∧ i < n
                  · rw [if_pos e2, if_pos (by omega)]
                  · rw [if_neg e2, if_neg (by omega)]))
              unfold u8v at HI4
              rw [← HY.out] at HI4
              have hx0 : (0 : Int) ≤ (x' : Int) := by omega
              have hx1 : (x' : Int) ≤ 255 := by omega
              have hk1 : n / 8 < n8 := by rw [← HLf.out (fun i => if at_ ≤ i ∧ i < n then true else f i)]; exact hkl
              have hn2 : n ≤ 262144 := by omega
              clear hI hr hkl hX' hy1 hy2 HR2 hn
              go_wp2_with fail
              go_roundw
              case rel => exact ⟨j + 1, n + 1, by have := HN.out; omega, by omega, by omega, by go_num, by go_num, HI4⟩
              case measure => simp [intOf]; omega
          · have hz : (W : Int) * (H : Int) ≤ (n : Int) := by rw [hWH.out]; omega
            have HNo : Hid (decodeB b = none) := by
              have hDx := HDX.out
              unfold Dec.step at hDx
              simp only [] at hDx
              rw [if_neg (by omega), decGo_none] at hDx
              rw [Hid, HDB.out, ← hDx]
              rfl
            clear hn
            go_wp2_with fail
            exact bodyPost_ret (v := .tuple #[zeroIm, .bool false]) (by simp [results, Try.results34, go_sem, zeroIm, z3, z4, z5]) rfl (dec_none HNo.out rfl (((hI.out.1.2.2.setCell (by simp) _).setCell (by simp) _).setCell (by simp) _))
        · obtain rfl : x = j := by omega
          have HStep : Hid (decGo (W * H) (some ⟨at_ + x, if x < 255 then !on else on, fun j => if at_ ≤ j ∧ j < at_ + x then on else f j⟩) (b.drop (p + 1)) = decGo (W * H) (some ⟨0, false, fun _ => false⟩) (b.drop 4)) := by
            have hDx := HDX.out
            unfold Dec.step at hDx
            simp only [] at hDx
            rw [if_pos (by omega)] at hDx
            exact hDx
          have HF2 : Hid (∀ i, at_ + x ≤ i → (if at_ ≤ i ∧ i < at_ + x then on else f i) = false) := fun i hi => by rw [if_neg (by omega)]; exact hF.out i (by omega)
          rw [hn] at hI ⊢
          rw [hn] at hnN
          clear hn
          by_cases h255 : x < 255
          · have hx5 : (x : Int) < 255 := by omega
            rw [if_pos h255] at HStep
            go_wp2_with fail
            go_roundw
            case rel => exact ⟨p + 1, by omega, by omega, by go_num, ⟨at_ + x, !on, fun j => if at_ ≤ j ∧ j < at_ + x then on else f j⟩, rfl, rfl, hnN, HF2, hI, HStep⟩
            case measure => simp [intOf]; omega
          · have hx5 : ¬ (x : Int) < 255 := by omega
            rw [if_neg h255] at HStep
            go_wp2_with fail
            go_roundw
            case rel => exact ⟨p + 1, by omega, by omega, by go_num, ⟨at_ + x, on, fun j => if at_ ≤ j ∧ j < at_ + x then on else f j⟩, rfl, rfl, hnN, HF2, hI, HStep⟩
            case measure => simp [intOf]; omega
    · obtain rfl : b.length = p := by omega
      have hDx := hD.out
      rw [List.drop_length] at hDx
      have hDx' : decGo (W * H) (some ⟨0, false, fun _ => false⟩) (b.drop 4) = some ⟨at_, on, f⟩ := hDx.symm
      by_cases hatN : at_ = W * H
      · have hz : (at_ : Int) = (W : Int) * (H : Int) := by rw [hWH.out, hatN]
        have HEN : Hid (decodeB b = if encode W H f = b then some (W, H, f) else none) := by
          rw [Hid, HDB.out, hDx']
          rfl
        have HEnc := hide (refencode_any W H (some ⟨g, 0, none⟩) n8 f wr hI.out.2.2.bys hW1 hW2 hH1 hH2)
        rw [HLf.out f] at HEnc
        have hel := length_encode W H f
        clear hD hDx hDx' hatN
        go_wp2_with fail
        refine HEnc.out.mono ?_
        rintro e w6 ⟨ge, ce, hge, _, rfl, hrow, hb6⟩
        have HI6 := hide (hI.out.next hb6)
        have HEq := hide (eq04_any (some ⟨ge, 0, none⟩) (some ⟨bk, off, none⟩) ce c (encode W H f) b w6 hrow.bys HI6.out.1.1 (by unfold maxLen; omega) (by unfold maxLen; omega))
        clear z0 z1 z2 z3 z4 z5 z6 z7 z8 z9 hI hb6 hrow HEnc hge
        generalize encode W H f = en at *
        go_wp2_with fail
        refine HEq.out.mono ?_
        by_cases hen : en = b
        · rw [show (en == b) = true by rw [hen]; exact beq_self_eq_true b]
          rintro e w7 ⟨rfl, hb7⟩
          have HI7 := hide (HI6.out.next hb7)
          obtain ⟨z0, z1, z2, z3, z4, z5, z6, z7, z8, z9⟩ := HI7.out.cells
          rw [if_pos hen] at HEN
          clear hen HEq hb7
          go_wp2_with fail
          refine bodyPost_ret (v := .tuple #[.agg #[.int .i64 (W : Int), .int .i64 (H : Int), .slice (some ⟨g, 0, none⟩) n8 n8], .bool true]) (by simp [results, Try.results34, go_sem, z3, z4, z5]) rfl (dec_some HEN.out ?_)
          obtain ⟨⟨_, _, h3⟩, _, h2⟩ := HI7.out
          exact ⟨g, n8, by omega, by rw [HLf.out f], ((h2.far (by simp; omega) _).far (by simp; omega) _).far (by simp; omega) _, ((h3.setCell (by simp) _).setCell (by simp) _).setCell (by simp) _⟩
        · rw [show (en == b) = false from beq_eq_false_iff_ne.2 hen]
          rintro e w7 ⟨rfl, hb7⟩
          have HI7 := hide (HI6.out.next hb7)
          obtain ⟨z0, z1, z2, z3, z4, z5, z6, z7, z8, z9⟩ := HI7.out.cells
          rw [if_neg hen] at HEN
          clear hen HEq hb7
          go_wp2_with fail
          exact bodyPost_ret (v := .tuple #[zeroIm, .bool false]) (by simp [results, Try.results34, go_sem, zeroIm, z3, z4, z5]) rfl (dec_none HEN.out rfl (((HI7.out.1.2.2.setCell (by simp) _).setCell (by simp) _).setCell (by simp) _))
      · have hz : ¬ (at_ : Int) = (W : Int) * (H : Int) := by rw [hWH.out]; omega
        have HNo : Hid (decodeB b = none) := by
          rw [Hid, HDB.out, hDx']
          exact decEnd_short hDx' hatN
        clear hD hDx hDx' hatN
        go_wp2_with fail
        exact bodyPost_ret (v := .tuple #[zeroIm, .bool false]) (by simp [results, Try.results34, go_sem, zeroIm, z3, z4, z5]) rfl (dec_none HNo.out rfl (((hI.out.1.2.2.setCell (by simp) _).setCell (by simp) _).setCell (by simp) _))
end Go.Proofs.Ytebahhmajllmnaa
