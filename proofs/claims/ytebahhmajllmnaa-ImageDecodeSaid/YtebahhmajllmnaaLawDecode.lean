/-
  Decode accepts exactly the encodings of valid images, for up to 60 bytes and sizes of up to 40: the law ImageDecode returns true for every input.
-/
import Derived.Test.YtebahhmajllmnaaRefDec
import Derived.Test.YtebahhmajllmnaaOpen
namespace Go.Proofs.Ytebahhmajllmnaa.lawDecode
open Go.ChangeShapes Go.WideShapes Go.ChangeAt Go.RowKit Go.Proofs.Ytebahhmajllmnaa
set_option linter.unusedVariables false
set_option linter.unusedSimpArgs false

theorem refdecode_any (A : Option Addr) (c : Nat) (b : List UInt8) (w : World) (hb : Bys w A b) (hm : b.length ≤ 600000) :
    Calls Try.prog 34 #[.slice A b.length c] w (DecPost w b) := by
  by_cases hl : b.length < 4
  · exact refdecode_short A c b w hl
  · by_cases hs : 1 ≤ (b.getD 0 0).toNat * 256 + (b.getD 1 0).toNat ∧ (b.getD 0 0).toNat * 256 + (b.getD 1 0).toNat ≤ 512 ∧ 1 ≤ (b.getD 2 0).toNat * 256 + (b.getD 3 0).toNat ∧ (b.getD 2 0).toNat * 256 + (b.getD 3 0).toNat ≤ 512
    · exact refdecode_good A c b _ _ w hb hm (by omega) rfl rfl hs.1 hs.2.1 hs.2.2.1 hs.2.2.2
    · exact refdecode_bad A c b w hb hm (by omega) hs
theorem decEnd_eq {W H W' H' : Nat} {b : List UInt8} {f : Nat → Bool} : ∀ {d : Option Dec}, decEnd W H b d = some (W', H', f) → W = W' ∧ H = H'
  | none, h => by cases h
  | some e, h => by
    have h' : (if encode W H e.f = b then some (W, H, e.f) else none) = some (W', H', f) := h
    split at h'
    · injection h' with h'
      injection h' with h1 h2
      injection h2 with h2 h3
      exact ⟨h1, h2⟩
    · cases h'
theorem decodeB_bd {b : List UInt8} {W H : Nat} {f : Nat → Bool} (h : decodeB b = some (W, H, f)) : W ≤ 512 ∧ H ≤ 512 := by
  unfold decodeB at h
  split at h
  · cases h
  · simp only [] at h
    split at h
    case isTrue hs =>
      obtain ⟨h1, h2⟩ := decEnd_eq h
      omega
    case isFalse => cases h
/-- the two decoders end alike: an image (with its bytes) and a bool -/
def Same (w : World) (W H : Nat) (n : Nat) (P : Option Addr → World → Prop) (r : Bool) (e : Ending) (w' : World) : Prop :=
  ∃ D d, e = .returned (.tuple #[.agg #[.int .i64 (W : Int), .int .i64 (H : Int), .slice D n d], .bool r]) ∧ P D w' ∧ Below w.heap.size w w'
theorem dec_same (b : List UInt8) : ∃ (W H : Nat) (xs : List UInt8) (r : Bool), xs.length ≤ maxLen ∧ ∀ w e w', DecPost w b e w' → Same w W H xs.length (fun D v => Bys v D xs) r e w' := by
  rcases hd : decodeB b with _ | ⟨W, H, f⟩
  · refine ⟨0, 0, [], false, Nat.zero_le _, fun w e w' h => ?_⟩
    unfold DecPost at h
    rw [hd] at h
    exact ⟨none, 0, h.1, fun h => absurd h (by simp), h.2⟩
  · obtain ⟨h1, h2⟩ := decodeB_bd hd
    refine ⟨W, H, pack (W * H) f, true, len_pack_max f h1 h2, fun w e w' h => ?_⟩
    unfold DecPost at h
    rw [hd] at h
    obtain ⟨g, c, _, he, hr, hb⟩ := h
    exact ⟨some ⟨g, 0, none⟩, c, he, hr.bys, hb⟩
theorem bys_take {w : World} {A : Option Addr} {bs : List UInt8} (h : Bys w A bs) (n : Nat) : Bys w A (bs.take n) := fun hp => by
  rw [List.length_take] at hp
  obtain ⟨b, off, e, h1, h2⟩ := h (by omega)
  refine ⟨b, off, e, h1, fun k hk => ?_⟩
  rw [List.length_take] at hk
  rw [h2 k (by omega)]
  congr 2
  have h3 : k < n := by omega
  simp [List.getD_eq_getElem?_getD, List.getElem?_take, h3]

def Yes (w : World) (e : Ending) (w' : World) : Prop := e = .returned (.bool true) ∧ Below w.heap.size w w'

set_option maxHeartbeats 6400000 in
set_option maxRecDepth 100000 in
theorem walk (A : Option Addr) (c : Nat) (bs : List UInt8) (w : World) (hb : Bys w A bs) (hm : bs.length ≤ maxLen) (hcap : bs.length ≤ c) :
    Calls Try.prog 11 #[.slice A bs.length c] w (Yes w) := by
  obtain ⟨b, hbe⟩ : ∃ b, b = bs.take 60 := ⟨_, rfl⟩
  have HBb : Bys w A b := by rw [hbe]; exact bys_take hb 60
  have hbl : b.length = min 60 bs.length := by rw [hbe, List.length_take]
  obtain ⟨W, H, xs, r, hxm, HS⟩ := dec_same b
  have HD : Hid (∀ v, Bys v A b → Calls Try.prog 32 #[.slice A b.length c] v (Same v W H xs.length (fun D v => Bys v D xs) r)) := fun v hv => (decode_any A c b v hv (by omega) (by omega)).mono fun e w' h => HS _ _ _ h
  have HR : Hid (∀ v, Bys v A b → Calls Try.prog 34 #[.slice A b.length c] v (Same v W H xs.length (fun D v => Bys v D xs) r)) := fun v hv => (refdecode_any A c b v hv (by omega)).mono fun e w' h => HS _ _ _ h
  clear HS
  have hcut : (60 < bs.length ∧ b.length = 60) ∨ (bs.length ≤ 60 ∧ b.length = bs.length) := by omega
  have HB := hide HBb
  clear hb hbe hbl HBb
  unfold maxLen at hm
  obtain ⟨nb, hnb⟩ : ∃ nb, nb = b.length := ⟨_, rfl⟩
  have hcells : nb < 4 ∨ (4 ≤ nb ∧ ∃ bk off x0 x1 x2 x3 : Nat, A = some ⟨bk, off, none⟩ ∧ (x0 ≤ 255 ∧ x1 ≤ 255 ∧ x2 ≤ 255 ∧ x3 ≤ 255) ∧ w.cell? ⟨bk, off, none⟩ = some (.int .u8 (x0 : Int)) ∧ w.cell? ⟨bk, off + 1, none⟩ = some (.int .u8 (x1 : Int)) ∧ w.cell? ⟨bk, off + 2, none⟩ = some (.int .u8 (x2 : Int)) ∧ w.cell? ⟨bk, off + 3, none⟩ = some (.int .u8 (x3 : Int))) := by
    rcases Nat.lt_or_ge nb 4 with h | h
    · exact .inl h
    · right
      obtain ⟨bk, off, e, _, hc⟩ := HB.out (by omega)
      have l0 := (b.getD 0 0).toNat_lt
      have l1 := (b.getD 1 0).toNat_lt
      have l2 := (b.getD 2 0).toNat_lt
      have l3 := (b.getD 3 0).toNat_lt
      exact ⟨h, bk, off, _, _, _, _, e, ⟨by omega, by omega, by omega, by omega⟩, hc 0 (by omega), hc 1 (by omega), hc 2 (by omega), hc 3 (by omega)⟩
  rw [← hnb] at HD HR hcut
  clear hnb
  obtain ⟨n, hn⟩ : ∃ n, n = bs.length := ⟨_, rfl⟩
  rw [← hn] at hm hcut hcap ⊢
  clear hn
  rcases hcut with ⟨h60, rfl⟩ | ⟨h60, rfl⟩
  · have h60' : (60 : Int) < (n : Int) := by omega
    rcases hcells with hs | ⟨hs, bk, off, x0, x1, x2, x3, rfl, ⟨y0, y1, y2, y3⟩, c0, c1, c2, c3⟩
    · omega
    · have hs' : ¬ (60 : Int) < 4 := by omega
      rcases (show x0 ≠ 0 ∨ (x0 = 0 ∧ x2 ≠ 0) ∨ ((x0 = 0 ∧ x2 = 0) ∧ 40 < x1) ∨ (((x0 = 0 ∧ x2 = 0) ∧ x1 ≤ 40) ∧ 40 < x3) ∨ (((x0 = 0 ∧ x2 = 0) ∧ x1 ≤ 40) ∧ x3 ≤ 40) by omega) with h | ⟨rfl, h⟩ | ⟨⟨rfl, rfl⟩, h⟩ | ⟨⟨⟨rfl, rfl⟩, h'⟩, h⟩ | ⟨⟨⟨rfl, rfl⟩, h'⟩, h⟩
      · have h1 : ¬ (x0 : Int) = 0 := by omega
        go_enter Try.func11, Try.ntmps11
        go_wp2_with fail
        refine (awake_any _).mono ?_
        rintro e w1 ⟨rfl, hb1⟩
        have B1 := hide hb1
        clear hb1
        go_wp2_with fail
        go_ret
        exact ⟨rfl, B1.out⟩
      · have h1 : ¬ (x2 : Int) = 0 := by omega
        go_enter Try.func11, Try.ntmps11
        go_wp2_with fail
        refine (awake_any _).mono ?_
        rintro e w1 ⟨rfl, hb1⟩
        have B1 := hide hb1
        clear hb1
        go_wp2_with fail
        go_ret
        exact ⟨rfl, B1.out⟩
      · have h1 : (40 : Int) < (x1 : Int) := by omega
        go_enter Try.func11, Try.ntmps11
        go_wp2_with fail
        refine (awake_any _).mono ?_
        rintro e w1 ⟨rfl, hb1⟩
        have B1 := hide hb1
        clear hb1
        go_wp2_with fail
        go_ret
        exact ⟨rfl, B1.out⟩
      · have h1 : (40 : Int) < (x3 : Int) := by omega
        have h2 : (x1 : Int) ≤ 40 := by omega
        go_enter Try.func11, Try.ntmps11
        go_wp2_with fail
        refine (awake_any _).mono ?_
        rintro e w1 ⟨rfl, hb1⟩
        have B1 := hide hb1
        clear hb1
        go_wp2_with fail
        go_ret
        exact ⟨rfl, B1.out⟩
      · have h1 : (x3 : Int) ≤ 40 := by omega
        have h2 : (x1 : Int) ≤ 40 := by omega
        go_enter Try.func11, Try.ntmps11
        go_wp2_with fail
        refine (HD.out _ HB.out).mono ?_
        rintro e w1 ⟨D1, d1, rfl, hx1, hb1⟩
        have B1 := hide ((HB.out.below hb1).alloc (.cells #[.int .i64 (W : Int), .int .i64 (H : Int), .slice D1 xs.length d1] 24))
        have Y1 := hide (Box.new w1 24 #[.int .i64 (W : Int), .int .i64 (H : Int), .slice D1 xs.length d1])
        have X1 := hide (hx1.alloc (.cells #[.int .i64 (W : Int), .int .i64 (H : Int), .slice D1 xs.length d1] 24))
        have L1 := hide (hb1.alloc hb1.size (.cells #[.int .i64 (W : Int), .int .i64 (H : Int), .slice D1 xs.length d1] 24))
        clear hb1 hx1 HD
        go_wp2_with fail
        refine (HR.out _ B1.out).mono ?_
        rintro e w2 ⟨D2, d2, rfl, hx2, hb2⟩
        have Y2' := Y1.out.kept hb2
        have n2 : w1.heap.size < w2.heap.size := Y2'.lt
        have Y2 := hide (Y2'.alloc (.cells #[.int .i64 (W : Int), .int .i64 (H : Int), .slice D2 xs.length d2] 24))
        have X2 := hide ((X1.out.below hb2).alloc (.cells #[.int .i64 (W : Int), .int .i64 (H : Int), .slice D2 xs.length d2] 24))
        have Z2 := hide (Box.new w2 24 #[.int .i64 (W : Int), .int .i64 (H : Int), .slice D2 xs.length d2])
        have U2 := hide (hx2.alloc (.cells #[.int .i64 (W : Int), .int .i64 (H : Int), .slice D2 xs.length d2] 24))
        have L2' := below_then L1.out hb2
        have L2 := hide (L2'.alloc L2'.size (.cells #[.int .i64 (W : Int), .int .i64 (H : Int), .slice D2 xs.length d2] 24))
        clear hb2 hx2 HR Y2' L2' Y1 X1 L1 B1
        go_wp2_with fail
        refine (awake_any _).mono ?_
        rintro e w3 ⟨rfl, hb3⟩
        have Y3 := Y2.out.kept hb3
        have Z3 := Z2.out.kept hb3
        have X3 := hide (X2.out.below hb3)
        have U3 := hide (U2.out.below hb3)
        have L3 := hide (below_then L2.out hb3)
        have k0 : w3.cell? ⟨w1.heap.size, 0, none⟩ = some (.int .i64 (W : Int)) := Y3.cell 0
        have k1 : w3.cell? ⟨w1.heap.size, 1, none⟩ = some (.int .i64 (H : Int)) := Y3.cell 1
        have k2 : w3.cell? ⟨w1.heap.size, 2, none⟩ = some (.slice D1 xs.length d1) := Y3.cell 2
        have k3 : w3.cell? ⟨w2.heap.size, 0, none⟩ = some (.int .i64 (W : Int)) := Z3.cell 0
        have k4 : w3.cell? ⟨w2.heap.size, 1, none⟩ = some (.int .i64 (H : Int)) := Z3.cell 1
        have k5 : w3.cell? ⟨w2.heap.size, 2, none⟩ = some (.slice D2 xs.length d2) := Z3.cell 2
        clear hb3 Y2 Z2 X2 U2 L2 Y3 Z3
        go_wp2_with fail
        refine (refeq_any W H W H _ _ _ _ xs xs _ X3.out U3.out hxm hxm).mono ?_
        rw [eqB_self]
        rintro e w4 ⟨rfl, hb4⟩
        have L4 := hide (below_then L3.out hb4)
        clear hb4 k0 k1 k2 k3 k4 k5
        go_wp2_with fail
        go_ret
        exact ⟨rfl, L4.out⟩
  · have h60' : (nb : Int) ≤ 60 := by omega
    rcases hcells with hs | ⟨hs, bk, off, x0, x1, x2, x3, rfl, ⟨y0, y1, y2, y3⟩, c0, c1, c2, c3⟩
    · have hs' : (nb : Int) < 4 := by omega
      go_enter Try.func11, Try.ntmps11
      go_wp2_with fail
      refine (HD.out _ HB.out).mono ?_
      rintro e w1 ⟨D1, d1, rfl, hx1, hb1⟩
      have B1 := hide ((HB.out.below hb1).alloc (.cells #[.int .i64 (W : Int), .int .i64 (H : Int), .slice D1 xs.length d1] 24))
      have Y1 := hide (Box.new w1 24 #[.int .i64 (W : Int), .int .i64 (H : Int), .slice D1 xs.length d1])
      have X1 := hide (hx1.alloc (.cells #[.int .i64 (W : Int), .int .i64 (H : Int), .slice D1 xs.length d1] 24))
      have L1 := hide (hb1.alloc hb1.size (.cells #[.int .i64 (W : Int), .int .i64 (H : Int), .slice D1 xs.length d1] 24))
      clear hb1 hx1 HD
      go_wp2_with fail
      refine (HR.out _ B1.out).mono ?_
      rintro e w2 ⟨D2, d2, rfl, hx2, hb2⟩
      have Y2' := Y1.out.kept hb2
      have n2 : w1.heap.size < w2.heap.size := Y2'.lt
      have Y2 := hide (Y2'.alloc (.cells #[.int .i64 (W : Int), .int .i64 (H : Int), .slice D2 xs.length d2] 24))
      have X2 := hide ((X1.out.below hb2).alloc (.cells #[.int .i64 (W : Int), .int .i64 (H : Int), .slice D2 xs.length d2] 24))
      have Z2 := hide (Box.new w2 24 #[.int .i64 (W : Int), .int .i64 (H : Int), .slice D2 xs.length d2])
      have U2 := hide (hx2.alloc (.cells #[.int .i64 (W : Int), .int .i64 (H : Int), .slice D2 xs.length d2] 24))
      have L2' := below_then L1.out hb2
      have L2 := hide (L2'.alloc L2'.size (.cells #[.int .i64 (W : Int), .int .i64 (H : Int), .slice D2 xs.length d2] 24))
      clear hb2 hx2 HR Y2' L2' Y1 X1 L1 B1
      go_wp2_with fail
      refine (awake_any _).mono ?_
      rintro e w3 ⟨rfl, hb3⟩
      have Y3 := Y2.out.kept hb3
      have Z3 := Z2.out.kept hb3
      have X3 := hide (X2.out.below hb3)
      have U3 := hide (U2.out.below hb3)
      have L3 := hide (below_then L2.out hb3)
      have k0 : w3.cell? ⟨w1.heap.size, 0, none⟩ = some (.int .i64 (W : Int)) := Y3.cell 0
      have k1 : w3.cell? ⟨w1.heap.size, 1, none⟩ = some (.int .i64 (H : Int)) := Y3.cell 1
      have k2 : w3.cell? ⟨w1.heap.size, 2, none⟩ = some (.slice D1 xs.length d1) := Y3.cell 2
      have k3 : w3.cell? ⟨w2.heap.size, 0, none⟩ = some (.int .i64 (W : Int)) := Z3.cell 0
      have k4 : w3.cell? ⟨w2.heap.size, 1, none⟩ = some (.int .i64 (H : Int)) := Z3.cell 1
      have k5 : w3.cell? ⟨w2.heap.size, 2, none⟩ = some (.slice D2 xs.length d2) := Z3.cell 2
      clear hb3 Y2 Z2 X2 U2 L2 Y3 Z3
      go_wp2_with fail
      refine (refeq_any W H W H _ _ _ _ xs xs _ X3.out U3.out hxm hxm).mono ?_
      rw [eqB_self]
      rintro e w4 ⟨rfl, hb4⟩
      have L4 := hide (below_then L3.out hb4)
      clear hb4 k0 k1 k2 k3 k4 k5
      go_wp2_with fail
      go_ret
      exact ⟨rfl, L4.out⟩
    · have hs' : ¬ (nb : Int) < 4 := by omega
      have i0 : 0 < nb := by omega
      have i1 : (1 : Int) < (nb : Int) := by omega
      have i2 : (2 : Int) < (nb : Int) := by omega
      have i3 : (3 : Int) < (nb : Int) := by omega
      have i4 : (4 : Int) ≤ (nb : Int) := by omega
      rcases (show x0 ≠ 0 ∨ (x0 = 0 ∧ x2 ≠ 0) ∨ ((x0 = 0 ∧ x2 = 0) ∧ 40 < x1) ∨ (((x0 = 0 ∧ x2 = 0) ∧ x1 ≤ 40) ∧ 40 < x3) ∨ (((x0 = 0 ∧ x2 = 0) ∧ x1 ≤ 40) ∧ x3 ≤ 40) by omega) with h | ⟨rfl, h⟩ | ⟨⟨rfl, rfl⟩, h⟩ | ⟨⟨⟨rfl, rfl⟩, h'⟩, h⟩ | ⟨⟨⟨rfl, rfl⟩, h'⟩, h⟩
      · have h1 : ¬ (x0 : Int) = 0 := by omega
        go_enter Try.func11, Try.ntmps11
        go_wp2_with fail
        refine (awake_any _).mono ?_
        rintro e w1 ⟨rfl, hb1⟩
        have B1 := hide hb1
        clear hb1
        go_wp2_with fail
        go_ret
        exact ⟨rfl, B1.out⟩
      · have h1 : ¬ (x2 : Int) = 0 := by omega
        go_enter Try.func11, Try.ntmps11
        go_wp2_with fail
        refine (awake_any _).mono ?_
        rintro e w1 ⟨rfl, hb1⟩
        have B1 := hide hb1
        clear hb1
        go_wp2_with fail
        go_ret
        exact ⟨rfl, B1.out⟩
      · have h1 : (40 : Int) < (x1 : Int) := by omega
        go_enter Try.func11, Try.ntmps11
        go_wp2_with fail
        refine (awake_any _).mono ?_
        rintro e w1 ⟨rfl, hb1⟩
        have B1 := hide hb1
        clear hb1
        go_wp2_with fail
        go_ret
        exact ⟨rfl, B1.out⟩
      · have h1 : (40 : Int) < (x3 : Int) := by omega
        have h2 : (x1 : Int) ≤ 40 := by omega
        go_enter Try.func11, Try.ntmps11
        go_wp2_with fail
        refine (awake_any _).mono ?_
        rintro e w1 ⟨rfl, hb1⟩
        have B1 := hide hb1
        clear hb1
        go_wp2_with fail
        go_ret
        exact ⟨rfl, B1.out⟩
      · have h1 : (x3 : Int) ≤ 40 := by omega
        have h2 : (x1 : Int) ≤ 40 := by omega
        go_enter Try.func11, Try.ntmps11
        go_wp2_with fail
        refine (HD.out _ HB.out).mono ?_
        rintro e w1 ⟨D1, d1, rfl, hx1, hb1⟩
        have B1 := hide ((HB.out.below hb1).alloc (.cells #[.int .i64 (W : Int), .int .i64 (H : Int), .slice D1 xs.length d1] 24))
        have Y1 := hide (Box.new w1 24 #[.int .i64 (W : Int), .int .i64 (H : Int), .slice D1 xs.length d1])
        have X1 := hide (hx1.alloc (.cells #[.int .i64 (W : Int), .int .i64 (H : Int), .slice D1 xs.length d1] 24))
        have L1 := hide (hb1.alloc hb1.size (.cells #[.int .i64 (W : Int), .int .i64 (H : Int), .slice D1 xs.length d1] 24))
        clear hb1 hx1 HD
        go_wp2_with fail
        refine (HR.out _ B1.out).mono ?_
        rintro e w2 ⟨D2, d2, rfl, hx2, hb2⟩
        have Y2' := Y1.out.kept hb2
        have n2 : w1.heap.size < w2.heap.size := Y2'.lt
        have Y2 := hide (Y2'.alloc (.cells #[.int .i64 (W : Int), .int .i64 (H : Int), .slice D2 xs.length d2] 24))
        have X2 := hide ((X1.out.below hb2).alloc (.cells #[.int .i64 (W : Int), .int .i64 (H : Int), .slice D2 xs.length d2] 24))
        have Z2 := hide (Box.new w2 24 #[.int .i64 (W : Int), .int .i64 (H : Int), .slice D2 xs.length d2])
        have U2 := hide (hx2.alloc (.cells #[.int .i64 (W : Int), .int .i64 (H : Int), .slice D2 xs.length d2] 24))
        have L2' := below_then L1.out hb2
        have L2 := hide (L2'.alloc L2'.size (.cells #[.int .i64 (W : Int), .int .i64 (H : Int), .slice D2 xs.length d2] 24))
        clear hb2 hx2 HR Y2' L2' Y1 X1 L1 B1
        go_wp2_with fail
        refine (awake_any _).mono ?_
        rintro e w3 ⟨rfl, hb3⟩
        have Y3 := Y2.out.kept hb3
        have Z3 := Z2.out.kept hb3
        have X3 := hide (X2.out.below hb3)
        have U3 := hide (U2.out.below hb3)
        have L3 := hide (below_then L2.out hb3)
        have k0 : w3.cell? ⟨w1.heap.size, 0, none⟩ = some (.int .i64 (W : Int)) := Y3.cell 0
        have k1 : w3.cell? ⟨w1.heap.size, 1, none⟩ = some (.int .i64 (H : Int)) := Y3.cell 1
        have k2 : w3.cell? ⟨w1.heap.size, 2, none⟩ = some (.slice D1 xs.length d1) := Y3.cell 2
        have k3 : w3.cell? ⟨w2.heap.size, 0, none⟩ = some (.int .i64 (W : Int)) := Z3.cell 0
        have k4 : w3.cell? ⟨w2.heap.size, 1, none⟩ = some (.int .i64 (H : Int)) := Z3.cell 1
        have k5 : w3.cell? ⟨w2.heap.size, 2, none⟩ = some (.slice D2 xs.length d2) := Z3.cell 2
        clear hb3 Y2 Z2 X2 U2 L2 Y3 Z3
        go_wp2_with fail
        refine (refeq_any W H W H _ _ _ _ xs xs _ X3.out U3.out hxm hxm).mono ?_
        rw [eqB_self]
        rintro e w4 ⟨rfl, hb4⟩
        have L4 := hide (below_then L3.out hb4)
        clear hb4 k0 k1 k2 k3 k4 k5
        go_wp2_with fail
        go_ret
        exact ⟨rfl, L4.out⟩

section
variable {H : Type} {enc : TypeId × Value → H}
theorem cap_ok {W : World} {fuel : Nat} {a : Option Addr} {n c : Nat} {x : DataW H × List MemPlace} (h : DataW.trod enc Try.prog W 0 (fun _ => true) true fuel 22 [.slice a n c] = some x) : n ≤ c := by
  rcases open_ints Try.underlying22 Try.underlying5 cells5 h with ⟨hcs, _⟩ | ⟨a', len, cap, zs, hcs, _, hl, _⟩
  · cases hcs
    exact Nat.le_refl _
  · cases hcs
    exact hl
theorem open_bytes_arg {r : Reach} {b0 : Nat} {W : World} {v : Value} {d : DataW H} {p : List MemPlace} (hv : Value.okWide Try.prog W r b0 22 v) (h : DataW.Trod enc Try.prog W 0 (fun _ => true) true 22 v d p) :
    ∃ A c bs, v = .slice A bs.length c ∧ Bys W A bs ∧ bs.length ≤ maxLen ∧ bs.length ≤ c := by
  obtain ⟨a, n, c, rfl⟩ := okWide_slice Try.underlying22 hv
  obtain ⟨fuel, hf⟩ := h
  have hf' : DataW.trod enc Try.prog W 0 (fun _ => true) true fuel 22 [.slice a n c] = some (d, p) := hf
  obtain ⟨A, c', bs, e, hb, hm⟩ := open_bytes hf'
  have hc := cap_ok hf'
  injection e with e1 e2 e3
  subst e1 e2 e3
  exact ⟨_, _, bs, rfl, hb, hm, hc⟩
end

set_option maxRecDepth 100000 in
theorem lifted (os : Os) (started : os.Started) (H : Type) (enc : TypeId × Value → H) :
    ReturnsInHanded {} Try.checked os 11 .any (Rows.imageDecodeSpec.pre6 enc Try.prog Try.f11 Rows.imageDecodeRow.domain false) (Rows.imageDecodeSpec.post enc Try.prog Try.f11 false true false false) := by
  refine returnsInHanded_of_change (C := Try.checked) own started (by kernel_rfl) Try.func11
    (ChangeSpec.witness6 (enc := enc) (C := Try.checked) false ⟨#[], #[.slice none 0 0], []⟩ 8 (by kernel_rfl) (by kernel_rfl) (by kernel_rfl) (by kernel_rfl)) ?_
  intro W base args ds gs before hval0 hW hcnd _
  have hval : ∀ (j : Nat) t v, Try.f11.params[j]? = some t → args[j]? = some v → Value.okWide Try.prog W .any base t v := hval0
  have hW' := hW
  obtain ⟨p, q, hA0, hV, rfl, hfz, hnd⟩ := hW
  have hA : DataW.TrodAll enc Try.prog W 0 (fun _ => true) true Try.f11.params.toList args.toList ds p := hA0
  rw [Try.params11] at hA hval
  obtain ⟨v0, vs0, d0, ds0, p0, q0, hargs, rfl, rfl, h0, r0⟩ := trodAll_cons hA
  obtain ⟨rfl, rfl, rfl⟩ := trodAll_nil r0
  obtain rfl : args = #[v0] := by cases args; simp_all
  obtain ⟨A0, c0, bs0, rfl, hb0, hm0, hcp0⟩ := open_bytes_arg (hval 0 22 v0 rfl rfl) h0
  refine (walk A0 c0 bs0 W hb0 hm0 hcp0).mono fun e W' ⟨he, hb⟩ => ?_
  subst he
  exact ⟨_, rfl, post_law hW' rfl hb (by rw [Try.params11]; exact params_ok (by kernel_rfl)) rfl rfl⟩

theorem over : Rows.imageDecodeRow.holds Try.pinned (OpenSpec.ofChange Rows.imageDecodeSpec) :=
  OpenClaim.holds_of_wide 11 Try.f11 rfl rfl rfl rfl rfl rfl rfl ⟨rfl, rfl, rfl, rfl, rfl⟩ rfl rfl rfl rfl rfl (by kernel_rfl) Try.func11 (by kernel_rfl)
    (of_decide_eq_true (by kernel_rfl)) (by unfold Func.isWrapper; first | (rw [if_pos (by decide +kernel)]; kernel_rfl) | (rw [if_neg (by decide +kernel)]; exact ⟨rfl, rfl⟩))
    (fun os started H enc _ => lifted os started H enc)

theorem proved : Rows.ImageDecodeSaid := over
end Go.Proofs.Ytebahhmajllmnaa.lawDecode
