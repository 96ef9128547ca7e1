/-
  Awake.
-/
import Derived.Test.YthhelhggggbaiaaRRecv
namespace Go.Proofs.Ythhelhggggbaiaa
open Go.RowKit
set_option linter.unusedVariables false
set_option linter.unusedSimpArgs false

theorem Snd.mono {T : TypeId} {F G : Nat → Prop} {w : World} {s : Nat} {fs : List (List UInt8)} {W base nxt : Nat} (h : Snd T F w s fs W base nxt) (hF : ∀ i, F i → G i) (hG : Lt G w) : Snd T G w s fs W base nxt := by
  obtain ⟨A, c, h1, h2, h3⟩ := h.box
  exact ⟨⟨A, c, h1, h2, h3.mono fun i hi => ⟨hF i hi.1, hi.2⟩⟩, hF s h.mem, hG⟩
theorem Rcv.mono {F G : Nat → Prop} {w : World} {r W : Nat} {got : List (List UInt8)} {e : Int → Option (List UInt8)} {last : Int} {n : Nat} (h : Rcv F w r W got e last n) (hF : ∀ i, F i → G i) (hG : Lt G w) : Rcv G w r W got e last n := by
  obtain ⟨v, mb, h1, h2, h3, h4, h5⟩ := h.box
  exact ⟨⟨v, mb, h1, h2.mono fun i hi => ⟨hF i hi.1, hi.2⟩, h3.mono fun i hi => ⟨hF i hi.1, hi.2⟩, hF mb h4, h5⟩, hF r h.mem, hG⟩
def fsA : List (List UInt8) := [[1], [2]]
def HA : Nat → Option (List UInt8) := fun _ => none
theorem gotsA : gots HA 0 = [] := rfl
theorem earlyA : earlyOf HA 0 = fun _ => none := by
  funext k
  simp [earlyOf, HA]
theorem newsender_A (L : World) (A : Option Addr) (hf : Fr L A fsA) : Calls Try.prog 11 #[.slice A 2 2, .int .i64 1] L (NewSnd L fsA 1) :=
  newsender_ok A 2 fsA 1 L hf (by decide) (by decide) (by
    intro k hk
    have : k = 0 ∨ k = 1 := by have : k < 2 := hk; omega
    rcases this with rfl | rfl <;> decide) (by decide) (by decide)
theorem newreceiver_A (L : World) : Calls Try.prog 19 #[.int .i64 1] L (NewRcv L 1) := newreceiver_ok 1 L (by decide) (by decide)
theorem fsA_bd : ∀ k, k < fsA.length → (fsA.getD k []).length ≤ 4096 := by
  intro k hk
  have : k = 0 ∨ k = 1 := by have : k < 2 := hk; omega
  rcases this with rfl | rfl <;> decide
/-- the first message, the second -/
def MsgPost (F : Nat → Prop) (w : World) (s base a : Nat) (l : Bool) (x : UInt8) (e : Ending) (w' : World) : Prop :=
  ∃ D d, e = .returned (.tuple #[.agg #[.bool false, .int .i64 (a : Int), .bool l, .slice D 1 d], .bool true]) ∧ NewB w.heap.size w' D d [x] ∧ Chg (fun i => i = s) w w' ∧ Snd 64 F w' s fsA 1 base (a + 1)
theorem next_A0 {F : Nat → Prop} {w : World} {s : Nat} (h : Snd 64 F w s fsA 1 0 0) : Calls Try.prog 12 #[.pointer (some ⟨s, 0, none⟩)] w (MsgPost F w s 0 0 false 1) :=
  next_more h (by decide) (by decide) (by decide) (by decide) fsA_bd
theorem next_A1 {F : Nat → Prop} {w : World} {s : Nat} (h : Snd 64 F w s fsA 1 1 1) : Calls Try.prog 12 #[.pointer (some ⟨s, 0, none⟩)] w (MsgPost F w s 1 1 true 2) :=
  next_more h (by decide) (by decide) (by decide) (by decide) fsA_bd
def HA1 : Nat → Option (List UInt8) := putH HA 0 [1]
theorem receive_A {F : Nat → Prop} {w : World} {r : Nat} (h : Rcv F w r 1 [] (fun _ => none) (-1) 0) (D : Option Addr) (d : Nat) (hD : Bys w D [1]) :
    Calls Try.prog 21 #[.pointer (some ⟨r, 0, none⟩), .agg #[.bool false, .int .i64 0, .bool false, .slice D 1 d]] w (Accepted F w r 1 HA1 1 (-1) 1) := by
  have h' : Rcv F w r 1 (gots HA 0) (earlyOf HA 0) (-1) 0 := by rw [gotsA, earlyA]; exact h
  exact receive_yes h' (by decide) (by decide) (by decide) (by decide) (by decide) false 0 (by decide) D d [1] hD (by decide) (by
    unfold Ign IgnA
    simp) (fun k hk => absurd hk (by omega)) 1 (fun k hk => by
      obtain rfl : k = 0 := by omega
      rfl) rfl (by decide) (by decide)
theorem recv_A {F : Nat → Prop} {w : World} {s : Nat} (h : Snd 64 F w s fsA 1 0 1) :
    Calls Try.prog 15 #[.pointer (some ⟨s, 0, none⟩), .agg #[.bool true, .int .i64 1, .bool false, .slice none 0 0]] w (RecvPost 64 F w s fsA 1 1 1) :=
  s_recv h (by decide) true false 1 none 0 0
theorem frames_A {F : Nat → Prop} {w : World} {r : Nat} {e : Int → Option (List UInt8)} {last : Int} {n : Nat} (h : Rcv F w r 1 (gots HA1 1) e last n) :
    Calls Try.prog 22 #[.pointer (some ⟨r, 0, none⟩)] w (CopyPost w [[1]]) :=
  rframes_any h (by decide) (fun k hk => by
    obtain rfl : k = 0 := by have : k < 1 := hk; omega
    decide)
theorem fr_A (w : World) : Fr (((w.alloc (.cells #[.int .u8 1] 5)).alloc (.cells #[.int .u8 2] 5)).alloc (.cells #[.slice (some ⟨w.heap.size, 0, none⟩) 1 1, .slice (some ⟨w.heap.size + 1, 0, none⟩) 1 1] 32)) (some ⟨w.heap.size + 2, 0, none⟩) fsA := fun _ => by
  have b2 := Box.new ((w.alloc (.cells #[.int .u8 1] 5)).alloc (.cells #[.int .u8 2] 5)) 32 #[.slice (some ⟨w.heap.size, 0, none⟩) 1 1, .slice (some ⟨w.heap.size + 1, 0, none⟩) 1 1]
  have b1 := (Box.new (w.alloc (.cells #[.int .u8 1] 5)) 5 #[.int .u8 2]).alloc (.cells #[.slice (some ⟨w.heap.size, 0, none⟩) 1 1, .slice (some ⟨w.heap.size + 1, 0, none⟩) 1 1] 32)
  have b0 := ((Box.new w 5 #[.int .u8 1]).alloc (.cells #[.int .u8 2] 5)).alloc (.cells #[.slice (some ⟨w.heap.size, 0, none⟩) 1 1, .slice (some ⟨w.heap.size + 1, 0, none⟩) 1 1] 32)
  simp only [World.size_alloc] at b2 b1
  refine ⟨w.heap.size + 2, 0, rfl, b2.lt, fun k hk => ?_⟩
  have : k = 0 ∨ k = 1 := by have : k < 2 := hk; omega
  rcases this with rfl | rfl
  · refine ⟨some ⟨w.heap.size, 0, none⟩, 1, b2.cell 0, fun _ => ⟨w.heap.size, 0, rfl, b0.lt, fun j hj => ?_⟩, Nat.le_refl _⟩
    obtain rfl : j = 0 := by have : j < 1 := hj; omega
    exact b0.cell 0
  · refine ⟨some ⟨w.heap.size + 1, 0, none⟩, 1, b2.cell 1, fun _ => ⟨w.heap.size + 1, 0, rfl, b1.lt, fun j hj => ?_⟩, Nat.le_refl _⟩
    obtain rfl : j = 0 := by have : j < 1 := hj; omega
    exact b1.cell 0

set_option maxHeartbeats 3200000 in
set_option maxRecDepth 100000 in
theorem awake_any (w : World) : Calls Try.prog 18 #[] w fun e w' => e = .returned (.bool true) ∧ Below w.heap.size w w' := by
  have HF := hide (fr_A w)
  go_enter Try.func18, Try.ntmps18
  go_wp2_with fail
  refine (newsender_A _ _ HF.out).mono ?_
  rintro e w2 ⟨s, rfl, hs1, hB2, hS2⟩
  have HB2 : Hid (Below w.heap.size w w2) := ((((Below.refl _ _).alloc (Nat.le_refl _) _).alloc (by simp) _).alloc (by simp; omega) _).trans (hB2.mono (by simp; omega))
  have HS2 : Hid (Snd 64 (fun i => w.heap.size ≤ i ∧ i < w2.heap.size) w2 s fsA 1 0 0) := hS2.mono (fun i hi => ⟨by have := hi.1; simp at this; omega, hi.2⟩) (fun i hi => hi.2)
  have hs1 : w.heap.size ≤ s := HS2.out.mem.1
  clear hB2 hS2 HF
  go_wp2_with fail
  refine (newreceiver_A _).mono ?_
  rintro e w3 ⟨r, rfl, hr1, hB3, hR3⟩
  have HS3 := hide (HS2.out.kept hB3)
  have HB3 := hide (HB2.out.trans (hB3.mono HB2.out.size))
  have HR3 := hide hR3
  have hsl := HS2.out.here
  have hw2 := HB2.out.size
  have hw3 := hB3.size
  clear hB3 hR3
  go_wp2_with fail
  refine (next_A0 HS3.out).mono ?_
  rintro e w4 ⟨D, d, rfl, hD, hC4, hS4⟩
  obtain ⟨v4, hv4⟩ : ∃ v4, v4 = w4.alloc (.cells #[.bool false, .int .i64 0, .bool false, .slice D 1 d] 34) := ⟨_, rfl⟩
  have hq4 : Below w4.heap.size w4 v4 := by rw [hv4]; exact (Below.refl _ _).alloc (Nat.le_refl _) _
  have HD4 := hide (hD.bys.below hq4)
  have HS4 := hide (hS4.kept hq4)
  have HR4 := hide ((HR3.out.chg hC4 (fun i hi e => by omega)).kept hq4)
  have HB4 : Hid (Below w.heap.size w v4) := (HB3.out.trans (hC4.below (fun i hi e => by omega) HB3.out.size)).trans (hq4.mono (by have := hC4.size; omega))
  have hw4 : w3.heap.size ≤ v4.heap.size := Nat.le_trans hC4.size hq4.size
  have HV4 := hide hv4
  clear hD hC4 hS4 hq4 hv4
  go_wp2_with fail
  rw [← HV4.out]
  refine (receive_A HR4.out D d HD4.out).mono ?_
  rintro e w5 ⟨rfl, F5, hR5, hF5, hC5⟩
  obtain ⟨v5, hv5⟩ : ∃ v5, v5 = w5.alloc (.cells #[.bool true, .int .i64 1, .bool false, .slice none 0 0] 34) := ⟨_, rfl⟩
  have hq5 : Below w5.heap.size w5 v5 := by rw [hv5]; exact (Below.refl _ _).alloc (Nat.le_refl _) _
  have hF5' : ∀ i, F5 i → w2.heap.size ≤ i := fun i hi => by
    rcases hF5 i hi with h | h
    · exact h.1
    · omega
  have HS5 := hide ((HS4.out.chg hC5 (fun i hi e => by omega)).kept hq5)
  have HR5 := hide (hR5.kept hq5)
  have HM5 : Hid (Box v5 w5.heap.size 34 #[.bool true, .int .i64 1, .bool false, .slice none 0 0]) := by rw [hv5]; exact Box.new _ _ _
  have HB5 : Hid (Below w.heap.size w v5) := (HB4.out.trans (hC5.below (fun i hi e => by omega) HB4.out.size)).trans (hq5.mono (by have := hC5.size; omega))
  have hw5 : w3.heap.size ≤ v5.heap.size := Nat.le_trans hw4 (Nat.le_trans hC5.size hq5.size)
  have hm5 : w3.heap.size ≤ w5.heap.size := Nat.le_trans hw4 hC5.size
  have HV5 := hide hv5
  have hF5 := hF5'
  clear hR5 hC5 hF5' hq5 hv5
  go_wp2_with fail
  rw [← HV5.out]
  refine (recv_A HS5.out).mono ?_
  rintro e w6 ⟨rfl, hC6, hS6⟩
  have HS6 := hide hS6
  have HR6 := hide (HR5.out.chg hC6 (fun i hi e => by have := hF5 i hi; omega))
  have HM6 : Hid (Box w6 w5.heap.size 34 #[.bool true, .int .i64 1, .bool false, .slice none 0 0]) := (hC6.block _ HM5.out.lt (by omega)).trans HM5.out
  have HB6 : Hid (Below w.heap.size w w6) := HB5.out.trans (hC6.below (fun i hi e => by omega) HB5.out.size)
  have hw6 : w3.heap.size ≤ w6.heap.size := Nat.le_trans hw5 hC6.size
  clear hC6 hS6
  go_wp2_with fail
  refine (next_A1 HS6.out).mono ?_
  rintro e w7 ⟨D7, d7, rfl, hD7, hC7, hS7⟩
  obtain ⟨v7, hv7⟩ : ∃ v7, v7 = w7.alloc (.cells #[.bool false, .int .i64 1, .bool true, .slice D7 1 d7] 34) := ⟨_, rfl⟩
  have hq7 : Below w7.heap.size w7 v7 := by rw [hv7]; exact (Below.refl _ _).alloc (Nat.le_refl _) _
  have HS7 := hide (hS7.kept hq7)
  have HR7 := hide ((HR6.out.chg hC7 (fun i hi e => by have := hF5 i hi; omega)).kept hq7)
  have HM7 := hide (Box.kept (show Box w7 w5.heap.size 34 #[.bool true, .int .i64 1, .bool false, .slice none 0 0] from (hC7.block _ HM6.out.lt (by omega)).trans HM6.out) hq7)
  have HN7 : Hid (Box v7 w7.heap.size 34 #[.bool false, .int .i64 1, .bool true, .slice D7 1 d7]) := by rw [hv7]; exact Box.new _ _ _
  have HB7 : Hid (Below w.heap.size w v7) := (HB6.out.trans (hC7.below (fun i hi e => by omega) HB6.out.size)).trans (hq7.mono (by have := hC7.size; omega))
  have hw7 : w3.heap.size ≤ v7.heap.size := Nat.le_trans hw6 (Nat.le_trans hC7.size hq7.size)
  have m1 : v7.cell? ⟨w5.heap.size, 1, none⟩ = some (.int .i64 1) := HM7.out.cell 1
  have n1 : v7.cell? ⟨w7.heap.size, 1, none⟩ = some (.int .i64 1) := HN7.out.cell 1
  have n2 : v7.cell? ⟨w7.heap.size, 2, none⟩ = some (.bool true) := HN7.out.cell 2
  have HV7 := hide hv7
  clear hC7 hS7 hq7 hv7 hD7
  go_upto_region 7 with fail
  rw [← HV7.out]
  go_wp2_with fail
  refine (frames_A HR7.out).mono ?_
  rintro e w8 ⟨v8, r8, c8, rfl, hO8, hB8⟩
  obtain ⟨A8, cc8, rfl, _, _⟩ := hO8.frIn
  have HS8 := hide (HS7.out.kept hB8)
  have HB8 := hide (HB7.out.trans (hB8.mono (by omega)))
  clear hO8 hB8 m1 n1 n2
  go_wp2_with fail
  refine (done_no HS8.out (by decide) (by decide)).mono ?_
  rintro e w9 ⟨rfl, n9, rfl⟩
  go_wp2_with fail
  go_ret
  exact ⟨rfl, below_drew HB8.out _⟩
end Go.Proofs.Ythhelhggggbaiaa
