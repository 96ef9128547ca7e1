/-
  What is left to do for a sender whose messages all arrive: plain; and a round of it.
-/
import Derived.Test.YthhelhggggbaiaaNet
namespace Go.Proofs.Ythhelhggggbaiaa
open Go.RowKit
set_option linter.unusedVariables false
set_option linter.unusedSimpArgs false

/-- rounds until the frame at base is sent -/
def remN (n W base nxt : Nat) : Nat := if nxt ≤ base ∨ min (base + W) n ≤ nxt then 1 else min (base + W) n - nxt + 1
/-- rounds that are left at most -/
def mu (n W base g nxt : Nat) : Nat := if base < g then (n - base) * W else (n - base - 1) * W + remN n W base nxt
theorem remN_pos (n W base nxt : Nat) : 1 ≤ remN n W base nxt := by
  unfold remN
  split <;> omega
theorem remN_le {n W base nxt : Nat} (hW : 1 ≤ W) : remN n W base nxt ≤ W := by
  unfold remN
  split <;> omega
theorem mul_step {n W base : Nat} (h : base < n) : (n - base) * W = (n - base - 1) * W + W := by
  obtain ⟨a, ha⟩ : ∃ a, n - base = a + 1 := ⟨n - base - 1, by omega⟩
  rw [ha, Nat.succ_mul, Nat.add_sub_cancel]
theorem mul_mono {a b W : Nat} (h : a ≤ b) : a * W ≤ b * W := Nat.mul_le_mul_right W h
theorem mu_pos {n W base g nxt : Nat} (hW : 1 ≤ W) (h : base < n) : 1 ≤ mu n W base g nxt := by
  have h1 := mul_step (W := W) h
  have h2 := remN_pos n W base nxt
  unfold mu
  split <;> omega
theorem mu_le {n W base g nxt : Nat} (hW : 1 ≤ W) (h : base < n) : mu n W base g nxt ≤ n * W := by
  have h1 := mul_step (W := W) h
  have h2 := remN_le (n := n) (base := base) (nxt := nxt) hW
  have h3 := mul_mono (W := W) (show n - base ≤ n by omega)
  unfold mu
  split <;> omega
theorem mu_round {n W base g g' nxt : Nat} (hW : 1 ≤ W) (hb : base < n) (hbg : base ≤ g) (hgg : g ≤ g') (hg' : g' < n) (hk : nextAt n W base nxt = g → g < g') : mu n W g' g' (nextAt n W base nxt + 1) + 1 ≤ mu n W base g nxt := by
  have h1 := mul_step (W := W) hb
  have h2 := mul_step (W := W) hg'
  have h3 := remN_le (n := n) (base := g') (nxt := nextAt n W base nxt + 1) hW
  have h4 := remN_pos n W base nxt
  have e1 : mu n W g' g' (nextAt n W base nxt + 1) = (n - g' - 1) * W + remN n W g' (nextAt n W base nxt + 1) := by unfold mu; rw [if_neg (by omega)]
  by_cases hlt : base < g
  · have e2 : mu n W base g nxt = (n - base) * W := by unfold mu; rw [if_pos hlt]
    have h5 := mul_mono (W := W) (show n - g' ≤ n - base - 1 by omega)
    omega
  · obtain rfl : base = g := by omega
    have e2 : mu n W base base nxt = (n - base - 1) * W + remN n W base nxt := by unfold mu; rw [if_neg (by omega)]
    by_cases hg : base < g'
    · have h5 := mul_mono (W := W) (show n - g' ≤ n - base - 1 by omega)
      omega
    · obtain rfl : base = g' := by omega
      have hne : nextAt n W base nxt ≠ base := fun e => hg (hk e)
      have hnx : nextAt n W base nxt = nxt ∧ base < nxt ∧ nxt < min (base + W) n := by
        unfold nextAt at hne ⊢
        split at hne
        · exact absurd rfl hne
        · rename_i hc
          rw [if_neg hc]
          omega
      obtain ⟨q1, q2, q3⟩ := hnx
      rw [q1] at e1
      rw [q1, e1, e2]
      unfold remN
      rw [if_neg (show ¬ (nxt ≤ base ∨ min (base + W) n ≤ nxt) by omega)]
      split <;> omega
theorem nextAt_win {n W base nxt : Nat} (hW : 1 ≤ W) : nextAt n W base nxt < base + W := by
  unfold nextAt
  split <;> omega

/-- a sender whose messages all arrive, after i rounds -/
def EndS (w0 : World) (s r W : Nat) (fs : List (List UInt8)) (i : Nat) (w : World) : Prop :=
  ∃ ka kr v base nxt H g last nR FS FR FA air As Cs, NetC w0 w s r W fs ka kr v base nxt H g last nR FS FR FA air As Cs ∧ kr ≤ 100 + i ∧ (base < fs.length → i + mu fs.length W base g nxt ≤ fs.length * W)
theorem ends_start {w0 w : World} {s r W : Nat} {fs : List (List UInt8)} {ka kr : Nat} {v : Value} (hW : 1 ≤ W) (hk : kr ≤ 100) (h : Net w0 s r W fs ka kr v w) : EndS w0 s r W fs 0 w := by
  obtain ⟨base, nxt, H, g, last, nR, FS, FR, FA, air, As, Cs, h⟩ := h
  exact ⟨ka, kr, v, base, nxt, H, g, last, nR, FS, FR, FA, air, As, Cs, h, by omega, fun hb => by rw [Nat.zero_add]; exact mu_le hW hb⟩
def NextC (w0 : World) (s r W : Nat) (fs : List (List UInt8)) (ka kr : Nat) (v : Value) (base nxt : Nat) (H : Nat → Option (List UInt8)) (g : Nat) (last : Int) (nR : Nat) (FS FR FA : Nat → Prop) (air : List Msg) (As : Nat → Option Addr) (Cs : Nat → Nat) (e : Ending) (w' : World) : Prop :=
  ∃ (D : Option Addr) (d : Nat), e = .returned (.tuple #[.agg #[.bool (nextMsg fs W base nxt).ack, .int .i64 (nextMsg fs W base nxt).num, .bool (nextMsg fs W base nxt).last, .slice D (nextMsg fs W base nxt).data.length d], .bool true]) ∧ Bys w' D (nextMsg fs W base nxt).data ∧
    NetC w0 w' s r W fs ka kr v base (nextAt fs.length W base nxt + 1) H g last nR FS FR FA air As Cs
theorem netc_next {w0 w : World} {s r W : Nat} {fs : List (List UInt8)} {ka kr : Nat} {v : Value} {base nxt : Nat} {H : Nat → Option (List UInt8)} {g : Nat} {last : Int} {nR : Nat} {FS FR FA : Nat → Prop} {air : List Msg} {As : Nat → Option Addr} {Cs : Nat → Nat} (hF : NetF fs W)
    (h : NetC w0 w s r W fs ka kr v base nxt H g last nR FS FR FA air As Cs) (hb : base < fs.length) :
    Calls Try.prog 12 #[.pointer (some ⟨s, 0, none⟩)] w (NextC w0 s r W fs ka kr v base nxt H g last nR FS FR FA air As Cs) := by
  have hnx := h.nx
  have hl8 := hF.l8
  refine (next_any h.snd (by omega) (by omega) hF.w8 (by omega) (fun k hk => Nat.le_trans (hF.bd k hk) (by decide))).mono fun e w' hp => ?_
  obtain ⟨D, d, he, hby, hd, hC, hS⟩ := hp
  rw [decide_eq_true (show base ≠ fs.length by omega)] at he
  have hnn : nextNxt fs W base nxt = nextAt fs.length W base nxt + 1 := by unfold nextNxt; rw [if_neg (by omega)]
  rw [hnn] at hS
  have hss : ∀ i, i = s → FS i := fun i hi => hi ▸ h.snd.mem
  have hw0 := h.below.size
  have hlt := nextAt_lt (W := W) (nxt := nxt) hb
  exact ⟨D, d, he, hby.bys fun i hi => hi.2, { h with snd := hS, rcv := h.rcv.chg hC (fun i hi e => h.d1 i (hss i e) hi), own := h.own.agree (Agree.of_chg hC h.lt (fun i hi e => h.d2 i (hss i e) hi)), lt := h.lt.size hC.size, below := h.below.trans (hC.below (fun i hi e => by have := h.f1 i (hss i e); omega) hw0), nx := by omega }⟩
theorem newBase_ack {n base g' : Nat} (hb : base ≤ g') (hg : g' ≤ n) : newBase n base true (g' : Int) = g' := by
  unfold newBase
  split
  · rw [Int.toNat_natCast]
  · rename_i h
    by_cases e : base < g'
    · exact absurd ⟨rfl, by omega, by omega⟩ h
    · omega
end Go.Proofs.Ythhelhggggbaiaa
