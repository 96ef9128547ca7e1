/-
  The calls of DiskScript among the arguments.
-/
import Derived.Test.YtcmchnddnglnfaaTie
namespace Go.Proofs.Ytcmchnddnglnfaa
open Go.ChangeShapes Go.WideShapes Go.ChangeAt Go.RowKit
set_option linter.unusedVariables false
set_option linter.unusedSimpArgs false

theorem i64_bds {z : Int} (h : (Lit.int .i64 z).wf = true) : InR z := by
  have hmin : IntKind.i64.min = -9223372036854775808 := rfl
  have hmax : IntKind.i64.max = 9223372036854775807 := rfl
  simp only [Lit.wf, Bool.and_eq_true, decide_eq_true_eq] at h
  unfold InR
  omega
structure OpA where
  kind : Int
  num : Int
  data : List UInt8
  keep : List Bool
def zeroOp : OpA := ⟨0, 0, [], []⟩
theorem cellsOp : Try.prog.cellsOf 44 = 4 := by kernel_rfl
/-- one call, its cells from off on -/
def OpAt (w : World) (b off : Nat) (x : OpA) : Prop := ∃ A c K d, w.cell? ⟨b, off, none⟩ = some (.int .i64 x.kind) ∧ w.cell? ⟨b, off + 1, none⟩ = some (.int .i64 x.num) ∧ w.cell? ⟨b, off + 2, none⟩ = some (.slice A x.data.length c) ∧ w.cell? ⟨b, off + 3, none⟩ = some (.slice K x.keep.length d) ∧
  Bys w A x.data ∧ x.data.length ≤ c ∧ BoolsIn (fun i => i < w.heap.size) w K x.keep ∧ x.keep.length ≤ d
/-- the slice at A reads as these calls -/
def OpsIn (w : World) (A : Option Addr) (xs : List OpA) : Prop := 0 < xs.length → ∃ b off, A = some ⟨b, off, none⟩ ∧ b < w.heap.size ∧ ∀ k, k < xs.length → OpAt w b (off + k * 4) (xs.getD k zeroOp)
section
variable {H : Type} {enc : TypeId × Value → H}
theorem take1 {cs : List Value} {j n : Nat} (h : cs.length = n) (hj : j < n) : ∃ v, (cs.drop j).take 1 = [v] ∧ cs[j]? = some v := by
  refine ⟨cs[j]'(by omega), ?_, List.getElem?_eq_getElem (by omega)⟩
  rw [List.drop_eq_getElem_cons (by omega)]
  rfl
theorem open_op {W : World} {fuel : Nat} {cs : List Value} {x : DataW H × List MemPlace} (h : DataW.trod enc Try.prog W 0 (fun _ => true) true fuel 44 cs = some x) :
    cs.length = 4 ∧ ∃ (m : OpA) (A : Option Addr) (c : Nat) (K : Option Addr) (d : Nat), cs[0]? = some (.int .i64 m.kind) ∧ cs[1]? = some (.int .i64 m.num) ∧ cs[2]? = some (.slice A m.data.length c) ∧ cs[3]? = some (.slice K m.keep.length d) ∧ (Bys W A m.data ∧ m.data.length ≤ c ∧ BoolsIn (fun i => i < W.heap.size) W K m.keep ∧ m.keep.length ≤ d) ∧ InR m.kind ∧ InR m.num ∧ m.data.length ≤ maxLen ∧ m.keep.length ≤ maxLen := by
  have key := Go.Joins.trod_struct4 Try.underlying44 h
  obtain ⟨y0, y1, y2, y3, n, _, hl, h0, h1, h2, h3⟩ := key
  rw [cellsOp] at hl
  obtain ⟨v0, e0, g0⟩ := take1 hl (j := 0) (by omega)
  obtain ⟨v1, e1, g1⟩ := take1 hl (j := 1) (by omega)
  obtain ⟨v2, e2, g2⟩ := take1 hl (j := 2) (by omega)
  obtain ⟨v3, e3, g3⟩ := take1 hl (j := 3) (by omega)
  have k1 : Try.prog.cellsOf 3 = 1 := by kernel_rfl
  have k3 : Try.prog.cellsOf 30 = 1 := by kernel_rfl
  have h0' : DataW.trod enc Try.prog W 0 (fun _ => true) true n 3 ((cs.drop 0).take (Try.prog.cellsOf 3)) = some y0 := h0
  have h1' : DataW.trod enc Try.prog W 0 (fun _ => true) true n 3 ((cs.drop 1).take (Try.prog.cellsOf 3)) = some y1 := h1
  have h2' : DataW.trod enc Try.prog W 0 (fun _ => true) true n 22 ((cs.drop 2).take (Try.prog.cellsOf 22)) = some y2 := h2
  have h3' : DataW.trod enc Try.prog W 0 (fun _ => true) true n 30 ((cs.drop 3).take (Try.prog.cellsOf 30)) = some y3 := h3
  rw [k1, e0] at h0'
  rw [k1, e1] at h1'
  rw [cellsBytes, e2] at h2'
  rw [k3, e3] at h3'
  obtain ⟨a0, q0, _, hw0⟩ := DataW.trod_int Try.underlying3 h0'
  obtain ⟨a1, q1, _, hw1⟩ := DataW.trod_int Try.underlying3 h1'
  obtain ⟨A, c, bs, q2, hb, hm, hc⟩ := open_bytes h2'
  obtain ⟨K, d, ks, q3, hk, hmk, hck⟩ := open_bools0 h3'
  cases q0
  cases q1
  subst q2 q3
  exact ⟨hl, ⟨a0, a1, bs, ks⟩, A, c, K, d, g0, g1, g2, g3, ⟨hb, hc, hk, hck⟩, i64_bds hw0, i64_bds hw1, hm, hmk⟩
/-- a slice of calls, opened -/
theorem open_ops {r : Reach} {b0 : Nat} {W : World} {v : Value} {d : DataW H} {p : List MemPlace} (hv : Value.okWide Try.prog W r b0 40 v) (h : DataW.Trod enc Try.prog W 0 (fun _ => true) true 40 v d p) :
    ∃ A c ms, v = .slice A ms.length c ∧ OpsIn W A ms ∧ ms.length ≤ maxLen ∧ (∀ k, k < ms.length → InR (ms.getD k zeroOp).kind ∧ InR (ms.getD k zeroOp).num) := by
  obtain ⟨a0, n0, c0, rfl⟩ := okWide_slice Try.underlying40 hv
  obtain ⟨fuel, hf⟩ := h
  rcases Go.Deep.open_slice Try.underlying40 (show DataW.trod enc Try.prog W 0 (fun _ => true) true fuel 40 [.slice a0 n0 c0] = some (d, p) from hf) with ⟨e, _⟩ | ⟨a, len, cap, m, n, D, Pl, e, _, hlc, hcm, hm, _, hi⟩
  · cases e
    exact ⟨none, 0, [], rfl, fun h => absurd h (by simp), Nat.zero_le _, fun k hk => absurd hk (by simp)⟩
  · injection e with e _
    injection e with e1 e2 e3
    subst e1 e2 e3
    have hm' : m = c0 := hm
    rw [cellsOp] at hi
    have key : ∀ i, ∃ x : OpA, i < n0 → (∃ A c K d, W.cell? (a.add (i * 4)) = some (.int .i64 x.kind) ∧ W.cell? (a.add (i * 4 + 1)) = some (.int .i64 x.num) ∧ W.cell? (a.add (i * 4 + 2)) = some (.slice A x.data.length c) ∧ W.cell? (a.add (i * 4 + 3)) = some (.slice K x.keep.length d) ∧ (Bys W A x.data ∧ x.data.length ≤ c ∧ BoolsIn (fun i => i < W.heap.size) W K x.keep ∧ x.keep.length ≤ d)) ∧ InR x.kind ∧ InR x.num := fun i => by
      by_cases hlt : i < n0
      · obtain ⟨cs', hc, ht⟩ := hi i (by omega)
        obtain ⟨hl, x, A, c, K, d, g0, g1, g2, g3, g4, g5, g6, _⟩ := open_op ht
        obtain ⟨_, _, hat⟩ := World.cells?_some hc
        refine ⟨x, fun _ => ⟨⟨A, c, K, d, ?_, ?_, ?_, ?_, g4⟩, g5, g6⟩⟩
        · have := hat 0 (by omega)
          rw [Go.Deep.add_add] at this
          exact this.trans g0
        · rw [← Go.Deep.add_add, hat 1 (by omega), g1]
        · rw [← Go.Deep.add_add, hat 2 (by omega), g2]
        · rw [← Go.Deep.add_add, hat 3 (by omega), g3]
      · exact ⟨zeroOp, fun h => absurd h hlt⟩
    obtain ⟨f, hf2⟩ := Classical.axiomOfChoice key
    have hlen : ((List.range n0).map f).length = n0 := by simp
    have hget : ∀ k, k < n0 → ((List.range n0).map f).getD k zeroOp = f k := fun k hk => by simp [List.getD_eq_getElem?_getD, hk]
    refine ⟨some a, c0, (List.range n0).map f, by rw [hlen], fun hp => ?_, by omega, fun k hk => ?_⟩
    · rw [hlen] at hp
      obtain ⟨b, off, spot⟩ := a
      have hspot : spot = none := by
        obtain ⟨⟨A, c, K, d, h1, _⟩, _⟩ := hf2 0 hp
        simpa [Addr.add] using World.cell?_spot h1
      subst hspot
      obtain ⟨⟨_, _, _, _, h1, _⟩, _⟩ := hf2 0 hp
      refine ⟨b, off, rfl, ?_, fun k hk => ?_⟩
      · have := World.block_lt_of_cell? W _ h1
        rwa [show ((⟨b, off, none⟩ : Addr).add (0 * 4)).block = b from by unfold Addr.add; split <;> rfl] at this
      · rw [hlen] at hk
        obtain ⟨⟨A, c, K, d, h1, h2, h3, h4, h5⟩, _⟩ := hf2 k hk
        rw [hget k hk]
        rw [add_plain] at h1 h2 h3 h4
        refine ⟨A, c, K, d, h1, ?_, ?_, ?_, h5⟩
        · rw [Nat.add_assoc]; exact h2
        · rw [Nat.add_assoc]; exact h3
        · rw [Nat.add_assoc]; exact h4
    · rw [hlen] at hk
      obtain ⟨_, h7, h8⟩ := hf2 k hk
      rw [hget k hk]
      exact ⟨h7, h8⟩
end
end Go.Proofs.Ytcmchnddnglnfaa
