/-
  Lists of messages in memory; a law's messages opened.
-/
import Derived.Test.YthhelhggggbaiaaCut
import Derived.Lib.SmallJoins
namespace Go.Proofs.Ythhelhggggbaiaa
open Go.ChangeShapes Go.WideShapes Go.ChangeAt Go.RowKit
set_option linter.unusedVariables false
set_option linter.unusedSimpArgs false

structure Msg where
  ack : Bool
  num : Int
  last : Bool
  data : List UInt8
def zeroM : Msg := ⟨false, 0, false, []⟩
def Msg.val (m : Msg) (A : Option Addr) (c : Nat) : Value := .agg #[.bool m.ack, .int .i64 m.num, .bool m.last, .slice A m.data.length c]
/-- the four cells at an address are the message m -/
def MsAt (F : Nat → Prop) (w : World) (b off : Nat) (m : Msg) (A : Option Addr) (c : Nat) : Prop :=
  w.cell? ⟨b, off, none⟩ = some (.bool m.ack) ∧ w.cell? ⟨b, off + 1, none⟩ = some (.int .i64 m.num) ∧ w.cell? ⟨b, off + 2, none⟩ = some (.bool m.last) ∧ w.cell? ⟨b, off + 3, none⟩ = some (.slice A m.data.length c) ∧ BysIn F w A m.data ∧ m.data.length ≤ c
/-- the slice at A reads as the messages ms, in blocks of F -/
def MsIn (F : Nat → Prop) (w : World) (A : Option Addr) (ms : List Msg) : Prop :=
  0 < ms.length → ∃ b off, A = some ⟨b, off, none⟩ ∧ F b ∧ ∀ k, k < ms.length → ∃ Ak ck, MsAt F w b (off + k * 4) (ms.getD k zeroM) Ak ck
section
variable {F G : Nat → Prop} {w w' : World} {A : Option Addr} {ms : List Msg}
theorem MsAt.agree {b off c : Nat} {m : Msg} (h : MsAt F w b off m A c) (hg : Agree F w w') (hb : F b) : MsAt F w' b off m A c :=
  ⟨(World.cell?_of_block (hg b hb)).trans h.1, (World.cell?_of_block (hg b hb)).trans h.2.1, (World.cell?_of_block (hg b hb)).trans h.2.2.1, (World.cell?_of_block (hg b hb)).trans h.2.2.2.1, h.2.2.2.2.1.agree hg, h.2.2.2.2.2⟩
theorem MsAt.mono {b off c : Nat} {m : Msg} (h : MsAt F w b off m A c) (hs : ∀ i, F i → G i) : MsAt G w b off m A c := ⟨h.1, h.2.1, h.2.2.1, h.2.2.2.1, h.2.2.2.2.1.mono hs, h.2.2.2.2.2⟩
theorem MsIn.agree (h : MsIn F w A ms) (hg : Agree F w w') : MsIn F w' A ms := fun hp => by
  obtain ⟨b, off, e, hF, hc⟩ := h hp
  refine ⟨b, off, e, hF, fun k hk => ?_⟩
  obtain ⟨Ak, ck, h1⟩ := hc k hk
  exact ⟨Ak, ck, h1.agree hg hF⟩
theorem MsIn.mono (h : MsIn F w A ms) (hs : ∀ i, F i → G i) : MsIn G w A ms := fun hp => by
  obtain ⟨b, off, e, hF, hc⟩ := h hp
  refine ⟨b, off, e, hs b hF, fun k hk => ?_⟩
  obtain ⟨Ak, ck, h1⟩ := hc k hk
  exact ⟨Ak, ck, h1.mono hs⟩
theorem MsIn.at_ (h : MsIn F w A ms) {k : Nat} (hk : k < ms.length) : ∃ b off Ak ck, A = some ⟨b, off, none⟩ ∧ F b ∧ MsAt F w b (off + k * 4) (ms.getD k zeroM) Ak ck := by
  obtain ⟨b, off, e, hF, hc⟩ := h (by omega)
  obtain ⟨Ak, ck, h1⟩ := hc k hk
  exact ⟨b, off, Ak, ck, e, hF, h1⟩
end

section
variable {H : Type} {enc : TypeId × Value → H}
theorem take1 {cs : List Value} {j n : Nat} (h : cs.length = n) (hj : j < n) : ∃ v, (cs.drop j).take 1 = [v] ∧ cs[j]? = some v := by
  refine ⟨cs[j]'(by omega), ?_, List.getElem?_eq_getElem (by omega)⟩
  rw [List.drop_eq_getElem_cons (by omega)]
  rfl
/-- one message among the arguments -/
theorem open_msg {W : World} {fuel : Nat} {cs : List Value} {x : DataW H × List MemPlace} (h : DataW.trod enc Try.prog W 0 (fun _ => true) true fuel 34 cs = some x) :
    cs.length = 4 ∧ ∃ (m : Msg) (A : Option Addr) (c : Nat), cs[0]? = some (.bool m.ack) ∧ cs[1]? = some (.int .i64 m.num) ∧ cs[2]? = some (.bool m.last) ∧ cs[3]? = some (.slice A m.data.length c) ∧ Bys W A m.data ∧ m.data.length ≤ c ∧ InR m.num ∧ m.data.length ≤ maxLen := by
  have key := Go.Joins.trod_struct4 Try.underlying34 h
  obtain ⟨y0, y1, y2, y3, n, _, hl, h0, h1, h2, h3⟩ := key
  rw [cellsMsg] at hl
  obtain ⟨v0, e0, g0⟩ := take1 hl (j := 0) (by omega)
  obtain ⟨v1, e1, g1⟩ := take1 hl (j := 1) (by omega)
  obtain ⟨v2, e2, g2⟩ := take1 hl (j := 2) (by omega)
  obtain ⟨v3, e3, g3⟩ := take1 hl (j := 3) (by omega)
  have k0 : Try.prog.cellsOf 4 = 1 := by kernel_rfl
  have k1 : Try.prog.cellsOf 3 = 1 := by kernel_rfl
  have h0' : DataW.trod enc Try.prog W 0 (fun _ => true) true n 4 ((cs.drop 0).take (Try.prog.cellsOf 4)) = some y0 := h0
  have h1' : DataW.trod enc Try.prog W 0 (fun _ => true) true n 3 ((cs.drop 1).take (Try.prog.cellsOf 3)) = some y1 := h1
  have h2' : DataW.trod enc Try.prog W 0 (fun _ => true) true n 4 ((cs.drop 2).take (Try.prog.cellsOf 4)) = some y2 := h2
  have h3' : DataW.trod enc Try.prog W 0 (fun _ => true) true n 32 ((cs.drop 3).take (Try.prog.cellsOf 32)) = some y3 := h3
  rw [k0, e0] at h0'
  rw [k1, e1] at h1'
  rw [k0, e2] at h2'
  rw [cellsBytes, e3] at h3'
  obtain ⟨b0, q0, _⟩ := DataW.trod_bool Try.underlying4 h0'
  obtain ⟨a1, q1, _, hw1⟩ := DataW.trod_int Try.underlying3 h1'
  obtain ⟨b2, q2, _⟩ := DataW.trod_bool Try.underlying4 h2'
  obtain ⟨A, c, bs, q3, hb, hm, hc⟩ := open_bytes h3'
  cases q0
  cases q1
  cases q2
  subst q3
  exact ⟨hl, ⟨b0, a1, b2, bs⟩, A, c, g0, g1, g2, g3, hb, hc, i64_bd hw1, hm⟩
/-- a slice of messages, opened -/
theorem open_msgs {r : Reach} {b0 : Nat} {W : World} {v : Value} {d : DataW H} {p : List MemPlace} (hv : Value.okWide Try.prog W r b0 23 v) (h : DataW.Trod enc Try.prog W 0 (fun _ => true) true 23 v d p) :
    ∃ A c ms, v = .slice A ms.length c ∧ MsIn (fun i => i < W.heap.size) W A ms ∧ ms.length ≤ maxLen ∧ (∀ k, k < ms.length → InR (ms.getD k zeroM).num ∧ (ms.getD k zeroM).data.length ≤ maxLen) := by
  obtain ⟨a0, n0, c0, rfl⟩ := okWide_slice Try.underlying23 hv
  obtain ⟨fuel, hf⟩ := h
  rcases Go.Deep.open_slice Try.underlying23 (show DataW.trod enc Try.prog W 0 (fun _ => true) true fuel 23 [.slice a0 n0 c0] = some (d, p) from hf) with ⟨e, _⟩ | ⟨a, len, cap, m, n, D, Pl, e, _, hlc, hcm, hm, _, hi⟩
  · cases e
    exact ⟨none, 0, [], rfl, fun h => absurd h (by simp), Nat.zero_le _, fun k hk => absurd hk (by simp)⟩
  · injection e with e _
    injection e with e1 e2 e3
    subst e1 e2 e3
    have hm' : m = c0 := hm
    rw [cellsMsg] at hi
    have key : ∀ i, ∃ x : Msg, i < n0 → ∃ A c, W.cell? (a.add (i * 4)) = some (.bool x.ack) ∧ W.cell? (a.add (i * 4 + 1)) = some (.int .i64 x.num) ∧ W.cell? (a.add (i * 4 + 2)) = some (.bool x.last) ∧ W.cell? (a.add (i * 4 + 3)) = some (.slice A x.data.length c) ∧ Bys W A x.data ∧ x.data.length ≤ c ∧ InR x.num ∧ x.data.length ≤ maxLen := fun i => by
      by_cases hlt : i < n0
      · obtain ⟨cs', hc, ht⟩ := hi i (by omega)
        obtain ⟨hl, x, A, c, g0, g1, g2, g3, g4⟩ := open_msg ht
        obtain ⟨_, _, hat⟩ := World.cells?_some hc
        refine ⟨x, fun _ => ⟨A, c, ?_, ?_, ?_, ?_, g4⟩⟩
        · have := hat 0 (by omega)
          rw [Go.Deep.add_add] at this
          exact this.trans g0
        · rw [← Go.Deep.add_add, hat 1 (by omega), g1]
        · rw [← Go.Deep.add_add, hat 2 (by omega), g2]
        · rw [← Go.Deep.add_add, hat 3 (by omega), g3]
      · exact ⟨zeroM, fun h => absurd h hlt⟩
    obtain ⟨f, hf2⟩ := Classical.axiomOfChoice key
    have hlen : ((List.range n0).map f).length = n0 := by simp
    have hget : ∀ k, k < n0 → ((List.range n0).map f).getD k zeroM = f k := fun k hk => by simp [List.getD_eq_getElem?_getD, hk]
    refine ⟨some a, c0, (List.range n0).map f, by rw [hlen], fun hp => ?_, by omega, fun k hk => ?_⟩
    · rw [hlen] at hp
      obtain ⟨b, off, spot⟩ := a
      have hspot : spot = none := by
        obtain ⟨A, c, h1, _⟩ := hf2 0 hp
        simpa [Addr.add] using World.cell?_spot h1
      subst hspot
      obtain ⟨_, _, h1, _⟩ := hf2 0 hp
      refine ⟨b, off, rfl, ?_, fun k hk => ?_⟩
      · have := World.block_lt_of_cell? W _ h1
        rwa [show ((⟨b, off, none⟩ : Addr).add (0 * 4)).block = b from by unfold Addr.add; split <;> rfl] at this
      · rw [hlen] at hk
        obtain ⟨A, c, h1, h2, h3, h4, h5, h6, _⟩ := hf2 k hk
        rw [hget k hk]
        rw [add_plain] at h1 h2 h3 h4
        refine ⟨A, c, h1, ?_, ?_, ?_, h5, h6⟩
        · rw [Nat.add_assoc]; exact h2
        · rw [Nat.add_assoc]; exact h3
        · rw [Nat.add_assoc]; exact h4
    · rw [hlen] at hk
      obtain ⟨A, c, _, _, _, _, _, _, h7, h8⟩ := hf2 k hk
      rw [hget k hk]
      exact ⟨h7, h8⟩
end
end Go.Proofs.Ythhelhggggbaiaa
