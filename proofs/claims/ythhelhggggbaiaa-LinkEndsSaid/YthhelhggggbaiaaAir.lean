/-
  A message is taken out of a list of messages: 'append(append([]api.Message(nil), l[:k]...), l[k+1:]...)'; the steps of a network, opened.
-/
import Derived.Test.YthhelhggggbaiaaPlainN
import Derived.Test.YthhelhggggbaiaaFrame
import Derived.Test.YthhelhggggbaiaaMsgs
import Derived.Deep.Strs
namespace Go.Proofs.Ythhelhggggbaiaa
open Go.ChangeShapes Go.WideShapes Go.ChangeAt Go.RowKit
set_option linter.unusedVariables false
set_option linter.unusedSimpArgs false

/-- a part of the new list -/
def Part (w0 w : World) (v : Value) (n : Nat) (xs : List Value) : Prop := w.ownsRow w0.heap.size 34 4 v n xs ∧ Below w0.heap.size w0 w
theorem Part.start (w0 : World) : Part w0 w0 (.slice none 0 0) 0 [] := ⟨⟨rfl, .inl ⟨rfl, rfl⟩⟩, Below.refl _ _⟩
theorem one_cells (ms : List Msg) (As : Nat → Option Addr) (Cs : Nat → Nat) : ∀ u ∈ msVals ms As Cs, u.oneCell' = true := fun u hu => by
  unfold msVals at hu
  obtain ⟨i, _, rfl⟩ := List.mem_map.1 hu
  unfold cellOf
  split <;> rfl
theorem part_own {w0 w : World} {v : Value} {n : Nat} {xs : List Value} (h : Part w0 w v n xs) : ∀ i, v.ownBlock = some i → w0.heap.size ≤ i := fun i hi => by
  rcases h.1.2 with ⟨hv, _⟩ | ⟨g, cap, cur, hv, hb, _⟩
  · rw [hv] at hi; cases hi
  · rw [hv] at hi
    injection hi with hi
    subst hi
    exact hb
theorem step_append_part {w0 w : World} {ops : Array Oper} {o : Oper} {a : Act} {K : Act → World → Prop} {Q : Exit → Act → World → Prop} {E : Prop} (hgd : o.guard = none) (s x : Operand)
    (ho : o.op = .call { callee := .builtin .append, args := #[s, x], argTypes := #[23, 23] })
    (v : Value) (n : Nat) (xs : List Value) (hs : a.eval s = v) (hp : Part w0 w v n xs) (b off m c : Nat) (news : List Value) (hx : a.eval x = .slice (some ⟨b, off, none⟩) m c) (hl : news.length = m * 4) (hnews : ∀ j u, news[j]? = some u → w0.cell? ⟨b, off + j, none⟩ = some u)
    (hb : b < w0.heap.size) (h1 : ∀ u ∈ news, u.oneCell' = true) (hnm : n + m ≤ 1000)
    (h : ∀ v' w', Part w0 w' v' (n + m) (xs ++ news) → K (a.put o.dst v') w') :
    if Region.wanted o (yielded ops a.tmps) = true then Oper.wp Try.prog o a w K Q else E := by
  obtain ⟨i0, hi, hz0, hz1, hz2⟩ := info_parts msginfo
  have hw : Region.wanted o (yielded ops a.tmps) = true := by simp [Region.wanted, hgd]
  rw [if_pos hw]
  obtain ⟨v', w', hr, h2, h3, _, h5⟩ := run_append_own_at (P := Try.prog) w w0.heap.size 23 o.type 34 i0 (.agg #[.bool false, .int .i64 0, .bool false, .slice none 0 0]) 4 48 Try.underlying23 hi hz0 hz1 hz2 rfl (by decide) v n xs hp.1 ⟨b, off, none⟩ m c news hl (fun j u hj => by
      rw [add_plain, World.cell?_of_block (hp.2.block b hb)]
      exact hnews j u hj) h1 (by unfold maxLen; omega) (by omega) hp.2.size
  unfold Oper.wp execOp
  simp only [ho, resolve, invoke, builtin, Sem.run_bind, Sem.run_pure, Result.andThen_ok, List.map_toArray, List.map_cons, List.map_nil, hs, hx, hr]
  refine h v' w' ⟨h2, ⟨h3.os.trans hp.2.os, h3.tape.trans hp.2.tape, h3.output.trans hp.2.output, Nat.le_trans hp.2.size h3.size, fun i hi => ?_⟩⟩
  rw [h3.block i (Nat.lt_of_lt_of_le hi hp.2.size) (fun e => by have := part_own hp i e.symm; omega)]
  exact hp.2.block i hi

/-- the list without its message k -/
def without (ms : List Msg) (k : Nat) : List Msg := ms.take k ++ ms.drop (k + 1)
theorem without_length {ms : List Msg} {k : Nat} (hk : k < ms.length) : (without ms k).length = k + (ms.length - (k + 1)) := by
  unfold without
  rw [List.length_append, List.length_take, List.length_drop]
  omega
theorem without_at {ms : List Msg} {k j : Nat} (hk : k < ms.length) : (without ms k).getD j zeroM = if j < k then ms.getD j zeroM else ms.getD (j + 1) zeroM := by
  unfold without
  rw [List.getD_eq_getElem?_getD]
  split
  · rw [List.getElem?_append_left (by rw [List.length_take]; omega), List.getElem?_take_of_lt (by assumption), List.getD_eq_getElem?_getD]
  · rw [List.getElem?_append_right (by rw [List.length_take]; omega), List.length_take, List.getElem?_drop, List.getD_eq_getElem?_getD, Nat.min_eq_left (by omega)]
    congr 2
    omega
theorem msVals_ext {ms : List Msg} {As : Nat → Option Addr} {Cs : Nat → Nat} {xs : List Value} (hl : xs.length = ms.length * 4) (h : ∀ k j, k < ms.length → j < 4 → xs[k * 4 + j]? = some (cellOf (ms.getD k zeroM) (As k) (Cs k) j)) : xs = msVals ms As Cs := by
  apply List.ext_getElem?
  intro i
  rcases Nat.lt_or_ge i (ms.length * 4) with hlt | hge
  · obtain ⟨k, j, rfl, hj, hk⟩ : ∃ k j, i = k * 4 + j ∧ j < 4 ∧ k < ms.length := ⟨i / 4, i % 4, by omega, by omega, by omega⟩
    rw [h k j hk hj, msVals_at _ _ _ hk hj]
  · rw [List.getElem?_eq_none (by omega), List.getElem?_eq_none (by rw [msVals_length]; exact hge)]
section
variable {F : Nat → Prop} {w w' : World} {v v' : Value} {ms : List Msg} {As : Nat → Option Addr} {Cs : Nat → Nat}
theorem OwnMs.cells (h : OwnMs F w v ms As Cs) (hp : 0 < ms.length) : ∃ g cap, v = .slice (some ⟨g, 0, none⟩) ms.length cap ∧ ms.length ≤ cap ∧ g < w.heap.size ∧ F g ∧ ∀ j u, (msVals ms As Cs)[j]? = some u → w.cell? ⟨g, j, none⟩ = some u := by
  obtain ⟨h1, h2, h3⟩ := h
  have hlt := ownsRow_lt h1
  rcases h1.2 with ⟨hv, hn⟩ | ⟨g, cap, cur, hv, hb, hg, hc, hm, hz, ht⟩
  · omega
  · have hown : v.ownBlock = some g := by rw [hv]; rfl
    refine ⟨g, cap, hv, hc, hlt g hown, h2 g hown, fun j u hj => ?_⟩
    have hjl : j < ms.length * 4 := by
      rw [← msVals_length ms As Cs]
      exact (List.getElem?_eq_some_iff.1 hj).1
    rw [cell_of_row w g j _ 34 (0, 0) hg, ← hj, ← ht, List.getElem?_take_of_lt (by omega)]
    simp
theorem OwnMs.without (h : OwnMs F w v ms As Cs) (hl : Lt F w) {k : Nat} (hk : k < ms.length) (hp : Part w w' v' (k + (ms.length - (k + 1))) (([] ++ (msVals ms As Cs).take (k * 4)) ++ (msVals ms As Cs).drop ((k + 1) * 4))) :
    OwnMs (fun i => F i ∨ v'.ownBlock = some i) w' v' (without ms k) (fun j => if j < k then As j else As (j + 1)) (fun j => if j < k then Cs j else Cs (j + 1)) := by
  have e : ([] ++ (msVals ms As Cs).take (k * 4)) ++ (msVals ms As Cs).drop ((k + 1) * 4) = msVals (Go.Proofs.Ythhelhggggbaiaa.without ms k) (fun j => if j < k then As j else As (j + 1)) (fun j => if j < k then Cs j else Cs (j + 1)) := by
    rw [List.nil_append]
    apply msVals_ext
    · rw [List.length_append, List.length_take, List.length_drop, msVals_length, without_length hk]; omega
    · intro i j hi hj
      rw [without_length hk] at hi
      rw [without_at hk]
      by_cases hik : i < k
      · rw [if_pos hik, if_pos hik, if_pos hik, List.getElem?_append_left (by rw [List.length_take, msVals_length]; omega), List.getElem?_take_of_lt (by omega), msVals_at _ _ _ (by omega) hj]
      · rw [if_neg hik, if_neg hik, if_neg hik, List.getElem?_append_right (by rw [List.length_take, msVals_length]; omega), List.length_take, msVals_length, List.getElem?_drop, ← msVals_at ms As Cs (k := i + 1) (by omega) hj]
        congr 1
        omega
  have hag : Agree F w w' := Agree.of_below hp.2 hl
  rw [e] at hp
  refine ⟨by rw [without_length hk]; exact ⟨hp.1.1, hp.1.2.imp id fun ⟨g, cap, cur, q1, q2, q3⟩ => ⟨g, cap, cur, q1, Nat.zero_le _, q3⟩⟩, fun g hg => .inr hg, fun j hj => ?_⟩
  rw [without_length hk] at hj
  rw [without_at hk]
  have hsub : ∀ i, (F i ∧ v.ownBlock ≠ some i) → ((F i ∨ v'.ownBlock = some i) ∧ v'.ownBlock ≠ some i) := fun i hi => ⟨.inl hi.1, fun e => by
    have h1 := part_own hp i e
    have h2 := hl i hi.1
    omega⟩
  by_cases hjk : j < k
  · simp only [if_pos hjk]
    exact ⟨((h.2.2 j (by omega)).1.agree (hag.mono fun i hi => hi.1)).mono hsub, (h.2.2 j (by omega)).2⟩
  · simp only [if_neg hjk]
    exact ⟨((h.2.2 (j + 1) (by omega)).1.agree (hag.mono fun i hi => hi.1)).mono hsub, (h.2.2 (j + 1) (by omega)).2⟩
end

/-- one step of a network -/
structure Stp where
  kind : Int
  num : Int
  twice : Bool
def zeroS : Stp := ⟨0, 0, false⟩
/-- the slice at A reads as the steps xs -/
def StIn (w : World) (A : Option Addr) (xs : List Stp) : Prop :=
  0 < xs.length → ∃ b off, A = some ⟨b, off, none⟩ ∧ b < w.heap.size ∧ ∀ k, k < xs.length → w.cell? ⟨b, off + k * 3, none⟩ = some (.int .i64 (xs.getD k zeroS).kind) ∧ w.cell? ⟨b, off + k * 3 + 1, none⟩ = some (.int .i64 (xs.getD k zeroS).num) ∧ w.cell? ⟨b, off + k * 3 + 2, none⟩ = some (.bool (xs.getD k zeroS).twice)
theorem StIn.kept {w w' : World} {A : Option Addr} {xs : List Stp} (h : StIn w A xs) (hb : Below w.heap.size w w') : StIn w' A xs := fun hp => by
  obtain ⟨b, off, e, hlt, hc⟩ := h hp
  refine ⟨b, off, e, Nat.lt_of_lt_of_le hlt hb.size, fun k hk => ?_⟩
  obtain ⟨h1, h2, h3⟩ := hc k hk
  exact ⟨(World.cell?_of_block (hb.block b hlt)).trans h1, (World.cell?_of_block (hb.block b hlt)).trans h2, (World.cell?_of_block (hb.block b hlt)).trans h3⟩
section
variable {H : Type} {enc : TypeId × Value → H}
theorem open_step {W : World} {fuel : Nat} {cs : List Value} {x : DataW H × List MemPlace} (h : DataW.trod enc Try.prog W 0 (fun _ => true) true fuel 73 cs = some x) :
    cs.length = 3 ∧ ∃ (m : Stp), cs[0]? = some (.int .i64 m.kind) ∧ cs[1]? = some (.int .i64 m.num) ∧ cs[2]? = some (.bool m.twice) ∧ InR m.kind ∧ InR m.num := by
  have key := Go.Deep.trod_struct3 Try.underlying73 h
  obtain ⟨y0, y1, y2, n, _, hl, h0, h1, h2⟩ := key
  rw [cellsStep] at hl
  obtain ⟨v0, e0, g0⟩ := take1 hl (j := 0) (by omega)
  obtain ⟨v1, e1, g1⟩ := take1 hl (j := 1) (by omega)
  obtain ⟨v2, e2, g2⟩ := take1 hl (j := 2) (by omega)
  have k0 : Try.prog.cellsOf 4 = 1 := by kernel_rfl
  have k1 : Try.prog.cellsOf 3 = 1 := by kernel_rfl
  have h0' : DataW.trod enc Try.prog W 0 (fun _ => true) true n 3 ((cs.drop 0).take (Try.prog.cellsOf 3)) = some y0 := h0
  have h1' : DataW.trod enc Try.prog W 0 (fun _ => true) true n 3 ((cs.drop 1).take (Try.prog.cellsOf 3)) = some y1 := h1
  have h2' : DataW.trod enc Try.prog W 0 (fun _ => true) true n 4 ((cs.drop 2).take (Try.prog.cellsOf 4)) = some y2 := h2
  rw [k1, e0] at h0'
  rw [k1, e1] at h1'
  rw [k0, e2] at h2'
  obtain ⟨a0, q0, _, hw0⟩ := DataW.trod_int Try.underlying3 h0'
  obtain ⟨a1, q1, _, hw1⟩ := DataW.trod_int Try.underlying3 h1'
  obtain ⟨b2, q2, _⟩ := DataW.trod_bool Try.underlying4 h2'
  cases q0
  cases q1
  cases q2
  exact ⟨hl, ⟨a0, a1, b2⟩, g0, g1, g2, i64_bd hw0, i64_bd hw1⟩
/-- a slice of steps, opened -/
theorem open_steps {r : Reach} {b0 : Nat} {W : World} {v : Value} {d : DataW H} {p : List MemPlace} (hv : Value.okWide Try.prog W r b0 53 v) (h : DataW.Trod enc Try.prog W 0 (fun _ => true) true 53 v d p) :
    ∃ A c ms, v = .slice A ms.length c ∧ StIn W A ms ∧ ms.length ≤ maxLen ∧ (∀ k, k < ms.length → InR (ms.getD k zeroS).kind ∧ InR (ms.getD k zeroS).num) := by
  obtain ⟨a0, n0, c0, rfl⟩ := okWide_slice Try.underlying53 hv
  obtain ⟨fuel, hf⟩ := h
  rcases Go.Deep.open_slice Try.underlying53 (show DataW.trod enc Try.prog W 0 (fun _ => true) true fuel 53 [.slice a0 n0 c0] = some (d, p) from hf) with ⟨e, _⟩ | ⟨a, len, cap, m, n, D, Pl, e, _, hlc, hcm, hm, _, hi⟩
  · cases e
    exact ⟨none, 0, [], rfl, fun h => absurd h (by simp), Nat.zero_le _, fun k hk => absurd hk (by simp)⟩
  · injection e with e _
    injection e with e1 e2 e3
    subst e1 e2 e3
    have hm' : m = c0 := hm
    rw [cellsStep] at hi
    have key : ∀ i, ∃ x : Stp, i < n0 → W.cell? (a.add (i * 3)) = some (.int .i64 x.kind) ∧ W.cell? (a.add (i * 3 + 1)) = some (.int .i64 x.num) ∧ W.cell? (a.add (i * 3 + 2)) = some (.bool x.twice) ∧ InR x.kind ∧ InR x.num := fun i => by
      by_cases hlt : i < n0
      · obtain ⟨cs', hc, ht⟩ := hi i (by omega)
        obtain ⟨hl, x, g0, g1, g2, g4⟩ := open_step ht
        obtain ⟨_, _, hat⟩ := World.cells?_some hc
        refine ⟨x, fun _ => ⟨?_, ?_, ?_, g4⟩⟩
        · have := hat 0 (by omega)
          rw [Go.Deep.add_add] at this
          exact this.trans g0
        · rw [← Go.Deep.add_add, hat 1 (by omega), g1]
        · rw [← Go.Deep.add_add, hat 2 (by omega), g2]
      · exact ⟨zeroS, fun h => absurd h hlt⟩
    obtain ⟨f, hf2⟩ := Classical.axiomOfChoice key
    have hlen : ((List.range n0).map f).length = n0 := by simp
    have hget : ∀ k, k < n0 → ((List.range n0).map f).getD k zeroS = f k := fun k hk => by simp [List.getD_eq_getElem?_getD, hk]
    refine ⟨some a, c0, (List.range n0).map f, by rw [hlen], fun hp => ?_, by omega, fun k hk => ?_⟩
    · rw [hlen] at hp
      obtain ⟨b, off, spot⟩ := a
      have hspot : spot = none := by
        have h1 := (hf2 0 hp).1
        simpa [Addr.add] using World.cell?_spot h1
      subst hspot
      have h1 := (hf2 0 hp).1
      refine ⟨b, off, rfl, ?_, fun k hk => ?_⟩
      · have := World.block_lt_of_cell? W _ h1
        rwa [show ((⟨b, off, none⟩ : Addr).add (0 * 3)).block = b from by unfold Addr.add; split <;> rfl] at this
      · rw [hlen] at hk
        obtain ⟨h1, h2, h3, _⟩ := hf2 k hk
        rw [hget k hk]
        rw [add_plain] at h1 h2 h3
        refine ⟨h1, ?_, ?_⟩
        · rw [Nat.add_assoc]; exact h2
        · rw [Nat.add_assoc]; exact h3
    · rw [hlen] at hk
      obtain ⟨_, _, _, h7, h8⟩ := hf2 k hk
      rw [hget k hk]
      exact ⟨h7, h8⟩
end
end Go.Proofs.Ythhelhggggbaiaa
