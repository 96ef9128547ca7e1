/-
  The reference's receiver in memory.
-/
import Derived.Test.YthhelhggggbaiaaNextAny
namespace Go.Proofs.Ythhelhggggbaiaa
open Go.RowKit
set_option linter.unusedVariables false
set_option linter.unusedSimpArgs false

theorem msginfo : (Try.prog.info? 34).map (fun i => (i.zero, i.size, i.bytes)) = some (some (.agg #[.bool false, .int .i64 0, .bool false, .slice none 0 0]), 4, 48) := by kernel_rfl

def cellOf (m : Msg) (A : Option Addr) (c : Nat) : Nat → Value
  | 0 => .bool m.ack
  | 1 => .int .i64 m.num
  | 2 => .bool m.last
  | _ => .slice A m.data.length c
def msVals (ms : List Msg) (As : Nat → Option Addr) (Cs : Nat → Nat) : List Value := (List.range (ms.length * 4)).map fun i => cellOf (ms.getD (i / 4) zeroM) (As (i / 4)) (Cs (i / 4)) (i % 4)
theorem msVals_length (ms : List Msg) (As : Nat → Option Addr) (Cs : Nat → Nat) : (msVals ms As Cs).length = ms.length * 4 := by simp [msVals]
theorem msVals_at (ms : List Msg) (As : Nat → Option Addr) (Cs : Nat → Nat) {k j : Nat} (hk : k < ms.length) (hj : j < 4) : (msVals ms As Cs)[k * 4 + j]? = some (cellOf (ms.getD k zeroM) (As k) (Cs k) j) := by
  have h1 : k * 4 + j < ms.length * 4 := by omega
  have h2 : (k * 4 + j) / 4 = k := by omega
  have h3 : (k * 4 + j) % 4 = j := by omega
  unfold msVals
  rw [List.getElem?_map, List.getElem?_range h1]
  simp only [Option.map_some, h2, h3]
theorem msVals_push (ms : List Msg) (As : Nat → Option Addr) (Cs : Nat → Nat) (m : Msg) (A : Option Addr) (c : Nat) :
    msVals ms As Cs ++ [.bool m.ack, .int .i64 m.num, .bool m.last, .slice A m.data.length c] = msVals (ms ++ [m]) (fun k => if k = ms.length then A else As k) (fun k => if k = ms.length then c else Cs k) := by
  apply List.ext_getElem?
  intro i
  rcases Nat.lt_or_ge i (ms.length * 4) with h | h
  · rw [List.getElem?_append_left (by rw [msVals_length]; exact h)]
    obtain ⟨k, j, rfl, hj, hk⟩ : ∃ k j, i = k * 4 + j ∧ j < 4 ∧ k < ms.length := ⟨i / 4, i % 4, by omega, by omega, by omega⟩
    rw [msVals_at ms As Cs hk hj, msVals_at (ms ++ [m]) _ _ (by simp; omega) hj]
    have hne : k ≠ ms.length := by omega
    simp [List.getD_eq_getElem?_getD, List.getElem?_append, hk, hne]
  · rw [List.getElem?_append_right (by rw [msVals_length]; exact h), msVals_length]
    rcases Nat.lt_or_ge i (ms.length * 4 + 4) with h2 | h2
    · obtain ⟨j, rfl, hj⟩ : ∃ j, i = ms.length * 4 + j ∧ j < 4 := ⟨i - ms.length * 4, by omega, by omega⟩
      rw [msVals_at (ms ++ [m]) _ _ (by simp) hj, Nat.add_sub_cancel_left]
      simp only [List.getD_eq_getElem?_getD, List.getElem?_concat_length, Option.getD_some, if_true]
      match j, hj with
      | 0, _ => rfl
      | 1, _ => rfl
      | 2, _ => rfl
      | 3, _ => rfl
    · rw [List.getElem?_eq_none (by simp; omega), List.getElem?_eq_none (by rw [msVals_length]; simp; omega)]

/-- a list of messages to which the program appends: the value v -/
def OwnMs (F : Nat → Prop) (w : World) (v : Value) (ms : List Msg) (As : Nat → Option Addr) (Cs : Nat → Nat) : Prop :=
  w.ownsRow 0 34 4 v ms.length (msVals ms As Cs) ∧ (∀ g, v.ownBlock = some g → F g) ∧ ∀ k, k < ms.length → BysIn (fun b => F b ∧ v.ownBlock ≠ some b) w (As k) (ms.getD k zeroM).data ∧ (ms.getD k zeroM).data.length ≤ Cs k
section
variable {F G : Nat → Prop} {w w' w3 : World} {v v' : Value} {ms : List Msg} {As : Nat → Option Addr} {Cs : Nat → Nat}
theorem OwnMs.nil (F : Nat → Prop) (w : World) : OwnMs F w (.slice none 0 0) [] (fun _ => none) (fun _ => 0) :=
  ⟨⟨rfl, .inl ⟨rfl, rfl⟩⟩, fun g e => (by cases e), fun k hk => absurd hk (by simp)⟩
theorem OwnMs.agree (h : OwnMs F w v ms As Cs) (hg : Agree F w w') : OwnMs F w' v ms As Cs :=
  ⟨ownsRow_heap h.1 fun g e => hg g (h.2.1 g e), h.2.1, fun k hk => ⟨(h.2.2 k hk).1.agree (hg.mono fun i hi => hi.1), (h.2.2 k hk).2⟩⟩
theorem OwnMs.mono (h : OwnMs F w v ms As Cs) (hs : ∀ i, F i → G i) : OwnMs G w v ms As Cs :=
  ⟨h.1, fun g e => hs g (h.2.1 g e), fun k hk => ⟨(h.2.2 k hk).1.mono fun i hi => ⟨hs i hi.1, hi.2⟩, (h.2.2 k hk).2⟩⟩
theorem OwnMs.shape (h : OwnMs F w v ms As Cs) : ∃ A c, v = .slice A ms.length c ∧ ms.length ≤ c ∧ (∀ g, v.ownBlock = some g → g < w.heap.size) ∧ MsIn F w A ms := by
  obtain ⟨h1, h2, h3⟩ := h
  have hlt := ownsRow_lt h1
  rcases h1.2 with ⟨hv, hn⟩ | ⟨g, cap, cur, hv, hb, hg, hc, hm, hz, ht⟩
  · obtain rfl := List.length_eq_zero_iff.1 hn
    exact ⟨none, 0, hv, Nat.le_refl _, hlt, fun h => absurd h (by simp)⟩
  · have hown : v.ownBlock = some g := by rw [hv]; rfl
    refine ⟨some ⟨g, 0, none⟩, cap, hv, hc, hlt, fun hp => ⟨g, 0, rfl, h2 g hown, fun k hk => ?_⟩⟩
    have key : ∀ j, j < 4 → w.cell? ⟨g, 0 + k * 4 + j, none⟩ = some (cellOf (ms.getD k zeroM) (As k) (Cs k) j) := fun j hj => by
      rw [cell_of_row w g _ _ 34 (0, 0) hg, ← msVals_at ms As Cs hk hj, ← ht, List.getElem?_take_of_lt (by omega), Nat.zero_add]
      simp
    exact ⟨As k, Cs k, key 0 (by omega), key 1 (by omega), key 2 (by omega), key 3 (by omega), (h3 k hk).1.mono fun i hi => hi.1, (h3 k hk).2⟩
theorem OwnMs.push (h : OwnMs F w v ms As Cs) (hl : Lt F w) {m : Msg} {A : Option Addr} {c : Nat} (hb : BysIn (fun b => F b ∧ v.ownBlock ≠ some b) w A m.data) (hc : m.data.length ≤ c)
    (ho : w'.ownsRow 0 34 4 v' (ms.length + 1) (msVals ms As Cs ++ [.bool m.ack, .int .i64 m.num, .bool m.last, .slice A m.data.length c])) (hg : w.grownBy w' v.ownBlock) (hor : v'.ownBlock = v.ownBlock ∨ v'.ownBlock = some w.heap.size) :
    OwnMs (fun b => F b ∨ v'.ownBlock = some b) w' v' (ms ++ [m]) (fun k => if k = ms.length then A else As k) (fun k => if k = ms.length then c else Cs k) := by
  have hag : Agree (fun b => F b ∧ v.ownBlock ≠ some b) w w' := fun i hi => hg.block i (hl i hi.1) fun e => hi.2 e.symm
  have hsub : ∀ i, (F i ∧ v.ownBlock ≠ some i) → ((F i ∨ v'.ownBlock = some i) ∧ v'.ownBlock ≠ some i) := fun i hi => by
    refine ⟨.inl hi.1, ?_⟩
    rcases hor with hb | hb <;> rw [hb]
    · exact hi.2
    · intro e
      injection e with e
      have := hl i hi.1
      omega
  rw [msVals_push] at ho
  refine ⟨by rw [List.length_append]; exact ho, fun g e => .inr e, fun k hk => ?_⟩
  rw [List.length_append, List.length_singleton] at hk
  by_cases e : k = ms.length
  · subst e
    simp only [List.getD_eq_getElem?_getD, List.getElem?_concat_length, Option.getD_some, if_true]
    exact ⟨(hb.agree hag).mono hsub, hc⟩
  · have hk' : k < ms.length := by omega
    have e2 : (ms ++ [m]).getD k zeroM = ms.getD k zeroM := by simp [List.getD_eq_getElem?_getD, List.getElem?_append, hk']
    rw [e2]
    simp only [if_neg e]
    exact ⟨((h.2.2 k hk').1.agree hag).mono hsub, (h.2.2 k hk').2⟩
end

/-- block t is the reference's receiver that has accepted the messages L -/
structure RefR (F : Nat → Prop) (w : World) (t W : Nat) (L : List Msg) : Prop where
  box : ∃ v As Cs, Box w t 51 #[.int .i64 (W : Int), v] ∧ OwnMs (fun i => F i ∧ i ≠ t) w v L As Cs
  mem : F t
  lt : Lt F w
section
variable {F G : Nat → Prop} {w w' w3 : World} {t W : Nat} {L : List Msg}
theorem RefR.agree (h : RefR F w t W L) (ha : Agree F w w') (hl : w.heap.size ≤ w'.heap.size) : RefR F w' t W L := by
  obtain ⟨v, As, Cs, h1, h2⟩ := h.box
  exact ⟨⟨v, As, Cs, h1.agree ha h.mem, h2.agree (ha.mono fun i hi => hi.1)⟩, h.mem, h.lt.size hl⟩
theorem RefR.chg {M : Nat → Prop} (h : RefR F w t W L) (hc : Chg M w w') (hs : ∀ i, F i → ¬ M i) : RefR F w' t W L := h.agree (Agree.of_chg hc h.lt hs) hc.size
theorem RefR.kept (h : RefR F w t W L) (hb : Below w.heap.size w w') : RefR F w' t W L := h.agree (Agree.of_below hb h.lt) hb.size
theorem RefR.here (h : RefR F w t W L) : t < w.heap.size := h.lt t h.mem
theorem RefR.cells (h : RefR F w t W L) : ∃ A c, L.length ≤ c ∧ w.cell? ⟨t, 0, none⟩ = some (.int .i64 (W : Int)) ∧ w.cell? ⟨t, 1, none⟩ = some (.slice A L.length c) ∧ (∀ i, w.frozen? ⟨t, i, none⟩ = false) ∧ MsIn F w A L := by
  obtain ⟨v, As, Cs, h1, h2⟩ := h.box
  obtain ⟨A, c, rfl, hc, _, hfr⟩ := h2.shape
  exact ⟨A, c, hc, h1.cell 0, h1.cell 1, fun i => h1.frozen i, hfr.mono fun i hi => hi.1⟩
theorem RefR.new (w : World) (W : Nat) : RefR (fun i => i = w.heap.size) (w.alloc (.cells #[.int .i64 (W : Int), .slice none 0 0] 51)) w.heap.size W [] :=
  ⟨⟨.slice none 0 0, _, _, Box.new _ _ _, OwnMs.nil _ _⟩, rfl, fun i hi => by subst hi; simp⟩
theorem RefR.mono (h : RefR F w t W L) (hF : ∀ i, F i → G i) (hG : Lt G w) : RefR G w t W L := by
  obtain ⟨v, As, Cs, h1, h2⟩ := h.box
  exact ⟨⟨v, As, Cs, h1, h2.mono fun i hi => ⟨hF i hi.1, hi.2⟩⟩, hF t h.mem, hG⟩
end
end Go.Proofs.Ythhelhggggbaiaa
