/-
  The reference's receiver: has and Got.
-/
import Derived.Test.YthhelhggggbaiaaRefMem
namespace Go.Proofs.Ythhelhggggbaiaa
open Go.RowKit
set_option linter.unusedVariables false
set_option linter.unusedSimpArgs false

def hasL (L : List Msg) (n : Int) : Option Msg := L.find? fun m => decide (m.num = n)
theorem hasL_none {L : List Msg} {n : Int} (h : ∀ j, j < L.length → (L.getD j zeroM).num ≠ n) : hasL L n = none := by
  unfold hasL
  rw [List.find?_eq_none]
  intro m hm
  obtain ⟨j, hj, rfl⟩ := List.mem_iff_getElem.1 hm
  have := h j hj
  rw [List.getD_eq_getElem?_getD, List.getElem?_eq_getElem hj] at this
  simpa using this
theorem hasL_some {L : List Msg} {n : Int} {k : Nat} (hk : k < L.length) (he : (L.getD k zeroM).num = n) (h : ∀ j, j < k → (L.getD j zeroM).num ≠ n) : hasL L n = some (L.getD k zeroM) := by
  unfold hasL
  have e : L = L.take k ++ L.getD k zeroM :: L.drop (k + 1) := by
    rw [List.getD_eq_getElem?_getD, List.getElem?_eq_getElem hk, Option.getD_some]
    rw [List.getElem_cons_drop, List.take_append_drop]
  have hn : (L.take k).find? (fun m => decide (m.num = n)) = none := by
    rw [List.find?_eq_none]
    intro m hm
    obtain ⟨j, hj, rfl⟩ := List.mem_iff_getElem.1 hm
    rw [List.length_take] at hj
    have := h j (by omega)
    rw [List.getD_eq_getElem?_getD, List.getElem?_eq_getElem (by omega)] at this
    simpa using this
  conv => lhs; rw [e]
  rw [List.find?_append, hn, Option.none_or, List.find?_cons_of_pos (by simpa using he)]
def HasPost (F : Nat → Prop) (w : World) (L : List Msg) (n : Int) (e : Ending) (w' : World) : Prop :=
  (hasL L n = none ∧ NoMsg w e w') ∨ ∃ m A c, hasL L n = some m ∧ e = .returned (.tuple #[.agg #[.bool m.ack, .int .i64 m.num, .bool m.last, .slice A m.data.length c], .bool true]) ∧ BysIn F w' A m.data ∧ m.data.length ≤ c ∧ Below w.heap.size w w'

set_option maxHeartbeats 1600000 in
theorem has_any {F : Nat → Prop} {w : World} {t W : Nat} {L : List Msg} (h : RefR F w t W L) (hL : L.length ≤ 100000) (n : Int) :
    Calls Try.prog 37 #[.pointer (some ⟨t, 0, none⟩), .int .i64 n] w (HasPost F w L n) := by
  obtain ⟨A, c, hc, c0, c1, hf, hms⟩ := h.cells
  have HMS := hide hms
  have HLT := hide h.lt
  have ht := h.here
  clear hf hms h
  go_enter Try.func37, Try.ntmps37
  go_wp2_with fail
  go_loopw [7, 13] (fun _ i wr => ∃ k : Nat, k ≤ L.length ∧ i = .int .i64 k ∧ Hid (Below w.heap.size w wr) ∧ Hid (Box wr w.heap.size 34 #[.bool false, .int .i64 0, .bool false, .slice none 0 0]) ∧ Hid (∀ j, j < k → (L.getD j zeroM).num ≠ n)) (fun _ i wr => L.length - (intOf i).toNat)
  case atStart => exact ⟨0, Nat.zero_le _, rfl, (Below.refl _ _).alloc (Nat.le_refl _) _, Box.new _ _ _, fun j hj => absurd hj (by omega)⟩
  case round =>
    obtain ⟨k, hk, rfl, hB, hX, hno⟩ := hrel
    have x0 : wr.cell? ⟨w.heap.size, 0, none⟩ = some (.bool false) := hX.out.cell 0
    have x1 : wr.cell? ⟨w.heap.size, 1, none⟩ = some (.int .i64 0) := hX.out.cell 1
    have x2 : wr.cell? ⟨w.heap.size, 2, none⟩ = some (.bool false) := hX.out.cell 2
    have x3 : wr.cell? ⟨w.heap.size, 3, none⟩ = some (.slice none 0 0) := hX.out.cell 3
    have f0 := hX.out.frozen 0
    have f1 := hX.out.frozen 1
    have f2 := hX.out.frozen 2
    have f3 := hX.out.frozen 3
    have hwr := hX.out.lt
    by_cases hlt : k < L.length
    · obtain ⟨b, off, Ak, ck, rfl, hFb, hm⟩ := (HMS.out.agree (Agree.of_below hB.out (fun i hi => HLT.out i hi))).at_ hlt
      obtain ⟨m, hme⟩ : ∃ m, m = L.getD k zeroM := ⟨_, rfl⟩
      rw [← hme] at hm
      obtain ⟨y0, y1, y2, y3, hby, hck⟩ := hm
      have HBY := hide hby
      have hi0 : (0 : Int) ≤ (k : Int) := by omega
      have hi1 : (k : Int) < (L.length : Int) := by omega
      have hcl : (L.length : Int) ≤ (c : Int) := by omega
      by_cases he : m.num = n
      · have HF : Hid (hasL L n = some m) := by rw [Hid, hme]; exact hasL_some hlt (by rw [← hme]; exact he) hno.out
        have te : (m.num == n) = true := beq_iff_eq.2 he
        clear hby hme he
        go_wp2_with fail
        have HBX := (Box.set4 hX.out (.bool m.ack) (.int .i64 m.num) (.bool m.last) (.slice Ak m.data.length ck)).alloc (.cells #[.bool m.ack, .int .i64 m.num, .bool m.last, .slice Ak m.data.length ck] 34)
        have HBW : Below w.heap.size w (((((wr.setCell ⟨w.heap.size, 0, none⟩ (.bool m.ack)).setCell ⟨w.heap.size, 1, none⟩ (.int .i64 m.num)).setCell ⟨w.heap.size, 2, none⟩ (.bool m.last)).setCell ⟨w.heap.size, 3, none⟩ (.slice Ak m.data.length ck)).alloc (.cells #[.bool m.ack, .int .i64 m.num, .bool m.last, .slice Ak m.data.length ck] 34)) := (Below.set4 hB.out (Nat.le_refl _) _ _ _ _).alloc (by have := hB.out.size; simp [World.setCell]; omega) _
        have HBV : Below w.heap.size wr (((((wr.setCell ⟨w.heap.size, 0, none⟩ (.bool m.ack)).setCell ⟨w.heap.size, 1, none⟩ (.int .i64 m.num)).setCell ⟨w.heap.size, 2, none⟩ (.bool m.last)).setCell ⟨w.heap.size, 3, none⟩ (.slice Ak m.data.length ck)).alloc (.cells #[.bool m.ack, .int .i64 m.num, .bool m.last, .slice Ak m.data.length ck] 34)) := (Below.set4 (Below.refl _ _) (Nat.le_refl _) _ _ _ _).alloc (by have := hB.out.size; simp [World.setCell]; omega) _
        revert HBX HBW HBV
        generalize (((((wr.setCell ⟨w.heap.size, 0, none⟩ (.bool m.ack)).setCell ⟨w.heap.size, 1, none⟩ (.int .i64 m.num)).setCell ⟨w.heap.size, 2, none⟩ (.bool m.last)).setCell ⟨w.heap.size, 3, none⟩ (.slice Ak m.data.length ck)).alloc (.cells #[.bool m.ack, .int .i64 m.num, .bool m.last, .slice Ak m.data.length ck] 34)) = wf
        intro HBX HBW HBV
        have z0 : wf.cell? ⟨w.heap.size, 0, none⟩ = some (.bool m.ack) := HBX.cell 0
        have z1 : wf.cell? ⟨w.heap.size, 1, none⟩ = some (.int .i64 m.num) := HBX.cell 1
        have z2 : wf.cell? ⟨w.heap.size, 2, none⟩ = some (.bool m.last) := HBX.cell 2
        have z3 : wf.cell? ⟨w.heap.size, 3, none⟩ = some (.slice Ak m.data.length ck) := HBX.cell 3
        refine bodyPost_ret (v := .tuple #[.agg #[.bool m.ack, .int .i64 m.num, .bool m.last, .slice Ak m.data.length ck], .bool true]) (by simp [results, Try.results37, go_sem, z0, z1, z2, z3]) rfl ?_
        exact .inr ⟨m, Ak, ck, HF.out, rfl, HBY.out.agree (Agree.of_below HBV (fun i hi => HLT.out i hi)), hck, HBW⟩
      · have te : (m.num == n) = false := beq_eq_false_iff_ne.2 he
        have HNO : Hid (∀ j, j < k + 1 → (L.getD j zeroM).num ≠ n) := fun j hj => by
          rcases Nat.lt_or_ge j k with h | h
          · exact hno.out j h
          · obtain rfl : j = k := by omega
            rw [← hme]
            exact he
        clear hby hme he
        go_wp2_with fail
        go_roundw
        case rel => exact ⟨k + 1, by omega, by go_num, hB.out.alloc hB.out.size _, hX.out.alloc _, HNO⟩
        case measure => simp [intOf]; omega
    · have HF : Hid (hasL L n = none) := hasL_none fun j hj => hno.out j (by omega)
      go_wp2_with fail
      refine bodyPost_ret (v := .tuple #[.agg #[.bool false, .int .i64 0, .bool false, .slice none 0 0], .bool false]) (by simp [results, Try.results37, go_sem, x0, x1, x2, x3]) rfl ?_
      refine .inl ⟨HF.out, rfl, ?_⟩
      first | exact hB.out | exact Below.set4 hB.out (Nat.le_refl _) _ _ _ _

def GotPost (w : World) (g : Nat) (e : Ending) (w' : World) : Prop := e = .returned (.int .i64 (g : Int)) ∧ Below w.heap.size w w'
theorem got_any {F : Nat → Prop} {w : World} {t W : Nat} {L : List Msg} (h : RefR F w t W L) (hL : L.length ≤ 100000) (g : Nat) (hg : g ≤ 100000) (h1 : ∀ k : Nat, k < g → (hasL L (k : Int)).isSome = true) (h2 : hasL L (g : Int) = none) :
    Calls Try.prog 36 #[.pointer (some ⟨t, 0, none⟩)] w (GotPost w g) := by
  have HR := hide h
  have H1 := hide h1
  have H2 := hide h2
  clear h h1 h2
  go_enter Try.func36, Try.ntmps36
  go_wp2_with fail
  go_loopw [3] (fun i wr => ∃ k : Nat, k ≤ g ∧ i = .int .i64 k ∧ Hid (Below w.heap.size w wr)) (fun i wr => g - (intOf i).toNat)
  case atStart => exact ⟨0, Nat.zero_le _, rfl, Below.refl _ _⟩
  case round =>
    obtain ⟨k, hk, rfl, hB⟩ := hrel
    have HC := hide (has_any (HR.out.agree (Agree.of_below hB.out (fun i hi => HR.out.lt i hi)) hB.out.size) hL (k : Int))
    go_wp2_with fail
    refine HC.out.mono ?_
    rintro e w1 (⟨hnone, rfl, hB1⟩ | ⟨m, Am, cm, hsome, rfl, _, _, hB1⟩)
    · have hkg : k = g := by
        rcases Nat.lt_or_ge k g with hlt | hge
        · have := H1.out k hlt
          rw [hnone] at this
          cases this
        · omega
      subst hkg
      have HB1 := hide (hB.out.trans (hB1.mono hB.out.size))
      clear hB1
      go_wp2_with fail
      go_ret
      exact ⟨rfl, HB1.out.alloc HB1.out.size _⟩
    · have hkg : k < g := by
        rcases Nat.lt_or_ge k g with hlt | hge
        · exact hlt
        · obtain rfl : k = g := by omega
          rw [H2.out] at hsome
          cases hsome
      have HB1 := hide (hB.out.trans (hB1.mono hB.out.size))
      clear hB1
      go_wp2_with fail
      go_roundw
      case rel => exact ⟨k + 1, by omega, by go_num, HB1.out.alloc HB1.out.size _⟩
      case measure => simp [intOf]; omega
end Go.Proofs.Ythhelhggggbaiaa
