/-
  console.index: the index of the name that a word stands for.
-/
import Derived.Test.YtnndaemmgbkjbaaDoorNums
import Derived.Deep.RegionHeldLaw
import Derived.Shelf.Spec.SlicesGrow
namespace Go.Proofs.YtnndaemmgbkjbaaDoor
open Go.RowKit
set_option linter.unusedVariables false
set_option linter.unusedSimpArgs false

/-- the index of the name that a word stands for; -1: there is none -/
def idxN (names : List ByteArray) (s : ByteArray) : Int := if names.findIdx (fun n => (escS n).toList == s.toList) = names.length then -1 else (names.findIdx (fun n => (escS n).toList == s.toList) : Nat)
theorem idxN_none {names : List ByteArray} {s : ByteArray} (h : ∀ j, j < names.length → ((escS (names.getD j default)).toList == s.toList) = false) : idxN names s = -1 := by
  have : names.findIdx (fun n => (escS n).toList == s.toList) = names.length := by
    rw [List.findIdx_eq_length]
    intro x hx
    obtain ⟨j, hj, rfl⟩ := List.getElem_of_mem hx
    have := h j hj
    rwa [List.getD_eq_getElem?_getD, List.getElem?_eq_getElem hj, Option.getD_some] at this
  unfold idxN
  rw [if_pos this]
theorem idxN_at {names : List ByteArray} {s : ByteArray} {k : Nat} (hk : k < names.length) (h : ∀ j, j < k → ((escS (names.getD j default)).toList == s.toList) = false) (he : ((escS (names.getD k default)).toList == s.toList) = true) : idxN names s = (k : Int) := by
  have : names.findIdx (fun n => (escS n).toList == s.toList) = k := by
    rw [List.getD_eq_getElem?_getD, List.getElem?_eq_getElem hk, Option.getD_some] at he
    rw [List.findIdx_eq hk]
    refine ⟨he, fun j hj => ?_⟩
    have := h j hj
    rwa [List.getD_eq_getElem?_getD, List.getElem?_eq_getElem (by omega), Option.getD_some] at this
  unfold idxN
  rw [if_neg (by omega), this]
theorem idxN_bd (names : List ByteArray) (s : ByteArray) : -1 ≤ idxN names s ∧ idxN names s < (names.length : Int) ∨ names.length = 0 ∧ idxN names s = -1 := by
  unfold idxN
  have := List.findIdx_le_length (xs := names) (p := fun n => (escS n).toList == s.toList)
  split
  · by_cases h : names.length = 0
    · exact .inr ⟨h, rfl⟩
    · left; omega
  · left; omega
set_option maxHeartbeats 2000000 in
set_option maxRecDepth 100000 in
theorem iclos_any {n s : ByteArray} {g : Nat} {w : World} (hn : n.size ≤ 3000000) (hM : Max w) (hg : w.cell? ⟨g, 0, none⟩ = some (.string s)) :
    Calls Tryd.prog 54 #[.string n, .pointer (some ⟨g, 0, none⟩)] w fun e w' => e = .returned (.bool ((escS n).toList == s.toList)) ∧ Below w.heap.size w w' := by
  have hlt := World.block_lt_of_cell? w _ hg
  have HE := hide (fun (wq : World) (hd : Drew w wq) => (escape_any (w := wq) hn (hM.below hd.below)).mono (fun e w2 (h : e = .returned (.string (escS n)) ∧ Below wq.heap.size wq w2) => (show e = .returned (.string (escS n)) ∧ w2.cell? ⟨g, 0, none⟩ = some (.string s) ∧ Hid (Below w.heap.size w w2) from
    have hb := below_then hd.below h.2
    ⟨h.1, (hb.cell (p := ⟨g, 0, none⟩) hlt).trans hg, hb⟩)))
  clear hM hn
  generalize escS n = m at *
  go_enter Tryd.func54, Tryd.ntmps54
  go_wp2_with fail
  go_region_held_law (fun w' => w'.cell? ⟨g, 0, none⟩ = some (.string s))
    (first | assumption | go_keep)
    (first | (go_at_call 48; refine (HE.out _ ((Drew.refl _).drew 1)).mono ?_; rintro e w2 ⟨rfl, h2, hb2⟩))
  go_wp2_with fail
  go_ret
  exact ⟨rfl, hb2.out⟩
set_option maxHeartbeats 2000000 in
set_option maxRecDepth 100000 in
theorem idxf_any {A : Option Addr} {c : Nat} {names : List ByteArray} {s : ByteArray} {g : Nat} {w : World} (h : Strs w A names) (hm : names.length ≤ 1000000) (hn : ∀ n ∈ names, n.size ≤ 3000000) (hM : Max w) (hg : w.cell? ⟨g, 0, none⟩ = some (.string s)) :
    Calls Tryd.prog 53 #[.slice A names.length c, .func (.func 54) #[] #[.pointer (some ⟨g, 0, none⟩)]] w fun e w' => e = .returned (.int .i64 (idxN names s)) ∧ Below w.heap.size w w' := by
  have hlt := World.block_lt_of_cell? w _ hg
  have H := hide h
  have HC := hide (fun (n : ByteArray) (h : n ∈ names) (wq : World) (hb : Below w.heap.size w wq) => iclos_any (w := wq) (hn n h) (hM.below hb) ((hb.cell (p := ⟨g, 0, none⟩) hlt).trans hg))
  clear h hn hM
  go_enter Tryd.func53, Tryd.ntmps53
  go_wp2_with fail
  go_loopw [5, 8] (fun _ i wr => ∃ k : Nat, k ≤ names.length ∧ i = .int .i64 k ∧ Hid (∀ j, j < k → ((escS (names.getD j default)).toList == s.toList) = false) ∧ Hid (Below w.heap.size w wr)) (fun _ i _ => names.length - (iOf i).toNat)
  case atStart => exact ⟨0, Nat.zero_le _, rfl, (fun j hj => absurd hj (by omega)), Below.refl _ _⟩
  case round =>
    obtain ⟨k, hk, rfl, HA, HB⟩ := hrel
    by_cases hlk : k < names.length
    · obtain ⟨b, off, rfl, hb, h0⟩ := H.out.at_ hlk
      have h0 := (HB.out.cell (p := ⟨b, off + k, none⟩) hb).trans h0
      have HC1 := hide (HC.out _ (getD_memD hlk) wr HB.out)
      have HY := hide (fun h => idxN_at hlk HA.out h)
      have HN : Hid (((escS (names.getD k default)).toList == s.toList) = false → ∀ j, j < k + 1 → ((escS (names.getD j default)).toList == s.toList) = false) := fun h j hj => by
        by_cases e : j = k
        · rw [e]; exact h
        · exact HA.out j (by omega)
      generalize names.getD k default = nm at *
      cases hz : (escS nm).toList == s.toList with
      | true =>
        rw [hz] at HC1
        have hy := hide (HY.out hz)
        clear hz
        go_wp2_with fail
        refine HC1.out.mono ?_
        rintro e w1 ⟨rfl, hb1⟩
        have HB1 := hide (below_then HB.out hb1)
        clear hb1
        go_wp2_with fail
        go_ret
        exact ⟨by rw [hy.out]; rfl, HB1.out⟩
      | false =>
        rw [hz] at HC1
        have hnn := hide (HN.out hz)
        clear hz
        go_wp2_with fail
        refine HC1.out.mono ?_
        rintro e w1 ⟨rfl, hb1⟩
        have HB1 := hide (below_then HB.out hb1)
        clear hb1
        go_wp2_with fail
        go_roundw
        case rel => exact ⟨k + 1, by omega, by go_num, hnn.out, HB1.out⟩
        case measure => simp [iOf]; omega
    · obtain rfl : k = names.length := by omega
      have hy := hide (idxN_none HA.out)
      go_wp2_with fail
      go_ret
      exact ⟨by rw [hy.out]; rfl, HB.out⟩
set_option maxHeartbeats 2000000 in
set_option maxRecDepth 100000 in
theorem index_any {A : Option Addr} {c : Nat} {names : List ByteArray} {s : ByteArray} {w : World} (h : Strs w A names) (hm : names.length ≤ 1000000) (hn : ∀ n ∈ names, n.size ≤ 3000000) (hM : Max w) :
    Calls Tryd.prog 43 #[.slice A names.length c, .string s] w fun e w' => e = .returned (.tuple #[.int .i64 (idxN names s), .bool (decide (0 ≤ idxN names s))]) ∧ Below w.heap.size w w' := by
  have hb1 : Below w.heap.size w (w.alloc (.cells #[.string s] 9)) := (Below.refl _ _).alloc (Nat.le_refl _) _
  have HF := hide (idxf_any (c := c) (s := s) (g := w.heap.size) (ListIn.below h hb1) hm hn (hM.below hb1) ((Box.new w 9 #[.string s]).cell 0))
  have HB1 := hide hb1
  clear h hn hM hb1
  generalize idxN names s = r at *
  go_enter Tryd.func43, Tryd.ntmps43
  go_wp2_with fail
  refine HF.out.mono ?_
  rintro e w1 ⟨rfl, hb2⟩
  have HB2 := hide (below_then HB1.out hb2)
  clear hb2
  go_wp2_with fail
  go_ret2
  exact ⟨rfl, HB2.out⟩
end Go.Proofs.YtnndaemmgbkjbaaDoor
