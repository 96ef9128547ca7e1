/-
  Contracts of the library's functions of strings, in the words of this seat; console.escape.
-/
import Derived.Test.YtnndaemmgbkjbaaDoorPlainE
namespace Go.Proofs.YtnndaemmgbkjbaaDoor
open Go.RowKit
set_option linter.unusedVariables false
set_option linter.unusedSimpArgs false

/-- the package's number bytealg.MaxLen lies where it was laid -/
def Max (w : World) : Prop := ∃ m, w.cell? ⟨0, 0, none⟩ = some (.int .i64 m)
theorem Max.lt {w : World} (h : Max w) : 0 < w.heap.size := by
  obtain ⟨m, h⟩ := h
  exact World.block_lt_of_cell? w _ h
theorem Max.below {w w' : World} (h : Max w) (hb : Below w.heap.size w w') : Max w' := by
  obtain ⟨m, h'⟩ := id h
  exact ⟨m, (hb.cell (p := ⟨0, 0, none⟩) h.lt).trans h'⟩
theorem Max.drewN {w : World} (h : Max w) (n : Nat) : Max (w.drewN n) := h.below (below_drew (Below.refl _ _) n)
set_option maxRecDepth 100000 in
theorem split_any {s : ByteArray} {w : World} (hs : s.size ≤ 1000000) (hM : Max w) :
    Calls Tryd.prog 13 #[.string s, .string ⟨#[32]⟩] w fun e w' => ∃ b, e = .returned (.slice (some ⟨b, 0, none⟩) (splitW s).length (splitW s).length) ∧ Strs w' (some ⟨b, 0, none⟩) (splitW s) ∧ Below w.heap.size w w' := by
  obtain ⟨m, hm⟩ := hM
  refine (Tryd.strings_Split s ⟨#[32]⟩ m w (by omega) hm (by decide)).mono ?_
  rintro e w' ⟨rfl, rfl⟩
  refine ⟨w.heap.size, by rw [splitW_length], fun hp => ⟨w.heap.size, 0, rfl, by simp [All], fun k hk => ?_⟩, (Below.refl _ _).alloc (Nat.le_refl _) _⟩
  rw [(Box.new w _ _).cell]
  have : (splitW s)[k]? = some ((splitW s).getD k default) := by simp [List.getD_eq_getElem?_getD, hk]
  show ((splitW s).map Value.string).toArray[0 + k]? = _
  rw [Nat.zero_add, List.getElem?_toArray, List.getElem?_map, this]
  rfl
set_option maxRecDepth 100000 in
theorem replace_any {s : ByteArray} {c : UInt8} {new : ByteArray} {w : World} (hs : s.size ≤ 10000000) (hn : new.data.toList ≠ [c]) (h3 : new.data.toList.length = 3) (hM : Max w) :
    Calls Tryd.prog 58 #[.string s, .string ⟨#[c]⟩, .string new] w fun e w' => e = .returned (.string ⟨(subst c new.data.toList s.data.toList).toArray⟩) ∧ Below w.heap.size w w' := by
  obtain ⟨m, hm⟩ := hM
  have hc := count_le_size s c
  have hn3 : new.size = 3 := by rw [Lib.size_eq]; exact h3
  refine (Tryd.strings_ReplaceAll s ⟨#[c]⟩ new m w (by omega) hm (by show 1 ≤ (#[c] : Array UInt8).size; simp) (by rw [hn3]; omega)).mono ?_
  rintro e w' ⟨rfl, hb⟩
  exact ⟨by rw [← replaceAll_subst hn], hb⟩
set_option maxRecDepth 100000 in
set_option maxHeartbeats 1000000 in
theorem escape_any {s : ByteArray} {w : World} (hs : s.size ≤ 3000000) (hM : Max w) :
    Calls Tryd.prog 48 #[.string s] w fun e w' => e = .returned (.string (escS s)) ∧ Below w.heap.size w w' := by
  have H1 := hide (replace_any (s := s) (c := 37) (new := ⟨#[37, 50, 53]⟩) (w := w) (by omega) (by decide) rfl hM)
  have hl := (subst_length 37 (new := [37, 50, 53]) rfl s.data.toList).2
  have hs2 : (⟨(subst 37 [37, 50, 53] s.data.toList).toArray⟩ : ByteArray).size ≤ 10000000 := by
    rw [Lib.size_eq] at hs ⊢
    simp
    omega
  have H2 := hide (fun (wq : World) (hb : Below w.heap.size w wq) => replace_any (s := ⟨(subst 37 [37, 50, 53] s.data.toList).toArray⟩) (c := 32) (new := ⟨#[37, 50, 48]⟩) (w := wq) hs2 (by decide) rfl (hM.below hb))
  clear hs hs2 hl
  go_enter Tryd.func48, Tryd.ntmps48
  go_wp2_with fail
  refine H1.out.mono ?_
  rintro e w1 ⟨rfl, hb1⟩
  have H3 := hide (H2.out w1 hb1)
  have HB1 := hide hb1
  clear hb1 H2
  go_wp2_with fail
  refine H3.out.mono ?_
  rintro e w2 ⟨rfl, hb2⟩
  have HB2 := hide (below_then HB1.out hb2)
  clear hb2
  go_wp2_with fail
  go_ret
  exact ⟨rfl, HB2.out⟩
end Go.Proofs.YtnndaemmgbkjbaaDoor
