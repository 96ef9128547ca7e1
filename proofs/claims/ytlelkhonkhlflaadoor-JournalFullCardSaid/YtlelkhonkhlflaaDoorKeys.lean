/-
  The sorted numbers of the dirty sectors.
-/
import Derived.Test.YtlelkhonkhlflaaDoorCrash
import Derived.Test.YtlelkhonkhlflaaDoorShelf
namespace Go.Proofs.YtlelkhonkhlflaaDoor
open Go.RowKit Go.Maps Go.Sort Go.Shelf
set_option linter.unusedVariables false
set_option linter.unusedSimpArgs false

theorem sortsA (m : Nat) : AnyZI.SortsIn Tryd.prog Tryd.sortedA_ren Fence.wide m :=
  ⟨fun blk off cap ss W hH hblk hsz => callsIn_wide.2 (AnyM.slices_Sort_int Tryd.sortA blk off cap ss W hH hblk hsz),
   fun p cap W => callsIn_wide.2 (AnyM.slices_Sort_int_none Tryd.sortA p cap W)⟩
theorem keys_any (mb : Nat) (W : World) : Calls Tryd.prog 30 #[.map (some mb)] W (fun en w' => en = .returned (.func (.func 43) #[] #[.pointer (some ⟨W.heap.size, 0, none⟩)]) ∧ w' = W.alloc (.cells #[.map (some mb)] 66)) := by
  have h := AnyZI.keys_in Tryd.keysA Fence.wide 5 trivial rfl (some mb) W
  exact callsIn_wide.1 h
theorem sorted_any (b nn : Nat) {H : Type} (D0 : DataW H) (R : Value → Option (DataW H × List MemPlace)) (w : World) (hown : w.ownsMap Tryd.prog 3 R b nn D0) (hmax : Maps.size D0 ≤ maxLen) (hbytes : Maps.size D0 * 8 ≤ 140737488355328) :
    Calls Tryd.prog 29 #[.func (.func 43) #[] #[.pointer (some ⟨w.heap.size, 0, none⟩)]] (w.alloc (.cells #[.map (some b)] 66)) fun e w' => ∃ (v : Value) (ss : List Int), e = .returned v ∧ ss.Perm (intKeys D0) ∧
      w'.ownsRow (w.alloc (.cells #[.map (some b)] 66)).heap.size 3 1 v ss.length ((ss.mergeSort (fun x y => decide (x ≤ y))).map encZ) ∧ (v = .slice none 0 0 ↔ ss = []) ∧ Below (w.alloc (.cells #[.map (some b)] 66)).heap.size (w.alloc (.cells #[.map (some b)] 66)) w' := by
  have hbl := hown.lt
  have hseq : SeqGives Fence.wide 2 Tryd.prog 43 #[.pointer (some ⟨w.heap.size, 0, none⟩)] encZ (fun ss => ss.Perm (intKeys D0)) (Maps.size D0) (w.alloc (.cells #[.map (some b)] 66)) :=
    AnyZI.keys_gives (ρ := Tryd.keysA_ren) { Tryd.keysA with } Fence.wide _ trivial rfl (by omega) w.heap.size b nn D0 _ (by simp) (by simp) (by
      obtain ⟨es, clock, hb, Ft, hs, hD⟩ := hown
      exact ⟨es, clock, (Below.heap_alloc _ _ b hbl).trans hb, Ft, hs, hD⟩)
  have h := AnyZI.sorted_in Tryd.sortedA Fence.wide 5 trivial trivial trivial trivial rfl (by omega) (sortsA _) (enters_of Tryd.func42 (by kernel_rfl) rfl) 43 #[.pointer (some ⟨w.heap.size, 0, none⟩)] trivial (enters_of Tryd.func43 (by kernel_rfl) rfl) _ _ hmax hbytes _ hseq
  exact callsIn_wide.1 h
theorem dirty_sorted (n : Nat) (e : Nat → Option (List UInt8)) : (((dirtyL n e).map fun (i : Nat) => (i : Int)).mergeSort fun x y => decide (x ≤ y)) = (dirtyL n e).map fun (i : Nat) => (i : Int) := by
  refine List.mergeSort_of_pairwise ?_
  rw [List.pairwise_map]
  have h : (dirtyL n e).Pairwise (· < ·) := List.pairwise_lt_range.filter _
  exact h.imp fun {a b} hab => by simp only [decide_eq_true_eq]; omega
theorem keys_ok : KeysOk := by
  intro w mb n e hn h
  refine ⟨keys_any mb w, ?_⟩
  obtain ⟨D, h1, h2⟩ := h
  have hsz := size_dirty h1 h2 hn
  have hle := dirtyL_le n e
  refine (sorted_any mb 4096 D secElem w h1 (by unfold maxLen; omega) (by omega)).mono ?_
  rintro en w' ⟨v, ss, rfl, hp, hrow, hnil, hb⟩
  have hp' : ss.Perm ((dirtyL n e).map fun (i : Nat) => (i : Int)) := hp.trans (keys_perm h1 h2 hn).symm
  have hl : ss.length = (dirtyL n e).length := by rw [hp'.length_eq, List.length_map]
  have hm : (ss.mergeSort fun x y => decide (x ≤ y)) = (dirtyL n e).map fun (i : Nat) => (i : Int) := (mergeSort_of_perm_i hp').trans (dirty_sorted n e)
  rw [hm, hl] at hrow
  generalize dirtyL n e = L at *
  obtain ⟨_, hr⟩ := hrow
  rcases hr with ⟨hv, hn0⟩ | ⟨g, cap, cur, hv, hbg, hg, hc, hmm, hz, ht⟩
  · exact ⟨none, 0, by rw [hv, hn0], hb, fun k hk => absurd hk (by omega)⟩
  · have hlt : g < w'.heap.size := by
      rcases Nat.lt_or_ge g w'.heap.size with hlt | hge
      · exact hlt
      · rw [Array.getElem?_eq_none hge] at hg; cases hg
    refine ⟨some ⟨g, 0, none⟩, cap, by rw [hv], hb, fun k hk => ⟨g, 0, rfl, hbg, hlt, ?_⟩⟩
    rw [cell_of_row w' g (0 + k) _ 3 (0, 0) hg]
    have e1 : ((L.map fun (i : Nat) => (i : Int)).map encZ)[k]? = some (.int .i64 (L.getD k 0 : Nat)) := by
      rw [List.map_map, List.getElem?_map, List.getElem?_eq_getElem hk, List.getD_eq_getElem?_getD, List.getElem?_eq_getElem hk]
      rfl
    rw [← e1, ← ht, List.getElem?_take_of_lt (by omega)]
    simp
end Go.Proofs.YtlelkhonkhlflaaDoor
