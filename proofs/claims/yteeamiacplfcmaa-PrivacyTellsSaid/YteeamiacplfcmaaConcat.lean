/-
  slices.Concat of two lists of numbers; slices.Sort.
-/
import Derived.Test.YteeamiacplfcmaaPJoin
import Derived.Sort.OwnSortedInts
namespace Go.Proofs.Yteeamiacplfcmaa
open Go.RowKit Go.Shelf Go.Sort
set_option linter.unusedVariables false
set_option linter.unusedSimpArgs false

theorem grow_any (n : Nat) (h1 : 0 < n) (h2 : n ≤ 1000000) (w : World) :
    Calls Try.prog 52 #[.slice none 0 0, .int .i64 n] w fun e w' => ∃ v, e = .returned v ∧ OwnI w.heap.size w' v [] ∧ Below w.heap.size w w' := by
  obtain ⟨i0, hi, hz0, hz1, hz2⟩ := info_parts intinfo
  refine Calls.mono (Any8.slices_Grow_grow Try.growI i0 (.int .i64 0) hi hz0 (by omega) none 0 0 n [] w (Nat.le_refl _) (by omega) (by rw [hz2]; omega) (by omega) (by simp) (fun _ => rfl) (fun a e => by cases e)) ?_
  rintro e w' ⟨rfl, rfl⟩
  refine ⟨_, rfl, ?_, ((Below.refl _ _).drew).alloc (Nat.le_refl _) _⟩
  have hg := grownCap_ge w (0 + n) 0 (Try.growI_ren.t 25)
  have hm := grownCap_le_maxLen w (0 + n) 0 (Try.growI_ren.t 25) (by unfold maxLen; omega)
  refine ⟨rfl, .inr ⟨w.heap.size, _, _, rfl, Nat.le_refl _, heap_alloc_new w.drew _, Nat.zero_le _, hm, ?_, by simp⟩⟩
  have hzc : (Value.int .i64 0).cells.size = 1 := rfl
  have hz : ∀ k, (Builtin.zeroCells (Value.int .i64 0).cells k).size = k := fun k => by simp [Builtin.zeroCells, Value.cells]
  rw [Array.size_append, Array.size_append, hz, hz]
  simp
  rw [Nat.zero_add] at hg
  omega
set_option maxHeartbeats 4000000 in
theorem concat_any {g : Nat} {A B : Option Addr} {c d : Nat} {l m : List Int} {w : World} (hX : Box w g 31 #[.slice A l.length c, .slice B m.length d]) (h : Ints w A l) (h' : Ints w B m) (h0 : 0 < l.length) (hl : l.length ≤ 1000) (hm : m.length ≤ 1000) :
    Calls Try.prog 43 #[.slice (some ⟨g, 0, none⟩) 2 2] w fun e w' => ∃ v, e = .returned v ∧ OwnI w.heap.size w' v (l ++ m) ∧ Below w.heap.size w w' := by
  have c0 := hX.cell 0
  have c1 := hX.cell 1
  have hlt := hX.lt
  simp at c0 c1
  have HX := hide hX
  have H := hide (fun wq (hq : Below w.heap.size w wq) => h.below hq)
  have H' := hide (fun wq (hq : Below w.heap.size w wq) => h'.below hq)
  have HG := hide (grow_any (l.length + m.length) (by omega) (by omega) w)
  rw [Int.natCast_add] at HG
  clear hX h h'
  have b1 : ¬ ((l.length : Int) < 0) := by omega
  have b2 : ¬ ((l.length : Int) + (m.length : Int) < 0) := by omega
  have b3 : IntKind.i64.wrap ((l.length : Int) + (m.length : Int)) = (l.length : Int) + (m.length : Int) := IntWalk.i64_in _ (by omega)
  go_enter Try.func43, Try.ntmps43
  go_wp2_with fail
  go_loopw [3, 5, 11] (fun s _ i wr => wr = w ∧ ((i = .int .i64 0 ∧ s = .int .i64 0) ∨ (i = .int .i64 1 ∧ s = .int .i64 l.length) ∨ (i = .int .i64 2 ∧ s = .int .i64 ((l.length : Int) + (m.length : Int))))) (fun _ _ i wr => 2 - (iOf i).toNat)
  case atStart => exact ⟨rfl, .inl ⟨rfl, rfl⟩⟩
  case round =>
    obtain ⟨rfl, ⟨rfl, rfl⟩ | ⟨rfl, rfl⟩ | ⟨rfl, rfl⟩⟩ := hrel
    · go_wp2_with fail
      go_roundw
      case rel => exact ⟨(by first | rfl | trivial), .inr (.inl ⟨rfl, rfl⟩)⟩
      case measure => simp [iOf]
    · go_wp2_with fail
      go_roundw
      case rel => exact ⟨(by first | rfl | trivial), .inr (.inr ⟨rfl, by first | rfl | (rw [b3])⟩)⟩
      case measure => simp [iOf]
    · go_wp2_with fail
      refine HG.out.mono ?_
      rintro e w1 ⟨v1, rfl, hO1, hb1⟩
      have HO1 := hide hO1
      have HB1 := hide hb1
      clear hO1 hb1
      go_wp2_with fail
      go_loopw [6, 8, 27] (fun o _ i wi => ∃ v : Value, o = v ∧ Hid (Below wr.heap.size wr wi) ∧ ((i = .int .i64 0 ∧ Hid (OwnI wr.heap.size wi v [])) ∨ (i = .int .i64 1 ∧ Hid (OwnI wr.heap.size wi v l)) ∨ (i = .int .i64 2 ∧ Hid (OwnI wr.heap.size wi v (l ++ m))))) (fun _ _ i wi => 2 - (iOf i).toNat)
      case atStart => exact ⟨_, rfl, HB1.out, .inl ⟨rfl, HO1.out⟩⟩
      case round =>
        obtain ⟨v, rfl, HB, ⟨rfl, HO⟩ | ⟨rfl, HO⟩ | ⟨rfl, HO⟩⟩ := hrel
        · have k0 := (HB.out.cell (p := ⟨g, 0, none⟩) hlt).trans c0
          obtain ⟨A4, d4, w4, hr4, hO4, hg4⟩ := push_ints HO.out HB.out.size (by simp; omega) (H.out _ HB.out) 31 c
          rw [List.length_nil, Nat.zero_add] at hr4 hO4
          rw [List.nil_append] at hO4
          have HR4 := hide hr4
          have HO4 := hide hO4
          have HB4 := hide (HB.out.trans (own_by HB.out.size HO.out.lo hg4))
          clear hr4 hO4 hg4
          obtain ⟨_, _, rfl, _⟩ := HO.out.form
          go_wp2_with ((with_reducible refine wpList_gives (o := ⟨some 33, _, _, _, _, _⟩) (v := Value.slice A4 l.length d4) (w' := w4) ?_ ?_ ?_); rfl; exact gives_append rfl rfl rfl HR4.out)
          go_roundw
          case rel => exact ⟨_, rfl, HB4.out, .inr (.inl ⟨rfl, HO4.out⟩)⟩
          case measure => simp [iOf]
        · have k1 := (HB.out.cell (p := ⟨g, 1, none⟩) hlt).trans c1
          obtain ⟨A4, d4, w4, hr4, hO4, hg4⟩ := push_ints HO.out HB.out.size (by omega) (H'.out _ HB.out) 31 d
          have HR4 := hide hr4
          have HO4 := hide hO4
          have HB4 := hide (HB.out.trans (own_by HB.out.size HO.out.lo hg4))
          clear hr4 hO4 hg4
          obtain ⟨_, _, rfl, _⟩ := HO.out.form
          go_wp2_with ((with_reducible refine wpList_gives (o := ⟨some 33, _, _, _, _, _⟩) (v := Value.slice A4 (l.length + m.length) d4) (w' := w4) ?_ ?_ ?_); rfl; exact gives_append rfl rfl rfl HR4.out)
          go_roundw
          case rel => exact ⟨_, rfl, HB4.out, .inr (.inr ⟨rfl, HO4.out⟩)⟩
          case measure => simp [iOf]
        · go_wp2_with fail
          go_ret
          exact ⟨_, rfl, HO.out, HB.out⟩
set_option maxHeartbeats 1000000 in
theorem sortint_any {B : Nat} {w : World} {v : Value} {l : List Int} (h : OwnI B w v l) (h0 : 0 < l.length) (hl : l.length ≤ 1000000) :
    Calls Try.prog 44 #[v] w fun e w' => e = .returned (.tuple #[]) ∧ OwnI B w' v (l.mergeSort fun x y => decide (x ≤ y)) ∧ w.grownBy w' v.ownBlock := by
  obtain ⟨hvl, hr⟩ := h
  rcases hr with ⟨_, hn⟩ | ⟨g, cap, cur, rfl, hb, hg, hc, hm, hz, ht⟩
  · omega
  have ht' : cur.toList.take l.length = l.map (Value.int .i64) := by rw [Nat.mul_one] at ht; exact ht
  have hglt : g < w.heap.size := (Array.getElem?_eq_some_iff.1 hg).1
  refine Calls.mono (AnyM.slices_Sort_int Try.sortA g 0 cap l w (holds_of_blockI hg ht') hglt (by omega)) ?_
  rintro e w' ⟨rfl, n, os, rfl⟩
  have hsl : (l.mergeSort fun x y => decide (x ≤ y)).length = l.length := List.length_mergeSort _
  have ho := ownsRow_sortedI (n := n) (os := os) (base := B) (e := 3) (ts := l.mergeSort fun x y => decide (x ≤ y)) (ss := l) hsl hb hg hc hm hz
  refine ⟨rfl, ?_, grownBy_sortedI _⟩
  unfold OwnI
  rw [hsl]
  exact ho
/-- the sorted precincts of two cells -/
theorem sort_uni {a b : List Int} (h : Few (a ++ b)) : ((a ++ b).mergeSort fun x y => decide (x ≤ y)) = uniP a b 12 := by
  have hp : ((a ++ b).mergeSort fun x y => decide (x ≤ y)).Perm (a ++ b) := List.mergeSort_perm _ _
  refine sortI_ext ?_ (uniP_sort _ _ _) fun x => ?_
  · have h1 : ((a ++ b).mergeSort fun x y => decide (x ≤ y)).Pairwise (fun x y => decide (x ≤ y) = true) :=
      List.pairwise_mergeSort (fun x y z h1 h2 => by simp at *; omega) (fun x y => by simp; omega) _
    have h2 : ((a ++ b).mergeSort fun x y => decide (x ≤ y)).Nodup := hp.nodup_iff.2 h.1
    unfold SortI
    refine List.Pairwise.imp ?_ (h1.and h2)
    intro x y hxy
    have := hxy.1
    have := hxy.2
    simp at *
    omega
  · rw [uniP_mem h, hp.mem_iff]
end Go.Proofs.Yteeamiacplfcmaa
