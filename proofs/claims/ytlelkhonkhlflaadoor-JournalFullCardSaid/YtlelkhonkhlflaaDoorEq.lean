/-
  electionref04.Eq, and a slice of bytes that owns its block.
-/
import Derived.Test.YtlelkhonkhlflaaDoorMem
import Derived.Maps.AppendAt
namespace Go.Proofs.YtlelkhonkhlflaaDoor
open Go.RowKit
set_option linter.unusedVariables false
set_option linter.unusedSimpArgs false

/-- the slice of bytes that begins block g, with room -/
def OwnG (w : World) (g cap : Nat) (bs : List UInt8) : Prop := w.ownsRow 0 5 1 (.slice (some ⟨g, 0, none⟩) bs.length cap) bs.length (bs.map u8v)
section
variable {w w' : World} {g cap B : Nat} {bs : List UInt8}
theorem OwnG.room (h : OwnG w g cap bs) : bs.length ≤ cap := by
  rcases h.2 with ⟨h3, _⟩ | ⟨g', cap', cur, hv, hb, hg, hc, _⟩
  · cases h3
  · injection hv with e1 e2 e3
    omega
theorem OwnG.row (h : OwnG w g cap bs) : Row w g bs := Row.of_own h
theorem OwnG.lt (h : OwnG w g cap bs) : g < w.heap.size := h.row.lt
theorem OwnG.of_heap (h : OwnG w g cap bs) (e : w'.heap[g]? = w.heap[g]?) : OwnG w' g cap bs := by
  obtain ⟨h1, h2⟩ := h
  refine ⟨h1, ?_⟩
  rcases h2 with ⟨h3, _⟩ | ⟨g', cap', cur, hv, hb, hg, hr⟩
  · cases h3
  · refine .inr ⟨g', cap', cur, hv, hb, ?_, hr⟩
    injection hv with e1
    injection e1 with e1
    injection e1 with e1
    rw [← e1] at hg ⊢
    rw [e, hg]
theorem OwnG.below (h : OwnG w g cap bs) (hb : Below B w w') (hg : g < B) : OwnG w' g cap bs := h.of_heap (hb.block g hg)
theorem OwnG.kept (h : OwnG w g cap bs) (hb : Below w.heap.size w w') : OwnG w' g cap bs := h.of_heap (hb.block g h.lt)
theorem OwnG.drew (h : OwnG w g cap bs) : OwnG w.drew g cap bs := h
theorem OwnG.alloc (h : OwnG w g cap bs) (o : Obj) : OwnG (w.alloc o) g cap bs := h.of_heap (Below.heap_alloc w o g h.lt)
theorem OwnG.far (h : OwnG w g cap bs) {p : Addr} (hp : g ≠ p.block) (u : Value) : OwnG (w.setCell p u) g cap bs := h.of_heap (Below.heap_setCell w p u g hp)
theorem OwnG.new (w : World) (bs : List UInt8) (hm : bs.length ≤ maxLen) : OwnG (w.alloc (.cells (bs.map u8v).toArray 5)) w.heap.size bs.length bs :=
  ⟨by simp, .inr ⟨w.heap.size, bs.length, _, rfl, Nat.zero_le _, heap_alloc_new w _, Nat.le_refl _, hm, by simp, by rw [Nat.mul_one]; exact List.take_of_length_le (by simp)⟩⟩
theorem own_next {v : Value} {n : Nat} {news : List UInt8} (h : w'.ownsRow 0 5 1 v (bs.length + n) (bs.map u8v ++ news.map u8v)) (hn : news.length = n) (hp : 0 < n)
    (ho : v.ownBlock = some g ∨ v.ownBlock = some w.heap.size) : ∃ g' cap', v = .slice (some ⟨g', 0, none⟩) (bs ++ news).length cap' ∧ OwnG w' g' cap' (bs ++ news) ∧ (g' = g ∨ g' = w.heap.size) := by
  rw [← List.map_append] at h
  subst hn
  rw [← List.length_append] at h
  obtain ⟨g', cap', hv, _, _⟩ := own_row h (by rw [List.length_append]; omega)
  subst hv
  refine ⟨g', cap', rfl, h, ?_⟩
  rcases ho with ho | ho
  · left; injection ho
  · right; injection ho
end

set_option maxHeartbeats 800000 in
theorem eq04_any (A B : Option Addr) (c d : Nat) (xs ys : List UInt8) (w : World) (hx : Bys w A xs) (hy : Bys w B ys) (hm : xs.length ≤ maxLen) (_hn : ys.length ≤ maxLen) :
    Calls Tryd.prog 28 #[.slice A xs.length c, .slice B ys.length d] w fun e w' => e = .returned (.bool (xs == ys)) ∧ Below w.heap.size w w' := by
  unfold maxLen at hm
  by_cases hl : xs.length = ys.length
  · have t : ((xs.length : Int) != (ys.length : Int)) = false := by rw [bne_eq_false_iff_eq]; omega
    have N1 : Hid ((∀ k, k < xs.length → xs.getD k 0 = ys.getD k 0) → (xs == ys) = true) := fun g => beq_iff_eq.2 (List.ext_getElem hl fun i h1 h2 => by
      have := g i h1
      rwa [List.getD_eq_getElem?_getD, List.getD_eq_getElem?_getD, List.getElem?_eq_getElem h1, List.getElem?_eq_getElem h2] at this)
    have N2 : Hid (∀ k, k < xs.length → xs.getD k 0 ≠ ys.getD k 0 → (xs == ys) = false) := fun k _ g => beq_eq_false_iff_ne.2 fun e => g (by rw [e])
    have hl1 : xs.length ≤ ys.length := by omega
    have hl2 : ys.length ≤ xs.length := by omega
    clear hl
    go_enter Tryd.func28, Tryd.ntmps28
    go_wp2
    go_loopw [5] (fun i wr => ∃ k : Nat, k ≤ xs.length ∧ i = .int .i64 k ∧ Below w.heap.size w wr ∧ Hid (∀ j, j < k → xs.getD j 0 = ys.getD j 0)) (fun i _ => xs.length - (intOf i).toNat)
    case atStart => exact ⟨0, Nat.zero_le _, rfl, Below.refl _ _, fun j hj => absurd hj (by omega)⟩
    case round =>
      obtain ⟨k, hk, rfl, hbl, hall⟩ := hrel
      by_cases hlt : k < xs.length
      · obtain ⟨b1, o1, x, rfl, hb1, hx1, hX, hc1⟩ := (hx.below hbl).at_ hlt
        obtain ⟨b2, o2, y, rfl, hb2, hy1, hY, hc2⟩ := (hy.below hbl).at_ (k := k) (by omega)
        by_cases hxy : x = y
        · have txy : ((x : Int) != (y : Int)) = false := by rw [bne_eq_false_iff_eq]; omega
          have hall' : Hid (∀ j, j < k + 1 → xs.getD j 0 = ys.getD j 0) := fun j hj => by
            rcases Nat.lt_or_ge j k with h | h
            · exact hall.out j h
            · obtain rfl : j = k := by omega
              exact UInt8.toNat_inj.1 (by rw [← hX.out, ← hY.out, hxy])
          have q1 : (k : Int) < (xs.length : Int) := by omega
          have q2 : (k : Int) < (ys.length : Int) := by omega
          have q0 : (0 : Int) ≤ (k : Int) := by omega
          clear hxy hX hY
          go_wp2
          go_quiet (fail)
          go_wp2
          go_roundw
          case rel => exact ⟨k + 1, by omega, by go_num, below_drew hbl _, hall'⟩
          case measure => simp [intOf]; omega
        · have txy : ((x : Int) != (y : Int)) = true := by rw [bne_iff_ne]; omega
          have q1 : (k : Int) < (xs.length : Int) := by omega
          have q2 : (k : Int) < (ys.length : Int) := by omega
          have q0 : (0 : Int) ≤ (k : Int) := by omega
          have hfin : Hid ((xs == ys) = false) := N2.out k hlt fun e => hxy (by rw [hX.out, hY.out, e])
          clear hxy hX hY
          go_wp2
          go_quiet (fail)
          go_wp2
          go_ret
          exact ⟨by rw [hfin.out]; rfl, below_drew hbl _⟩
      · have hfin : Hid ((xs == ys) = true) := N1.out fun j hj => hall.out j (by omega)
        go_wp2
        go_ret
        exact ⟨by rw [hfin.out]; rfl, hbl⟩
  · have t : ((xs.length : Int) != (ys.length : Int)) = true := by rw [bne_iff_ne]; omega
    have N : Hid ((xs == ys) = false) := beq_eq_false_iff_ne.2 fun e => hl (by rw [e])
    clear hl
    go_enter Tryd.func28, Tryd.ntmps28
    go_wp2
    go_ret
    exact ⟨by rw [N.out]; rfl, Below.refl _ _⟩
end Go.Proofs.YtlelkhonkhlflaaDoor
