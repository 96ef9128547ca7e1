/-
  What lies on the disk; journal.clear.
-/
import Derived.Test.YtlelkhonkhlflaaDoorJread
namespace Go.Proofs.YtlelkhonkhlflaaDoor
open Go.RowKit
set_option linter.unusedVariables false
set_option linter.unusedSimpArgs false

theorem built_jrn_at (s : Nat) (x0 x1 x2 x3 x4 x5 x6 x7 x8 x9 x10 x11 x12 x13 x14 x15 x16 x17 x18 x19 x20 x21 x22 x23 x24 x25 x26 x27 x28 x29 x30 x31 : Int) : Tryd.prog.built 60 [(0, .pointer (some ⟨s, 0, none⟩)), (1, .agg #[.int .u8 x0, .int .u8 x1, .int .u8 x2, .int .u8 x3, .int .u8 x4, .int .u8 x5, .int .u8 x6, .int .u8 x7, .int .u8 x8, .int .u8 x9, .int .u8 x10, .int .u8 x11, .int .u8 x12, .int .u8 x13, .int .u8 x14, .int .u8 x15, .int .u8 x16, .int .u8 x17, .int .u8 x18, .int .u8 x19, .int .u8 x20, .int .u8 x21, .int .u8 x22, .int .u8 x23, .int .u8 x24, .int .u8 x25, .int .u8 x26, .int .u8 x27, .int .u8 x28, .int .u8 x29, .int .u8 x30, .int .u8 x31])] = some #[.pointer (some ⟨s, 0, none⟩), .int .u8 x0, .int .u8 x1, .int .u8 x2, .int .u8 x3, .int .u8 x4, .int .u8 x5, .int .u8 x6, .int .u8 x7, .int .u8 x8, .int .u8 x9, .int .u8 x10, .int .u8 x11, .int .u8 x12, .int .u8 x13, .int .u8 x14, .int .u8 x15, .int .u8 x16, .int .u8 x17, .int .u8 x18, .int .u8 x19, .int .u8 x20, .int .u8 x21, .int .u8 x22, .int .u8 x23, .int .u8 x24, .int .u8 x25, .int .u8 x26, .int .u8 x27, .int .u8 x28, .int .u8 x29, .int .u8 x30, .int .u8 x31, .slice none 0 0] := by kernel_rfl
theorem list32 (d : List UInt8) (h : d.length = 32) : d = [d.getD 0 0, d.getD 1 0, d.getD 2 0, d.getD 3 0, d.getD 4 0, d.getD 5 0, d.getD 6 0, d.getD 7 0, d.getD 8 0, d.getD 9 0, d.getD 10 0, d.getD 11 0, d.getD 12 0, d.getD 13 0, d.getD 14 0, d.getD 15 0, d.getD 16 0, d.getD 17 0, d.getD 18 0, d.getD 19 0, d.getD 20 0, d.getD 21 0, d.getD 22 0, d.getD 23 0, d.getD 24 0, d.getD 25 0, d.getD 26 0, d.getD 27 0, d.getD 28 0, d.getD 29 0, d.getD 30 0, d.getD 31 0] := by
  have e : d = (List.range 32).map (fun i => d.getD i 0) := by
    apply List.ext_getElem?
    intro i
    rw [List.getElem?_map]
    by_cases hi : i < 32
    · rw [List.getElem?_range hi, Option.map_some, List.getD_eq_getElem?_getD, List.getElem?_eq_getElem (by omega)]
      rfl
    · rw [List.getElem?_eq_none (by omega), List.getElem?_eq_none (by rw [List.length_range]; omega)]
      rfl
  exact e.trans rfl
theorem built_jrn (s : Nat) (d : List UInt8) (h : d.length = 32) : Tryd.prog.built 60 [(0, .pointer (some ⟨s, 0, none⟩)), (1, .agg (secA d))] = some (jA s d (.slice none 0 0)) := by
  rw [list32 d h]
  exact built_jrn_at s ((d.getD 0 0).toNat : Nat) ((d.getD 1 0).toNat : Nat) ((d.getD 2 0).toNat : Nat) ((d.getD 3 0).toNat : Nat) ((d.getD 4 0).toNat : Nat) ((d.getD 5 0).toNat : Nat) ((d.getD 6 0).toNat : Nat) ((d.getD 7 0).toNat : Nat) ((d.getD 8 0).toNat : Nat) ((d.getD 9 0).toNat : Nat) ((d.getD 10 0).toNat : Nat) ((d.getD 11 0).toNat : Nat) ((d.getD 12 0).toNat : Nat) ((d.getD 13 0).toNat : Nat) ((d.getD 14 0).toNat : Nat) ((d.getD 15 0).toNat : Nat) ((d.getD 16 0).toNat : Nat) ((d.getD 17 0).toNat : Nat) ((d.getD 18 0).toNat : Nat) ((d.getD 19 0).toNat : Nat) ((d.getD 20 0).toNat : Nat) ((d.getD 21 0).toNat : Nat) ((d.getD 22 0).toNat : Nat) ((d.getD 23 0).toNat : Nat) ((d.getD 24 0).toNat : Nat) ((d.getD 25 0).toNat : Nat) ((d.getD 26 0).toNat : Nat) ((d.getD 27 0).toNat : Nat) ((d.getD 28 0).toNat : Nat) ((d.getD 29 0).toNat : Nat) ((d.getD 30 0).toNat : Nat) ((d.getD 31 0).toNat : Nat)
/-- the digest behind k entries -/
def lastAt (C : List Nat) (d0 : List UInt8) (es : List (List UInt8)) : Nat → List UInt8
  | 0 => d0
  | k + 1 => linkF C (lastAt C d0 es k) (es.getD k [])
theorem lastAt_length {C : List Nat} {d0 : List UInt8} (h : d0.length = 32) (es : List (List UInt8)) : ∀ k, (lastAt C d0 es k).length = 32
  | 0 => h
  | k + 1 => linkF_length _ _ _
def markB : List UInt8 := [106, 111, 117, 114, 110, 97, 108]
/-- the sectors bear a journal with these entries -/
structure OnDisk (C : List Nat) (ss : List (List UInt8)) (es : List (List UInt8)) : Prop where
  mark : (ss.getD 0 []).take 7 = markB
  least : 8 ≤ ss.length
  most : es.length ≤ capJ ss.length
  recs : ∀ k, k < es.length → RecIs C (lastAt C (shaF C (ss.getD 0 [])) es k) (recL ss (4 + 4 * k) 4) (some (lastAt C (shaF C (ss.getD 0 [])) es (k + 1), es.getD k []))
  rest : ∀ i, 4 + 4 * es.length ≤ i → i < ss.length → ss.getD i [] = zeroS
theorem recL_head {ss : List (List UInt8)} {i : Nat} (h : (ss.getD i []).length = 64) : ∀ m, ∀ j, j < 64 → (recL ss i (m + 1)).getD j 0 = (ss.getD i []).getD j 0
  | 0, j, hj => by rw [recL, recL, List.nil_append, Nat.add_zero]
  | m + 1, j, hj => by
    have ih := recL_head h m j hj
    have hl : ∀ n, 64 ≤ (recL ss i (n + 1)).length := fun n => by
      induction n with
      | zero => rw [recL, recL, List.nil_append, Nat.add_zero, h]; exact Nat.le_refl _
      | succ n ihn => rw [recL, List.length_append]; omega
    rw [recL, List.getD_eq_getElem?_getD, List.getElem?_append_left (by have := hl m; omega), ← List.getD_eq_getElem?_getD]
    exact ih
theorem OnDisk.none_ {C : List Nat} {ss es : List (List UInt8)} (h : OnDisk C ss es) (hk : es.length < capJ ss.length) (last : List UInt8) : RecIs C last (recL ss (4 + 4 * es.length) 4) none := by
  have h1 : ss.getD (4 + 4 * es.length) [] = zeroS := h.rest _ (Nat.le_refl _) (by unfold capJ at hk; omega)
  have h2 := recL_head (ss := ss) (i := 4 + 4 * es.length) (by rw [h1]; exact zeroS_length) 3 32 (by omega)
  show (recL ss (4 + 4 * es.length) 4).getD 32 0 = 0
  rw [h2, h1]
  rfl
section
variable {F G : Nat → Prop} {w : World} {j s : Nat} {ss : List (List UInt8)} {e : Nat → Option (List UInt8)} {fuse : Int} {last : List UInt8} {es : List (List UInt8)}
set_option maxHeartbeats 1600000 in
set_option maxRecDepth 100000 in
theorem clear_ok (h : Jrn F G w j s ss e fuse false last es) (h4 : 8 ≤ ss.length) (hle : es.length ≤ capJ ss.length) (hz : es.length < capJ ss.length → ss.getD (4 + 4 * es.length) [] = zeroS) :
    Calls Tryd.prog 36 #[.pointer (some ⟨j, 0, none⟩)] w fun en w' => en = .returned (.int .i64 0) ∧ Below w.heap.size w w' := by
  have HRM := hide (room_any h (by omega))
  have HJ := hide h
  by_cases hfull : es.length = capJ ss.length
  · rw [hfull, Int.sub_self] at HRM
    clear h hz hfull hle
    go_enter Tryd.func36, Tryd.ntmps36
    go_wp2_with fail
    refine HRM.out.mono ?_
    rintro en w1 ⟨rfl, hB1⟩
    go_wp2_with fail
    go_ret
    exact ⟨rfl, hB1⟩
  · have hlt : es.length < capJ ss.length := by omega
    have hcap : 4 + 4 * es.length + 4 ≤ ss.length := by unfold capJ at hlt; omega
    have hmo := h.dsk.most
    obtain ⟨r, hr⟩ : ∃ r : Int, r = ((capJ ss.length : Nat) - (es.length : Nat) : Int) := ⟨_, rfl⟩
    have hr0 : (r == 0) = false := beq_false_of_ne (by omega)
    rw [← hr] at HRM
    have HZ := hide (hz hlt)
    clear h hz hr
    go_enter Tryd.func36, Tryd.ntmps36
    go_wp2_with fail
    refine HRM.out.mono ?_
    rintro en w1 ⟨rfl, hB1⟩
    have HJ1 := hide (HJ.out.kept hB1)
    have HB1 := hide hB1
    obtain ⟨A, c, c0, c33, hc, hf⟩ := HJ1.out.cells
    have HRD := hide (read_ok HJ1.out.dsk (4 + 4 * es.length) (by omega))
    rw [HZ.out, show ((4 + 4 * es.length : Nat) : Int) = 4 + 4 * (es.length : Int) by omega] at HRD
    generalize es.length = n at *
    clear hB1 hf
    go_wp2_with fail
    refine HRD.out.mono ?_
    rintro en w2 ⟨g, c2, hg, rfl, hRow, hB2, hc2⟩
    rw [zeroS_length]
    have HCT := hide (count_zero g 0 c2 w2.heap.size 1 64 (w2.alloc (.cells #[.int .u8 0] 5)) (hRow.alloc _).bys (by omega) ((Box.new w2 5 #[.int .u8 0]).cell 0))
    have HB2 := hide ((HB1.out.trans (hB2.mono HB1.out.size)).alloc (by have := hB2.size; have := HB1.out.size; omega) (.cells #[.int .u8 0] 5))
    clear hRow hB2 hg hc2
    go_wp2_with fail
    refine HCT.out.mono ?_
    rintro en w3 ⟨rfl, rfl⟩
    go_wp2_with fail
    go_ret
    exact ⟨rfl, HB2.out⟩
end
end Go.Proofs.YtlelkhonkhlflaaDoor
