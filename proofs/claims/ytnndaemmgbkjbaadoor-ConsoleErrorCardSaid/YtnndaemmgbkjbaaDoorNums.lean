/-
  console.numbers: the numbers that words denote.
-/
import Derived.Test.YtnndaemmgbkjbaaDoorNumber
namespace Go.Proofs.YtnndaemmgbkjbaaDoor
open Go.RowKit
set_option linter.unusedVariables false
set_option linter.unusedSimpArgs false

def numsV (l : List ByteArray) : List Int × Bool := if l.all (fun s => (numV s).2) = true then (l.map fun s => (numV s).1, true) else ([], false)
theorem numsV_yes {l : List ByteArray} (h : l.all (fun s => (numV s).2) = true) : numsV l = (l.map fun s => (numV s).1, true) := if_pos h
theorem numsV_no {l : List ByteArray} {k : Nat} (hk : k < l.length) (h : (numV (l.getD k default)).2 = false) : numsV l = ([], false) := if_neg fun e => by
  have := List.all_eq_true.1 e (l.getD k default) (by rw [List.getD_eq_getElem?_getD, List.getElem?_eq_getElem hk, Option.getD_some]; exact List.getElem_mem _)
  rw [h] at this
  cases this
theorem take_succD {α : Type} [Inhabited α] {l : List α} {k : Nat} (hk : k < l.length) : l.take (k + 1) = l.take k ++ [l.getD k default] := by
  rw [List.take_add_one, List.getElem?_eq_getElem hk, List.getD_eq_getElem?_getD, List.getElem?_eq_getElem hk]
  rfl
theorem getD_memD {α : Type} [Inhabited α] {l : List α} {k : Nat} (hk : k < l.length) : l.getD k default ∈ l := by
  rw [List.getD_eq_getElem?_getD, List.getElem?_eq_getElem hk, Option.getD_some]
  exact List.getElem_mem _
theorem push_int {B : Nat} {w : World} {v : Value} {l : List Int} (h : OwnE iv 3 B w v l) (hB : B ≤ w.heap.size) (hl : l.length ≤ 1000000) (ot : TypeId) (y : Int) :
    ∃ A c w', (Builtin.append_ #[36, 36] ot #[v, .slice (some ⟨w.heap.size, 0, none⟩) 1 1]).run Tryd.prog (w.alloc (.cells #[.int .i64 y] 3)) = .ok (.slice A (l.length + 1) c) w' ∧ OwnE iv 3 B w' (.slice A (l.length + 1) c) (l ++ [y]) ∧ Below B w w' := by
  obtain ⟨i0, hi, hz0, hz1, hz2⟩ := info_parts intinfo
  exact OwnE.push Tryd.underlying36 hi hz0 hz1 hz2 rfl (by decide) h hB hl (fun x => rfl) ot y
set_option maxHeartbeats 2000000 in
set_option maxRecDepth 100000 in
theorem numbers_any {A : Option Addr} {c : Nat} {l : List ByteArray} {w : World} (h : Strs w A l) (hm : l.length ≤ 1000000) (hs : ∀ s ∈ l, s.size ≤ 1000000) :
    Calls Tryd.prog 26 #[.slice A l.length c] w fun e w' => ∃ v, e = .returned (.tuple #[v, .bool (numsV l).2]) ∧ OwnE iv 3 w.heap.size w' v (numsV l).1 ∧ Below w.heap.size w w' := by
  have H := hide h
  have HS := hide hs
  clear h hs
  go_enter Tryd.func26, Tryd.ntmps26
  go_wp2_with fail
  go_loopw [4, 6, 7, 8, 11] (fun o _ _ _ i wr => ∃ k : Nat, k ≤ l.length ∧ i = .int .i64 k ∧ ∃ v : Value, o = v ∧ Hid (OwnE iv 3 w.heap.size wr v ((l.take k).map fun s => (numV s).1)) ∧ Hid ((l.take k).all (fun s => (numV s).2) = true) ∧ Hid (Below w.heap.size w wr)) (fun _ _ _ _ i _ => l.length - (iOf i).toNat)
  case atStart => exact ⟨0, Nat.zero_le _, rfl, _, rfl, OwnE.nil _ _ _ _, (by rw [Hid]; rfl), Below.refl _ _⟩
  case round =>
    obtain ⟨k, hk, rfl, v, rfl, HO, HA, HB⟩ := hrel
    by_cases hlt : k < l.length
    · obtain ⟨b, off, rfl, hb, h0⟩ := H.out.at_ hlt
      have h0 := (HB.out.cell (p := ⟨b, off + k, none⟩) hb).trans h0
      have hsw := HB.out.size
      have hlen : ((l.take k).map fun s => (numV s).1).length = k := by rw [List.length_map, List.length_take]; omega
      have HN := hide (fun wq => number_any (w := wq) (HS.out _ (getD_memD hlt)))
      have HNo := hide (fun h => numsV_no hlt h)
      have HYa : Hid ((numV (l.getD k default)).2 = true → (l.take (k + 1)).all (fun s => (numV s).2) = true) := fun e => by
        rw [take_succD hlt, List.all_append, HA.out]
        simpa using e
      have HYo : Hid ((l.take (k + 1)).map (fun s => (numV s).1) = ((l.take k).map fun s => (numV s).1) ++ [(numV (l.getD k default)).1]) := by
        rw [Hid, take_succD hlt, List.map_append]
        rfl
      obtain ⟨A4, c4, w4, hr4, hO4, hb4⟩ := push_int HO.out hsw (by omega) 36 (numV (l.getD k default)).1
      rw [hlen] at hr4 hO4
      have HR4 := hide hr4
      have HO4 := hide hO4
      have HB4 := hide (HB.out.trans hb4)
      clear hr4 hO4 hb4
      generalize l.getD k default = s at *
      generalize numV s = q at *
      obtain ⟨n, ok⟩ := q
      simp only [] at *
      cases ok with
      | true =>
        go_wp2_with fail
        refine (HN.out _).mono ?_
        rintro e w1 ⟨rfl, rfl⟩
        go_wp2_with ((with_reducible refine wpList_gives (o := ⟨some 25, _, _, _, _, _⟩) (v := Value.slice A4 (k + 1) c4) (w' := w4) ?_ ?_ ?_); rfl; exact gives_append rfl rfl rfl HR4.out)
        go_roundw
        case rel => exact ⟨k + 1, by omega, by go_num, _, rfl, by rw [HYo.out]; exact HO4.out, HYa.out (by first | rfl | trivial), HB4.out⟩
        case measure => simp [iOf]; omega
      | false =>
        have hn := hide (HNo.out (by first | rfl | trivial))
        go_wp2_with fail
        refine (HN.out _).mono ?_
        rintro e w1 ⟨rfl, rfl⟩
        go_wp2_with fail
        go_ret2
        exact ⟨_, by rw [hn.out]; rfl, by rw [hn.out]; exact OwnE.nil _ _ _ _, HB.out⟩
    · obtain rfl : k = l.length := by omega
      have hA := HA.out
      have hO := HO.out
      rw [List.take_length] at hA hO
      have HV := hide (numsV_yes hA)
      have HO := hide hO
      clear hA hO
      go_wp2_with fail
      go_ret2
      exact ⟨_, by rw [HV.out]; rfl, by rw [HV.out]; exact HO.out, HB.out⟩
end Go.Proofs.YtnndaemmgbkjbaaDoor
