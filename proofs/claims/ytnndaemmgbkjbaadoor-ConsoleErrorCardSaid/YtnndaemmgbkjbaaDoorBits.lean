/-
  console.bits: the choices that a word of 0 and 1 stands for.
-/
import Derived.Test.YtnndaemmgbkjbaaDoorNamed
namespace Go.Proofs.YtnndaemmgbkjbaaDoor
open Go.RowKit
set_option linter.unusedVariables false
set_option linter.unusedSimpArgs false

def isBit (b : UInt8) : Bool := decide (b.toNat = 48) || decide (b.toNat = 49)
def bitB (b : UInt8) : Bool := decide (b.toNat = 49)
def bitsV (s : ByteArray) : List Bool × Bool := if s.toList == [45] then ([], true) else if s.data.toList.all isBit = true then (s.data.toList.map bitB, !s.toList.isEmpty) else ([], false)
theorem bitsV_dash {s : ByteArray} (h : (s.toList == [45]) = true) : bitsV s = ([], true) := if_pos h
theorem bitsV_yes {s : ByteArray} (h : (s.toList == [45]) = false) (ha : s.data.toList.all isBit = true) : bitsV s = (s.data.toList.map bitB, !s.toList.isEmpty) := by unfold bitsV; rw [if_neg (by rw [h]; simp), if_pos ha]
theorem bitsV_no {s : ByteArray} {k : Nat} (h : (s.toList == [45]) = false) (hk : k < s.size) (hb : isBit (s[k]'hk) = false) : bitsV s = ([], false) := by
  unfold bitsV
  rw [if_neg (by rw [h]; simp), if_neg]
  intro e
  have := List.all_eq_true.1 e _ (List.mem_of_getElem? (bget hk))
  rw [hb] at this
  cases this
theorem boolinfo : (Tryd.prog.info? 4).map (fun i => (i.zero, i.size, i.bytes)) = some (some (.bool false), 1, 1) := by kernel_rfl
theorem push_bool {B : Nat} {w : World} {v : Value} {l : List Bool} (h : OwnE Value.bool 4 B w v l) (hB : B ≤ w.heap.size) (hl : l.length ≤ 1000000) (ot : TypeId) (y : Bool) :
    ∃ A c w', (Builtin.append_ #[37, 37] ot #[v, .slice (some ⟨w.heap.size, 0, none⟩) 1 1]).run Tryd.prog (w.alloc (.cells #[.bool y] 4)) = .ok (.slice A (l.length + 1) c) w' ∧ OwnE Value.bool 4 B w' (.slice A (l.length + 1) c) (l ++ [y]) ∧ Below B w w' := by
  obtain ⟨i0, hi, hz0, hz1, hz2⟩ := info_parts boolinfo
  exact OwnE.push Tryd.underlying37 hi hz0 hz1 hz2 rfl (by decide) h hB hl (fun x => rfl) ot y
set_option maxHeartbeats 2000000 in
set_option maxRecDepth 100000 in
theorem bits_any {s : ByteArray} {w : World} (hs : s.size ≤ 1000000) :
    Calls Tryd.prog 24 #[.string s] w fun e w' => ∃ v, e = .returned (.tuple #[v, .bool (bitsV s).2]) ∧ OwnE Value.bool 4 w.heap.size w' v (bitsV s).1 ∧ Below w.heap.size w w' := by
  have hsz := Lib.size_eq s
  go_enter Tryd.func24, Tryd.ntmps24
  cases hd : s.toList == [45] with
  | true =>
    have hn := hide (bitsV_dash hd)
    clear hsz
    go_wp2_with fail
    go_ret2
    exact ⟨_, by rw [hn.out]; rfl, by rw [hn.out]; exact OwnE.nil _ _ _ _, Below.refl _ _⟩
  | false =>
    have HY := hide (fun h => bitsV_yes hd h)
    have HN := hide (fun k hk hb => bitsV_no (k := k) hd hk hb)
    have HSz := hide hsz
    have HEm := hide (fun (h : 0 < s.size) => isEmpty_false h)
    clear hsz
    go_wp2_with fail
    go_loopw [4, 5, 10] (fun o _ i wr => ∃ k : Nat, k ≤ s.size ∧ i = .int .i64 k ∧ ∃ v : Value, o = v ∧ Hid (OwnE Value.bool 4 w.heap.size wr v ((s.data.toList.take k).map bitB)) ∧ Hid ((s.data.toList.take k).all isBit = true) ∧ Hid (Below w.heap.size w wr)) (fun _ _ i _ => s.size - (iOf i).toNat)
    case atStart => exact ⟨0, Nat.zero_le _, rfl, _, rfl, OwnE.nil _ _ _ _, (by rw [Hid]; rfl), Below.refl _ _⟩
    case round =>
      obtain ⟨k, hk, rfl, v, rfl, HO, HA, HB⟩ := hrel
      by_cases hlt : k < s.size
      · have hsw := HB.out.size
        have hlen : ((s.data.toList.take k).map bitB).length = k := by have := HSz.out; rw [List.length_map, List.length_take]; omega
        have HNo := hide (HN.out k hlt)
        have HYa : Hid (isBit (s[k]'hlt) = true → (s.data.toList.take (k + 1)).all isBit = true) := fun e => by
          rw [take_snocB (bget hlt), List.all_append, HA.out]
          simpa using e
        have HYo : Hid ((s.data.toList.take (k + 1)).map bitB = ((s.data.toList.take k).map bitB) ++ [bitB (s[k]'hlt)]) := by
          rw [Hid, take_snocB (bget hlt), List.map_append]
          rfl
        obtain ⟨A4, c4, w4, hr4, hO4, hb4⟩ := push_bool HO.out hsw (by omega) 37 (bitB (s[k]'hlt))
        rw [hlen] at hr4 hO4
        rw [← HYo.out] at hO4
        have HO4 := hide hO4
        have HB4 := hide (HB.out.trans hb4)
        clear hO4 hb4
        by_cases h48 : (s[k]'hlt).toNat = 48
        · have hx : ((s[k]'hlt).toNat : Int) = 48 := by omega
          have ha := hide (HYa.out (by unfold isBit; rw [decide_eq_true h48]; rfl))
          have hbb : bitB (s[k]'hlt) = false := decide_eq_false (by omega)
          rw [hbb] at hr4
          have HR4 := hide hr4
          clear hbb
          clear h48 hr4 HYa HNo HYo
          go_wp2_with ((with_reducible refine wpList_gives (o := ⟨some 29, _, _, _, _, _⟩) (v := Value.slice A4 (k + 1) c4) (w' := w4) ?_ ?_ ?_); rfl; exact gives_append rfl rfl rfl HR4.out)
          go_roundw
          case rel => exact ⟨k + 1, by omega, by go_num, _, rfl, HO4.out, ha.out, HB4.out⟩
          case measure => simp [iOf]; omega
        · by_cases h49 : (s[k]'hlt).toNat = 49
          · have hx : ((s[k]'hlt).toNat : Int) = 49 := by omega
            have ha := hide (HYa.out (by unfold isBit; rw [decide_eq_true h49]; simp))
            have hbb : bitB (s[k]'hlt) = true := decide_eq_true h49
            rw [hbb] at hr4
            have HR4 := hide hr4
            clear hbb
            clear h48 h49 hr4 HYa HNo HYo
            go_wp2_with ((with_reducible refine wpList_gives (o := ⟨some 29, _, _, _, _, _⟩) (v := Value.slice A4 (k + 1) c4) (w' := w4) ?_ ?_ ?_); rfl; exact gives_append rfl rfl rfl HR4.out)
            go_roundw
            case rel => exact ⟨k + 1, by omega, by go_num, _, rfl, HO4.out, ha.out, HB4.out⟩
            case measure => simp [iOf]; omega
          · have hx : (((s[k]'hlt).toNat : Int) != 48) = true := bne_iff_ne.2 (by omega)
            have hx2 : (((s[k]'hlt).toNat : Int) != 49) = true := bne_iff_ne.2 (by omega)
            have hn := hide (HNo.out (by unfold isBit; rw [decide_eq_false h48, decide_eq_false h49]; rfl))
            clear h48 h49 hr4 HYa HNo HYo
            go_wp2_with fail
            go_ret2
            exact ⟨_, by rw [hn.out]; rfl, by rw [hn.out]; exact OwnE.nil _ _ _ _, HB.out⟩
      · obtain rfl : k = s.size := by omega
        have hA := HA.out
        have hO := HO.out
        rw [HSz.out, List.take_length] at hA hO
        have hn := hide (HY.out hA)
        have HO := hide hO
        obtain ⟨A2, c2, rfl, _, _, _⟩ := hO.form
        clear hA hO
        by_cases h0 : 0 < s.size
        · have hem := HEm.out h0
          go_wp2_with fail
          go_ret2
          exact ⟨_, by rw [hn.out]; simp only [hem]; rfl, by rw [hn.out]; exact HO.out, HB.out⟩
        · have hem := isEmpty_true (s := s) (by omega)
          go_wp2_with fail
          go_ret2
          exact ⟨_, by rw [hn.out]; simp only [hem]; rfl, by rw [hn.out]; exact HO.out, HB.out⟩
end Go.Proofs.YtnndaemmgbkjbaaDoor
