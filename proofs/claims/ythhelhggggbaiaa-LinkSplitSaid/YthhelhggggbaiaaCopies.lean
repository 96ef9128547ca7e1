/-
  copies: new frames with the same bytes.
-/
import Derived.Test.YthhelhggggbaiaaFrames
import Derived.Maps.AppendAt
namespace Go.Proofs.Ythhelhggggbaiaa
open Go.RowKit
set_option linter.unusedVariables false
set_option linter.unusedSimpArgs false

def CopyPost (w : World) (fs : List (List UInt8)) (e : Ending) (w' : World) : Prop := ∃ v r c, e = .returned v ∧ Own w' w.heap.size v r c fs ∧ Below w.heap.size w w'

theorem copy_facts {w wr w5 : World} {u3 : Value} {r c : Nat → Nat} {fs : List (List UInt8)} {k : Nat} {fk : List UInt8} (hO : Hid (Own wr w.heap.size u3 r c (fs.take k))) (hW : Hid (Below w.heap.size w wr)) (hTL : Hid ((fs.take k).length = k))
    (hrow : Hid (w5.heap[wr.heap.size]? = some (.cells (splice (List.replicate fk.length (Value.int .u8 0)) 0 (fk.map u8v)).toArray 5 (0, 0)))) (hb5 : Below wr.heap.size wr w5) :
    Hid (Own (w5.alloc (.cells #[.slice (some ⟨wr.heap.size, 0, none⟩) fk.length fk.length] 32)) w.heap.size u3 r c (fs.take k)) ∧ Hid (Row (w5.alloc (.cells #[.slice (some ⟨wr.heap.size, 0, none⟩) fk.length fk.length] 32)) wr.heap.size fk) ∧
    Hid (Below w.heap.size w (w5.alloc (.cells #[.slice (some ⟨wr.heap.size, 0, none⟩) fk.length fk.length] 32))) ∧ Hid (u3.ownBlock ≠ some wr.heap.size) ∧ Hid (∀ j, j < (fs.take k).length → r j ≠ wr.heap.size) ∧
    Hid ((w5.alloc (.cells #[.slice (some ⟨wr.heap.size, 0, none⟩) fk.length fk.length] 32)).ownsRow w.heap.size 32 1 u3 k (rowVs r c (fs.take k))) := by
  have hR5 : Row w5 wr.heap.size fk := by
    refine ⟨[], ?_⟩
    have h := hrow.out
    unfold splice at h
    simp only [List.take_zero, List.nil_append, List.length_map, Nat.zero_add, List.drop_replicate, Nat.sub_self, List.replicate_zero] at h
    exact h
  have O5 := (hO.out.kept hb5).kept ((Below.refl _ _).alloc (Nat.le_refl _) (.cells #[.slice (some ⟨wr.heap.size, 0, none⟩) fk.length fk.length] 32))
  have L5 := below_then hW.out hb5
  refine ⟨O5, hR5.alloc _, L5.alloc L5.size _, ?_, fun j hj e => ?_, ?_⟩
  · rcases hO.out.1.2 with ⟨h, _⟩ | ⟨g, cap, cur, h, _, hg, _⟩
    · rw [h]; exact fun e => by cases e
    · rw [h]
      intro e
      injection e with e
      have e2 : g = wr.heap.size := e
      rw [e2, Array.getElem?_eq_none (Nat.le_refl _)] at hg
      cases hg
  · have := (hO.out.2.1 j hj).1.lt
    omega
  · have hown := O5.1
    rw [hTL.out] at hown
    exact hown

set_option maxHeartbeats 1600000 in
theorem copies_any (A : Option Addr) (c0 : Nat) (fs : List (List UInt8)) (w : World) (hf : Fr w A fs) (hl : fs.length ≤ 100000) (hb : ∀ k, k < fs.length → (fs.getD k []).length ≤ 100000) :
    Calls Try.prog 33 #[.slice A fs.length c0] w (CopyPost w fs) := by
  obtain ⟨i0, hi, hz0, hz1, hz2⟩ := info_parts sliceinfo
  have HF := hide hf
  have HBd := hide hb
  have hmk : ∀ (n : Nat) (w : World), n ≤ 100000 → (Instr.makeSlice 32 (.int .i64 (n : Int)) (.int .i64 (n : Int))).run Try.prog w = .ok (.slice (some ⟨w.heap.size, 0, none⟩) n n) (w.alloc (.cells (madeCells #[.int .u8 0] n) 5)) := fun n w hn =>
    run_make_row' 32 5 (.int .u8 0) 1 Try.underlying32 u8info rfl .i64 .i64 n (by omega) (by omega) w
  have HMK := hide hmk
  clear hf hb hmk
  go_enter Try.func33, Try.ntmps33
  go_wp2_with fail
  go_loopw [3, 9] (fun v i wr => ∃ k : Nat, k ≤ fs.length ∧ i = .int .i64 k ∧ ∃ u3 r c, v = u3 ∧ Hid (Own wr w.heap.size u3 r c (fs.take k)) ∧ Hid (Below w.heap.size w wr)) (fun _ i _ => fs.length - (intOf i).toNat)
  case atStart => exact ⟨0, by omega, rfl, _, fun _ => 0, fun _ => 0, rfl, Own.nil _ _ _ _, Below.refl _ _⟩
  case round =>
    obtain ⟨k, hk, rfl, u3, r, c, rfl, hO, hW⟩ := hrel
    by_cases hlt : k < fs.length
    · obtain ⟨b, off, Ak, ck, rfl, hb1, q, hbys, hck⟩ := (HF.out.below hW.out).at_ hlt
      have hL := HBd.out k hlt
      have HBY := hide hbys
      generalize hfk : fs.getD k [] = fk at *
      have hm := HMK.out fk.length wr hL
      clear hbys
      have hT : fs.take k ++ [fk] = fs.take (k + 1) := by
        rw [List.take_add_one, ← hfk]
        simp [List.getD_eq_getElem?_getD, hlt]
      have HT := hide hT
      have htl : (fs.take k).length = k := by rw [List.length_take]; omega
      have HTL := hide htl
      have hsz := hW.out.size
      have HG : Hid ((wr.alloc (.cells (madeCells #[.int .u8 0] fk.length) 5)).heap[wr.heap.size]? = some (.cells (List.replicate fk.length (Value.int .u8 0)).toArray 5 (0, 0))) := by
        have e : madeCells #[Value.int .u8 0] fk.length = (List.replicate fk.length (Value.int .u8 0)).toArray := by
          apply Array.toList_inj.1
          rw [toList_madeCells_one]
        rw [Hid, e]
        exact heap_alloc_new wr _
      have HB0 := hide ((Below.refl wr.heap.size wr).alloc (Nat.le_refl _) (.cells (madeCells #[.int .u8 0] fk.length) 5))
      have HBY2 := hide (HBY.out.alloc (.cells (madeCells #[.int .u8 0] fk.length) 5))
      clear hfk hT htl
      go_wp2_with (first | (refine wpList_copy_splice rfl (.tmp 16) (.tmp 17) 32 32 rfl 5 Try.underlying32 (by kernel_rfl) (some ⟨wr.heap.size, 0, none⟩) Ak fk.length fk.length fk.length ck rfl rfl wr.heap.size 0 (List.replicate fk.length (.int .u8 0)) 5 HG.out (fk.map u8v) (by simp) (fun hp => ⟨rfl, by obtain ⟨b2, o2, e2, _, _⟩ := HBY2.out (by simpa using hp); exact ⟨⟨b2, o2, none⟩, e2, news_of_bys (by rw [← e2]; exact HBY2.out)⟩⟩) (by simp) one_byte wr.heap.size wr HB0.out (Nat.le_refl _) ?_; intro w5 hrow hb5; obtain ⟨O5, R5, L5, HV, HRk, HO1⟩ := copy_facts hO hW HTL hrow hb5; clear hrow hb5 HG HB0 HBY2 HBY hO) | (at_builtin; refine wpList_append_own_at _ rfl _ _ 22 rfl w.heap.size 32 i0 (.slice none 0 0) 1 24 Try.underlying22 hi hz0 hz1 hz2 rfl (by decide) u3 k (rowVs r c (fs.take k)) rfl HO1.out ⟨w5.heap.size, 0, none⟩ 1 1 [.slice (some ⟨wr.heap.size, 0, none⟩) fk.length fk.length] rfl rfl (cell_one_new _ _ _) (by intro u hu; simp at hu; subst hu; rfl) (by unfold maxLen; omega) (by omega) (by have := L5.out.size; exact this) ?_; intro u w6 ho hg hn hor))
      have O6 := O5.out.push R5.out (by omega) HV.out HRk.out (Nat.le_refl _) (by rw [HTL.out]; exact ho) hg hor
      rw [HT.out] at O6
      have O6 := hide O6
      have L6 : Hid (Below w.heap.size w w6) := L5.out.grown hg L5.out.size (fun j hj => by
        rcases O5.out.1.2 with ⟨h, _⟩ | ⟨g, cap, cur, h, hb, _⟩
        · rw [h] at hj; cases hj
        · rw [h] at hj; injection hj with hj; have e : g = j := hj; omega)
      clear ho hg hn hor
      go_roundw
      case rel => exact ⟨k + 1, by omega, by go_num, _, _, _, rfl, O6, L6⟩
      case measure => simp [intOf]; omega
    · obtain rfl : fs.length = k := by omega
      go_wp2_with fail
      go_ret
      have h := hO.out
      rw [List.take_length] at h
      exact ⟨_, r, c, rfl, h, hW.out⟩
end Go.Proofs.Ythhelhggggbaiaa
