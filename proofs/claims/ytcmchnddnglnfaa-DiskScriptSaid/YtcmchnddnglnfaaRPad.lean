/-
  'append(append([]byte(nil), b...), make([]byte, 64-len(b))...)'.
-/
import Derived.Test.YtcmchnddnglnfaaRSmall
import Derived.Lib.AppendZerosOnto
namespace Go.Proofs.Ytcmchnddnglnfaa
open Go.RowKit
set_option linter.unusedVariables false
set_option linter.unusedSimpArgs false

theorem zeroC (n : Nat) : Builtin.zeroCells (Value.int .u8 0).cells n = (List.replicate n (Value.int .u8 0)).toArray := by
  apply Array.ext
  · simp [Builtin.zeroCells, Value.cells]
  · intro i h1 h2
    simp [Builtin.zeroCells, Value.cells, Nat.mod_one]
theorem nextcap {old : Nat} (h : old < 64) : Builtin.nextslicecap 64 old ≤ 126 := by
  unfold Builtin.nextslicecap
  split
  · omega
  · split <;> omega
theorem u8zeros (n : Nat) : List.replicate n (Value.int .u8 0) = (List.replicate n (0 : UInt8)).map u8v := by
  rw [List.map_replicate]; rfl
theorem run_zeros_fit (w w' : World) (ty : TypeId) (g k n d : Nat) (hfit : k + n ≤ d) (hn : n ≤ 64) (hst : (storeCells ⟨g, k, none⟩ (List.replicate n (Value.int .u8 0))).run Try.prog w = .ok () w') :
    (Builtin.append_ #[22, 3] ty #[.slice (some ⟨g, 0, none⟩) k d, .int .i64 (n : Int)]).run Try.prog w = .ok (.slice (some ⟨g, 0, none⟩) (k + n) d) w' := by
  obtain ⟨i0, hi, hz0, hz1, hz2⟩ := info_parts u8info
  have hzv : (zeroValue 5).run Try.prog w = .ok (.int .u8 0) w := by simp [zeroValue, typeInfo, hi, hz0]
  by_cases hn0 : n = 0
  · subst hn0
    have hw0 : IntKind.i64.wrap 0 = 0 := by decide
    have hfit' : k ≤ d := by omega
    rw [List.replicate_zero] at hst
    simp [Builtin.append_, run_underlying Try.underlying22, run_underlying Try.underlying3, sizeOf, typeInfo, hi, asInt, asIntOf, hw0, hz1, add_off, hst, hfit']
  · have hw : IntKind.i64.wrap (n : Int) = (n : Int) := by rw [IntKind.wrap_i64]; omega
    have hneg : ¬ ((n : Int) < 0) := by omega
    have h48 : ¬ (281474976710656 < (n : Int) * (i0.bytes : Int)) := by rw [hz2]; omega
    simp [Builtin.append_, run_underlying Try.underlying22, run_underlying Try.underlying3, sizeOf, typeInfo, hi, asInt, asIntOf, hw, hneg, h48, hn0, hfit, hzv, zeroC, hz1, add_off, hst]
def PadPost (B : Nat) (w w3 : World) (bs : List UInt8) (g d : Nat) : Prop := B ≤ g ∧ Row w3 g (padS bs) ∧ 64 ≤ d ∧ Below B w w3
theorem run_pad (w : World) (ty ty2 : TypeId) (A : Option Addr) (c : Nat) (bs : List UInt8) (hb : Bys w A bs) (hm : bs.length ≤ 64) :
    ∃ D d w2 g' d' w3, (Builtin.append_ #[22, 22] ty #[.slice none 0 0, .slice A bs.length c]).run Try.prog w = .ok (.slice D bs.length d) w2 ∧
      (Builtin.append_ #[22, 3] ty2 #[.slice D bs.length d, .int .i64 (64 - (bs.length : Int))]).run Try.prog w2 = .ok (.slice (some ⟨g', 0, none⟩) 64 d') w3 ∧
      Below w.heap.size w w2 ∧ PadPost w.heap.size w w3 bs g' d' := by
  obtain ⟨i0, hi, hz0, hz1, hz2⟩ := info_parts u8info
  have e64 : (64 - (bs.length : Int)) = ((64 - bs.length : Nat) : Int) := by omega
  rw [e64]
  by_cases hl : bs.length = 0
  · obtain rfl := List.length_eq_zero_iff.1 hl
    have hf : (Builtin.firstCells i0.size 0 (.slice A 0 c)).run Try.prog w = .ok #[] w := by
      cases A with
      | none => exact run_firstCells_none w i0.size 0 0 c
      | some b =>
        have := run_firstCells_some (P := Try.prog) w i0.size 0 b 0 c [] (by simp) (fun j v h => by simp at h)
        simpa using this
    have h1 : (Builtin.append_ #[22, 22] ty #[.slice none 0 0, .slice A ([] : List UInt8).length c]).run Try.prog w = .ok (.slice none 0 0) w := by
      simp [Builtin.append_, run_underlying Try.underlying22, sizeOf, typeInfo, hi, Builtin.lenOf, hf, storeCells]
    have h2 := Lib.run_append_nil_zeros (P := Try.prog) w 22 3 ty2 5 i0 (.int .u8 0) .i64 .i64 Try.underlying22 Try.underlying3 hi hz0 64 (by omega) (by omega) (by omega) (by omega)
    refine ⟨none, 0, w, _, _, _, h1, h2, Below.refl _ _, Nat.le_refl _, ⟨List.replicate (grownCap w 64 0 5 - 64) (.int .u8 0), ?_⟩, grownCap_ge _ _ _ _, ?_⟩
    · rw [zeroC, zeroC]
      have e : (List.replicate 64 (Value.int .u8 0)).toArray ++ (List.replicate (grownCap w 64 0 5 - 64) (Value.int .u8 0)).toArray = ((padS []).map u8v ++ List.replicate (grownCap w 64 0 5 - 64) (Value.int .u8 0)).toArray := by
        rw [List.append_toArray]
        rfl
      rw [e]
      exact heap_alloc_new w.drew _
    · exact (below_drew (Below.refl _ _) 1).alloc (Nat.le_refl _) _
  · have hp : 0 < bs.length := by omega
    obtain ⟨b, off, rfl, hlt, hc⟩ := hb hp
    have hnews : ∀ j u, (bs.map u8v)[j]? = some u → w.cell? ((⟨b, off, none⟩ : Addr).add j) = some u := news_of_bys (fun _ => ⟨b, off, rfl, hlt, hc⟩)
    obtain ⟨v', w2, r, ho, hg, _⟩ := run_append_own (P := Try.prog) w w.heap.size 22 ty 5 i0 (.int .u8 0) 1 1 Try.underlying22 hi hz0 hz1 hz2 rfl (by decide) (.slice none 0 0) 0 [] (World.ownsRow_nil w _ _ 1) ⟨b, off, none⟩ bs.length c (bs.map u8v) (by simp) hnews one_byte (by unfold maxLen; omega) (by omega) (Nat.le_refl _)
    rw [Nat.zero_add, List.nil_append] at ho
    have hB2 : Below w.heap.size w w2 := ⟨hg.os, hg.tape, hg.output, hg.size, fun i hi => hg.block i hi (by rintro ⟨⟩)⟩
    obtain ⟨hlen, hr⟩ := ho
    rcases hr with ⟨_, h0⟩ | ⟨g, cap, cur, rfl, hbg, hgc, hnc, hcm, hsz, htk⟩
    · omega
    · rw [Nat.mul_one] at htk hsz
      have hgl : g < w2.heap.size := by
        rcases Nat.lt_or_ge g w2.heap.size with h | h
        · exact h
        · rw [Array.getElem?_eq_none h] at hgc; cases hgc
      by_cases hfit : 64 ≤ cap
      · -- there is room
        have hst := run_storeCells_at Try.prog g bs.length 5 (List.replicate (64 - bs.length) (Value.int .u8 0)) 0 cur w2 hgc (by rw [List.length_replicate]; omega) (fun v hv => by rw [List.eq_of_mem_replicate hv]; rfl)
        rw [Nat.add_zero, List.length_replicate, show bs.length + (64 - bs.length) = 64 by omega, htk] at hst
        refine ⟨_, cap, w2, g, cap, w2.setRow g (bs.map u8v ++ List.replicate (64 - bs.length) (Value.int .u8 0) ++ cur.toList.drop 64).toArray, r, ?_, hB2, hbg, ⟨cur.toList.drop 64, ?_⟩, hfit, ?_⟩
        · have h := run_zeros_fit w2 _ ty2 g bs.length (64 - bs.length) cap (by omega) (by omega) hst
          rw [show bs.length + (64 - bs.length) = 64 by omega] at h
          exact h
        · have := setRow_heap w2 g cur (bs.map u8v ++ List.replicate (64 - bs.length) (Value.int .u8 0) ++ cur.toList.drop 64).toArray 5 (0, 0) hgc
          rw [this, padS, List.map_append, u8zeros]
        · exact hB2.trans ⟨rfl, rfl, rfl, by simp, fun k hk => setRow_other w2 g k _ (by omega)⟩
      · have holds : (Builtin.firstCells i0.size bs.length (.slice (some ⟨g, 0, none⟩) bs.length cap)).run Try.prog w2.drew = .ok (bs.map u8v).toArray w2.drew := by
          have hR : Row w2.drew g bs := ⟨cur.toList.drop bs.length, by rw [← htk, List.take_append_drop]; exact hgc⟩
          refine run_firstCells_some (P := Try.prog) w2.drew i0.size bs.length ⟨g, 0, none⟩ bs.length cap (bs.map u8v) (by rw [hz1]; simp) (news_of_bys hR.bys)
        have h2 := Lib.run_append_grow_zeros (P := Try.prog) w2 22 3 ty2 5 i0 (.int .u8 0) .i64 .i64 Try.underlying22 Try.underlying3 hi hz0 (some ⟨g, 0, none⟩) bs.length cap (bs.map u8v) holds (64 - bs.length) (by omega) (by omega) (by omega) (by omega) (by rw [hz2]; omega) (by rw [show bs.length + (64 - bs.length) = 64 by omega, hz2]; have := nextcap (old := cap) (by omega); omega)
        rw [show bs.length + (64 - bs.length) = 64 by omega, zeroC, zeroC] at h2
        refine ⟨_, cap, w2, w2.heap.size, _, _, r, h2, hB2, hg.size, ⟨List.replicate (grownCap w2 64 cap 5 - 64) (.int .u8 0), ?_⟩, grownCap_ge _ _ _ _, ?_⟩
        · have e : (bs.map u8v).toArray ++ (List.replicate (64 - bs.length) (Value.int .u8 0)).toArray ++ (List.replicate (grownCap w2 64 cap 5 - 64) (Value.int .u8 0)).toArray = ((padS bs).map u8v ++ List.replicate (grownCap w2 64 cap 5 - 64) (Value.int .u8 0)).toArray := by
            rw [List.append_toArray, List.append_toArray, padS, List.map_append, u8zeros]
          rw [e]
          exact heap_alloc_new w2.drew _
        · exact (below_drew hB2 1).alloc hg.size _
end Go.Proofs.Ytcmchnddnglnfaa
