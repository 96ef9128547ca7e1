/-
  An image argument, opened.
-/
import Derived.Test.YtebahhmajllmnaaFrame
namespace Go.Proofs.Ytebahhmajllmnaa
open Go.ChangeShapes Go.WideShapes Go.ChangeAt Go.RowKit Go.Joins
set_option linter.unusedVariables false
set_option linter.unusedSimpArgs false

theorem cells24 : Try.prog.cellsOf 24 = 3 := by kernel_rfl
theorem cells5 : Try.prog.cellsOf 5 = 1 := by kernel_rfl

section
variable {H : Type} {enc : TypeId × Value → H}
/-- a slice of bytes, opened -/
theorem open_bytes {W : World} {fuel : Nat} {v : Value} {x : DataW H × List MemPlace} (h : DataW.trod enc Try.prog W 0 (fun _ => true) true fuel 22 [v] = some x) :
    ∃ A c bs, v = .slice A bs.length c ∧ Bys W A bs ∧ bs.length ≤ maxLen := by
  rcases open_ints Try.underlying22 Try.underlying5 cells5 h with ⟨hcs, _⟩ | ⟨a, len, cap, zs, hcs, _, hl, hm, hz, _, hcell, hwz⟩
  · cases hcs
    exact ⟨none, 0, [], rfl, fun h => absurd h (by simp), Nat.zero_le _⟩
  · cases hcs
    have hz' : zs.length = cap := hz
    refine ⟨some a, cap, (zs.take len).map fun z => UInt8.ofNat z.toNat, ?_, ?_, ?_⟩
    · rw [List.length_map, List.length_take, Nat.min_eq_left (by omega)]
    · intro hp
      rw [List.length_map, List.length_take] at hp
      obtain ⟨b, off, rfl, hc⟩ := ints_at hcell (by omega)
      refine ⟨b, off, rfl, World.block_lt_of_cell? W _ (hc 0 (by omega)), fun k hk => ?_⟩
      rw [List.length_map, List.length_take] at hk
      have hkz : k < zs.length := by omega
      rw [hc k hkz]
      have hwf := hwz _ (List.getElem_mem hkz)
      have hb : 0 ≤ zs[k] ∧ zs[k] ≤ 255 := by
        have hmin : IntKind.u8.min = 0 := rfl
        have hmax : IntKind.u8.max = 255 := rfl
        simp only [Lit.wf, Bool.and_eq_true, decide_eq_true_eq] at hwf
        omega
      have e1 : zs.getD k 0 = zs[k] := by simp [hkz]
      have e2 : ((zs.take len).map fun z => UInt8.ofNat z.toNat).getD k 0 = UInt8.ofNat zs[k].toNat := by
        have : k < len := by omega
        simp [hkz, this]
      rw [e1, e2]
      unfold u8v
      rw [UInt8.toNat_ofNat', Nat.mod_eq_of_lt (by omega)]
      congr 2
      omega
    · rw [List.length_map, List.length_take]; omega

theorem i64_bd {a : Int} (h : (Lit.int .i64 a).wf = true) : -9223372036854775808 ≤ a ∧ a ≤ 9223372036854775807 := by
  have hmin : IntKind.i64.min = -9223372036854775808 := rfl
  have hmax : IntKind.i64.max = 9223372036854775807 := rfl
  simp only [Lit.wf, Bool.and_eq_true, decide_eq_true_eq] at h
  omega

theorem open_image {r : Reach} {b0 : Nat} {W : World} {v : Value} {d : DataW H} {p : List MemPlace} (hv : Value.okWide Try.prog W r b0 24 v) (h : DataW.Trod enc Try.prog W 0 (fun _ => true) true 24 v d p) :
    ∃ w0 h0 A c bs, v = .agg #[.int .i64 w0, .int .i64 h0, .slice A bs.length c] ∧ Bys W A bs ∧ bs.length ≤ maxLen := by
  obtain ⟨c0, c1, c2, y0, y1, y2, n, rfl, _, _, hy0, hy1, hy2⟩ := open_agg3 Try.underlying24 (by kernel_rfl) cells24 hv h
  obtain ⟨w0, e0, _, _⟩ := DataW.trod_int Try.underlying3 hy0
  obtain ⟨h0, e1, _, _⟩ := DataW.trod_int Try.underlying3 hy1
  obtain ⟨A, c, bs, e2, hb, hm⟩ := open_bytes hy2
  cases e0
  cases e1
  subst e2
  exact ⟨w0, h0, A, c, bs, rfl, hb, hm⟩
end
end Go.Proofs.Ytebahhmajllmnaa
