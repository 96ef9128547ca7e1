/-
  An image argument, opened.
-/
import Derived.Test.YtebahhmajllmnaaFrame
namespace Go.Proofs.Ytebahhmajllmnaa
open Go.ChangeShapes Go.WideShapes Go.ChangeAt Go.RowKit Go.Joins
set_option linter.unusedVariables false
set_option linter.unusedSimpArgs false

theorem cells24 : Try.prog.cellsOf 24 = 3 := by kernel_rfl
theorem cells5 : Try.prog.cellsOf 5 = 1 := by kernel_rfl

theorem small_form {W H : Int} {bs : List UInt8} (h : smallB W H bs = true) : ∃ (W' H' : Nat) (f : Nat → Bool), W = (W' : Int) ∧ H = (H' : Int) ∧ bs = pack (W' * H') f ∧ 1 ≤ W' ∧ W' ≤ 24 ∧ 1 ≤ H' ∧ H' ≤ 24 := by
  unfold smallB at h
  simp only [Bool.and_eq_true, decide_eq_true_eq] at h
  obtain ⟨⟨h1, h2⟩, h3⟩ := h
  obtain ⟨g1, g2, g3, g4, ht⟩ := (validB_iff _ _ _).1 h3
  obtain ⟨W', rfl⟩ := Int.eq_ofNat_of_zero_le (show 0 ≤ W by omega)
  obtain ⟨H', rfl⟩ := Int.eq_ofNat_of_zero_le (show 0 ≤ H by omega)
  rw [show ((W' : Int) * (H' : Int)).toNat = W' * H' from by rw [← Int.natCast_mul]; rfl] at ht
  exact ⟨W', H', bitAt bs, rfl, rfl, ht.eq, by omega, by omega, by omega, by omega⟩

/-- a law's image: its box, its bytes, and that nothing old has turned -/
def ImgSt (w0 : World) (O : Nat) (W H : Int) (A : Option Addr) (c : Nat) (bs : List UInt8) (v : World) : Prop :=
  Box v O 24 #[.int .i64 W, .int .i64 H, .slice A bs.length c] ∧ Bys v A bs ∧ Below w0.heap.size w0 v
theorem ImgSt.next {w0 v v' : World} {O : Nat} {W H : Int} {A : Option Addr} {c : Nat} {bs : List UInt8} (h : ImgSt w0 O W H A c bs v) (hb : Below v.heap.size v v') : ImgSt w0 O W H A c bs v' :=
  ⟨h.1.kept hb, h.2.1.below hb, below_then h.2.2 hb⟩
theorem ImgSt.drew {w0 v : World} {O : Nat} {W H : Int} {A : Option Addr} {c : Nat} {bs : List UInt8} (h : ImgSt w0 O W H A c bs v) : ImgSt w0 O W H A c bs v.drew :=
  ⟨h.1.drew, h.2.1.drew, h.2.2.drew⟩
theorem ImgSt.alloc {w0 v : World} {O : Nat} {W H : Int} {A : Option Addr} {c : Nat} {bs : List UInt8} (h : ImgSt w0 O W H A c bs v) (o : Obj) : ImgSt w0 O W H A c bs (v.alloc o) :=
  h.next ((Below.refl _ _).alloc (Nat.le_refl _) o)
theorem ImgSt.start {w : World} {W H : Int} {A : Option Addr} {c : Nat} {bs : List UInt8} (hb : Bys w A bs) : ImgSt w w.heap.size W H A c bs (w.alloc (.cells #[.int .i64 W, .int .i64 H, .slice A bs.length c] 24)) :=
  ⟨Box.new _ _ _, hb.alloc _, (Below.refl _ _).alloc (Nat.le_refl _) _⟩
theorem ImgSt.cells {w0 v : World} {O : Nat} {W H : Int} {A : Option Addr} {c : Nat} {bs : List UInt8} (h : ImgSt w0 O W H A c bs v) :
    v.cell? ⟨O, 0, none⟩ = some (.int .i64 W) ∧ v.cell? ⟨O, 1, none⟩ = some (.int .i64 H) ∧ v.cell? ⟨O, 2, none⟩ = some (.slice A bs.length c) :=
  ⟨h.1.cell 0, h.1.cell 1, h.1.cell 2⟩

section
variable {H : Type} {enc : TypeId × Value → H}
/-- a slice of bytes, opened -/
theorem open_bytes {W : World} {fuel : Nat} {v : Value} {x : DataW H × List MemPlace} (h : DataW.trod enc Try.prog W 0 (fun _ => true) true fuel 22 [v] = some x) :
    ∃ A c bs, v = .slice A bs.length c ∧ Bys W A bs ∧ bs.length ≤ maxLen := by
  rcases open_ints Try.underlying22 Try.underlying5 cells5 h with ⟨hcs, _⟩ | ⟨a, len, cap, zs, hcs, _, hl, hm, hz, _, hcell, hwz⟩
  · cases hcs
    exact ⟨none, 0, [], rfl, fun h => absurd h (by simp), Nat.zero_le _⟩
  · cases hcs
    have hz' : zs.length = cap := hz
    refine ⟨some a, cap, (zs.take len).map fun z => UInt8.ofNat z.toNat, ?_, ?_, ?_⟩
    · rw [List.length_map, List.length_take, Nat.min_eq_left (by omega)]
    · intro hp
      rw [List.length_map, List.length_take] at hp
      obtain ⟨b, off, rfl, hc⟩ := ints_at hcell (by omega)
      refine ⟨b, off, rfl, World.block_lt_of_cell? W _ (hc 0 (by omega)), fun k hk => ?_⟩
      rw [List.length_map, List.length_take] at hk
      have hkz : k < zs.length := by omega
      rw [hc k hkz]
      have hwf := hwz _ (List.getElem_mem hkz)
      have hb : 0 ≤ zs[k] ∧ zs[k] ≤ 255 := by
        have hmin : IntKind.u8.min = 0 := rfl
        have hmax : IntKind.u8.max = 255 := rfl
        simp only [Lit.wf, Bool.and_eq_true, decide_eq_true_eq] at hwf
        omega
      have e1 : zs.getD k 0 = zs[k] := by simp [hkz]
      have e2 : ((zs.take len).map fun z => UInt8.ofNat z.toNat).getD k 0 = UInt8.ofNat zs[k].toNat := by
        have : k < len := by omega
        simp [hkz, this]
      rw [e1, e2]
      unfold u8v
      rw [UInt8.toNat_ofNat', Nat.mod_eq_of_lt (by omega)]
      congr 2
      omega
    · rw [List.length_map, List.length_take]; omega

theorem i64_bd {a : Int} (h : (Lit.int .i64 a).wf = true) : -9223372036854775808 ≤ a ∧ a ≤ 9223372036854775807 := by
  have hmin : IntKind.i64.min = -9223372036854775808 := rfl
  have hmax : IntKind.i64.max = 9223372036854775807 := rfl
  simp only [Lit.wf, Bool.and_eq_true, decide_eq_true_eq] at h
  omega

theorem open_image {r : Reach} {b0 : Nat} {W : World} {v : Value} {d : DataW H} {p : List MemPlace} (hv : Value.okWide Try.prog W r b0 24 v) (h : DataW.Trod enc Try.prog W 0 (fun _ => true) true 24 v d p) :
    ∃ w0 h0 A c bs, v = .agg #[.int .i64 w0, .int .i64 h0, .slice A bs.length c] ∧ Bys W A bs ∧ bs.length ≤ maxLen := by
  obtain ⟨c0, c1, c2, y0, y1, y2, n, rfl, _, _, hy0, hy1, hy2⟩ := open_agg3 Try.underlying24 (by kernel_rfl) cells24 hv h
  obtain ⟨w0, e0, _, _⟩ := DataW.trod_int Try.underlying3 hy0
  obtain ⟨h0, e1, _, _⟩ := DataW.trod_int Try.underlying3 hy1
  obtain ⟨A, c, bs, e2, hb, hm⟩ := open_bytes hy2
  cases e0
  cases e1
  subst e2
  exact ⟨w0, h0, A, c, bs, rfl, hb, hm⟩
end
end Go.Proofs.Ytebahhmajllmnaa
