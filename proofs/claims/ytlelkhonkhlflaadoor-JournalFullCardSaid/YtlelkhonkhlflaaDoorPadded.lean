/-
  bytes.Clone; digest.padded.
-/
import Derived.Test.YtlelkhonkhlflaaDoorNum
namespace Go.Proofs.YtlelkhonkhlflaaDoor
open Go.RowKit
set_option linter.unusedVariables false
set_option linter.unusedSimpArgs false

theorem OwnBy.base {B B' : Nat} {w : World} {v : Value} {bs : List UInt8} (h : OwnBy B w v bs) (hB : B' ≤ B) : OwnBy B' w v bs :=
  ⟨h.1, h.2.elim Or.inl (fun ⟨g, cap, cur, hv, hg, r⟩ => Or.inr ⟨g, cap, cur, hv, Nat.le_trans hB hg, r⟩)⟩
set_option maxHeartbeats 400000 in
theorem bclone_any (b off c : Nat) (bs : List UInt8) (w : World) (hb : Bys w (some ⟨b, off, none⟩) bs) (hl : 0 < bs.length) (hm : bs.length ≤ 1000000) :
    Calls Tryd.prog 26 #[.slice (some ⟨b, off, none⟩) bs.length c] w (NumPost w.heap.size w bs) := by
  have qT : ∀ (w : World) (a : Option Addr) (n c n' c' : Nat), (binOp .eql 22 (.slice a n c) (.slice none n' c')).run Tryd.prog w = .ok (.bool a.isNone) w := fun w a n c n' c' => Lib.run_eql_slice_nil w _ _ a n c n' c' Tryd.underlying22
  obtain ⟨i0, hi, hz0, hz1, hz2⟩ := info_parts u8info
  have hlen : (bs.map u8v).length = bs.length * 1 := by simp
  have HN := hide ((news_of_bys hb).alloc (.cells #[] 5))
  have hown : Hid ((w.alloc (.cells #[] 5)).ownsRow w.heap.size 5 1 (.slice (some ⟨w.heap.size, 0, none⟩) 0 0) 0 []) :=
    ⟨rfl, .inr ⟨w.heap.size, 0, #[], rfl, Nat.le_refl _, heap_alloc_new w _, Nat.le_refl _, Nat.zero_le _, rfl, rfl⟩⟩
  clear hb
  go_enter Tryd.func26, Tryd.ntmps26
  go_wp2_with (at_builtin; refine wpList_append_own _ rfl (.tmp 5) (.tmp 6) 22 rfl w.heap.size 5 i0 (.int .u8 0) 1 1 Tryd.underlying22 hi hz0 hz1 hz2 rfl (by decide) _ 0 [] rfl hown.out ⟨b, off, none⟩ bs.length c (bs.map u8v) rfl hlen HN.out one_byte (by unfold maxLen; omega) (by omega) (by simp) ?_; intro v1 w1 hown1 hg1 hiff)
  have hx : OwnBy w.heap.size w1 v1 bs := by
    have h : w1.ownsRow w.heap.size 5 1 v1 bs.length (bs.map u8v) := by simpa using hown1
    exact h
  obtain ⟨A', c', rfl, _⟩ := hx.form
  go_ret
  refine ⟨A', c', rfl, hx, ?_⟩
  exact ((Below.refl _ _).alloc (Nat.le_refl _) (.cells #[] 5)).grown hg1 (by simp) (fun k hk => by have hk' : some w.heap.size = some k := hk; injection hk' with hk'; omega)
/-- the zeros between the mark and the length -/
def zN (n : Nat) : Nat := (119 - n % 64) % 64
def padL (bs : List UInt8) : List UInt8 := bs ++ [128] ++ List.replicate (zN bs.length) 0 ++ beB (bs.length * 8) 8
theorem padL_length (bs : List UInt8) : (padL bs).length % 64 = 0 ∧ 0 < (padL bs).length ∧ (padL bs).length ≤ bs.length + 80 := by
  unfold padL zN
  simp only [List.length_append, List.length_replicate, List.length_singleton, beB_length]
  omega
set_option maxHeartbeats 1600000 in
set_option maxRecDepth 100000 in
theorem padded_any (b off c : Nat) (bs : List UInt8) (w : World) (hb : Bys w (some ⟨b, off, none⟩) bs) (hl : 0 < bs.length) (hm : bs.length ≤ 400000) :
    Calls Tryd.prog 46 #[.slice (some ⟨b, off, none⟩) bs.length c] w (NumPost w.heap.size w (padL bs)) := by
  have HC := hide (bclone_any b off c bs w hb hl (by omega))
  clear hb
  go_enter Tryd.func46, Tryd.ntmps46
  go_wp2_with fail
  refine HC.out.mono ?_
  rintro en w1 ⟨A1, c1, rfl, hO1, hB1⟩
  obtain ⟨A2, c2, w2, hr, hO2, hB2⟩ := push_byte hO1 hB1.size (by omega) 22 128
  have HR := hide hr
  have HO2 : Hid (OwnBy w.heap.size w2 (.slice A2 (bs ++ [128]).length c2) (bs ++ [128])) := by rw [List.length_append]; exact hO2
  have HB2 := hide (hB1.trans (hB2.mono (Nat.le_refl _)))
  have hl1 : (bs ++ [(128 : UInt8)]).length = bs.length + 1 := by simp
  have HL1 := hide hl1
  clear hr hO1 hO2 hB1 hB2 hl1
  go_wp2_with ((with_reducible refine wpList_gives (o := ⟨some 7, _, _, _, _, _⟩) (v := .slice A2 (bs.length + 1) c2) (w' := w2) ?_ ?_ ?_); rfl; exact gives_append rfl rfl rfl HR.out)
  have hzn : ∀ m, bs.length + 1 ≤ m → m ≤ bs.length + 1 + zN bs.length → (m % 64 = 56 ↔ m = bs.length + 1 + zN bs.length) := fun m h1 h2 => by
    unfold zN at h2 ⊢
    omega
  have HZN := hide hzn
  have hzm : zN bs.length ≤ 63 := by unfold zN; omega
  clear hzn
  go_loopw [3] (fun v wr => ∃ m : Nat, bs.length + 1 ≤ m ∧ m ≤ bs.length + 1 + zN bs.length ∧ ∃ A c, v = .slice A m c ∧ Hid (∃ xs, xs.length = m ∧ xs = bs ++ [128] ++ List.replicate (m - (bs.length + 1)) 0 ∧ OwnBy w.heap.size wr (.slice A xs.length c) xs) ∧ Hid (Below w.heap.size w wr)) (fun v _ => bs.length + 1 + zN bs.length - (match v with | .slice _ n _ => n | _ => 0))
  case atStart => exact ⟨bs.length + 1, Nat.le_refl _, by omega, A2, c2, rfl, ⟨bs ++ [128], HL1.out, by rw [Nat.sub_self, List.replicate_zero, List.append_nil], HO2.out⟩, HB2⟩
  case round =>
    obtain ⟨m, hm1, hm2, A3, c3, rfl, HO, HB⟩ := hrel
    have hsr := HB.out.size
    have hzm' := HZN.out m hm1 hm2
    obtain ⟨xs, hxl, hxe, hxo⟩ := HO.out
    have HXE := hide hxe
    have HXO := hide hxo
    have HXL := hide hxl
    clear hxe hxo
    by_cases hz : m = bs.length + 1 + zN bs.length
    · have t1 : ((m : Int) % 64 != 56) = false := by
        have h1 := hzm'.2 hz
        rw [bne_eq_false_iff_eq]
        omega
      have HXE' : Hid (xs = bs ++ [128] ++ List.replicate (zN bs.length) 0) := by
        rw [Hid, HXE.out, hz, show bs.length + 1 + zN bs.length - (bs.length + 1) = zN bs.length by omega]
      have HN : Hid (Calls Tryd.prog 48 #[.slice A3 m c3, .int .u64 ((bs.length : Int) * 8), .int .i64 8] wr (NumPost w.heap.size wr (padL bs))) := by
        have hpl : xs ++ beB (bs.length * 8) 8 = padL bs := by rw [HXE'.out]; rfl
        rw [← hpl]
        have h := number_any HXO.out hsr (by omega) (bs.length * 8) (by omega) 8 (by omega)
        rw [hxl, show ((bs.length * 8 : Nat) : Int) = (bs.length : Int) * 8 by omega] at h
        exact h
      clear hz hzm' hxl
      go_wp2_with fail
      refine HN.out.mono ?_
      rintro en w5 ⟨A5, c5, rfl, hO5, hB5⟩
      have HO5 := hide hO5
      have HB5 := hide (HB.out.trans hB5)
      clear hO5 hB5
      go_wp2_with fail
      go_ret
      exact ⟨A5, c5, rfl, HO5.out, HB5.out⟩
    · have t1 : ((m : Int) % 64 != 56) = true := by
        have h1 : ¬ (m % 64 = 56) := fun h => hz (hzm'.1 h)
        rw [bne_iff_ne]
        omega
      obtain ⟨A4, c4, w4, hr, hO4, hB4⟩ := push_byte HXO.out hsr (by omega) 22 0
      rw [hxl] at hr
      have HR4 := hide hr
      have HO4 : Hid (∃ xs, xs.length = m + 1 ∧ xs = bs ++ [128] ++ List.replicate (m + 1 - (bs.length + 1)) 0 ∧ OwnBy w.heap.size w4 (.slice A4 xs.length c4) xs) := by
        refine ⟨xs ++ [0], by rw [List.length_append, hxl]; rfl, ?_, by rw [List.length_append]; exact hO4⟩
        rw [HXE.out, show m + 1 - (bs.length + 1) = m - (bs.length + 1) + 1 by omega, List.replicate_succ', ← List.append_assoc]
      have HB4' := hide (HB.out.trans hB4)
      clear hr hO4 hB4 hzm' hxl
      go_wp2_with ((with_reducible refine wpList_gives (o := ⟨some 14, _, _, _, _, _⟩) (v := .slice A4 (m + 1) c4) (w' := w4) ?_ ?_ ?_); rfl; exact gives_append rfl rfl rfl HR4.out)
      go_roundw
      case rel => exact ⟨m + 1, by omega, by omega, A4, c4, rfl, HO4, HB4'⟩
      case measure => simp; omega
end Go.Proofs.YtlelkhonkhlflaaDoor
