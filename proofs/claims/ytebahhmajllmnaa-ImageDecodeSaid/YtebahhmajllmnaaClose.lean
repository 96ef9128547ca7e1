/-
  The reference's Close: from rows of pixels to an image.
-/
import Derived.Test.YtebahhmajllmnaaPix
namespace Go.Proofs.Ytebahhmajllmnaa
open Go.RowKit
set_option linter.unusedVariables false
set_option linter.unusedSimpArgs false

def flat (W : Nat) (g : Nat → Nat → Bool) (j : Nat) : Bool := g (j / W) (j % W)
def upTo (k : Nat) (G : Nat → Bool) (j : Nat) : Bool := if j < k then G j else false

def CloseRel (w : World) (W H n : Nat) (bs : List UInt8) (wr : World) : Prop :=
  Row wr (w.heap.size + 1) bs ∧ Box wr (w.heap.size + 1 + 1) 24 #[.int .i64 (W : Int), .int .i64 (H : Int), .slice (some ⟨w.heap.size + 1, 0, none⟩) n n] ∧
  Box wr w.heap.size 24 #[.int .i64 0, .int .i64 0, .slice none 0 0] ∧ Below w.heap.size w wr
theorem CloseRel.drewN {w wr : World} {W H n : Nat} {bs : List UInt8} (h : CloseRel w W H n bs wr) (m : Nat) : CloseRel w W H n bs (wr.drewN m) :=
  ⟨h.1.drewN m, h.2.1.drewN m, h.2.2.1.drewN m, below_drew h.2.2.2 m⟩
theorem CloseRel.set {w wr : World} {W H n : Nat} {bs : List UInt8} (h : CloseRel w W H n bs wr) {i : Nat} (hi : i < bs.length) (y : UInt8) : CloseRel w W H n (bs.set i y) (wr.setCell ⟨w.heap.size + 1, i, none⟩ (u8v y)) :=
  ⟨h.1.set hi y, h.2.1.far (by simp) _, h.2.2.1.far (by simp) _, h.2.2.2.setCell (by simp) _⟩
set_option maxHeartbeats 3200000 in
theorem close_any (W H base : Nat) (v : Value) (g : Nat → Nat → Bool) (w : World) (hv : Grid w base v H W g) (hW1 : 1 ≤ W) (hW : W ≤ 512) (hH1 : 1 ≤ H) (hH : H ≤ 512) :
    Calls Try.prog 45 #[v] w (Fresh w W H (pack (W * H) (flat W g))) := by
  have gp := size_bd hW hH
  have hp0 : (0 : Int) ≤ (W : Int) * (H : Int) := by rw [← Int.natCast_mul]; omega
  have hp1 : (W : Int) * (H : Int) ≤ 262144 := by rw [← Int.natCast_mul]; omega
  have hmk : ∀ w : World, (Instr.makeSlice 22 (.int .i64 (((W : Int) * (H : Int) + 7) / 8)) (.int .i64 (((W : Int) * (H : Int) + 7) / 8))).run Try.prog w =
      .ok (.slice (some ⟨w.heap.size, 0, none⟩) ((W * H + 7) / 8) ((W * H + 7) / 8)) (w.alloc (.cells (madeCells #[.int .u8 0] ((W * H + 7) / 8)) 5)) := fun w => by
    have e : ((W : Int) * (H : Int) + 7) / 8 = (((W * H + 7) / 8 : Nat) : Int) := by rw [← Int.natCast_mul]; omega
    rw [e]
    exact run_make_row' 22 5 (.int .u8 0) 1 Try.underlying22 u8info rfl .i64 .i64 _ (by omega) (by omega) w
  have HPK : Hid (pack (W * H) (fun _ => false) = List.replicate ((W * H + 7) / 8) 0) := pack_false _
  obtain ⟨P, cap, bk, rfl, _, hP, hcell, hne, hrw⟩ := hv
  have HC := hide hcell
  have HRW := hide hrw
  have c00 := hcell 0 (by omega)
  unfold rowV at c00
  have a1 : (1 : Int) ≤ (W : Int) := by omega
  have a2 : (W : Int) ≤ 512 := by omega
  have a3 : (1 : Int) ≤ (H : Int) := by omega
  have a4 : (H : Int) ≤ 512 := by omega
  have HN : Hid ((W : Int) * (H : Int) = ((W * H : Nat) : Int)) := by simp [Hid]
  obtain ⟨n, hn⟩ : ∃ n, n = (W * H + 7) / 8 := ⟨_, rfl⟩
  rw [← hn] at hmk HPK
  have HNn := hide hn
  clear hcell hrw hn
  go_enter Try.func45, Try.ntmps45
  go_wp2_with fail
  go_loopw [6] (fun i wr => ∃ k : Nat, k ≤ W * H ∧ i = .int .i64 k ∧ Hid (CloseRel w W H n (pack (W * H) (upTo k (flat W g))) wr) ∧ (wr.cell? ⟨w.heap.size + 1 + 1, 2, none⟩ = some (.slice (some ⟨w.heap.size + 1, 0, none⟩) n n))) (fun i _ => W * H - (intOf i).toNat)
  case atStart =>
    refine ⟨0, by omega, rfl, ⟨?_, ?_, ?_, ((((Below.refl _ _).alloc (Nat.le_refl _) _).alloc (by simp) _).alloc (by simp; omega) _)⟩, ?_⟩
    · rw [pack_congr (g := fun _ => false) (fun j _ => by simp [upTo]), HPK.out]
      have h := (Row.made (w.alloc (.cells #[.int .i64 0, .int .i64 0, .slice none 0 0] 24)) n).alloc (.cells #[.int .i64 (W : Int), .int .i64 (H : Int), .slice (some ⟨w.heap.size + 1, 0, none⟩) n n] 24)
      rw [World.size_alloc] at h
      exact h
    · have h := Box.new ((w.alloc (.cells #[.int .i64 0, .int .i64 0, .slice none 0 0] 24)).alloc (.cells (madeCells #[.int .u8 0] n) 5)) 24 #[.int .i64 (W : Int), .int .i64 (H : Int), .slice (some ⟨w.heap.size + 1, 0, none⟩) n n]
      simp only [World.size_alloc] at h
      exact h
    · exact ((Box.new w 24 #[.int .i64 0, .int .i64 0, .slice none 0 0]).alloc _).alloc _
    · have h := Box.new ((w.alloc (.cells #[.int .i64 0, .int .i64 0, .slice none 0 0] 24)).alloc (.cells (madeCells #[.int .u8 0] n) 5)) 24 #[.int .i64 (W : Int), .int .i64 (H : Int), .slice (some ⟨w.heap.size + 1, 0, none⟩) n n]
      simp only [World.size_alloc] at h
      exact h.cell 2
  case round =>
    obtain ⟨k, hk, rfl, hR, hc2⟩ := hrel
    by_cases hlt : k < W * H
    · obtain ⟨R1, R2, R3, R4⟩ := hR.out
      obtain ⟨q, hq⟩ : ∃ q, q = k / W := ⟨_, rfl⟩
      obtain ⟨r, hr⟩ : ∃ r, r = k % W := ⟨_, rfl⟩
      obtain ⟨l1, l2⟩ := lt_of_div hlt hW1
      have eq1 : (k : Int) / (W : Int) = (q : Int) := by rw [hq]; exact (Int.natCast_ediv k W).symm
      have eq2 : (k : Int) % (W : Int) = (r : Int) := by rw [hr]; exact (Int.natCast_emod k W).symm
      have eq3 : (k : Int).tdiv (W : Int) = (q : Int) := by rw [Int.tdiv_eq_ediv_of_nonneg (by omega)]; exact eq1
      have eq4 : (k : Int).tmod (W : Int) = (r : Int) := by rw [Int.tmod_eq_emod_of_nonneg (by omega)]; exact eq2
      have eq5 : IntKind.i64.wrap (q : Int) = (q : Int) := IntWalk.i64_in _ (by omega)
      have p0 : wr.cell? ⟨P, q, none⟩ = some (.slice (some ⟨bk q, 0, none⟩) W W) := (R4.cell (p := ⟨P, q, none⟩) hP).trans (HC.out q (by omega))
      have p1 : wr.cell? ⟨bk q, r, none⟩ = some (.bool (flat W g k)) := by
        have h := ((HRW.out.kept R4).1 q (by omega)).2.cell (c := r) (by omega)
        rw [h, hq, hr]; rfl
      have b1 : (q : Int) < (H : Int) := by omega
      have b2 : (r : Int) < (W : Int) := by omega
      have b3 : (0 : Int) ≤ (q : Int) := by omega
      have b4 : (0 : Int) ≤ (r : Int) := by omega
      have b5 : (k : Int) < (W : Int) * (H : Int) := by rw [HN.out]; omega
      have b6 : (0 : Int) ≤ (k : Int) := by omega
      have b7 : (k : Int) ≤ 262144 := by omega
      have hkl : k / 8 < (pack (W * H) (upTo k (flat W g))).length := by rw [length_pack]; omega
      obtain ⟨x, hx, hX, hx8⟩ := R1.at_ hkl
      have hxf := R1.frozen (k / 8)
      have hx0 : (0 : Int) ≤ (x : Int) := by omega
      have hx1 : (x : Int) ≤ 255 := by omega
      have b8 : k / 8 < n := by rw [HNn.out]; omega
      have b9 : w.heap.size + 1 < wr.heap.size := R1.lt
      have hn : n ≤ 32768 := by rw [HNn.out]; omega
      have HR2 := hide R2
      clear R1 R2 R3 R4 hq hr l1 l2 hkl
      by_cases hG : flat W g k = true
      · obtain ⟨y, hy1, hy2⟩ := or_byte x (k % 8) hx (by omega)
        have HY := hide hy1
        have HPS := hide (pack_set (n := W * H) (f := upTo k (flat W g)) (b := true) (y := y) hlt (fun t ht => by rw [hy2 t ht, hX.out]))
        have HPC : Hid (pack (W * H) (fun j => if j = k then true else upTo k (flat W g) j) = pack (W * H) (upTo (k + 1) (flat W g))) := pack_congr fun j _ => by
          unfold upTo
          by_cases e : j = k
          · subst e; simp [hG]
          · by_cases e2 : j < k
            · simp [e, e2, show j < k + 1 by omega]
            · simp [e, e2, show ¬ j < k + 1 by omega]
        rw [hG] at p1
        clear hy1 hy2 hX hG
        go_wp2_with fail
        go_quiet (fail)
        go_wp2_with fail
        rw [HY.out]
        have HR3 := hide ((hR.out.drewN nq).set (i := k / 8) (by rw [length_pack]; omega) y)
        rw [HPS.out, HPC.out] at HR3
        go_roundw
        case rel => exact ⟨k + 1, by omega, by go_num, HR3, HR3.out.2.1.cell 2⟩
        case measure => simp [intOf]; omega
      · rw [Bool.eq_false_iff.2 hG] at p1
        have HPC : Hid (pack (W * H) (upTo k (flat W g)) = pack (W * H) (upTo (k + 1) (flat W g))) := pack_congr fun j _ => by
          unfold upTo
          by_cases e : j = k
          · subst e; simp [Bool.eq_false_iff.2 hG]
          · by_cases e2 : j < k
            · simp [e2, show j < k + 1 by omega]
            · simp [e2, show ¬ j < k + 1 by omega]
        clear hG hX
        go_wp2_with fail
        go_quiet (fail)
        go_wp2_with fail
        go_roundw
        case rel => exact ⟨k + 1, by omega, by go_num, by rw [← HPC.out]; exact hR.out.drewN _, hc2⟩
        case measure => simp [intOf]; omega
    · have b5 : ¬ (k : Int) < (W : Int) * (H : Int) := by rw [HN.out]; omega
      obtain rfl : W * H = k := by omega
      obtain ⟨R1, R2, R3, R4⟩ := hR.out
      have r0 : wr.cell? ⟨w.heap.size + 1 + 1, 0, none⟩ = some (.int .i64 (W : Int)) := R2.cell 0
      have r1 : wr.cell? ⟨w.heap.size + 1 + 1, 1, none⟩ = some (.int .i64 (H : Int)) := R2.cell 1
      have s0 : wr.cell? ⟨w.heap.size, 0, none⟩ = some (.int .i64 0) := R3.cell 0
      have s1 : wr.cell? ⟨w.heap.size, 1, none⟩ = some (.int .i64 0) := R3.cell 1
      have s2 : wr.cell? ⟨w.heap.size, 2, none⟩ = some (.slice none 0 0) := R3.cell 2
      have f0 := R3.frozen 0
      have f1 := R3.frozen 1
      have f2 := R3.frozen 2
      have l1 := R3.lt
      have HPE : Hid (pack (W * H) (upTo (W * H) (flat W g)) = pack (W * H) (flat W g)) := pack_congr fun j hj => by simp [upTo, hj]
      have hl : (pack (W * H) (flat W g)).length = n := by rw [length_pack, HNn.out]
      have HL := hide hl
      clear R1 R2 R3 R4 hl
      go_wp2_with fail
      refine bodyPost_ret (v := .agg #[.int .i64 (W : Int), .int .i64 (H : Int), .slice (some ⟨w.heap.size + 1, 0, none⟩) n n]) (by simp [results, Try.results45, go_sem, s0, s1, s2]) rfl ?_
      obtain ⟨R1, R2, R3, R4⟩ := hR.out
      rw [HPE.out] at R1
      exact ⟨w.heap.size + 1, n, by omega, by rw [HL.out], ((R1.far (by simp) _).far (by simp) _).far (by simp) _, ((R4.setCell (by simp) _).setCell (by simp) _).setCell (by simp) _⟩
end Go.Proofs.Ytebahhmajllmnaa
