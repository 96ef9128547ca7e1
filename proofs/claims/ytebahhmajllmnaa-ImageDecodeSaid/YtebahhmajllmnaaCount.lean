/-
  Count, and Fill and Count of an image that is not valid.
-/
import Derived.Test.YtebahhmajllmnaaFill
namespace Go.Proofs.Ytebahhmajllmnaa
open Go.RowKit
set_option linter.unusedVariables false
set_option linter.unusedSimpArgs false

theorem callee42 (vs : Array Value) (v : World) : (callFunc 42 vs).run Try.prog v = .ok (.enter 42 vs) v := by
  have h1 : (Try.f42.name == "runtime.NumGoroutine") = false := by kernel_rfl
  have h2 : Try.f42.body.isNone = false := by kernel_rfl
  have h1' := beq_eq_false_iff_ne.1 h1
  have h2' : ¬ Try.f42.body = none := fun e => by rw [e] at h2; cases h2
  simp [callFunc, Try.func42, h1', h2']

def CountInv (O g : Nat) (A : Option Addr) (ac W H : Nat) (f : Nat → Bool) (x y ww hh : Int) (r c : Int) (v : World) : Prop :=
  Box v O 24 #[.int .i64 (W : Int), .int .i64 (H : Int), .slice A (pack (W * H) f).length ac] ∧ Bys v A (pack (W * H) f) ∧
  Box v g 3 #[.int .i64 ((cnt (W * H) fun j => met W x y ww hh r c j && f j : Nat) : Int)]

set_option maxHeartbeats 800000 in
theorem count_step (O g ac W H : Nat) (A : Option Addr) (f : Nat → Bool) (x y ww hh : Int) (r c : Int) (v : World) (hW1 : 1 ≤ W) (hW : W ≤ 512) (hH : H ≤ 512)
    (hr0 : clipA y hh H ≤ r) (hr : r < clipB y hh H) (hc0 : clipA x ww W ≤ c) (hc : c < clipB x ww W) (hOg : O ≠ g) (hA : ∀ b off, A = some ⟨b, off, none⟩ → b ≠ g) (h : CountInv O g A ac W H f x y ww hh r c v) :
    Calls Try.prog 42 (#[.int .i64 (r * W + c)] ++ #[.pointer (some ⟨O, 0, none⟩), .pointer (some ⟨g, 0, none⟩)]) v (StepPost v g (CountInv O g A ac W H f x y ww hh) r c) := by
  obtain ⟨hO, hb, hG⟩ := h
  obtain ⟨a0, a1, b1⟩ := clip_bd x ww W (by omega)
  obtain ⟨t0, t1, d1⟩ := clip_bd y hh H (by omega)
  obtain ⟨hi1, hi2⟩ := idx_lt (W := W) (H := H) (r := r) (c := c) (by omega) (by omega) (by omega) (by omega)
  have hN := size_bd hW hH
  have hlb := len_pack_bd f hW hH
  have hlen := length_pack (W * H) f
  have hcl := cnt_le (W * H) fun j => met W x y ww hh r c j && f j
  have hbit : bitAt (pack (W * H) f) (r * W + c).toNat = f (r * W + c).toNat := by rw [bitAt_pack, decide_eq_true hi1]; rfl
  have hidx : (r * W + c).toNat / 8 < (pack (W * H) f).length := by omega
  have hyes : f (r * W + c).toNat = true → (cnt (W * H) fun j => met W x y ww hh r (c + 1) j && f j) = (cnt (W * H) fun j => met W x y ww hh r c j && f j) + 1 := fun hf => by
    refine cnt_add hi1 (by rw [met_not (by omega) (by omega) (by omega) (by omega)]; rfl) fun j hj => ?_
    rw [met_step (by omega) hj hr0 hr hc0 hc]
    by_cases e : j = (r * W + c).toNat
    · rw [e, hf]; simp
    · simp [e]
  have hnot : f (r * W + c).toNat = false → (cnt (W * H) fun j => met W x y ww hh r (c + 1) j && f j) = (cnt (W * H) fun j => met W x y ww hh r c j && f j) := fun hf => by
    refine cnt_congr fun j hj => ?_
    rw [met_step (by omega) hj hr0 hr hc0 hc]
    by_cases e : j = (r * W + c).toNat
    · rw [e, hf]; simp
    · simp [e]
  have k0 : v.cell? ⟨O, 0, none⟩ = some (.int .i64 (W : Int)) := hO.cell 0
  have k1 : v.cell? ⟨O, 1, none⟩ = some (.int .i64 (H : Int)) := hO.cell 1
  have k2 : v.cell? ⟨O, 2, none⟩ = some (.slice A (pack (W * H) f).length ac) := hO.cell 2
  have HO := hide hO
  have HB := hide hb
  have HG := hide hG
  have HBIT := hide hbit
  have HIDX := hide hidx
  have HY := hide hyes
  have HN := hide hnot
  have hcl2 : (cnt (W * H) fun j => met W x y ww hh r c j && f j) ≤ 262144 := by omega
  have hl1 : (pack (W * H) f).length ≤ 1000000 := by omega
  clear hO hb hG hbit hidx hyes hnot hlen hcl hlb
  generalize hz : r * (W : Int) + c = z at *
  clear hz
  simp only [List.push_toArray, List.append_toArray, List.cons_append, List.nil_append]
  go_enter Try.func42, Try.ntmps42
  go_wp2_with fail
  refine (bit_any (W : Int) (H : Int) A _ ac (pack (W * H) f) z _ HB.out (Nat.le_refl _) hl1 hi2 HIDX.out).mono ?_
  rw [HBIT.out]
  rintro e w2 ⟨rfl, hb2⟩
  have HB2 := hide hb2
  have g0 : w2.cell? ⟨g, 0, none⟩ = some (.int .i64 ((cnt (W * H) fun j => met W x y ww hh r c j && f j : Nat) : Int)) := (HG.out.kept hb2).cell 0
  have gf := (HG.out.kept hb2).frozen 0
  have HO2 := hide (HO.out.kept hb2)
  have HG2 := hide (HG.out.kept hb2)
  clear hb2 k0 k1 k2
  by_cases hf : f z.toNat = true
  · have HF := hide hf
    rw [hf]
    clear hf
    generalize (cnt (W * H) fun j => met W x y ww hh r c j && f j) = n at *
    go_wp2_with fail
    go_end0
    refine ⟨rfl, ⟨HO2.out.far (by simpa using hOg) _, (HB.out.below HB2.out).grown (grown_setCell (grown_refl _ _) _ _) hA, ?_⟩, grown_setCell (grown_of_below HB2.out _) _ _⟩
    rw [HY.out HF.out]
    have := HG2.out.set 0 (.int .i64 ((n : Int) + 1))
    simpa using this
  · have hf' := Bool.eq_false_iff.2 hf
    have HF := hide hf'
    rw [hf']
    clear hf hf'
    go_wp2_with fail
    go_end0
    refine ⟨rfl, ⟨HO2.out, HB.out.below HB2.out, ?_⟩, grown_of_below HB2.out _⟩
    rw [HN.out HF.out]
    exact HG2.out

def CountPost (w3 : World) (g n : Nat) (e : Ending) (w4 : World) : Prop :=
  e = .returned (.tuple #[]) ∧ Box w4 g 3 #[.int .i64 (n : Int)] ∧ w3.grownBy w4 (some g)
theorem count_each (O g ac W H : Nat) (A : Option Addr) (n c : Nat) (f : Nat → Bool) (x y ww hh : Int) (w3 : World) (hW1 : 1 ≤ W) (hW : W ≤ 512) (hH : H ≤ 512)
    (hx : -9223372036854775808 ≤ x ∧ x ≤ 9223372036854775807 ∧ -9223372036854775808 ≤ ww ∧ ww ≤ 9223372036854775807)
    (hy : -9223372036854775808 ≤ y ∧ y ≤ 9223372036854775807 ∧ -9223372036854775808 ≤ hh ∧ hh ≤ 9223372036854775807)
    (hO : Box w3 O 24 #[.int .i64 (W : Int), .int .i64 (H : Int), .slice A (pack (W * H) f).length ac]) (hb : Bys w3 A (pack (W * H) f)) (hG : Box w3 g 3 #[.int .i64 0]) (hOg : O ≠ g) (hA : ∀ b off, A = some ⟨b, off, none⟩ → b ≠ g) :
    Calls Try.prog 39 #[.agg #[.int .i64 (W : Int), .int .i64 (H : Int), .slice A n c], .int .i64 x, .int .i64 y, .int .i64 ww, .int .i64 hh, .func (.func 42) #[] #[.pointer (some ⟨O, 0, none⟩), .pointer (some ⟨g, 0, none⟩)]] w3
      (CountPost w3 g (cnt (W * H) fun j => inR W x y ww hh j && f j)) := by
  have h0 : CountInv O g A ac W H f x y ww hh (clipA y hh H) (clipA x ww W) w3 := by
    refine ⟨hO, hb, ?_⟩
    have e : (cnt (W * H) fun j => met W x y ww hh (clipA y hh H) (clipA x ww W) j && f j) = 0 := by
      rw [cnt_congr (q := fun _ => false) fun j hj => by rw [met_start (by omega) hj]; rfl]
      unfold cnt
      simp
    rw [e]
    exact hG
  refine (each_any W H A n c x y ww hh 42 #[.pointer (some ⟨O, 0, none⟩), .pointer (some ⟨g, 0, none⟩)] g (CountInv O g A ac W H f x y ww hh) w3 hW hH hG.lt callee42 hx.1 hx.2.1 hx.2.2.1 hx.2.2.2 hy.1 hy.2.1 hy.2.2.1 hy.2.2.2 h0 ?_ ?_ ?_).mono ?_
  · rintro r cc v o ⟨h1, h2, h3⟩
    exact ⟨h1.alloc o, h2.alloc o, h3.alloc o⟩
  · intro r cc v h1 h2 h3 h4 _ hI
    exact count_step O g ac W H A f x y ww hh r cc v hW1 hW hH h1 h2 h3 h4 hOg hA hI
  · rintro r cc v hc ⟨h1, h2, h3⟩
    refine ⟨h1, h2, ?_⟩
    rw [cnt_congr fun j hj => by rw [← met_row (by omega) hj hc]]
    exact h3
  · rintro e w4 ⟨he, ⟨r, cc, hr, h1, h2, h3⟩, hG⟩
    rw [cnt_congr fun j hj => by rw [met_end (by omega) hj hr]] at h3
    exact ⟨he, h3, hG⟩

set_option maxHeartbeats 1600000 in
theorem count_any (W H : Nat) (A : Option Addr) (c : Nat) (f : Nat → Bool) (x y ww hh : Int) (w : World) (hb : Bys w A (pack (W * H) f)) (hW1 : 1 ≤ W) (hW : W ≤ 512) (hH1 : 1 ≤ H) (hH : H ≤ 512)
    (hx1 : -9223372036854775808 ≤ x) (hx2 : x ≤ 9223372036854775807) (hn1 : -9223372036854775808 ≤ ww) (hn2 : ww ≤ 9223372036854775807)
    (hy1 : -9223372036854775808 ≤ y) (hy2 : y ≤ 9223372036854775807) (hm1 : -9223372036854775808 ≤ hh) (hm2 : hh ≤ 9223372036854775807) :
    Calls Try.prog 22 #[.agg #[.int .i64 (W : Int), .int .i64 (H : Int), .slice A (pack (W * H) f).length c], .int .i64 x, .int .i64 y, .int .i64 ww, .int .i64 hh] w
      fun e w' => e = .returned (.int .i64 ((cnt (W * H) fun j => inR W x y ww hh j && f j : Nat) : Int)) ∧ Below w.heap.size w w' := by
  have HV := hide (validB_pack f hW1 hW hH1 hH)
  have hm := len_pack_max f hW hH
  have hP : 1 ≤ W * H := Nat.mul_pos hW1 hH1
  have hl := length_pack (W * H) f
  have hAb : Hid (∀ b off, A = some ⟨b, off, none⟩ → b < w.heap.size) := fun b off e => by
    obtain ⟨b', off', e', hlt, _⟩ := hb (by omega)
    rw [e] at e'
    injection e' with e'
    injection e' with e'
    omega
  clear hl
  have HBY := hide hb
  have HX := hide (And.intro hx1 (And.intro hx2 (And.intro hn1 hn2)))
  have HY := hide (And.intro hy1 (And.intro hy2 (And.intro hm1 hm2)))
  clear hx1 hx2 hn1 hn2 hy1 hy2 hm1 hm2 hb
  go_enter Try.func22, Try.ntmps22
  go_wp2_with fail
  refine (valid_any _ _ _ _ (pack (W * H) f) _ (HBY.out.alloc _) hm).mono ?_
  rw [HV.out]
  rintro e w1 ⟨rfl, hb1⟩
  have HB1 := hide ((HBY.out.alloc _).below hb1)
  have X0 := hide ((Box.new w 24 #[.int .i64 (W : Int), .int .i64 (H : Int), .slice A (pack (W * H) f).length c]).kept hb1)
  have hs1 : w.heap.size + 1 ≤ w1.heap.size := by have := hb1.size; simp at this; omega
  have k0 : w1.cell? ⟨w.heap.size, 0, none⟩ = some (.int .i64 (W : Int)) := X0.out.cell 0
  have k1 : w1.cell? ⟨w.heap.size, 1, none⟩ = some (.int .i64 (H : Int)) := X0.out.cell 1
  have k2 : w1.cell? ⟨w.heap.size, 2, none⟩ = some (.slice A (pack (W * H) f).length c) := X0.out.cell 2
  have HB := hide (below_box hb1)
  clear hb1
  have HC := hide (count_each w.heap.size w1.heap.size c W H A (pack (W * H) f).length c f x y ww hh (w1.alloc (.cells #[.int .i64 0] 3)) hW1 hW hH HX.out HY.out (X0.out.alloc _) (HB1.out.alloc _) (Box.new _ _ _) (by omega) (fun b off e => by have := hAb.out b off e; omega))
  have n1 : ¬ w1.heap.size = w.heap.size := by omega
  have n2 : ¬ w.heap.size = w1.heap.size := by omega
  have n3 : w.heap.size < w1.heap.size := by omega
  have l0 : (w1.alloc (.cells #[.int .i64 0] 3)).cell? ⟨w.heap.size, 0, none⟩ = some (.int .i64 (W : Int)) := (X0.out.alloc _).cell 0
  have l1 : (w1.alloc (.cells #[.int .i64 0] 3)).cell? ⟨w.heap.size, 1, none⟩ = some (.int .i64 (H : Int)) := (X0.out.alloc _).cell 1
  have l2 : (w1.alloc (.cells #[.int .i64 0] 3)).cell? ⟨w.heap.size, 2, none⟩ = some (.slice A (pack (W * H) f).length c) := (X0.out.alloc _).cell 2
  go_wp2_with fail
  refine HC.out.mono ?_
  rintro e w4 ⟨rfl, h4, hg4⟩
  have s0 : w4.cell? ⟨w1.heap.size, 0, none⟩ = some (.int .i64 ((cnt (W * H) fun j => inR W x y ww hh j && f j : Nat) : Int)) := h4.cell 0
  have HG4 := hide hg4
  clear hg4 h4 HC
  go_wp2_with fail
  go_ret
  exact ⟨rfl, (HB.out.alloc HB.out.size _).trans (below_of_grown HG4.out (by omega) (by have := HB.out.size; simp; omega))⟩

set_option maxHeartbeats 400000 in
theorem count_no (W H : Int) (A : Option Addr) (c : Nat) (bs : List UInt8) (x y ww hh : Int) (w : World) (hb : Bys w A bs) (hm : bs.length ≤ maxLen) (hv : validB W H bs = false) :
    Calls Try.prog 22 #[.agg #[.int .i64 W, .int .i64 H, .slice A bs.length c], .int .i64 x, .int .i64 y, .int .i64 ww, .int .i64 hh] w
      fun e w' => e = .returned (.int .i64 0) ∧ Below w.heap.size w w' := by
  have HV := hide hv
  clear hv
  go_enter Try.func22, Try.ntmps22
  go_wp2_with (go_at_call 16; refine (valid_any _ _ _ _ bs _ (hb.alloc _) hm).mono ?_; rw [HV.out]; rintro e w1 ⟨rfl, hb1⟩)
  go_ret
  exact ⟨rfl, below_box hb1⟩

set_option maxHeartbeats 400000 in
theorem fill_no (W H : Int) (A : Option Addr) (c : Nat) (bs : List UInt8) (x y ww hh : Int) (on : Bool) (w : World) (hb : Bys w A bs) (hm : bs.length ≤ maxLen) (hv : validB W H bs = false) :
    Calls Try.prog 21 #[.agg #[.int .i64 W, .int .i64 H, .slice A bs.length c], .int .i64 x, .int .i64 y, .int .i64 ww, .int .i64 hh, .bool on] w
      fun e w' => e = .returned zeroIm ∧ Below w.heap.size w w' := by
  have HV := hide hv
  clear hv
  go_enter Try.func21, Try.ntmps21
  go_wp2_with (go_at_call 16; refine (valid_any _ _ _ _ bs _ (((hb.alloc _).alloc _).alloc _) hm).mono ?_; rw [HV.out]; rintro e w1 ⟨rfl, hb1⟩; have X2 := hide ((Box.new ((w.alloc (.cells #[.int .i64 W, .int .i64 H, .slice A bs.length c] 24)).alloc (.cells #[.bool on] 4)) 24 #[.int .i64 0, .int .i64 0, .slice none 0 0]).kept hb1); simp only [World.size_alloc] at X2; have s0 : w1.cell? ⟨w.heap.size + 1 + 1, 0, none⟩ = some (.int .i64 0) := X2.out.cell 0; have s1 : w1.cell? ⟨w.heap.size + 1 + 1, 1, none⟩ = some (.int .i64 0) := X2.out.cell 1; have s2 : w1.cell? ⟨w.heap.size + 1 + 1, 2, none⟩ = some (.slice none 0 0) := X2.out.cell 2; have sf0 := X2.out.frozen 0; have sf1 := X2.out.frozen 1; have sf2 := X2.out.frozen 2; have slt : w.heap.size + 1 + 1 < w1.heap.size := X2.out.lt)
  exact bodyPost_ret (v := zeroIm) (by simp [results, Try.results21, go_sem, zeroIm, s0, s1, s2]) rfl ⟨rfl, (((below_box (below_box (below_box hb1))).setCell (by simp; omega) _).setCell (by simp; omega) _).setCell (by simp; omega) _⟩
end Go.Proofs.Ytebahhmajllmnaa
