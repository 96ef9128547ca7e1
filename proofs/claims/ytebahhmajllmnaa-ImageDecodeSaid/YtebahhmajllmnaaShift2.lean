/-
  Shift and Turn of the program: what they return.
-/
import Derived.Test.YtebahhmajllmnaaShift
namespace Go.Proofs.Ytebahhmajllmnaa
open Go.RowKit
set_option linter.unusedVariables false
set_option linter.unusedSimpArgs false

theorem callee46 (vs : Array Value) (v : World) : (callFunc 46 vs).run Try.prog v = .ok (.enter 46 vs) v := by
  have h1 : (Try.f46.name == "runtime.NumGoroutine") = false := by kernel_rfl
  have h2 : Try.f46.body.isNone = false := by kernel_rfl
  have h1' := beq_eq_false_iff_ne.1 h1
  have h2' : ¬ Try.f46.body = none := fun e => by rw [e] at h2; cases h2
  simp [callFunc, Try.func46, h1', h2']

def ShInv (O Oo By Bx g gc ac : Nat) (A : Option Addr) (W H : Nat) (f : Nat → Bool) (dx dy : Int) (r c : Int) (v : World) : Prop :=
  Box v O 24 #[.int .i64 (W : Int), .int .i64 (H : Int), .slice A (pack (W * H) f).length ac] ∧ Bys v A (pack (W * H) f) ∧
  Box v Oo 24 #[.int .i64 (W : Int), .int .i64 (H : Int), .slice (some ⟨g, 0, none⟩) (pack (W * H) f).length gc] ∧
  Box v By 3 #[.int .i64 dy] ∧ Box v Bx 3 #[.int .i64 dx] ∧ Row v g (pack (W * H) (shF W H f (met W (-dx) (-dy) W H r c) dx dy))
section
variable {O Oo By Bx g gc ac : Nat} {A : Option Addr} {W H : Nat} {f : Nat → Bool} {dx dy r c r' c' : Int} {v v' : World}
theorem ShInv.alloc (h : ShInv O Oo By Bx g gc ac A W H f dx dy r c v) (o : Obj) : ShInv O Oo By Bx g gc ac A W H f dx dy r c (v.alloc o) :=
  ⟨h.1.alloc o, h.2.1.alloc o, h.2.2.1.alloc o, h.2.2.2.1.alloc o, h.2.2.2.2.1.alloc o, h.2.2.2.2.2.alloc o⟩
end

set_option maxHeartbeats 1600000 in
theorem shift_step (O Oo By Bx g gc ac : Nat) (A : Option Addr) (W H : Nat) (f : Nat → Bool) (dx dy : Int) (r c : Int) (v : World) (hW1 : 1 ≤ W) (hW : W ≤ 512) (hH : H ≤ 512) (hdx : -512 ≤ dx ∧ dx ≤ 512) (hdy : -512 ≤ dy ∧ dy ≤ 512)
    (hr0 : clipA (-dy) H H ≤ r) (hr : r < clipB (-dy) H H) (hc0 : clipA (-dx) W W ≤ c) (hc : c < clipB (-dx) W W) (hO : O ≠ g) (hOo : Oo ≠ g) (hBy : By ≠ g) (hBx : Bx ≠ g) (hA : ∀ b off, A = some ⟨b, off, none⟩ → b ≠ g)
    (h : ShInv O Oo By Bx g gc ac A W H f dx dy r c v) :
    Calls Try.prog 46 (#[.int .i64 (r * W + c)] ++ #[.pointer (some ⟨O, 0, none⟩), .pointer (some ⟨Oo, 0, none⟩), .pointer (some ⟨By, 0, none⟩), .pointer (some ⟨Bx, 0, none⟩)]) v (StepPost v g (ShInv O Oo By Bx g gc ac A W H f dx dy) r c) := by
  obtain ⟨h1, h2, h3, h4, h5, h6⟩ := h
  have tg := target hr0 hr hc0 hc
  obtain ⟨t1, t2⟩ := target_lt tg
  obtain ⟨⟨g1, g2, g3, g4⟩, g5, g6, g7, g8⟩ := tg
  obtain ⟨hi1, hi2⟩ := idx_lt (W := W) (H := H) (r := r) (c := c) g1 g2 g3 g4
  have hN := size_bd hW hH
  have hlb := len_pack_bd f hW hH
  have hlen := length_pack (W * H) f
  have hlp : ∀ m, (pack (W * H) m).length = (pack (W * H) f).length := fun m => by rw [length_pack, length_pack]
  have hbit : bitAt (pack (W * H) f) (r * W + c).toNat = f (r * W + c).toNat := by rw [bitAt_pack, decide_eq_true hi1]; rfl
  have hidx : (r * W + c).toNat / 8 < (pack (W * H) f).length := by omega
  have HST : Hid (∀ j, shF W H f (met W (-dx) (-dy) W H r (c + 1)) dx dy j = if (j : Int) = r * W + c + dy * W + dx ∧ f (r * W + c).toNat = true then true else shF W H f (met W (-dx) (-dy) W H r c) dx dy j) := shF_step hr0 hr hc0 hc
  have k0 : v.cell? ⟨O, 0, none⟩ = some (.int .i64 (W : Int)) := h1.cell 0
  have k1 : v.cell? ⟨O, 1, none⟩ = some (.int .i64 (H : Int)) := h1.cell 1
  have k2 : v.cell? ⟨O, 2, none⟩ = some (.slice A (pack (W * H) f).length ac) := h1.cell 2
  have hdyW : -262144 ≤ dy * (W : Int) ∧ dy * (W : Int) ≤ 262144 := by
    have e1 : dy * (W : Int) ≤ 512 * 512 := by
      rcases Int.le_total 0 dy with hd | hd
      · exact Int.mul_le_mul hdy.2 (by omega) (by omega) (by omega)
      · have : dy * (W : Int) ≤ 0 := Int.mul_nonpos_of_nonpos_of_nonneg hd (by omega); omega
    have e2 : -dy * (W : Int) ≤ 512 * 512 := by
      rcases Int.le_total 0 (-dy) with hd | hd
      · exact Int.mul_le_mul (by omega) (by omega) (by omega) (by omega)
      · have : -dy * (W : Int) ≤ 0 := Int.mul_nonpos_of_nonpos_of_nonneg hd (by omega); omega
    rw [Int.neg_mul] at e2
    omega
  obtain ⟨y1, y2⟩ := hdyW
  obtain ⟨x1, x2⟩ := hdx
  obtain ⟨x3, x4⟩ := hdy
  have H1 := hide h1
  have H2 := hide h2
  have H3 := hide h3
  have H4 := hide h4
  have H5 := hide h5
  have H6 := hide h6
  have HBIT := hide hbit
  have HIDX := hide hidx
  have HLP := hide hlp
  have hl1 : (pack (W * H) f).length ≤ 1000000 := by omega
  have z1 : r * W + c ≤ 262144 := by omega
  clear h1 h2 h3 h4 h5 h6 hbit hidx hlp hlen hlb
  generalize hz : r * (W : Int) + c = z at *
  clear hz
  simp only [List.push_toArray, List.append_toArray, List.cons_append, List.nil_append]
  go_enter Try.func46, Try.ntmps46
  go_wp2_with fail
  refine (bit_any (W : Int) (H : Int) A _ ac (pack (W * H) f) z _ H2.out (Nat.le_refl _) hl1 hi2 HIDX.out).mono ?_
  rw [HBIT.out]
  rintro e w2 ⟨rfl, hb2⟩
  have HB2 := hide hb2
  have G1 := hide (H1.out.kept hb2)
  have G2 := hide (H2.out.below hb2)
  have G3 := hide (H3.out.kept hb2)
  have G4 := hide (H4.out.kept hb2)
  have G5 := hide (H5.out.kept hb2)
  have G6 := hide (H6.out.kept hb2)
  clear hb2 k0 k1 k2 H1 H2 H3 H4 H5 H6
  by_cases hf : f z.toNat = true
  · have HF := hide hf
    rw [hf]
    have HPC : Hid (pack (W * H) (fun j => if j = (z + dy * W + dx).toNat then true else shF W H f (met W (-dx) (-dy) W H r c) dx dy j) = pack (W * H) (shF W H f (met W (-dx) (-dy) W H r (c + 1)) dx dy)) := pack_congr fun j _ => by
      rw [HST.out j]
      by_cases e : (j : Int) = z + dy * W + dx
      · rw [if_pos (by omega), if_pos ⟨e, hf⟩]
      · rw [if_neg (by omega), if_neg (fun h => e h.1)]
    clear hf
    have q0 : w2.cell? ⟨Oo, 0, none⟩ = some (.int .i64 (W : Int)) := G3.out.cell 0
    have q1 : w2.cell? ⟨Oo, 1, none⟩ = some (.int .i64 (H : Int)) := G3.out.cell 1
    have q2 : w2.cell? ⟨Oo, 2, none⟩ = some (.slice (some ⟨g, 0, none⟩) (pack (W * H) f).length gc) := G3.out.cell 2
    have q3 : w2.cell? ⟨By, 0, none⟩ = some (.int .i64 dy) := G4.out.cell 0
    have q4 : w2.cell? ⟨Bx, 0, none⟩ = some (.int .i64 dx) := G5.out.cell 0
    have q5 : w2.cell? ⟨O, 0, none⟩ = some (.int .i64 (W : Int)) := G1.out.cell 0
    have HSET := hide (set_any (W : Int) (H : Int) g gc (W * H) _ (z + dy * W + dx) true w2 G6.out t1 t2 hN)
    rw [HLP.out] at HSET
    go_wp2_with fail
    refine HSET.out.mono ?_
    rintro e w3 ⟨rfl, hr3, hg3⟩
    rw [HPC.out] at hr3
    have HR3 := hide hr3
    have HG3 := hide hg3
    clear hr3 hg3 q0 q1 q2 q3 q4 q5 HSET
    go_wp2_with fail
    go_end0
    exact ⟨rfl, ⟨G1.out.grown HG3.out (by simpa using hO), G2.out.grown HG3.out hA, G3.out.grown HG3.out (by simpa using hOo), G4.out.grown HG3.out (by simpa using hBy), G5.out.grown HG3.out (by simpa using hBx), HR3.out⟩, grown_trans (grown_of_below HB2.out _) HG3.out⟩
  · have hf' := Bool.eq_false_iff.2 hf
    rw [hf']
    have HPC : Hid (pack (W * H) (shF W H f (met W (-dx) (-dy) W H r c) dx dy) = pack (W * H) (shF W H f (met W (-dx) (-dy) W H r (c + 1)) dx dy)) := pack_congr fun j _ => by
      rw [HST.out j, if_neg (fun h => hf h.2)]
    clear hf hf'
    go_wp2_with fail
    go_end0
    refine ⟨rfl, ⟨G1.out, G2.out, G3.out, G4.out, G5.out, ?_⟩, grown_of_below HB2.out _⟩
    rw [← HPC.out]
    exact G6.out

def ShPost (Oo g gc L W H : Nat) (bs : List UInt8) (w3 : World) (e : Ending) (w4 : World) : Prop :=
  e = .returned (.tuple #[]) ∧ Box w4 Oo 24 #[.int .i64 (W : Int), .int .i64 (H : Int), .slice (some ⟨g, 0, none⟩) L gc] ∧ Row w4 g bs ∧ w3.grownBy w4 (some g)
theorem shift_each (O Oo By Bx g gc ac : Nat) (A : Option Addr) (W H : Nat) (f : Nat → Bool) (dx dy : Int) (n c : Nat) (w3 : World) (hW1 : 1 ≤ W) (hW : W ≤ 512) (hH : H ≤ 512) (hdx : -512 ≤ dx ∧ dx ≤ 512) (hdy : -512 ≤ dy ∧ dy ≤ 512)
    (h1 : Box w3 O 24 #[.int .i64 (W : Int), .int .i64 (H : Int), .slice A (pack (W * H) f).length ac]) (h2 : Bys w3 A (pack (W * H) f))
    (h3 : Box w3 Oo 24 #[.int .i64 (W : Int), .int .i64 (H : Int), .slice (some ⟨g, 0, none⟩) (pack (W * H) f).length gc]) (h4 : Box w3 By 3 #[.int .i64 dy]) (h5 : Box w3 Bx 3 #[.int .i64 dx])
    (h6 : Row w3 g (pack (W * H) fun _ => false)) (hO : O ≠ g) (hOo : Oo ≠ g) (hBy : By ≠ g) (hBx : Bx ≠ g) (hA : ∀ b off, A = some ⟨b, off, none⟩ → b ≠ g) :
    Calls Try.prog 39 #[.agg #[.int .i64 (W : Int), .int .i64 (H : Int), .slice A n c], .int .i64 (-dx), .int .i64 (-dy), .int .i64 (W : Int), .int .i64 (H : Int), .func (.func 46) #[] #[.pointer (some ⟨O, 0, none⟩), .pointer (some ⟨Oo, 0, none⟩), .pointer (some ⟨By, 0, none⟩), .pointer (some ⟨Bx, 0, none⟩)]] w3
      (ShPost Oo g gc (pack (W * H) f).length W H (pack (W * H) (flat W (shiftG W H f dx dy))) w3) := by
  have h0 : ShInv O Oo By Bx g gc ac A W H f dx dy (clipA (-dy) H H) (clipA (-dx) W W) w3 := by
    refine ⟨h1, h2, h3, h4, h5, ?_⟩
    rw [pack_congr (g := fun _ => false) fun j hj => by
      rw [shF_congr (m' := fun _ => false) (fun s hs => met_start (by omega) hs)]
      simp [shF]]
    exact h6
  refine (each_any W H A n c (-dx) (-dy) W H 46 #[.pointer (some ⟨O, 0, none⟩), .pointer (some ⟨Oo, 0, none⟩), .pointer (some ⟨By, 0, none⟩), .pointer (some ⟨Bx, 0, none⟩)] g (ShInv O Oo By Bx g gc ac A W H f dx dy) w3 hW hH h6.lt callee46
    (by omega) (by omega) (by omega) (by omega) (by omega) (by omega) (by omega) (by omega) h0 ?_ ?_ ?_).mono ?_
  · exact fun r cc v o h => h.alloc o
  · intro r cc v q1 q2 q3 q4 _ hI
    exact shift_step O Oo By Bx g gc ac A W H f dx dy r cc v hW1 hW hH hdx hdy q1 q2 q3 q4 hO hOo hBy hBx hA hI
  · rintro r cc v hc ⟨h1, h2, h3, h4, h5, h6⟩
    refine ⟨h1, h2, h3, h4, h5, ?_⟩
    rw [pack_congr fun j hj => shF_congr (fun s hs => (met_row (by omega) hs hc).symm) j]
    exact h6
  · rintro e w4 ⟨he, ⟨r, cc, hr, h1, h2, h3, h4, h5, h6⟩, hG⟩
    rw [pack_congr fun j hj => (shF_congr (fun s hs => met_end (by omega) hs hr) j).trans (shF_end (by omega) hj)] at h6
    exact ⟨he, h3, h6, hG⟩

theorem shift_no (W H : Int) (A : Option Addr) (c : Nat) (bs : List UInt8) (dx dy : Int) (w : World) (hb : Bys w A bs) (hm : bs.length ≤ maxLen) (hv : validB W H bs = false) :
    Calls Try.prog 27 #[.agg #[.int .i64 W, .int .i64 H, .slice A bs.length c], .int .i64 dx, .int .i64 dy] w
      fun e w' => e = .returned zeroIm ∧ Below w.heap.size w w' := by
  have HV := hide hv
  have HB := hide ((((hb.alloc (.cells #[.int .i64 W, .int .i64 H, .slice A bs.length c] 24)).alloc (.cells #[.int .i64 dx] 3)).alloc (.cells #[.int .i64 dy] 3)).alloc (.cells #[.int .i64 0, .int .i64 0, .slice none 0 0] 24))
  clear hv hb
  go_enter Try.func27, Try.ntmps27
  go_wp2_with fail
  refine (valid_any _ _ _ _ bs _ HB.out hm).mono ?_
  rw [HV.out]
  rintro e w1 ⟨rfl, hb1⟩
  have X2 := (Box.new (((w.alloc (.cells #[.int .i64 W, .int .i64 H, .slice A bs.length c] 24)).alloc (.cells #[.int .i64 dx] 3)).alloc (.cells #[.int .i64 dy] 3)) 24 #[.int .i64 0, .int .i64 0, .slice none 0 0]).kept hb1
  simp only [World.size_alloc] at X2
  have s0 : w1.cell? ⟨w.heap.size + 1 + 1 + 1, 0, none⟩ = some (.int .i64 0) := X2.cell 0
  have s1 : w1.cell? ⟨w.heap.size + 1 + 1 + 1, 1, none⟩ = some (.int .i64 0) := X2.cell 1
  have s2 : w1.cell? ⟨w.heap.size + 1 + 1 + 1, 2, none⟩ = some (.slice none 0 0) := X2.cell 2
  have sf0 := X2.frozen 0
  have sf1 := X2.frozen 1
  have sf2 := X2.frozen 2
  have slt := X2.lt
  have HB1 := hide (below_box (below_box (below_box (below_box hb1))))
  clear X2 hb1
  go_wp2_with fail
  exact bodyPost_ret (v := zeroIm) (by simp [results, Try.results27, go_sem, zeroIm, s0, s1, s2]) rfl ⟨rfl, ((HB1.out.setCell (by simp; omega) _).setCell (by simp; omega) _).setCell (by simp; omega) _⟩

set_option maxHeartbeats 3200000 in
theorem shift_any (W H : Nat) (A : Option Addr) (c : Nat) (f : Nat → Bool) (dx dy : Int) (w : World) (hb : Bys w A (pack (W * H) f)) (hW1 : 1 ≤ W) (hW : W ≤ 512) (hH1 : 1 ≤ H) (hH : H ≤ 512) :
    Calls Try.prog 27 #[.agg #[.int .i64 (W : Int), .int .i64 (H : Int), .slice A (pack (W * H) f).length c], .int .i64 dx, .int .i64 dy] w (Fresh w W H (pack (W * H) (flat W (shiftG W H f dx dy)))) := by
  have HV := hide (validB_pack f hW1 hW hH1 hH)
  have hm := len_pack_max f hW hH
  have HAd := hide (addr_of_pack hb (Nat.mul_pos hW1 hH1))
  have HBl : Hid (∀ v, Calls Try.prog 35 #[.int .i64 (W : Int), .int .i64 (H : Int)] v (Fresh v W H (pack (W * H) fun _ => false))) := fun v => blank_any W H v hW hH
  have HLP : Hid (∀ m, (pack (W * H) m).length = (pack (W * H) f).length) := fun m => by rw [length_pack, length_pack]
  have HB := hide ((((hb.alloc (.cells #[.int .i64 (W : Int), .int .i64 (H : Int), .slice A (pack (W * H) f).length c] 24)).alloc (.cells #[.int .i64 dx] 3)).alloc (.cells #[.int .i64 dy] 3)).alloc (.cells #[.int .i64 0, .int .i64 0, .slice none 0 0] 24))
  have a1 : (1 : Int) ≤ (W : Int) := by omega
  have a2 : (W : Int) ≤ 512 := by omega
  have a3 : (1 : Int) ≤ (H : Int) := by omega
  have a4 : (H : Int) ≤ 512 := by omega
  clear hb
  go_enter Try.func27, Try.ntmps27
  go_wp2_with fail
  refine (valid_any _ _ _ _ (pack (W * H) f) _ HB.out hm).mono ?_
  rw [HV.out]
  rintro e w1 ⟨rfl, hb1⟩
  have X0 := hide ((((Box.new w 24 #[.int .i64 (W : Int), .int .i64 (H : Int), .slice A (pack (W * H) f).length c]).alloc (.cells #[.int .i64 dx] 3)).alloc (.cells #[.int .i64 dy] 3)).alloc (.cells #[.int .i64 0, .int .i64 0, .slice none 0 0] 24) |>.kept hb1)
  have X1 := hide (((Box.new (w.alloc (.cells #[.int .i64 (W : Int), .int .i64 (H : Int), .slice A (pack (W * H) f).length c] 24)) 3 #[.int .i64 dx]).alloc (.cells #[.int .i64 dy] 3)).alloc (.cells #[.int .i64 0, .int .i64 0, .slice none 0 0] 24) |>.kept hb1)
  have X2 := hide ((Box.new ((w.alloc (.cells #[.int .i64 (W : Int), .int .i64 (H : Int), .slice A (pack (W * H) f).length c] 24)).alloc (.cells #[.int .i64 dx] 3)) 3 #[.int .i64 dy]).alloc (.cells #[.int .i64 0, .int .i64 0, .slice none 0 0] 24) |>.kept hb1)
  have X3 := hide ((Box.new (((w.alloc (.cells #[.int .i64 (W : Int), .int .i64 (H : Int), .slice A (pack (W * H) f).length c] 24)).alloc (.cells #[.int .i64 dx] 3)).alloc (.cells #[.int .i64 dy] 3)) 24 #[.int .i64 0, .int .i64 0, .slice none 0 0]).kept hb1)
  simp only [World.size_alloc] at X0 X1 X2 X3
  have HB1 := hide (below_box (below_box (below_box (below_box hb1))))
  have HY1 := hide (HB.out.below hb1)
  have k0 : w1.cell? ⟨w.heap.size, 0, none⟩ = some (.int .i64 (W : Int)) := X0.out.cell 0
  have k1 : w1.cell? ⟨w.heap.size, 1, none⟩ = some (.int .i64 (H : Int)) := X0.out.cell 1
  clear hb1 HB
  go_wp2_with fail
  refine (HBl.out _).mono ?_
  rintro e w2 ⟨g, gc, hg, rfl, hrow, hb2⟩
  rw [HLP.out]
  have Y0 := hide (X0.out.kept hb2)
  have Y1 := hide (X1.out.kept hb2)
  have Y2 := hide (X2.out.kept hb2)
  have Y3 := hide (X3.out.kept hb2)
  have YB := hide (HY1.out.below hb2)
  have YW := hide (below_then HB1.out hb2)
  have YR := hide hrow
  have hg1 : w.heap.size + 1 + 1 + 1 < g := by have := X3.out.lt; omega
  have hg2 : g < w2.heap.size := hrow.lt
  clear hb2 hrow k0 k1 X0 X1 X2 X3 HB1 HY1 HBl
  have k0 : w2.cell? ⟨w.heap.size, 0, none⟩ = some (.int .i64 (W : Int)) := Y0.out.cell 0
  have k1 : w2.cell? ⟨w.heap.size, 1, none⟩ = some (.int .i64 (H : Int)) := Y0.out.cell 1
  have k2 : w2.cell? ⟨w.heap.size, 2, none⟩ = some (.slice A (pack (W * H) f).length c) := Y0.out.cell 2
  have k3 : w2.cell? ⟨w.heap.size + 1, 0, none⟩ = some (.int .i64 dx) := Y1.out.cell 0
  have k4 : w2.cell? ⟨w.heap.size + 1 + 1, 0, none⟩ = some (.int .i64 dy) := Y2.out.cell 0
  have k5 : w2.cell? ⟨w.heap.size + 1 + 1 + 1, 0, none⟩ = some (.int .i64 0) := Y3.out.cell 0
  have k6 : w2.cell? ⟨w.heap.size + 1 + 1 + 1, 1, none⟩ = some (.int .i64 0) := Y3.out.cell 1
  have k7 : w2.cell? ⟨w.heap.size + 1 + 1 + 1, 2, none⟩ = some (.slice none 0 0) := Y3.out.cell 2
  have f0 := Y3.out.frozen 0
  have f1 := Y3.out.frozen 1
  have f2 := Y3.out.frozen 2
  have n0 : w.heap.size < w2.heap.size := by omega
  have n1 : w.heap.size + 1 < w2.heap.size := by omega
  have n2 : w.heap.size + 1 + 1 < w2.heap.size := by omega
  have n3 : w.heap.size + 1 + 1 + 1 < w2.heap.size := by omega
  by_cases hfar : dx < -512 ∨ 512 < dx ∨ dy < -512 ∨ 512 < dy
  · have HPF : Hid (pack (W * H) (fun _ => false) = pack (W * H) (flat W (shiftG W H f dx dy))) := pack_congr fun j hj => (shift_far (by omega) hW hH (by omega) hj).symm
    have four : dx < -512 ∨ (-512 ≤ dx ∧ 512 < dx) ∨ ((-512 ≤ dx ∧ dx ≤ 512) ∧ dy < -512) ∨ ((-512 ≤ dx ∧ dx ≤ 512) ∧ -512 ≤ dy ∧ 512 < dy) := by omega
    have YR2 := hide YR.out
    rw [HPF.out] at YR2
    clear hfar
    rcases four with h1 | ⟨h1, h2⟩ | ⟨⟨h1, h2⟩, h3⟩ | ⟨⟨h1, h2⟩, h3, h4⟩
    all_goals
      go_wp2_with fail
      refine bodyPost_ret (v := .agg #[.int .i64 (W : Int), .int .i64 (H : Int), .slice (some ⟨g, 0, none⟩) (pack (W * H) f).length gc]) (by simp [results, Try.results27, go_sem, k5, k6, k7, n3]) rfl ?_
      refine ⟨g, gc, by omega, by rw [HLP.out (flat W (shiftG W H f dx dy))], ?_, ?_⟩
      · exact (((YR2.out.far (by simp; omega) _).far (by simp; omega) _).far (by simp; omega) _).alloc _
      · exact (((YW.out.setCell (by simp; omega) _).setCell (by simp; omega) _).setCell (by simp; omega) _).alloc (by have := YW.out.size; simp [World.setCell]; omega) _
  · have h1 : -512 ≤ dx := by omega
    have h2 : dx ≤ 512 := by omega
    have h3 : -512 ≤ dy := by omega
    have h4 : dy ≤ 512 := by omega
    have HE := hide (shift_each w.heap.size w2.heap.size (w.heap.size + 1 + 1) (w.heap.size + 1) g gc c A W H f dx dy (pack (W * H) f).length c (w2.alloc (.cells #[.int .i64 (W : Int), .int .i64 (H : Int), .slice (some ⟨g, 0, none⟩) (pack (W * H) f).length gc] 24)) hW1 hW hH ⟨h1, h2⟩ ⟨h3, h4⟩
      (Y0.out.alloc _) (YB.out.alloc _) (Box.new _ _ _) (Y2.out.alloc _) (Y1.out.alloc _) (YR.out.alloc _) (by omega) (by omega) (by omega) (by omega) (fun b off e => by have := HAd.out b off e; omega))
    have Z3 := hide (Y3.out.alloc (.cells #[.int .i64 (W : Int), .int .i64 (H : Int), .slice (some ⟨g, 0, none⟩) (pack (W * H) f).length gc] 24))
    have ZW := hide (YW.out.alloc YW.out.size (.cells #[.int .i64 (W : Int), .int .i64 (H : Int), .slice (some ⟨g, 0, none⟩) (pack (W * H) f).length gc] 24))
    clear hfar
    go_wp2_with fail
    refine HE.out.mono ?_
    rintro e w4 ⟨rfl, hbo, hr4, hg4⟩
    have c0 : w4.cell? ⟨w2.heap.size, 0, none⟩ = some (.int .i64 (W : Int)) := hbo.cell 0
    have c1 : w4.cell? ⟨w2.heap.size, 1, none⟩ = some (.int .i64 (H : Int)) := hbo.cell 1
    have c2 : w4.cell? ⟨w2.heap.size, 2, none⟩ = some (.slice (some ⟨g, 0, none⟩) (pack (W * H) f).length gc) := hbo.cell 2
    have Z4 := Z3.out.grown hg4 (by simp; omega)
    have s0 : w4.cell? ⟨w.heap.size + 1 + 1 + 1, 0, none⟩ = some (.int .i64 0) := Z4.cell 0
    have s1 : w4.cell? ⟨w.heap.size + 1 + 1 + 1, 1, none⟩ = some (.int .i64 0) := Z4.cell 1
    have s2 : w4.cell? ⟨w.heap.size + 1 + 1 + 1, 2, none⟩ = some (.slice none 0 0) := Z4.cell 2
    have t0 := Z4.frozen 0
    have t1 := Z4.frozen 1
    have t2 := Z4.frozen 2
    have l4 := Z4.lt
    have HR4 := hide hr4
    have HG4 := hide hg4
    clear Z4 hbo hr4 hg4 HE k0 k1 k2 k3 k4 k5 k6 k7 f0 f1 f2
    go_wp2_with fail
    refine bodyPost_ret (v := .agg #[.int .i64 (W : Int), .int .i64 (H : Int), .slice (some ⟨g, 0, none⟩) (pack (W * H) f).length gc]) (by simp [results, Try.results27, go_sem, s0, s1, s2]) rfl ?_
    refine ⟨g, gc, by omega, by rw [HLP.out (flat W (shiftG W H f dx dy))], ((HR4.out.far (by simp; omega) _).far (by simp; omega) _).far (by simp; omega) _, ?_⟩
    exact (((ZW.out.trans (below_of_grown HG4.out (by omega) (by have := ZW.out.size; omega))).setCell (by simp; omega) _).setCell (by simp; omega) _).setCell (by simp; omega) _
end Go.Proofs.Ytebahhmajllmnaa
