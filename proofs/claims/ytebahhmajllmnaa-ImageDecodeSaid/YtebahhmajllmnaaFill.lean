/-
  Fill and Count.
-/
import Derived.Test.YtebahhmajllmnaaEach
import Derived.Deep.RegionHeld3
namespace Go.Proofs.Ytebahhmajllmnaa
open Go.RowKit
set_option linter.unusedVariables false
set_option linter.unusedSimpArgs false

theorem callee40 (vs : Array Value) (v : World) : (callFunc 40 vs).run Try.prog v = .ok (.enter 40 vs) v := by
  have h1 : (Try.f40.name == "runtime.NumGoroutine") = false := by kernel_rfl
  have h2 : Try.f40.body.isNone = false := by kernel_rfl
  have h1' := beq_eq_false_iff_ne.1 h1
  have h2' : ¬ Try.f40.body = none := fun e => by rw [e] at h2; cases h2
  simp [callFunc, Try.func40, h1', h2']

/-- the image that Fill works on -/
def FillInv (O B g : Nat) (gc W H : Nat) (f : Nat → Bool) (x y ww hh : Int) (on : Bool) (r c : Int) (v : World) : Prop :=
  (v.cell? ⟨O, 0, none⟩ = some (.int .i64 (W : Int)) ∧ v.cell? ⟨O, 1, none⟩ = some (.int .i64 (H : Int)) ∧ v.cell? ⟨O, 2, none⟩ = some (.slice (some ⟨g, 0, none⟩) (pack (W * H) f).length gc) ∧ v.cell? ⟨B, 0, none⟩ = some (.bool on)) ∧
  Row v g (pack (W * H) fun j => if met W x y ww hh r c j then on else f j)

set_option maxHeartbeats 800000 in
theorem fill_step (O B g gc W H : Nat) (f : Nat → Bool) (x y ww hh : Int) (on : Bool) (r c : Int) (v : World) (hW1 : 1 ≤ W) (hW : W ≤ 512) (hH : H ≤ 512)
    (hr0 : clipA y hh H ≤ r) (hr : r < clipB y hh H) (hc0 : clipA x ww W ≤ c) (hc : c < clipB x ww W) (hOg : O ≠ g) (hBg : B ≠ g) (h : FillInv O B g gc W H f x y ww hh on r c v) :
    Calls Try.prog 40 (#[.int .i64 (r * W + c)] ++ #[.pointer (some ⟨O, 0, none⟩), .pointer (some ⟨B, 0, none⟩)]) v (StepPost v g (FillInv O B g gc W H f x y ww hh on) r c) := by
  obtain ⟨⟨k0, k1, k2, kb⟩, hrow⟩ := h
  obtain ⟨a0, a1, b1⟩ := clip_bd x ww W (by omega)
  obtain ⟨t0, t1, d1⟩ := clip_bd y hh H (by omega)
  obtain ⟨hi1, hi2⟩ := idx_lt (W := W) (H := H) (r := r) (c := c) (by omega) (by omega) (by omega) (by omega)
  have hN := size_bd hW hH
  have hlen : Hid ((pack (W * H) fun j => if met W x y ww hh r c j then on else f j).length = (pack (W * H) f).length) := by simp [Hid, length_pack]
  have HK2 : Hid ((pack (W * H) fun j => if (j = (r * W + c).toNat) then on else if met W x y ww hh r c j then on else f j) = pack (W * H) fun j => if met W x y ww hh r (c + 1) j then on else f j) := by
    refine pack_congr fun j hj => ?_
    rw [met_step (by omega) hj hr0 hr hc0 hc]
    by_cases e : j = (r * W + c).toNat <;> simp [e]
  have HROW := hide hrow
  rw [← hlen.out] at k2
  clear hrow
  generalize hz : r * (W : Int) + c = z at *
  have HZ := hide hz
  clear hz
  simp only [List.push_toArray, List.append_toArray, List.cons_append, List.nil_append]
  go_enter Try.func40, Try.ntmps40
  go_wp2_with fail
  refine (set_any (W : Int) (H : Int) g gc (W * H) _ z on v HROW.out hi2 (by omega) hN).mono ?_
  rintro e w2 ⟨rfl, hr2, hg2⟩
  rw [HK2.out] at hr2
  have HR2 := hide hr2
  have HG2 := hide hg2
  have q0 := hg2.cell k0 (by simpa using hOg)
  have q1 := hg2.cell k1 (by simpa using hOg)
  have q2 := hg2.cell k2 (by simpa using hOg)
  have qb := hg2.cell kb (by simpa using hBg)
  rw [hlen.out] at q2
  clear hr2 hg2 k0 k1 k2 kb
  go_wp2_with fail
  go_end0
  exact ⟨rfl, ⟨⟨q0, q1, q2, qb⟩, HR2.out⟩, HG2.out⟩

def FillPost (O g gc : Nat) (W H : Nat) (bs : List UInt8) (w3 : World) (e : Ending) (w4 : World) : Prop :=
  e = .returned (.tuple #[]) ∧ (w4.cell? ⟨O, 0, none⟩ = some (.int .i64 (W : Int)) ∧ w4.cell? ⟨O, 1, none⟩ = some (.int .i64 (H : Int)) ∧ w4.cell? ⟨O, 2, none⟩ = some (.slice (some ⟨g, 0, none⟩) bs.length gc)) ∧ Row w4 g bs ∧ w3.grownBy w4 (some g)
theorem fill_each (O B g gc W H : Nat) (A : Option Addr) (n c : Nat) (f : Nat → Bool) (x y ww hh : Int) (on : Bool) (w3 : World) (hW1 : 1 ≤ W) (hW : W ≤ 512) (hH : H ≤ 512)
    (hx : -9223372036854775808 ≤ x ∧ x ≤ 9223372036854775807 ∧ -9223372036854775808 ≤ ww ∧ ww ≤ 9223372036854775807)
    (hy : -9223372036854775808 ≤ y ∧ y ≤ 9223372036854775807 ∧ -9223372036854775808 ≤ hh ∧ hh ≤ 9223372036854775807)
    (hO : Box w3 O 24 #[.int .i64 (W : Int), .int .i64 (H : Int), .slice (some ⟨g, 0, none⟩) (pack (W * H) f).length gc]) (hB : Box w3 B 4 #[.bool on]) (hr : Row w3 g (pack (W * H) f)) (hOg : O ≠ g) (hBg : B ≠ g) :
    Calls Try.prog 39 #[.agg #[.int .i64 (W : Int), .int .i64 (H : Int), .slice A n c], .int .i64 x, .int .i64 y, .int .i64 ww, .int .i64 hh, .func (.func 40) #[] #[.pointer (some ⟨O, 0, none⟩), .pointer (some ⟨B, 0, none⟩)]] w3
      (FillPost O g gc W H (pack (W * H) fun j => if inR W x y ww hh j then on else f j) w3) := by
  have h0 : FillInv O B g gc W H f x y ww hh on (clipA y hh H) (clipA x ww W) w3 := by
    refine ⟨⟨hO.cell 0, hO.cell 1, hO.cell 2, hB.cell 0⟩, ?_⟩
    rw [pack_congr (g := f) fun j hj => by rw [met_start (by omega) hj]; rfl]
    exact hr
  refine (each_any W H A n c x y ww hh 40 #[.pointer (some ⟨O, 0, none⟩), .pointer (some ⟨B, 0, none⟩)] g (FillInv O B g gc W H f x y ww hh on) w3 hW hH hr.lt callee40 hx.1 hx.2.1 hx.2.2.1 hx.2.2.2 hy.1 hy.2.1 hy.2.2.1 hy.2.2.2 h0 ?_ ?_ ?_).mono ?_
  · rintro r cc v o ⟨⟨k0, k1, k2, kb⟩, hrow⟩
    have g0 : ∀ {a u}, v.cell? a = some u → (v.alloc o).cell? a = some u := fun {a u} h => (World.cell?_alloc_lt v o a (World.block_lt_of_cell? v _ h)).trans h
    exact ⟨⟨g0 k0, g0 k1, g0 k2, g0 kb⟩, hrow.alloc o⟩
  · intro r cc v h1 h2 h3 h4 _ hI
    exact fill_step O B g gc W H f x y ww hh on r cc v hW1 hW hH h1 h2 h3 h4 hOg hBg hI
  · rintro r cc v hc ⟨hk, hrow⟩
    refine ⟨hk, ?_⟩
    rw [pack_congr fun j hj => by rw [← met_row (by omega) hj hc]]
    exact hrow
  · rintro e w4 ⟨he, ⟨r, cc, hr, ⟨k0, k1, k2, kb⟩, hrow⟩, hG⟩
    rw [pack_congr fun j hj => by rw [met_end (by omega) hj hr]] at hrow
    refine ⟨he, ⟨k0, k1, ?_⟩, hrow, hG⟩
    rw [k2]; simp [length_pack]

set_option maxHeartbeats 1600000 in
theorem fill_any (W H : Nat) (A : Option Addr) (c : Nat) (f : Nat → Bool) (x y ww hh : Int) (on : Bool) (w : World) (hb : Bys w A (pack (W * H) f)) (hW1 : 1 ≤ W) (hW : W ≤ 512) (hH1 : 1 ≤ H) (hH : H ≤ 512)
    (hx1 : -9223372036854775808 ≤ x) (hx2 : x ≤ 9223372036854775807) (hn1 : -9223372036854775808 ≤ ww) (hn2 : ww ≤ 9223372036854775807)
    (hy1 : -9223372036854775808 ≤ y) (hy2 : y ≤ 9223372036854775807) (hm1 : -9223372036854775808 ≤ hh) (hm2 : hh ≤ 9223372036854775807) :
    Calls Try.prog 21 #[.agg #[.int .i64 (W : Int), .int .i64 (H : Int), .slice A (pack (W * H) f).length c], .int .i64 x, .int .i64 y, .int .i64 ww, .int .i64 hh, .bool on] w
      (Fresh w W H (pack (W * H) fun j => if inR W x y ww hh j then on else f j)) := by
  have HV := hide (validB_pack f hW1 hW hH1 hH)
  have hm := len_pack_max f hW hH
  have hN := size_bd hW hH
  have hP : 1 ≤ W * H := Nat.mul_pos hW1 hH1
  have hl := length_pack (W * H) f
  obtain ⟨b, off, u, rfl, hlt, _, _, _⟩ := hb.at_ (k := 0) (by omega)
  have hl0 : 0 < (pack (W * H) f).length := by omega
  have hl1 : (pack (W * H) f).length ≤ 1000000 := by omega
  clear hl
  have HBY := hide hb
  have HX := hide (And.intro hx1 (And.intro hx2 (And.intro hn1 hn2)))
  have HY := hide (And.intro hy1 (And.intro hy2 (And.intro hm1 hm2)))
  clear hx1 hx2 hn1 hn2 hy1 hy2 hm1 hm2 hb
  go_enter Try.func21, Try.ntmps21
  go_wp2_with fail
  refine (valid_any _ _ _ _ (pack (W * H) f) _ ((HBY.out.alloc _).alloc _ |>.alloc _) hm).mono ?_
  rw [HV.out]
  rintro e w1 ⟨rfl, hb1⟩
  have HB1 := hide (((HBY.out.alloc _).alloc _ |>.alloc _).below hb1)
  have X0 := hide ((((Box.new w 24 #[.int .i64 (W : Int), .int .i64 (H : Int), .slice (some ⟨b, off, none⟩) (pack (W * H) f).length c]).alloc (.cells #[.bool on] 4)).alloc (.cells #[.int .i64 0, .int .i64 0, .slice none 0 0] 24)).kept hb1)
  have X1 := hide (((Box.new (w.alloc (.cells #[.int .i64 (W : Int), .int .i64 (H : Int), .slice (some ⟨b, off, none⟩) (pack (W * H) f).length c] 24)) 4 #[.bool on]).alloc (.cells #[.int .i64 0, .int .i64 0, .slice none 0 0] 24)).kept hb1)
  have X2 := hide ((Box.new ((w.alloc (.cells #[.int .i64 (W : Int), .int .i64 (H : Int), .slice (some ⟨b, off, none⟩) (pack (W * H) f).length c] 24)).alloc (.cells #[.bool on] 4)) 24 #[.int .i64 0, .int .i64 0, .slice none 0 0]).kept hb1)
  simp only [World.size_alloc] at X0 X1 X2
  have hs1 : w.heap.size + 3 ≤ w1.heap.size := by have := hb1.size; simp at this; omega
  have k0 : w1.cell? ⟨w.heap.size, 0, none⟩ = some (.int .i64 (W : Int)) := X0.out.cell 0
  have k1 : w1.cell? ⟨w.heap.size, 1, none⟩ = some (.int .i64 (H : Int)) := X0.out.cell 1
  have k2 : w1.cell? ⟨w.heap.size, 2, none⟩ = some (.slice (some ⟨b, off, none⟩) (pack (W * H) f).length c) := X0.out.cell 2
  have HB := hide hb1
  clear hb1
  have n1 : ¬ w1.heap.size = w.heap.size := by omega
  have n2 : ¬ w.heap.size = w1.heap.size := by omega
  go_wp2_with fail
  go_region_held3 (fun v => v.cell? ⟨w.heap.size, 0, none⟩ = some (.int .i64 (W : Int)) ∧ v.cell? ⟨w.heap.size, 1, none⟩ = some (.int .i64 (H : Int)) ∧ v.cell? ⟨w.heap.size, 2, none⟩ = some (.slice (some ⟨b, off, none⟩) (pack (W * H) f).length c))
    (go_keep)
    (first | (go_at_call 38; refine (clone_any b off c (pack (W * H) f) _ ?_ hl0 hl1).mono ?_; (first | exact HB1.out.drew | exact (HB1.out.alloc _).drew); rintro e w2 ⟨g, gc, hg, rfl, hrow, hb2⟩; have HB2 : Hid (Below w1.heap.size w1 w2) := (by first | exact ((Below.refl _ _).drew.trans hb2) | exact (((Below.refl _ _).alloc (Nat.le_refl _) _).drew.trans (hb2.mono (by simp)))); have HROW := hide hrow; have q0 : w2.cell? ⟨w.heap.size, 0, none⟩ = some (.int .i64 (W : Int)) := (X0.out.kept HB2.out).cell 0; have q1 : w2.cell? ⟨w.heap.size, 1, none⟩ = some (.int .i64 (H : Int)) := (X0.out.kept HB2.out).cell 1; have q2 : w2.cell? ⟨w.heap.size, 2, none⟩ = some (.slice (some ⟨b, off, none⟩) (pack (W * H) f).length c) := (X0.out.kept HB2.out).cell 2; clear k0 k1 k2; try (have Z : Box w2 w1.heap.size 24 #[.int .i64 0, .int .i64 0, .slice none 0 0] := (Box.new w1 24 _).drew.kept hb2; have z0 : w2.cell? ⟨w1.heap.size, 0, none⟩ = some (.int .i64 0) := Z.cell 0; have z1 : w2.cell? ⟨w1.heap.size, 1, none⟩ = some (.int .i64 0) := Z.cell 1; have z2 : w2.cell? ⟨w1.heap.size, 2, none⟩ = some (.slice none 0 0) := Z.cell 2; have zf0 := Z.frozen 0; have zf1 := Z.frozen 1; have zf2 := Z.frozen 2; have zlt := Z.lt)))
  · have Y : Box (w2.alloc (.cells #[.int .i64 (W : Int), .int .i64 (H : Int), .slice (some ⟨g, 0, none⟩) (pack (W * H) f).length gc] 24)) w2.heap.size 24 #[.int .i64 (W : Int), .int .i64 (H : Int), .slice (some ⟨g, 0, none⟩) (pack (W * H) f).length gc] := Box.new _ _ _
    have hg' : w1.heap.size ≤ g := by simpa using hg
    have hg2 : g < w2.heap.size := hrow.lt
    have R := HROW.out.alloc (.cells #[.int .i64 (W : Int), .int .i64 (H : Int), .slice (some ⟨g, 0, none⟩) (pack (W * H) f).length gc] 24)
    have HB3 := HB2.out.alloc HB2.out.size (.cells #[.int .i64 (W : Int), .int .i64 (H : Int), .slice (some ⟨g, 0, none⟩) (pack (W * H) f).length gc] 24)
    generalize (w2.alloc (.cells #[.int .i64 (W : Int), .int .i64 (H : Int), .slice (some ⟨g, 0, none⟩) (pack (W * H) f).length gc] 24)) = w3 at *
    clear q0 q1 q2 hb2 hrow HROW hg n1 n2 HB2
    have X0' := X0.out.kept HB3
    have X1' := X1.out.kept HB3
    have X2' := hide (X2.out.kept HB3)
    have k0 : w3.cell? ⟨w.heap.size, 0, none⟩ = some (.int .i64 (W : Int)) := X0'.cell 0
    have k1 : w3.cell? ⟨w.heap.size, 1, none⟩ = some (.int .i64 (H : Int)) := X0'.cell 1
    have k2 : w3.cell? ⟨w.heap.size, 2, none⟩ = some (.slice (some ⟨b, off, none⟩) (pack (W * H) f).length c) := X0'.cell 2
    have HC := hide (fill_each w2.heap.size (w.heap.size + 1) g gc W H (some ⟨b, off, none⟩) (pack (W * H) f).length c f x y ww hh on w3 hW1 hW hH HX.out HY.out Y X1' R (by omega) (by omega))
    have HB4 := hide HB3
    have HR4 := hide R
    clear Y R X0' X1' HB3 X0 X1
    go_wp2_with fail
    refine HC.out.mono ?_
    rintro e w4 ⟨rfl, ⟨c0, c1, c2⟩, hrow4, hg4⟩
    have HR5 := hide hrow4
    have HG5 := hide hg4
    have X2'' := X2'.out.grown hg4 (by simp; omega)
    have s0 : w4.cell? ⟨w.heap.size + 1 + 1, 0, none⟩ = some (.int .i64 0) := X2''.cell 0
    have s1 : w4.cell? ⟨w.heap.size + 1 + 1, 1, none⟩ = some (.int .i64 0) := X2''.cell 1
    have s2 : w4.cell? ⟨w.heap.size + 1 + 1, 2, none⟩ = some (.slice none 0 0) := X2''.cell 2
    have sf0 := X2''.frozen 0
    have sf1 := X2''.frozen 1
    have sf2 := X2''.frozen 2
    have slt : w.heap.size + 1 + 1 < w4.heap.size := X2''.lt
    clear hrow4 hg4 k0 k1 k2 X2' HC X2''
    go_wp2_with fail
    refine bodyPost_ret (v := .agg #[.int .i64 (W : Int), .int .i64 (H : Int), .slice (some ⟨g, 0, none⟩) (pack (W * H) fun j => if inR W x y ww hh j then on else f j).length gc]) (by simp [results, Try.results21, go_sem, s0, s1, s2]) rfl ?_
    have hsz := HB4.out.size
    exact ⟨g, gc, by omega, rfl, ((HR5.out.far (by simp; omega) _).far (by simp; omega) _).far (by simp; omega) _,
      ((((below_then (below_box (below_box (below_box HB.out))) HB4.out).trans (below_of_grown HG5.out (by omega) (by omega))).setCell (by simp; omega) _).setCell (by simp; omega) _).setCell (by simp; omega) _⟩
  · have Y : Box (((w2.setCell ⟨w1.heap.size, 0, none⟩ (.int .i64 (W : Int))).setCell ⟨w1.heap.size, 1, none⟩ (.int .i64 (H : Int))).setCell ⟨w1.heap.size, 2, none⟩ (.slice (some ⟨g, 0, none⟩) (pack (W * H) f).length gc)) w1.heap.size 24 #[.int .i64 (W : Int), .int .i64 (H : Int), .slice (some ⟨g, 0, none⟩) (pack (W * H) f).length gc] := ((Z.set 0 _).set 1 _).set 2 _
    have hg' : w1.heap.size + 1 ≤ g := by simpa using hg
    have R := ((HROW.out.far (p := ⟨w1.heap.size, 0, none⟩) (by simp; omega) (.int .i64 (W : Int))).far (p := ⟨w1.heap.size, 1, none⟩) (by simp; omega) (.int .i64 (H : Int))).far (p := ⟨w1.heap.size, 2, none⟩) (by simp; omega) (.slice (some ⟨g, 0, none⟩) (pack (W * H) f).length gc)
    have HB3 := ((HB2.out.setCell (p := ⟨w1.heap.size, 0, none⟩) (by simp) (.int .i64 (W : Int))).setCell (p := ⟨w1.heap.size, 1, none⟩) (by simp) (.int .i64 (H : Int))).setCell (p := ⟨w1.heap.size, 2, none⟩) (by simp) (.slice (some ⟨g, 0, none⟩) (pack (W * H) f).length gc)
    generalize (((w2.setCell ⟨w1.heap.size, 0, none⟩ (.int .i64 (W : Int))).setCell ⟨w1.heap.size, 1, none⟩ (.int .i64 (H : Int))).setCell ⟨w1.heap.size, 2, none⟩ (.slice (some ⟨g, 0, none⟩) (pack (W * H) f).length gc)) = w3 at *
    clear z0 z1 z2 zf0 zf1 zf2 zlt Z q0 q1 q2 hb2 hrow HROW hg n1 n2 HB2
    have X0' := X0.out.kept HB3
    have X1' := X1.out.kept HB3
    have X2' := hide (X2.out.kept HB3)
    have k0 : w3.cell? ⟨w.heap.size, 0, none⟩ = some (.int .i64 (W : Int)) := X0'.cell 0
    have k1 : w3.cell? ⟨w.heap.size, 1, none⟩ = some (.int .i64 (H : Int)) := X0'.cell 1
    have k2 : w3.cell? ⟨w.heap.size, 2, none⟩ = some (.slice (some ⟨b, off, none⟩) (pack (W * H) f).length c) := X0'.cell 2
    have HC := hide (fill_each w1.heap.size (w.heap.size + 1) g gc W H (some ⟨b, off, none⟩) (pack (W * H) f).length c f x y ww hh on w3 hW1 hW hH HX.out HY.out Y X1' R (by omega) (by omega))
    have HB4 := hide HB3
    have HR4 := hide R
    clear Y R X0' X1' HB3 X0 X1
    go_wp2_with fail
    refine HC.out.mono ?_
    rintro e w4 ⟨rfl, ⟨c0, c1, c2⟩, hrow4, hg4⟩
    have HR5 := hide hrow4
    have HG5 := hide hg4
    have X2'' := X2'.out.grown hg4 (by simp; omega)
    have s0 : w4.cell? ⟨w.heap.size + 1 + 1, 0, none⟩ = some (.int .i64 0) := X2''.cell 0
    have s1 : w4.cell? ⟨w.heap.size + 1 + 1, 1, none⟩ = some (.int .i64 0) := X2''.cell 1
    have s2 : w4.cell? ⟨w.heap.size + 1 + 1, 2, none⟩ = some (.slice none 0 0) := X2''.cell 2
    have sf0 := X2''.frozen 0
    have sf1 := X2''.frozen 1
    have sf2 := X2''.frozen 2
    have slt : w.heap.size + 1 + 1 < w4.heap.size := X2''.lt
    clear hrow4 hg4 k0 k1 k2 X2' HC X2''
    go_wp2_with fail
    refine bodyPost_ret (v := .agg #[.int .i64 (W : Int), .int .i64 (H : Int), .slice (some ⟨g, 0, none⟩) (pack (W * H) fun j => if inR W x y ww hh j then on else f j).length gc]) (by simp [results, Try.results21, go_sem, s0, s1, s2]) rfl ?_
    have hsz := HB4.out.size
    exact ⟨g, gc, by omega, rfl, ((HR5.out.far (by simp; omega) _).far (by simp; omega) _).far (by simp; omega) _,
      ((((below_then (below_box (below_box (below_box HB.out))) HB4.out).trans (below_of_grown HG5.out (by omega) (by omega))).setCell (by simp; omega) _).setCell (by simp; omega) _).setCell (by simp; omega) _⟩
end Go.Proofs.Ytebahhmajllmnaa
