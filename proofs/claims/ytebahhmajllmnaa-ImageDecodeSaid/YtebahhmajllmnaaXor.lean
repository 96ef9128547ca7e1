/-
  Xor: what it returns.
-/
import Derived.Test.YtebahhmajllmnaaTurn
import Derived.Deep.RegionHeld3
namespace Go.Proofs.Ytebahhmajllmnaa
open Go.RowKit
set_option linter.unusedVariables false
set_option linter.unusedSimpArgs false

theorem xor_byte (x y : UInt8) : bits BinOp.xor IntKind.u8 (x.toNat : Int) (y.toNat : Int) = ((x ^^^ y).toNat : Int) := by
  have e : ∀ z : UInt8, BitVec.ofInt 8 (z.toNat : Int) = z.toBitVec := fun z => by
    rw [BitVec.ofInt_natCast]
    exact BitVec.eq_of_toNat_eq (by simp)
  have h := (x ^^^ y).toNat_lt
  show IntKind.u8.wrap ((BitVec.ofInt 8 (x.toNat : Int) ^^^ BitVec.ofInt 8 (y.toNat : Int)).toNat : Int) = _
  rw [e, e]
  show IntKind.u8.wrap ((x ^^^ y).toNat : Int) = _
  generalize (x ^^^ y).toNat = n at *
  simp [IntKind.wrap, IntKind.bits, IntKind.signed]
  omega
def xorTo (fa fb : List UInt8) (k : Nat) : List UInt8 := (List.range fa.length).map fun j => if j < k then fa.getD j 0 ^^^ fb.getD j 0 else 0
theorem length_xorTo (fa fb : List UInt8) (k : Nat) : (xorTo fa fb k).length = fa.length := by simp [xorTo]
theorem get_xorTo (fa fb : List UInt8) (k j : Nat) (h : j < (xorTo fa fb k).length) : (xorTo fa fb k)[j] = if j < k then fa.getD j 0 ^^^ fb.getD j 0 else 0 := by simp [xorTo]
theorem xorTo_step (fa fb : List UInt8) (k : Nat) : (xorTo fa fb k).set k (fa.getD k 0 ^^^ fb.getD k 0) = xorTo fa fb (k + 1) := by
  apply List.ext_getElem (by simp [length_xorTo])
  intro j h1 h2
  rw [List.getElem_set, get_xorTo, get_xorTo]
  by_cases e : k = j
  · subst e; simp
  · rw [if_neg e]
    by_cases h : j < k
    · rw [if_pos h, if_pos (by omega)]
    · rw [if_neg h, if_neg (by omega)]
def xorP (f g : Nat → Bool) (j : Nat) : Bool := f j != g j
theorem xorTo_start (n : Nat) (f g : Nat → Bool) : xorTo (pack n f) (pack n g) 0 = pack n fun _ => false := by
  apply List.ext_getElem (by simp [length_xorTo, length_pack])
  intro j h1 h2
  rw [get_xorTo, if_neg (by omega)]
  simp only [pack_false, List.getElem_replicate]
theorem xorTo_end (n : Nat) (f g : Nat → Bool) : xorTo (pack n f) (pack n g) (pack n f).length = pack n (xorP f g) := by
  apply List.ext_getElem (by simp [length_xorTo, length_pack])
  intro j h1 h2
  have hj : j < (n + 7) / 8 := by rwa [length_pack] at h2
  have h3 := getD_pack n (xorP f g) j hj
  rw [List.getD_eq_getElem?_getD, List.getElem?_eq_getElem h2, Option.getD_some] at h3
  rw [h3, get_xorTo, if_pos (by rw [length_pack]; exact hj), getD_pack n f j hj, getD_pack n g j hj]
  apply byte_ext
  intro t ht
  rw [UInt8.toNat_xor, Nat.testBit_xor, mk8_bit _ t ht, mk8_bit _ t ht, mk8_bit _ t ht]
  unfold xorP
  by_cases h : 8 * j + t < n <;> simp [h]
theorem xorP_back (f g : Nat → Bool) (j : Nat) : xorP (xorP f g) g j = f j := by
  unfold xorP
  cases f j <;> cases g j <;> rfl

def XorRel (w : World) (W H : Nat) (b1 o1 c b2 o2 d : Nat) (fa fb : List UInt8) (Oo g gc : Nat) (k : Nat) (v : World) : Prop :=
  Box v w.heap.size 24 #[.int .i64 (W : Int), .int .i64 (H : Int), .slice (some ⟨b1, o1, none⟩) fa.length c] ∧ Box v (w.heap.size + 1) 24 #[.int .i64 (W : Int), .int .i64 (H : Int), .slice (some ⟨b2, o2, none⟩) fb.length d] ∧
  Box v (w.heap.size + 2) 24 #[.int .i64 0, .int .i64 0, .slice none 0 0] ∧
  Box v Oo 24 #[.int .i64 (W : Int), .int .i64 (H : Int), .slice (some ⟨g, 0, none⟩) fa.length gc] ∧ Bys v (some ⟨b1, o1, none⟩) fa ∧ Bys v (some ⟨b2, o2, none⟩) fb ∧ Row v g (xorTo fa fb k) ∧ Below w.heap.size w v
def XorAny (w : World) (W H : Nat) (b1 o1 c b2 o2 d : Nat) (fa fb : List UInt8) (Oo g gc : Nat) (v : World) : Prop := ∃ k, XorRel w W H b1 o1 c b2 o2 d fa fb Oo g gc k v
section
variable {w v v' : World} {W H : Nat} {b1 o1 c b2 o2 d : Nat} {fa fb : List UInt8} {Oo g gc k : Nat}
theorem XorRel.any_ (h : XorRel w W H b1 o1 c b2 o2 d fa fb Oo g gc k v) : XorAny w W H b1 o1 c b2 o2 d fa fb Oo g gc v := ⟨k, h⟩
theorem XorRel.next (h : XorRel w W H b1 o1 c b2 o2 d fa fb Oo g gc k v) (hb : Below v.heap.size v v') : XorRel w W H b1 o1 c b2 o2 d fa fb Oo g gc k v' :=
  ⟨h.1.kept hb, h.2.1.kept hb, h.2.2.1.kept hb, h.2.2.2.1.kept hb, h.2.2.2.2.1.below hb, h.2.2.2.2.2.1.below hb, h.2.2.2.2.2.2.1.kept hb, below_then h.2.2.2.2.2.2.2 hb⟩
theorem XorRel.step (h : XorRel w W H b1 o1 c b2 o2 d fa fb Oo g gc k v) (hk : k < fa.length) (h1 : b1 < w.heap.size) (h2 : b2 < w.heap.size) (hg : w.heap.size + 2 < g) (hO : Oo ≠ g) :
    XorRel w W H b1 o1 c b2 o2 d fa fb Oo g gc (k + 1) (v.setCell ⟨g, k, none⟩ (u8v (fa.getD k 0 ^^^ fb.getD k 0))) := by
  obtain ⟨g1, g2, g3, g4, g5, g6, g7, g8⟩ := h
  have hgr := grown_setCell (grown_refl v (some g)) k (u8v (fa.getD k 0 ^^^ fb.getD k 0))
  refine ⟨g1.far (by simp; omega) _, g2.far (by simp; omega) _, g3.far (by simp; omega) _, g4.far (by simpa using hO) _, g5.grown hgr (fun b off e => by cases e; omega), g6.grown hgr (fun b off e => by cases e; omega), ?_, g8.setCell (by simp; omega) _⟩
  have h := g7.set (i := k) (by rw [length_xorTo]; exact hk) (fa.getD k 0 ^^^ fb.getD k 0)
  rw [xorTo_step] at h
  exact h
theorem XorRel.cells (h : XorRel w W H b1 o1 c b2 o2 d fa fb Oo g gc k v) : v.cell? ⟨w.heap.size, 2, none⟩ = some (.slice (some ⟨b1, o1, none⟩) fa.length c) ∧ v.cell? ⟨w.heap.size + 1, 2, none⟩ = some (.slice (some ⟨b2, o2, none⟩) fb.length d) ∧
    v.cell? ⟨Oo, 2, none⟩ = some (.slice (some ⟨g, 0, none⟩) fa.length gc) := ⟨h.1.cell 2, h.2.1.cell 2, h.2.2.2.1.cell 2⟩
theorem XorAny.cells (h : XorAny w W H b1 o1 c b2 o2 d fa fb Oo g gc v) {j : Nat} (ha : j < fa.length) (hb : j < fb.length) : v.cell? ⟨w.heap.size, 2, none⟩ = some (.slice (some ⟨b1, o1, none⟩) fa.length c) ∧ v.cell? ⟨w.heap.size + 1, 2, none⟩ = some (.slice (some ⟨b2, o2, none⟩) fb.length d) ∧
    v.cell? ⟨Oo, 2, none⟩ = some (.slice (some ⟨g, 0, none⟩) fa.length gc) ∧ v.cell? ⟨b1, o1 + j, none⟩ = some (.int .u8 ((fa.getD j 0).toNat : Int)) ∧ v.cell? ⟨b2, o2 + j, none⟩ = some (.int .u8 ((fb.getD j 0).toNat : Int)) := by
  obtain ⟨k, h⟩ := h
  obtain ⟨x1, x2, x3⟩ := h.cells
  refine ⟨x1, x2, x3, ?_, ?_⟩
  · obtain ⟨b, off, e, _, hc⟩ := h.2.2.2.2.1 (by omega)
    cases e
    exact hc j ha
  · obtain ⟨b, off, e, _, hc⟩ := h.2.2.2.2.2.1 (by omega)
    cases e
    exact hc j hb
end

set_option maxHeartbeats 3200000 in
theorem xor_any (W H : Nat) (A B : Option Addr) (c d : Nat) (f f' : Nat → Bool) (w : World) (hbA : Bys w A (pack (W * H) f)) (hbB : Bys w B (pack (W * H) f')) (hW1 : 1 ≤ W) (hW : W ≤ 512) (hH1 : 1 ≤ H) (hH : H ≤ 512) :
    Calls Try.prog 26 #[.agg #[.int .i64 (W : Int), .int .i64 (H : Int), .slice A (pack (W * H) f).length c], .agg #[.int .i64 (W : Int), .int .i64 (H : Int), .slice B (pack (W * H) f').length d]] w (Fresh2 w W H (pack (W * H) (xorP f f')) (.bool true)) := by
  have HVa := hide (validB_pack f hW1 hW hH1 hH)
  have HVb := hide (validB_pack f' hW1 hW hH1 hH)
  have hma := len_pack_max f hW hH
  have hmb := len_pack_max f' hW hH
  have hla := len_pack_bd f hW hH
  have hP : 1 ≤ W * H := Nat.mul_pos hW1 hH1
  have hl0 := length_pack (W * H) f
  have hl1 := length_pack (W * H) f'
  have HBl : Hid (∀ v, Calls Try.prog 35 #[.int .i64 (W : Int), .int .i64 (H : Int)] v (Fresh v W H (xorTo (pack (W * H) f) (pack (W * H) f') 0))) := fun v => by
    rw [xorTo_start]
    exact blank_any W H v hW hH
  have HEND := hide (xorTo_end (W * H) f f')
  have HLen : Hid ((pack (W * H) (xorP f f')).length = (pack (W * H) f).length) := by simp [Hid, length_pack]
  obtain ⟨b1, o1, u1, rfl, hDa, _, _, _⟩ := hbA.at_ (k := 0) (by omega)
  obtain ⟨b2, o2, u2, rfl, hDb, _, _, _⟩ := hbB.at_ (k := 0) (by omega)
  have HA := hide hbA
  have HB := hide hbB
  have hlen : Hid ((pack (W * H) f').length = (pack (W * H) f).length) := by simp [Hid, length_pack]
  clear hbA hbB hl0 hl1
  generalize pack (W * H) (xorP f f') = fx at *
  generalize pack (W * H) f = fa at *
  generalize pack (W * H) f' = fb at *
  go_enter Try.func26, Try.ntmps26
  go_wp2_with fail
  refine (valid_any _ _ _ _ fa _ (((HA.out.alloc _).alloc _).alloc _) hma).mono ?_
  rw [HVa.out]
  rintro e w1 ⟨rfl, hb1⟩
  have X0 := hide ((((Box.new w 24 #[.int .i64 (W : Int), .int .i64 (H : Int), .slice (some ⟨b1, o1, none⟩) fa.length c]).alloc (.cells #[.int .i64 (W : Int), .int .i64 (H : Int), .slice (some ⟨b2, o2, none⟩) fb.length d] 24)).alloc (.cells #[.int .i64 0, .int .i64 0, .slice none 0 0] 24)).kept hb1)
  have X1 := hide (((Box.new (w.alloc (.cells #[.int .i64 (W : Int), .int .i64 (H : Int), .slice (some ⟨b1, o1, none⟩) fa.length c] 24)) 24 #[.int .i64 (W : Int), .int .i64 (H : Int), .slice (some ⟨b2, o2, none⟩) fb.length d]).alloc (.cells #[.int .i64 0, .int .i64 0, .slice none 0 0] 24)).kept hb1)
  have X2 := hide ((Box.new ((w.alloc (.cells #[.int .i64 (W : Int), .int .i64 (H : Int), .slice (some ⟨b1, o1, none⟩) fa.length c] 24)).alloc (.cells #[.int .i64 (W : Int), .int .i64 (H : Int), .slice (some ⟨b2, o2, none⟩) fb.length d] 24)) 24 #[.int .i64 0, .int .i64 0, .slice none 0 0]).kept hb1)
  simp only [World.size_alloc] at X0 X1 X2
  have YA := hide ((((HA.out.alloc _).alloc _).alloc _).below hb1)
  have YB := hide ((((HB.out.alloc _).alloc _).alloc _).below hb1)
  have B1 := hide (below_box (below_box (below_box hb1)))
  have k0 : w1.cell? ⟨w.heap.size + 1, 0, none⟩ = some (.int .i64 (W : Int)) := X1.out.cell 0
  have k1 : w1.cell? ⟨w.heap.size + 1, 1, none⟩ = some (.int .i64 (H : Int)) := X1.out.cell 1
  have k2 : w1.cell? ⟨w.heap.size + 1, 2, none⟩ = some (.slice (some ⟨b2, o2, none⟩) fb.length d) := X1.out.cell 2
  clear hb1 HA HB
  go_wp2_with fail
  refine (valid_any _ _ _ _ fb _ YB.out hmb).mono ?_
  rw [HVb.out]
  rintro e w2 ⟨rfl, hb2⟩
  have Z0 := hide (X0.out.kept hb2)
  have Z1 := hide (X1.out.kept hb2)
  have Z2 := hide (X2.out.kept hb2)
  have ZA := hide (YA.out.below hb2)
  have ZB := hide (YB.out.below hb2)
  have B2 := hide (below_then B1.out hb2)
  clear k0 k1 k2 X0 X1 X2 YA YB B1 hb2
  have k0 : w2.cell? ⟨w.heap.size, 0, none⟩ = some (.int .i64 (W : Int)) := Z0.out.cell 0
  have k1 : w2.cell? ⟨w.heap.size, 1, none⟩ = some (.int .i64 (H : Int)) := Z0.out.cell 1
  have k2 : w2.cell? ⟨w.heap.size + 1, 0, none⟩ = some (.int .i64 (W : Int)) := Z1.out.cell 0
  have k3 : w2.cell? ⟨w.heap.size + 1, 1, none⟩ = some (.int .i64 (H : Int)) := Z1.out.cell 1
  go_wp2_with fail
  refine (HBl.out _).mono ?_
  rintro e w3 ⟨g, gc, hg, rfl, hrow, hb3⟩
  have hsz := Z2.out.lt
  have h1g : w.heap.size + 2 < g := by omega
  have hOg : w3.heap.size ≠ g := by have := hrow.lt; omega
  have HR : Hid (XorRel w W H b1 o1 c b2 o2 d fa fb w3.heap.size g gc 0 (w3.alloc (.cells #[.int .i64 (W : Int), .int .i64 (H : Int), .slice (some ⟨g, 0, none⟩) fa.length gc] 24))) :=
    ⟨(Z0.out.kept hb3).alloc _, (Z1.out.kept hb3).alloc _, (Z2.out.kept hb3).alloc _, Box.new _ _ _, (ZA.out.below hb3).alloc _, (ZB.out.below hb3).alloc _, hrow.alloc _, (below_then B2.out hb3).alloc (below_then B2.out hb3).size _⟩
  rw [length_xorTo]
  clear hb3 hrow k0 k1 k2 k3 Z0 Z1 Z2 ZA ZB B2 HBl hsz hg
  go_wp2_with fail
  go_loopw [39] (fun i wr => ∃ k : Nat, k ≤ fa.length ∧ i = .int .i64 k ∧ Hid (XorRel w W H b1 o1 c b2 o2 d fa fb w3.heap.size g gc k wr)) (fun i _ => fa.length - (intOf i).toNat)
  case atStart => exact ⟨0, by omega, rfl, HR⟩
  case round =>
    clear HR
    obtain ⟨k, hk, rfl, hR⟩ := hrel
    by_cases hlt : k < fa.length
    · have hltb : k < fb.length := by rw [hlen.out]; exact hlt
      have HRp := hide (hR.out.next ((Below.refl _ _).drew))
      have z0 := HRp.out.2.2.2.2.2.2.1.cell (k := k) (by rw [length_xorTo]; exact hlt)
      have zf := HRp.out.2.2.2.2.2.2.1.frozen k
      unfold u8v at z0
      obtain ⟨x, hx⟩ : ∃ x, x = (fa.getD k 0).toNat := ⟨_, rfl⟩
      obtain ⟨y, hy⟩ : ∃ y, y = (fb.getD k 0).toNat := ⟨_, rfl⟩
      have HXY : Hid (Value.int .u8 (bits BinOp.xor IntKind.u8 (x : Int) (y : Int)) = u8v (fa.getD k 0 ^^^ fb.getD k 0)) := by unfold Hid u8v; rw [hx, hy, xor_byte]
      have HX := hide hx
      have HY := hide hy
      clear hR hx hy
      go_wp2_with fail
      refine wp_region_held_drew (S := fun v => XorAny w W H b1 o1 c b2 o2 d fa fb w3.heap.size g gc v) (by kernel_rfl) (HRp.out.any_) (fun hH => ?_)
      refine wpAnyH_take (i := 0) (v := ?xv0) (by simp only [List.getElem?_toArray, List.getElem?_cons_succ, List.getElem?_cons_zero]; exact rfl) (by kernel_rfl) (by kernel_rfl) (by kernel_rfl) ?xq0 ?xy0 hH ?xr0
      case xq0 => exact fun _ _ _ h => h
      case xy0 =>
        refine Or.inl ⟨by rfl, fun v hv => ?_⟩
        go_simp
        rfl
      try simp only [Act.put, List.setIfInBounds_toArray, List.set_cons_zero, List.set_cons_succ]
      refine wpAnyH_take (i := 1) (v := ?xv1) (by simp only [List.getElem?_toArray, List.getElem?_cons_succ, List.getElem?_cons_zero]; exact rfl) (by kernel_rfl) (by kernel_rfl) (by kernel_rfl) ?xq1 ?xy1 hH ?xr1
      case xq1 => exact fun _ _ _ h => h
      case xy1 =>
        refine Or.inl ⟨by rfl, fun v hv => ?_⟩
        obtain ⟨q0, q1, q2, q3, q4⟩ := XorAny.cells hv hlt hltb; rw [← HX.out] at q3; rw [← HY.out] at q4
        go_simp
        rfl
      try simp only [Act.put, List.setIfInBounds_toArray, List.set_cons_zero, List.set_cons_succ]
      refine wpAnyH_take (i := 2) (v := ?xv2) (by simp only [List.getElem?_toArray, List.getElem?_cons_succ, List.getElem?_cons_zero]; exact rfl) (by kernel_rfl) (by kernel_rfl) (by kernel_rfl) ?xq2 ?xy2 hH ?xr2
      case xq2 => exact fun _ _ _ h => h
      case xy2 =>
        refine Or.inl ⟨by rfl, fun v hv => ?_⟩
        go_simp
        rfl
      try simp only [Act.put, List.setIfInBounds_toArray, List.set_cons_zero, List.set_cons_succ]
      refine wpAnyH_take (i := 3) (v := ?xv3) (by simp only [List.getElem?_toArray, List.getElem?_cons_succ, List.getElem?_cons_zero]; exact rfl) (by kernel_rfl) (by kernel_rfl) (by kernel_rfl) ?xq3 ?xy3 hH ?xr3
      case xq3 => exact fun _ _ _ h => h
      case xy3 =>
        refine Or.inl ⟨by rfl, fun v hv => ?_⟩
        go_simp
        rfl
      try simp only [Act.put, List.setIfInBounds_toArray, List.set_cons_zero, List.set_cons_succ]
      refine wpAnyH_take (i := 4) (v := ?xv4) (by simp only [List.getElem?_toArray, List.getElem?_cons_succ, List.getElem?_cons_zero]; exact rfl) (by kernel_rfl) (by kernel_rfl) (by kernel_rfl) ?xq4 ?xy4 hH ?xr4
      case xq4 => exact fun _ _ _ h => h
      case xy4 =>
        refine Or.inl ⟨by rfl, fun v hv => ?_⟩
        obtain ⟨q0, q1, q2, q3, q4⟩ := XorAny.cells hv hlt hltb; rw [← HX.out] at q3; rw [← HY.out] at q4
        go_simp
        rfl
      try simp only [Act.put, List.setIfInBounds_toArray, List.set_cons_zero, List.set_cons_succ]
      refine wpAnyH_take (i := 5) (v := ?xv5) (by simp only [List.getElem?_toArray, List.getElem?_cons_succ, List.getElem?_cons_zero]; exact rfl) (by kernel_rfl) (by kernel_rfl) (by kernel_rfl) ?xq5 ?xy5 hH ?xr5
      case xq5 => exact fun _ _ _ h => h
      case xy5 =>
        refine Or.inl ⟨by rfl, fun v hv => ?_⟩
        go_simp
        rfl
      try simp only [Act.put, List.setIfInBounds_toArray, List.set_cons_zero, List.set_cons_succ]
      refine wpAnyH_take (i := 6) (v := ?xv6) (by simp only [List.getElem?_toArray, List.getElem?_cons_succ, List.getElem?_cons_zero]; exact rfl) (by kernel_rfl) (by kernel_rfl) (by kernel_rfl) ?xq6 ?xy6 hH ?xr6
      case xq6 => exact fun _ _ _ h => h
      case xy6 =>
        refine Or.inl ⟨by rfl, fun v hv => ?_⟩
        go_simp
        rfl
      try simp only [Act.put, List.setIfInBounds_toArray, List.set_cons_zero, List.set_cons_succ]
      refine wpAnyH_take (i := 7) (v := ?xv7) (by simp only [List.getElem?_toArray, List.getElem?_cons_succ, List.getElem?_cons_zero]; exact rfl) (by kernel_rfl) (by kernel_rfl) (by kernel_rfl) ?xq7 ?xy7 hH ?xr7
      case xq7 => exact fun _ _ _ h => h
      case xy7 =>
        refine Or.inl ⟨by rfl, fun v hv => ?_⟩
        obtain ⟨q0, q1, q2, q3, q4⟩ := XorAny.cells hv hlt hltb; rw [← HX.out] at q3; rw [← HY.out] at q4
        go_simp
        rfl
      try simp only [Act.put, List.setIfInBounds_toArray, List.set_cons_zero, List.set_cons_succ]
      refine wpAnyH_take (i := 8) (v := ?xv8) (by simp only [List.getElem?_toArray, List.getElem?_cons_succ, List.getElem?_cons_zero]; exact rfl) (by kernel_rfl) (by kernel_rfl) (by kernel_rfl) ?xq8 ?xy8 hH ?xr8
      case xq8 => exact fun _ _ _ h => h
      case xy8 =>
        refine Or.inl ⟨by rfl, fun v hv => ?_⟩
        go_simp
        rfl
      try simp only [Act.put, List.setIfInBounds_toArray, List.set_cons_zero, List.set_cons_succ]
      refine wpAnyH_take (i := 9) (v := ?xv9) (by simp only [List.getElem?_toArray, List.getElem?_cons_succ, List.getElem?_cons_zero]; exact rfl) (by kernel_rfl) (by kernel_rfl) (by kernel_rfl) ?xq9 ?xy9 hH ?xr9
      case xq9 => exact fun _ _ _ h => h
      case xy9 =>
        refine Or.inl ⟨by rfl, fun v hv => ?_⟩
        obtain ⟨q0, q1, q2, q3, q4⟩ := XorAny.cells hv hlt hltb; rw [← HX.out] at q3; rw [← HY.out] at q4
        go_simp
        rfl
      try simp only [Act.put, List.setIfInBounds_toArray, List.set_cons_zero, List.set_cons_succ]
      refine wpAnyH_take (i := 10) (v := ?xv10) (by simp only [List.getElem?_toArray, List.getElem?_cons_succ, List.getElem?_cons_zero]; exact rfl) (by kernel_rfl) (by kernel_rfl) (by kernel_rfl) ?xq10 ?xy10 hH ?xr10
      case xq10 => exact fun _ _ _ h => h
      case xy10 =>
        refine Or.inl ⟨by rfl, fun v hv => ?_⟩
        go_simp
        rfl
      try simp only [Act.put, List.setIfInBounds_toArray, List.set_cons_zero, List.set_cons_succ]
      refine wpAnyH_take (i := 11) (v := ?xv11) (by simp only [List.getElem?_toArray, List.getElem?_cons_succ, List.getElem?_cons_zero]; exact rfl) (by kernel_rfl) (by kernel_rfl) (by kernel_rfl) ?xq11 ?xy11 hH ?xr11
      case xq11 => exact fun _ _ _ h => h
      case xy11 =>
        refine Or.inl ⟨by rfl, fun v hv => ?_⟩
        go_simp
        rfl
      try simp only [Act.put, List.setIfInBounds_toArray, List.set_cons_zero, List.set_cons_succ]
      refine wpAnyH_take (i := 12) (v := ?xv12) (by simp only [List.getElem?_toArray, List.getElem?_cons_succ, List.getElem?_cons_zero]; exact rfl) (by kernel_rfl) (by kernel_rfl) (by kernel_rfl) ?xq12 ?xy12 hH ?xr12
      case xq12 => exact fun _ _ _ h => h
      case xy12 =>
        refine Or.inl ⟨by rfl, fun v hv => ?_⟩
        obtain ⟨q0, q1, q2, q3, q4⟩ := XorAny.cells hv hlt hltb; rw [← HX.out] at q3; rw [← HY.out] at q4
        go_simp
        rfl
      try simp only [Act.put, List.setIfInBounds_toArray, List.set_cons_zero, List.set_cons_succ]
      refine wpAnyH_take (i := 13) (v := ?xv13) (by simp only [List.getElem?_toArray, List.getElem?_cons_succ, List.getElem?_cons_zero]; exact rfl) (by kernel_rfl) (by kernel_rfl) (by kernel_rfl) ?xq13 ?xy13 hH ?xr13
      case xq13 => exact fun _ _ _ h => h
      case xy13 =>
        refine Or.inl ⟨by rfl, fun v hv => ?_⟩
        go_simp
        rfl
      try simp only [Act.put, List.setIfInBounds_toArray, List.set_cons_zero, List.set_cons_succ]
      refine wpAnyH_take (i := 14) (v := ?xv14) (by simp only [List.getElem?_toArray, List.getElem?_cons_succ, List.getElem?_cons_zero]; exact rfl) (by kernel_rfl) (by kernel_rfl) (by kernel_rfl) ?xq14 ?xy14 hH ?xr14
      case xq14 => exact fun _ _ _ h => h
      case xy14 =>
        refine Or.inl ⟨by rfl, fun v hv => ?_⟩
        go_simp
        rfl
      try simp only [Act.put, List.setIfInBounds_toArray, List.set_cons_zero, List.set_cons_succ]
      refine wpAnyH_ready (rs := [15]) (by kernel_rfl) (by simp) ?_
      refine AllReadyH.cons (by simp only [List.getElem?_toArray, List.getElem?_cons_succ, List.getElem?_cons_zero]; exact rfl) (fun K hK => ?_) AllReadyH.nil
      go_simp
      have HRq := HRp.out.step hlt hDa hDb h1g hOg
      rw [← HXY.out] at HRq
      have HRq := hide HRq
      have hN := HRq.out.any_
      clear HRp z0 zf
      refine hK.out _ _ hN (fun hH' => ?_)
      clear hK hH hN K
      have hH := hH'
      clear hH'
      try simp only [Act.put, List.setIfInBounds_toArray, List.set_cons_zero, List.set_cons_succ]
      refine wpAnyH_done (by kernel_rfl) ?_ _
      go_wp2_with fail
      go_roundw
      case rel => exact ⟨k + 1, by omega, by go_num, HRq⟩
      case measure => simp [intOf]; omega
    · obtain rfl : fa.length = k := by omega
      have s0 : wr.cell? ⟨w.heap.size + 1 + 1, 0, none⟩ = some (.int .i64 0) := hR.out.2.2.1.cell 0
      have s1 : wr.cell? ⟨w.heap.size + 1 + 1, 1, none⟩ = some (.int .i64 0) := hR.out.2.2.1.cell 1
      have s2 : wr.cell? ⟨w.heap.size + 1 + 1, 2, none⟩ = some (.slice none 0 0) := hR.out.2.2.1.cell 2
      have t0 : wr.frozen? ⟨w.heap.size + 1 + 1, 0, none⟩ = false := hR.out.2.2.1.frozen 0
      have t1 : wr.frozen? ⟨w.heap.size + 1 + 1, 1, none⟩ = false := hR.out.2.2.1.frozen 1
      have t2 : wr.frozen? ⟨w.heap.size + 1 + 1, 2, none⟩ = false := hR.out.2.2.1.frozen 2
      have l4 : w.heap.size + 1 + 1 < wr.heap.size := hR.out.2.2.1.lt
      have p0 : wr.cell? ⟨w3.heap.size, 0, none⟩ = some (.int .i64 (W : Int)) := hR.out.2.2.2.1.cell 0
      have p1 : wr.cell? ⟨w3.heap.size, 1, none⟩ = some (.int .i64 (H : Int)) := hR.out.2.2.2.1.cell 1
      have p2 : wr.cell? ⟨w3.heap.size, 2, none⟩ = some (.slice (some ⟨g, 0, none⟩) fa.length gc) := hR.out.2.2.2.1.cell 2
      go_wp2_with fail
      refine bodyPost_ret (v := .tuple #[.agg #[.int .i64 (W : Int), .int .i64 (H : Int), .slice (some ⟨g, 0, none⟩) fa.length gc], .bool true]) (by simp [results, Try.results26, go_sem, s0, s1, s2]) rfl ?_
      obtain ⟨h1, h2, h3, h4, h5, h6, h7, h8⟩ := hR.out
      rw [HEND.out] at h7
      exact ⟨g, gc, by omega, by rw [HLen.out], ((h7.far (by simp; omega) _).far (by simp; omega) _).far (by simp; omega) _, ((h8.setCell (by simp; omega) _).setCell (by simp; omega) _).setCell (by simp; omega) _⟩

def XorNo (w : World) (e : Ending) (w' : World) : Prop := e = .returned (.tuple #[zeroIm, .bool false]) ∧ Below w.heap.size w w'
theorem xor_no (W H W' H' : Int) (A B : Option Addr) (c d : Nat) (bs bt : List UInt8) (w : World) (hb : Bys w A bs) (hm : bs.length ≤ maxLen) (hv : validB W H bs = false) :
    Calls Try.prog 26 #[.agg #[.int .i64 W, .int .i64 H, .slice A bs.length c], .agg #[.int .i64 W', .int .i64 H', .slice B bt.length d]] w (XorNo w) := by
  have HV := hide hv
  have HB := hide (((hb.alloc (.cells #[.int .i64 W, .int .i64 H, .slice A bs.length c] 24)).alloc (.cells #[.int .i64 W', .int .i64 H', .slice B bt.length d] 24)).alloc (.cells #[.int .i64 0, .int .i64 0, .slice none 0 0] 24))
  clear hv hb
  go_enter Try.func26, Try.ntmps26
  go_wp2_with fail
  refine (valid_any _ _ _ _ bs _ HB.out hm).mono ?_
  rw [HV.out]
  rintro e w1 ⟨rfl, hb1⟩
  have X2 := (Box.new ((w.alloc (.cells #[.int .i64 W, .int .i64 H, .slice A bs.length c] 24)).alloc (.cells #[.int .i64 W', .int .i64 H', .slice B bt.length d] 24)) 24 #[.int .i64 0, .int .i64 0, .slice none 0 0]).kept hb1
  simp only [World.size_alloc] at X2
  have s0 : w1.cell? ⟨w.heap.size + 1 + 1, 0, none⟩ = some (.int .i64 0) := X2.cell 0
  have s1 : w1.cell? ⟨w.heap.size + 1 + 1, 1, none⟩ = some (.int .i64 0) := X2.cell 1
  have s2 : w1.cell? ⟨w.heap.size + 1 + 1, 2, none⟩ = some (.slice none 0 0) := X2.cell 2
  have sf0 := X2.frozen 0
  have sf1 := X2.frozen 1
  have sf2 := X2.frozen 2
  have slt : w.heap.size + 1 + 1 < w1.heap.size := X2.lt
  have HB1 := hide (below_box (below_box (below_box hb1)))
  clear X2 hb1
  go_wp2_with fail
  exact bodyPost_ret (v := .tuple #[zeroIm, .bool false]) (by simp [results, Try.results26, go_sem, zeroIm, s0, s1, s2]) rfl ⟨rfl, ((HB1.out.setCell (by simp; omega) _).setCell (by simp; omega) _).setCell (by simp; omega) _⟩

set_option maxHeartbeats 800000 in
theorem xor_sizes (W H W' H' : Nat) (A B : Option Addr) (c d : Nat) (f f' : Nat → Bool) (w : World) (hbA : Bys w A (pack (W * H) f)) (hbB : Bys w B (pack (W' * H') f')) (hW1 : 1 ≤ W) (hW : W ≤ 512) (hH1 : 1 ≤ H) (hH : H ≤ 512) (hW1' : 1 ≤ W') (hW' : W' ≤ 512) (hH1' : 1 ≤ H') (hH' : H' ≤ 512) (hne : W ≠ W' ∨ H ≠ H') :
    Calls Try.prog 26 #[.agg #[.int .i64 (W : Int), .int .i64 (H : Int), .slice A (pack (W * H) f).length c], .agg #[.int .i64 (W' : Int), .int .i64 (H' : Int), .slice B (pack (W' * H') f').length d]] w (XorNo w) := by
  have HVa := hide (validB_pack f hW1 hW hH1 hH)
  have HVb := hide (validB_pack f' hW1' hW' hH1' hH')
  have hma := len_pack_max f hW hH
  have hmb := len_pack_max f' hW' hH'
  have HA := hide hbA
  have HB := hide hbB
  have two : W ≠ W' ∨ (W = W' ∧ H ≠ H') := by omega
  clear hbA hbB hne
  generalize pack (W * H) f = fa at *
  generalize pack (W' * H') f' = fb at *
  go_enter Try.func26, Try.ntmps26
  go_wp2_with fail
  refine (valid_any _ _ _ _ fa _ (((HA.out.alloc _).alloc _).alloc _) hma).mono ?_
  rw [HVa.out]
  rintro e w1 ⟨rfl, hb1⟩
  have X0 := hide ((((Box.new w 24 #[.int .i64 (W : Int), .int .i64 (H : Int), .slice A fa.length c]).alloc (.cells #[.int .i64 (W' : Int), .int .i64 (H' : Int), .slice B fb.length d] 24)).alloc (.cells #[.int .i64 0, .int .i64 0, .slice none 0 0] 24)).kept hb1)
  have X1 := hide (((Box.new (w.alloc (.cells #[.int .i64 (W : Int), .int .i64 (H : Int), .slice A fa.length c] 24)) 24 #[.int .i64 (W' : Int), .int .i64 (H' : Int), .slice B fb.length d]).alloc (.cells #[.int .i64 0, .int .i64 0, .slice none 0 0] 24)).kept hb1)
  have X2 := hide ((Box.new ((w.alloc (.cells #[.int .i64 (W : Int), .int .i64 (H : Int), .slice A fa.length c] 24)).alloc (.cells #[.int .i64 (W' : Int), .int .i64 (H' : Int), .slice B fb.length d] 24)) 24 #[.int .i64 0, .int .i64 0, .slice none 0 0]).kept hb1)
  simp only [World.size_alloc] at X0 X1 X2
  have YB := hide ((((HB.out.alloc _).alloc _).alloc _).below hb1)
  have B1 := hide (below_box (below_box (below_box hb1)))
  have k0 : w1.cell? ⟨w.heap.size + 1, 0, none⟩ = some (.int .i64 (W' : Int)) := X1.out.cell 0
  have k1 : w1.cell? ⟨w.heap.size + 1, 1, none⟩ = some (.int .i64 (H' : Int)) := X1.out.cell 1
  have k2 : w1.cell? ⟨w.heap.size + 1, 2, none⟩ = some (.slice B fb.length d) := X1.out.cell 2
  clear hb1 HA HB
  go_wp2_with fail
  refine (valid_any _ _ _ _ fb _ YB.out hmb).mono ?_
  rw [HVb.out]
  rintro e w2 ⟨rfl, hb2⟩
  have Z0 := hide (X0.out.kept hb2)
  have Z1 := hide (X1.out.kept hb2)
  have Z2 := hide (X2.out.kept hb2)
  have B2 := hide (below_then B1.out hb2)
  clear k0 k1 k2 X0 X1 X2 YB B1 hb2
  have k0 : w2.cell? ⟨w.heap.size, 0, none⟩ = some (.int .i64 (W : Int)) := Z0.out.cell 0
  have k1 : w2.cell? ⟨w.heap.size, 1, none⟩ = some (.int .i64 (H : Int)) := Z0.out.cell 1
  have k2 : w2.cell? ⟨w.heap.size + 1, 0, none⟩ = some (.int .i64 (W' : Int)) := Z1.out.cell 0
  have k3 : w2.cell? ⟨w.heap.size + 1, 1, none⟩ = some (.int .i64 (H' : Int)) := Z1.out.cell 1
  have s0 : w2.cell? ⟨w.heap.size + 1 + 1, 0, none⟩ = some (.int .i64 0) := Z2.out.cell 0
  have s1 : w2.cell? ⟨w.heap.size + 1 + 1, 1, none⟩ = some (.int .i64 0) := Z2.out.cell 1
  have s2 : w2.cell? ⟨w.heap.size + 1 + 1, 2, none⟩ = some (.slice none 0 0) := Z2.out.cell 2
  have sf0 := Z2.out.frozen 0
  have sf1 := Z2.out.frozen 1
  have sf2 := Z2.out.frozen 2
  have slt : w.heap.size + 1 + 1 < w2.heap.size := Z2.out.lt
  clear Z0 Z1 Z2
  rcases two with h1 | ⟨rfl, h1⟩
  · have h2 : ¬ (W : Int) = (W' : Int) := by omega
    go_wp2_with fail
    exact bodyPost_ret (v := .tuple #[zeroIm, .bool false]) (by simp [results, Try.results26, go_sem, zeroIm, s0, s1, s2]) rfl ⟨rfl, ((B2.out.setCell (by simp; omega) _).setCell (by simp; omega) _).setCell (by simp; omega) _⟩
  · have h2 : ¬ (H : Int) = (H' : Int) := by omega
    go_wp2_with fail
    exact bodyPost_ret (v := .tuple #[zeroIm, .bool false]) (by simp [results, Try.results26, go_sem, zeroIm, s0, s1, s2]) rfl ⟨rfl, ((B2.out.setCell (by simp; omega) _).setCell (by simp; omega) _).setCell (by simp; omega) _⟩
end Go.Proofs.Ytebahhmajllmnaa
