/-
  Decode: what it returns.
-/
import Derived.Test.YtebahhmajllmnaaEqual
import Derived.Deep.RegionHeld3
namespace Go.Proofs.Ytebahhmajllmnaa
open Go.RowKit
set_option linter.unusedVariables false
set_option linter.unusedSimpArgs false

/-- the bytes that are read, the result's box, and that nothing old has turned -/
def DS (w : World) (bk off : Nat) (b : List UInt8) (v : World) : Prop := Bys v (some ⟨bk, off, none⟩) b ∧ Box v w.heap.size 24 #[.int .i64 0, .int .i64 0, .slice none 0 0] ∧ Below w.heap.size w v
section
variable {w v v' : World} {bk off : Nat} {b : List UInt8} {x0 x1 x2 x3 : Nat}
theorem DS.next (h : DS w bk off b v) (hb : Below v.heap.size v v') : DS w bk off b v' := ⟨h.1.below hb, h.2.1.kept hb, below_then h.2.2 hb⟩
theorem DS.alloc (h : DS w bk off b v) (o : Obj) : DS w bk off b (v.alloc o) := h.next ((Below.refl _ _).alloc (Nat.le_refl _) o)
theorem DS.far (h : DS w bk off b v) {p : Addr} (hbk : bk < w.heap.size) (hp : w.heap.size < p.block) (u : Value) : DS w bk off b (v.setCell p u) :=
  ⟨fun hp' => by
    obtain ⟨b1, o1, e, h1, h2⟩ := h.1 hp'
    cases e
    refine ⟨bk, off, rfl, by simpa [World.setCell] using h1, fun k hk => ?_⟩
    rw [← h2 k hk]
    have hb : Below (bk + 1) v (v.setCell p u) := (Below.refl _ _).setCell (by omega) u
    exact hb.cell (p := ⟨bk, off + k, none⟩) (by simp), h.2.1.far (by omega) u, h.2.2.setCell (by omega) u⟩
theorem DS.at_ (h : DS w bk off b v) {k : Nat} (hk : k < b.length) : v.cell? ⟨bk, off + k, none⟩ = some (.int .u8 ((b.getD k 0).toNat : Int)) := by
  obtain ⟨b1, o1, e, _, hc⟩ := h.1 (by omega)
  cases e
  exact hc k hk
theorem DS.cells (h : DS w bk off b v) (hx : 4 ≤ b.length ∧ x0 = (b.getD 0 0).toNat ∧ x1 = (b.getD 1 0).toNat ∧ x2 = (b.getD 2 0).toNat ∧ x3 = (b.getD 3 0).toNat) :
    v.cell? ⟨bk, off, none⟩ = some (.int .u8 (x0 : Int)) ∧ v.cell? ⟨bk, off + 1, none⟩ = some (.int .u8 (x1 : Int)) ∧ v.cell? ⟨bk, off + 2, none⟩ = some (.int .u8 (x2 : Int)) ∧ v.cell? ⟨bk, off + 3, none⟩ = some (.int .u8 (x3 : Int)) := by
  obtain ⟨h0, rfl, rfl, rfl, rfl⟩ := hx
  exact ⟨h.at_ (k := 0) (by omega), h.at_ (by omega), h.at_ (by omega), h.at_ (by omega)⟩
end

theorem DS.zero {w v : World} {bk off : Nat} {b : List UInt8} (h : DS w bk off b v) : v.cell? ⟨w.heap.size, 0, none⟩ = some (.int .i64 0) ∧ v.cell? ⟨w.heap.size, 1, none⟩ = some (.int .i64 0) ∧ v.cell? ⟨w.heap.size, 2, none⟩ = some (.slice none 0 0) ∧
    v.frozen? ⟨w.heap.size, 0, none⟩ = false ∧ v.frozen? ⟨w.heap.size, 1, none⟩ = false ∧ v.frozen? ⟨w.heap.size, 2, none⟩ = false ∧ w.heap.size < v.heap.size :=
  ⟨h.2.1.cell 0, h.2.1.cell 1, h.2.1.cell 2, h.2.1.frozen 0, h.2.1.frozen 1, h.2.1.frozen 2, h.2.1.lt⟩
theorem or_wrapped (x y : Nat) (hx : x ≤ 255) (hy : y ≤ 255) : bits BinOp.or IntKind.i64 (IntKind.i64.wrap (IntKind.i64.wrap (x : Int) * 256)) (IntKind.i64.wrap (y : Int)) = ((x * 256 + y : Nat) : Int) := by
  rw [IntWalk.i64_in (x : Int) (by omega), IntWalk.i64_in ((x : Int) * 256) (by omega), IntWalk.i64_in (y : Int) (by omega)]
  exact or_bytes x y hx hy

theorem decode_short (A : Option Addr) (c : Nat) (b : List UInt8) (w : World) (hl : b.length < 4) :
    Calls Try.prog 32 #[.slice A b.length c] w (DecPost w b) := by
  have HP := hide (fun e w' h1 h2 => dec_short (w := w) hl (e := e) (w' := w') h1 h2)
  go_enter Try.func32, Try.ntmps32
  go_wp2_with fail
  exact bodyPost_ret (v := .tuple #[zeroIm, .bool false]) (by simp [results, Try.results32, go_sem, zeroIm]) rfl (HP.out _ _ rfl ((Below.refl _ _).alloc (Nat.le_refl _) _))

set_option maxHeartbeats 3200000 in
theorem decode_bad (A : Option Addr) (c : Nat) (b : List UInt8) (w : World) (hb : Bys w A b) (hm : b.length ≤ 600000) (hl : 4 ≤ b.length)
    (hsz : ¬ (1 ≤ (b.getD 0 0).toNat * 256 + (b.getD 1 0).toNat ∧ (b.getD 0 0).toNat * 256 + (b.getD 1 0).toNat ≤ 512 ∧ 1 ≤ (b.getD 2 0).toNat * 256 + (b.getD 3 0).toNat ∧ (b.getD 2 0).toNat * 256 + (b.getD 3 0).toNat ≤ 512)) :
    Calls Try.prog 32 #[.slice A b.length c] w (DecPost w b) := by
  have HP : Hid (∀ e w', e = .returned (.tuple #[zeroIm, .bool false]) → Below w.heap.size w w' → DecPost w b e w') := fun e w' h1 h2 => by
    unfold DecPost
    rw [show decodeB b = none by unfold decodeB; rw [if_neg (by omega)]; exact if_neg hsz]
    exact ⟨h1, h2⟩
  obtain ⟨bk, off, rfl, hbk, _⟩ := hb (by omega)
  have hS0 : DS w bk off b (w.alloc (.cells #[.int .i64 0, .int .i64 0, .slice none 0 0] 24)) := ⟨hb.alloc _, Box.new _ _ _, (Below.refl _ _).alloc (Nat.le_refl _) _⟩
  obtain ⟨x0, hx0⟩ : ∃ x0, x0 = (b.getD 0 0).toNat := ⟨_, rfl⟩
  obtain ⟨x1, hx1⟩ : ∃ x1, x1 = (b.getD 1 0).toNat := ⟨_, rfl⟩
  obtain ⟨x2, hx2⟩ : ∃ x2, x2 = (b.getD 2 0).toNat := ⟨_, rfl⟩
  obtain ⟨x3, hx3⟩ : ∃ x3, x3 = (b.getD 3 0).toNat := ⟨_, rfl⟩
  have hy0 : x0 ≤ 255 := by have := (b.getD 0 0).toNat_lt; omega
  have hy1 : x1 ≤ 255 := by have := (b.getD 1 0).toNat_lt; omega
  have hy2 : x2 ≤ 255 := by have := (b.getD 2 0).toNat_lt; omega
  have hy3 : x3 ≤ 255 := by have := (b.getD 3 0).toNat_lt; omega
  have HX := hide (And.intro hl (And.intro hx0 (And.intro hx1 (And.intro hx2 hx3))))
  have HW : Hid (bits BinOp.or IntKind.i64 (IntKind.i64.wrap (IntKind.i64.wrap (x0 : Int) * 256)) (IntKind.i64.wrap (x1 : Int)) = ((x0 * 256 + x1 : Nat) : Int)) := or_wrapped x0 x1 hy0 hy1
  have HH : Hid (bits BinOp.or IntKind.i64 (IntKind.i64.wrap (IntKind.i64.wrap (x2 : Int) * 256)) (IntKind.i64.wrap (x3 : Int)) = ((x2 * 256 + x3 : Nat) : Int)) := or_wrapped x2 x3 hy2 hy3
  have HD0 := hide (hS0.next ((Below.refl _ _).drew))
  rw [← hx0, ← hx1, ← hx2, ← hx3] at hsz
  have HSZ := hide hsz
  clear hb hl hx0 hx1 hx2 hx3 hsz hS0
  go_enter Try.func32, Try.ntmps32
  have hlen : 4 ≤ b.length := HX.out.1
  have hl0 : 0 < b.length := by omega
  have hl1 : 1 < b.length := by omega
  have hl2 : 2 < b.length := by omega
  have hl3 : 3 < b.length := by omega
  have hi1 : (1 : Int) < (b.length : Int) := by omega
  have hi2 : (2 : Int) < (b.length : Int) := by omega
  have hi3 : (3 : Int) < (b.length : Int) := by omega
  go_wp2_with fail
  refine wp_region_held_drew (S := fun v => DS w bk off b v) (by kernel_rfl) (HD0.out) (fun hH => ?_)
  refine wpAnyH_take (i := 0) (v := ?xv0) (by simp only [List.getElem?_toArray, List.getElem?_cons_succ, List.getElem?_cons_zero]; exact rfl) (by kernel_rfl) (by kernel_rfl) (by kernel_rfl) ?xq0 ?xy0 hH ?xr0
  case xq0 => exact fun _ _ _ h => h
  case xy0 =>
    refine Or.inl ⟨by rfl, fun v hv => ?_⟩
    go_simp
    rfl
  try simp only [Act.put, List.setIfInBounds_toArray, List.set_cons_zero, List.set_cons_succ]
  refine wpAnyH_take (i := 1) (v := ?xv1) (by simp only [List.getElem?_toArray, List.getElem?_cons_succ, List.getElem?_cons_zero]; exact rfl) (by kernel_rfl) (by kernel_rfl) (by kernel_rfl) ?xq1 ?xy1 hH ?xr1
  case xq1 => exact fun _ _ _ h => h
  case xy1 =>
    refine Or.inl ⟨by rfl, fun v hv => ?_⟩
    go_simp
    rfl
  try simp only [Act.put, List.setIfInBounds_toArray, List.set_cons_zero, List.set_cons_succ]
  refine wpAnyH_take (i := 2) (v := ?xv2) (by simp only [List.getElem?_toArray, List.getElem?_cons_succ, List.getElem?_cons_zero]; exact rfl) (by kernel_rfl) (by kernel_rfl) (by kernel_rfl) ?xq2 ?xy2 hH ?xr2
  case xq2 => exact fun _ _ _ h => h
  case xy2 =>
    refine Or.inl ⟨by rfl, fun v hv => ?_⟩
    obtain ⟨q0, q1, q2, q3⟩ := DS.cells hv HX.out
    go_simp
    rfl
  try simp only [Act.put, List.setIfInBounds_toArray, List.set_cons_zero, List.set_cons_succ]
  refine wpAnyH_take (i := 3) (v := ?xv3) (by simp only [List.getElem?_toArray, List.getElem?_cons_succ, List.getElem?_cons_zero]; exact rfl) (by kernel_rfl) (by kernel_rfl) (by kernel_rfl) ?xq3 ?xy3 hH ?xr3
  case xq3 => exact fun _ _ _ h => h
  case xy3 =>
    refine Or.inl ⟨by rfl, fun v hv => ?_⟩
    go_simp
    rfl
  try simp only [Act.put, List.setIfInBounds_toArray, List.set_cons_zero, List.set_cons_succ]
  refine wpAnyH_take (i := 4) (v := ?xv4) (by simp only [List.getElem?_toArray, List.getElem?_cons_succ, List.getElem?_cons_zero]; exact rfl) (by kernel_rfl) (by kernel_rfl) (by kernel_rfl) ?xq4 ?xy4 hH ?xr4
  case xq4 => exact fun _ _ _ h => h
  case xy4 =>
    refine Or.inl ⟨by rfl, fun v hv => ?_⟩
    go_simp
    rfl
  try simp only [Act.put, List.setIfInBounds_toArray, List.set_cons_zero, List.set_cons_succ]
  refine wpAnyH_take (i := 5) (v := ?xv5) (by simp only [List.getElem?_toArray, List.getElem?_cons_succ, List.getElem?_cons_zero]; exact rfl) (by kernel_rfl) (by kernel_rfl) (by kernel_rfl) ?xq5 ?xy5 hH ?xr5
  case xq5 => exact fun _ _ _ h => h
  case xy5 =>
    refine Or.inl ⟨by rfl, fun v hv => ?_⟩
    go_simp
    rfl
  try simp only [Act.put, List.setIfInBounds_toArray, List.set_cons_zero, List.set_cons_succ]
  refine wpAnyH_take (i := 6) (v := ?xv6) (by simp only [List.getElem?_toArray, List.getElem?_cons_succ, List.getElem?_cons_zero]; exact rfl) (by kernel_rfl) (by kernel_rfl) (by kernel_rfl) ?xq6 ?xy6 hH ?xr6
  case xq6 => exact fun _ _ _ h => h
  case xy6 =>
    refine Or.inl ⟨by rfl, fun v hv => ?_⟩
    go_simp
    rfl
  try simp only [Act.put, List.setIfInBounds_toArray, List.set_cons_zero, List.set_cons_succ]
  refine wpAnyH_take (i := 7) (v := ?xv7) (by simp only [List.getElem?_toArray, List.getElem?_cons_succ, List.getElem?_cons_zero]; exact rfl) (by kernel_rfl) (by kernel_rfl) (by kernel_rfl) ?xq7 ?xy7 hH ?xr7
  case xq7 => exact fun _ _ _ h => h
  case xy7 =>
    refine Or.inl ⟨by rfl, fun v hv => ?_⟩
    obtain ⟨q0, q1, q2, q3⟩ := DS.cells hv HX.out
    go_simp
    rfl
  try simp only [Act.put, List.setIfInBounds_toArray, List.set_cons_zero, List.set_cons_succ]
  refine wpAnyH_take (i := 8) (v := ?xv8) (by simp only [List.getElem?_toArray, List.getElem?_cons_succ, List.getElem?_cons_zero]; exact rfl) (by kernel_rfl) (by kernel_rfl) (by kernel_rfl) ?xq8 ?xy8 hH ?xr8
  case xq8 => exact fun _ _ _ h => h
  case xy8 =>
    refine Or.inl ⟨by rfl, fun v hv => ?_⟩
    go_simp
    rfl
  try simp only [Act.put, List.setIfInBounds_toArray, List.set_cons_zero, List.set_cons_succ]
  refine wpAnyH_take (i := 9) (v := ?xv9) (by simp only [List.getElem?_toArray, List.getElem?_cons_succ, List.getElem?_cons_zero]; exact rfl) (by kernel_rfl) (by kernel_rfl) (by kernel_rfl) ?xq9 ?xy9 hH ?xr9
  case xq9 => exact fun _ _ _ h => h
  case xy9 =>
    refine Or.inl ⟨by rfl, fun v hv => ?_⟩
    go_simp
    rfl
  try simp only [Act.put, List.setIfInBounds_toArray, List.set_cons_zero, List.set_cons_succ]
  refine wpAnyH_take (i := 10) (v := ?xv10) (by simp only [List.getElem?_toArray, List.getElem?_cons_succ, List.getElem?_cons_zero]; exact rfl) (by kernel_rfl) (by kernel_rfl) (by kernel_rfl) ?xq10 ?xy10 hH ?xr10
  case xq10 => exact fun _ _ _ h => h
  case xy10 =>
    refine Or.inl ⟨by rfl, fun v hv => ?_⟩
    go_simp
    rfl
  try simp only [Act.put, List.setIfInBounds_toArray, List.set_cons_zero, List.set_cons_succ]
  refine wpAnyH_take (i := 11) (v := ?xv11) (by simp only [List.getElem?_toArray, List.getElem?_cons_succ, List.getElem?_cons_zero]; exact rfl) (by kernel_rfl) (by kernel_rfl) (by kernel_rfl) ?xq11 ?xy11 hH ?xr11
  case xq11 => exact fun _ _ _ h => h
  case xy11 =>
    refine Or.inl ⟨by rfl, fun v hv => ?_⟩
    go_simp
    rfl
  try simp only [Act.put, List.setIfInBounds_toArray, List.set_cons_zero, List.set_cons_succ]
  refine wpAnyH_take (i := 12) (v := ?xv12) (by simp only [List.getElem?_toArray, List.getElem?_cons_succ, List.getElem?_cons_zero]; exact rfl) (by kernel_rfl) (by kernel_rfl) (by kernel_rfl) ?xq12 ?xy12 hH ?xr12
  case xq12 => exact fun _ _ _ h => h
  case xy12 =>
    refine Or.inl ⟨by rfl, fun v hv => ?_⟩
    obtain ⟨q0, q1, q2, q3⟩ := DS.cells hv HX.out
    go_simp
    rfl
  try simp only [Act.put, List.setIfInBounds_toArray, List.set_cons_zero, List.set_cons_succ]
  refine wpAnyH_take (i := 13) (v := ?xv13) (by simp only [List.getElem?_toArray, List.getElem?_cons_succ, List.getElem?_cons_zero]; exact rfl) (by kernel_rfl) (by kernel_rfl) (by kernel_rfl) ?xq13 ?xy13 hH ?xr13
  case xq13 => exact fun _ _ _ h => h
  case xy13 =>
    refine Or.inl ⟨by rfl, fun v hv => ?_⟩
    go_simp
    rfl
  try simp only [Act.put, List.setIfInBounds_toArray, List.set_cons_zero, List.set_cons_succ]
  refine wpAnyH_take (i := 14) (v := ?xv14) (by simp only [List.getElem?_toArray, List.getElem?_cons_succ, List.getElem?_cons_zero]; exact rfl) (by kernel_rfl) (by kernel_rfl) (by kernel_rfl) ?xq14 ?xy14 hH ?xr14
  case xq14 => exact fun _ _ _ h => h
  case xy14 =>
    refine Or.inl ⟨by rfl, fun v hv => ?_⟩
    go_simp
    rfl
  try simp only [Act.put, List.setIfInBounds_toArray, List.set_cons_zero, List.set_cons_succ]
  refine wpAnyH_take (i := 15) (v := ?xv15) (by simp only [List.getElem?_toArray, List.getElem?_cons_succ, List.getElem?_cons_zero]; exact rfl) (by kernel_rfl) (by kernel_rfl) (by kernel_rfl) ?xq15 ?xy15 hH ?xr15
  case xq15 => exact fun _ _ _ h => h
  case xy15 =>
    refine Or.inl ⟨by rfl, fun v hv => ?_⟩
    go_simp
    rfl
  try simp only [Act.put, List.setIfInBounds_toArray, List.set_cons_zero, List.set_cons_succ]
  refine wpAnyH_take (i := 16) (v := ?xv16) (by simp only [List.getElem?_toArray, List.getElem?_cons_succ, List.getElem?_cons_zero]; exact rfl) (by kernel_rfl) (by kernel_rfl) (by kernel_rfl) ?xq16 ?xy16 hH ?xr16
  case xq16 => exact fun _ _ _ h => h
  case xy16 =>
    refine Or.inl ⟨by rfl, fun v hv => ?_⟩
    go_simp
    rfl
  try simp only [Act.put, List.setIfInBounds_toArray, List.set_cons_zero, List.set_cons_succ]
  refine wpAnyH_take (i := 17) (v := ?xv17) (by simp only [List.getElem?_toArray, List.getElem?_cons_succ, List.getElem?_cons_zero]; exact rfl) (by kernel_rfl) (by kernel_rfl) (by kernel_rfl) ?xq17 ?xy17 hH ?xr17
  case xq17 => exact fun _ _ _ h => h
  case xy17 =>
    refine Or.inl ⟨by rfl, fun v hv => ?_⟩
    obtain ⟨q0, q1, q2, q3⟩ := DS.cells hv HX.out
    go_simp
    rfl
  try simp only [Act.put, List.setIfInBounds_toArray, List.set_cons_zero, List.set_cons_succ]
  refine wpAnyH_take (i := 18) (v := ?xv18) (by simp only [List.getElem?_toArray, List.getElem?_cons_succ, List.getElem?_cons_zero]; exact rfl) (by kernel_rfl) (by kernel_rfl) (by kernel_rfl) ?xq18 ?xy18 hH ?xr18
  case xq18 => exact fun _ _ _ h => h
  case xy18 =>
    refine Or.inl ⟨by rfl, fun v hv => ?_⟩
    go_simp
    rfl
  try simp only [Act.put, List.setIfInBounds_toArray, List.set_cons_zero, List.set_cons_succ]
  refine wpAnyH_take (i := 19) (v := ?xv19) (by simp only [List.getElem?_toArray, List.getElem?_cons_succ, List.getElem?_cons_zero]; exact rfl) (by kernel_rfl) (by kernel_rfl) (by kernel_rfl) ?xq19 ?xy19 hH ?xr19
  case xq19 => exact fun _ _ _ h => h
  case xy19 =>
    refine Or.inl ⟨by rfl, fun v hv => ?_⟩
    go_simp
    rfl
  try simp only [Act.put, List.setIfInBounds_toArray, List.set_cons_zero, List.set_cons_succ]
  refine wpAnyH_ready (rs := [20, 24]) (by kernel_rfl) (by simp) ?_
  refine AllReadyH.cons (by simp only [List.getElem?_toArray, List.getElem?_cons_succ, List.getElem?_cons_zero]; exact rfl) (fun K hK => ?xb20) (AllReadyH.cons (by simp only [List.getElem?_toArray, List.getElem?_cons_succ, List.getElem?_cons_zero]; exact rfl) (fun K hK => ?xb24) (AllReadyH.nil))
  case xb20 =>
    go_simp
    rw [HW.out, HH.out]
    refine (new_no _ _ _ (by have := HSZ.out; omega)).mono ?_
    rintro e w5 ⟨he, hb1⟩
    unfold zeroIm at he
    subst he
    have hN := hH.next hb1
    clear hb1
    refine hK.out _ _ hN (fun hH' => ?_)
    clear hK hH hN K
    have hH := hH'
    clear hH'
    try simp only [Act.put, List.setIfInBounds_toArray, List.set_cons_zero, List.set_cons_succ]
    refine wpAnyH_take (i := 21) (v := ?xc20v21) (by simp only [List.getElem?_toArray, List.getElem?_cons_succ, List.getElem?_cons_zero]; exact rfl) (by kernel_rfl) (by kernel_rfl) (by kernel_rfl) ?xc20q21 ?xc20y21 hH ?xc20r21
    case xc20q21 => exact fun _ _ _ h => h
    case xc20y21 =>
      refine Or.inl ⟨by rfl, fun v hv => ?_⟩
      go_simp
      rfl
    try simp only [Act.put, List.setIfInBounds_toArray, List.set_cons_zero, List.set_cons_succ]
    refine wpAnyH_take (i := 22) (v := ?xc20v22) (by simp only [List.getElem?_toArray, List.getElem?_cons_succ, List.getElem?_cons_zero]; exact rfl) (by kernel_rfl) (by kernel_rfl) (by kernel_rfl) ?xc20q22 ?xc20y22 hH ?xc20r22
    case xc20q22 => exact fun _ _ _ h => h
    case xc20y22 =>
      refine Or.inl ⟨by rfl, fun v hv => ?_⟩
      go_simp
      rfl
    try simp only [Act.put, List.setIfInBounds_toArray, List.set_cons_zero, List.set_cons_succ]
    refine wpAnyH_take (i := 23) (v := ?xc20v23) (by simp only [List.getElem?_toArray, List.getElem?_cons_succ, List.getElem?_cons_zero]; exact rfl) (by kernel_rfl) (by kernel_rfl) (by kernel_rfl) ?xc20q23 ?xc20y23 hH ?xc20r23
    case xc20q23 => exact fun _ _ _ h => h
    case xc20y23 =>
      refine Or.inl ⟨by rfl, fun v hv => ?_⟩
      go_simp
      rfl
    try simp only [Act.put, List.setIfInBounds_toArray, List.set_cons_zero, List.set_cons_succ]
    refine wpAnyH_ready (rs := [24]) (by kernel_rfl) (by simp) ?_
    refine AllReadyH.cons (by simp only [List.getElem?_toArray, List.getElem?_cons_succ, List.getElem?_cons_zero]; exact rfl) (fun K hK => ?_) AllReadyH.nil
    go_simp
    have hN := hH.alloc (.cells #[.int .i64 0, .int .i64 0, .slice none 0 0] 24)
    refine hK.out _ _ hN (fun hH' => ?_)
    clear hK hH hN K
    have hH := hH'
    clear hH'
    try simp only [Act.put, List.setIfInBounds_toArray, List.set_cons_zero, List.set_cons_succ]
    refine wpAnyH_ready (rs := [25]) (by kernel_rfl) (by simp) ?_
    refine AllReadyH.cons (by simp only [List.getElem?_toArray, List.getElem?_cons_succ, List.getElem?_cons_zero]; exact rfl) (fun K hK => ?_) AllReadyH.nil
    go_simp
    have hN := hH
    refine hK.out _ _ hN (fun hH' => ?_)
    clear hK hH hN K
    have hH := hH'
    clear hH'
    try simp only [Act.put, List.setIfInBounds_toArray, List.set_cons_zero, List.set_cons_succ]
    refine wpAnyH_take (i := 26) (v := ?xc20v26) (by simp only [List.getElem?_toArray, List.getElem?_cons_succ, List.getElem?_cons_zero]; exact rfl) (by kernel_rfl) (by kernel_rfl) (by kernel_rfl) ?xc20q26 ?xc20y26 hH ?xc20r26
    case xc20q26 => exact fun _ _ _ h => h
    case xc20y26 =>
      refine Or.inl ⟨by rfl, fun v hv => ?_⟩
      go_simp
      rfl
    try simp only [Act.put, List.setIfInBounds_toArray, List.set_cons_zero, List.set_cons_succ]
    refine wpAnyH_done (by kernel_rfl) ?_ _
    obtain ⟨s0, s1, s2, f0, f1, f2, sl⟩ := hH.zero
    go_wp2_with fail
    exact bodyPost_ret (v := .tuple #[zeroIm, .bool false]) (by simp [results, Try.results32, go_sem, zeroIm, s0, s1, s2]) rfl (HP.out _ _ rfl (((hH.2.2.setCell (by simp) _).setCell (by simp) _).setCell (by simp) _))
  case xb24 =>
    go_simp
    have hN := hH.alloc (.cells #[.int .i64 0, .int .i64 0, .slice none 0 0] 24)
    have HY : Hid (Box (((w.alloc (.cells #[.int .i64 0, .int .i64 0, .slice none 0 0] 24)).alloc (.cells #[.int .i64 0, .int .i64 0, .slice none 0 0] 24)).drew) (w.heap.size + 1) 24 #[.int .i64 0, .int .i64 0, .slice none 0 0]) := by
      have h := Box.new (w.alloc (.cells #[.int .i64 0, .int .i64 0, .slice none 0 0] 24)) 24 #[.int .i64 0, .int .i64 0, .slice none 0 0]
      rw [World.size_alloc] at h
      exact h
    refine hK.out _ _ hN (fun hH' => ?_)
    clear hK hH hN K
    have hH := hH'
    clear hH'
    try simp only [Act.put, List.setIfInBounds_toArray, List.set_cons_zero, List.set_cons_succ]
    refine wpAnyH_ready (rs := [20]) (by kernel_rfl) (by simp) ?_
    refine AllReadyH.cons (by simp only [List.getElem?_toArray, List.getElem?_cons_succ, List.getElem?_cons_zero]; exact rfl) (fun K hK => ?_) AllReadyH.nil
    go_simp
    rw [HW.out, HH.out]
    refine (new_no _ _ _ (by have := HSZ.out; omega)).mono ?_
    rintro e w5 ⟨he, hb1⟩
    unfold zeroIm at he
    subst he
    have hN := hH.next hb1
    have Y := hide (HY.out.kept hb1)
    have y0 : w5.cell? ⟨w.heap.size + 1, 0, none⟩ = some (.int .i64 0) := Y.out.cell 0
    have y1 : w5.cell? ⟨w.heap.size + 1, 1, none⟩ = some (.int .i64 0) := Y.out.cell 1
    have y2 : w5.cell? ⟨w.heap.size + 1, 2, none⟩ = some (.slice none 0 0) := Y.out.cell 2
    have yf0 := Y.out.frozen 0
    have yf1 := Y.out.frozen 1
    have yf2 := Y.out.frozen 2
    have yl : w.heap.size + 1 < w5.heap.size := Y.out.lt
    clear hb1
    refine hK.out _ _ hN (fun hH' => ?_)
    clear hK hH hN K
    have hH := hH'
    clear hH'
    try simp only [Act.put, List.setIfInBounds_toArray, List.set_cons_zero, List.set_cons_succ]
    refine wpAnyH_take (i := 21) (v := ?xc24v21) (by simp only [List.getElem?_toArray, List.getElem?_cons_succ, List.getElem?_cons_zero]; exact rfl) (by kernel_rfl) (by kernel_rfl) (by kernel_rfl) ?xc24q21 ?xc24y21 hH ?xc24r21
    case xc24q21 => exact fun _ _ _ h => h
    case xc24y21 =>
      refine Or.inl ⟨by rfl, fun v hv => ?_⟩
      go_simp
      rfl
    try simp only [Act.put, List.setIfInBounds_toArray, List.set_cons_zero, List.set_cons_succ]
    refine wpAnyH_take (i := 22) (v := ?xc24v22) (by simp only [List.getElem?_toArray, List.getElem?_cons_succ, List.getElem?_cons_zero]; exact rfl) (by kernel_rfl) (by kernel_rfl) (by kernel_rfl) ?xc24q22 ?xc24y22 hH ?xc24r22
    case xc24q22 => exact fun _ _ _ h => h
    case xc24y22 =>
      refine Or.inl ⟨by rfl, fun v hv => ?_⟩
      go_simp
      rfl
    try simp only [Act.put, List.setIfInBounds_toArray, List.set_cons_zero, List.set_cons_succ]
    refine wpAnyH_take (i := 23) (v := ?xc24v23) (by simp only [List.getElem?_toArray, List.getElem?_cons_succ, List.getElem?_cons_zero]; exact rfl) (by kernel_rfl) (by kernel_rfl) (by kernel_rfl) ?xc24q23 ?xc24y23 hH ?xc24r23
    case xc24q23 => exact fun _ _ _ h => h
    case xc24y23 =>
      refine Or.inl ⟨by rfl, fun v hv => ?_⟩
      go_simp
      rfl
    try simp only [Act.put, List.setIfInBounds_toArray, List.set_cons_zero, List.set_cons_succ]
    refine wpAnyH_ready (rs := [25]) (by kernel_rfl) (by simp) ?_
    refine AllReadyH.cons (by simp only [List.getElem?_toArray, List.getElem?_cons_succ, List.getElem?_cons_zero]; exact rfl) (fun K hK => ?_) AllReadyH.nil
    go_simp
    have hN := ((hH.far (p := ⟨w.heap.size + 1, 0, none⟩) hbk (by simp) (.int .i64 0)).far (p := ⟨w.heap.size + 1, 1, none⟩) hbk (by simp) (.int .i64 0)).far (p := ⟨w.heap.size + 1, 2, none⟩) hbk (by simp) (.slice none 0 0)
    refine hK.out _ _ hN (fun hH' => ?_)
    clear hK hH hN K
    have hH := hH'
    clear hH'
    try simp only [Act.put, List.setIfInBounds_toArray, List.set_cons_zero, List.set_cons_succ]
    refine wpAnyH_take (i := 26) (v := ?xc24v26) (by simp only [List.getElem?_toArray, List.getElem?_cons_succ, List.getElem?_cons_zero]; exact rfl) (by kernel_rfl) (by kernel_rfl) (by kernel_rfl) ?xc24q26 ?xc24y26 hH ?xc24r26
    case xc24q26 => exact fun _ _ _ h => h
    case xc24y26 =>
      refine Or.inl ⟨by rfl, fun v hv => ?_⟩
      go_simp
      rfl
    try simp only [Act.put, List.setIfInBounds_toArray, List.set_cons_zero, List.set_cons_succ]
    refine wpAnyH_done (by kernel_rfl) ?_ _
    obtain ⟨s0, s1, s2, f0, f1, f2, sl⟩ := hH.zero
    go_wp2_with fail
    exact bodyPost_ret (v := .tuple #[zeroIm, .bool false]) (by simp [results, Try.results32, go_sem, zeroIm, s0, s1, s2]) rfl (HP.out _ _ rfl (((hH.2.2.setCell (by simp) _).setCell (by simp) _).setCell (by simp) _))

/-- the new image too -/
def DI (w : World) (bk off : Nat) (b : List UInt8) (W H : Nat) (Oi g gc n8 : Nat) (f : Nat → Bool) (v : World) : Prop :=
  DS w bk off b v ∧ Box v Oi 24 #[.int .i64 (W : Int), .int .i64 (H : Int), .slice (some ⟨g, 0, none⟩) n8 gc] ∧ Row v g (pack (W * H) f)
section
variable {w v v' : World} {bk off : Nat} {b : List UInt8} {W H Oi g gc n8 : Nat} {f f' : Nat → Bool}
theorem DI.next (h : DI w bk off b W H Oi g gc n8 f v) (hb : Below v.heap.size v v') : DI w bk off b W H Oi g gc n8 f v' := ⟨h.1.next hb, h.2.1.kept hb, h.2.2.kept hb⟩
theorem DI.set (h : DI w bk off b W H Oi g gc n8 f v) (hg : v.grownBy v' (some g)) (hbk : bk < w.heap.size) (hwg : w.heap.size < g) (hO : Oi ≠ g) (hr : Row v' g (pack (W * H) f')) : DI w bk off b W H Oi g gc n8 f' v' :=
  ⟨⟨h.1.1.grown hg (fun b off e => by cases e; omega), h.1.2.1.grown hg (by simp; omega), h.1.2.2.trans (below_of_grown hg (by omega) h.1.2.2.size)⟩, h.2.1.grown hg (by simpa using hO), hr⟩
theorem DI.cells (h : DI w bk off b W H Oi g gc n8 f v) : v.cell? ⟨Oi, 0, none⟩ = some (.int .i64 (W : Int)) ∧ v.cell? ⟨Oi, 1, none⟩ = some (.int .i64 (H : Int)) ∧ v.cell? ⟨Oi, 2, none⟩ = some (.slice (some ⟨g, 0, none⟩) n8 gc) ∧
    v.cell? ⟨w.heap.size, 0, none⟩ = some (.int .i64 0) ∧ v.cell? ⟨w.heap.size, 1, none⟩ = some (.int .i64 0) ∧ v.cell? ⟨w.heap.size, 2, none⟩ = some (.slice none 0 0) ∧
    v.frozen? ⟨w.heap.size, 0, none⟩ = false ∧ v.frozen? ⟨w.heap.size, 1, none⟩ = false ∧ v.frozen? ⟨w.heap.size, 2, none⟩ = false ∧ w.heap.size < v.heap.size :=
  ⟨h.2.1.cell 0, h.2.1.cell 1, h.2.1.cell 2, h.1.zero⟩
end

set_option maxHeartbeats 6400000 in
theorem decode_good (A : Option Addr) (c : Nat) (b : List UInt8) (W H : Nat) (w : World) (hb : Bys w A b) (hm : b.length ≤ 600000) (hcap : b.length ≤ c) (hl : 4 ≤ b.length)
    (hsW : (b.getD 0 0).toNat * 256 + (b.getD 1 0).toNat = W) (hsH : (b.getD 2 0).toNat * 256 + (b.getD 3 0).toNat = H) (hW1 : 1 ≤ W) (hW2 : W ≤ 512) (hH1 : 1 ≤ H) (hH2 : H ≤ 512) :
    Calls Try.prog 32 #[.slice A b.length c] w (DecPost w b) := by
  have HNew : Hid (∀ v, Calls Try.prog 13 #[.int .i64 (W : Int), .int .i64 (H : Int)] v (Fresh2 v W H (pack (W * H) fun _ => false) (.int .i64 0))) := fun v => new_yes W H v hW1 hW2 hH1 hH2
  have hlb := len_pack_bd (W := W) (H := H) (fun _ => false) hW2 hH2
  have hN := size_bd hW2 hH2
  have hWH : Hid ((W : Int) * (H : Int) = ((W * H : Nat) : Int)) := by simp [Hid]
  have p0 : 1 ≤ (W : Int) * (H : Int) := by rw [hWH.out]; have := Nat.mul_pos hW1 hH1; omega
  have p1 : (W : Int) * (H : Int) ≤ 262144 := by rw [hWH.out]; omega
  have HDB : Hid (decodeB b = decEnd W H b (decGo (W * H) (some ⟨0, false, fun _ => false⟩) (b.drop 4))) := by
    unfold Hid decodeB
    rw [if_neg (by omega)]
    simp only [hsW, hsH]
    rw [if_pos ⟨hW1, hW2, hH1, hH2⟩]
  have hsz : (b.getD 0 0).toNat * 256 + (b.getD 1 0).toNat = W ∧ (b.getD 2 0).toNat * 256 + (b.getD 3 0).toNat = H := ⟨hsW, hsH⟩
  clear hsW hsH
  obtain ⟨bk, off, rfl, hbk, _⟩ := hb (by omega)
  have hS0 : DS w bk off b (w.alloc (.cells #[.int .i64 0, .int .i64 0, .slice none 0 0] 24)) := ⟨hb.alloc _, Box.new _ _ _, (Below.refl _ _).alloc (Nat.le_refl _) _⟩
  obtain ⟨x0, hx0⟩ : ∃ x0, x0 = (b.getD 0 0).toNat := ⟨_, rfl⟩
  obtain ⟨x1, hx1⟩ : ∃ x1, x1 = (b.getD 1 0).toNat := ⟨_, rfl⟩
  obtain ⟨x2, hx2⟩ : ∃ x2, x2 = (b.getD 2 0).toNat := ⟨_, rfl⟩
  obtain ⟨x3, hx3⟩ : ∃ x3, x3 = (b.getD 3 0).toNat := ⟨_, rfl⟩
  have hy0 : x0 ≤ 255 := by have := (b.getD 0 0).toNat_lt; omega
  have hy1 : x1 ≤ 255 := by have := (b.getD 1 0).toNat_lt; omega
  have hy2 : x2 ≤ 255 := by have := (b.getD 2 0).toNat_lt; omega
  have hy3 : x3 ≤ 255 := by have := (b.getD 3 0).toNat_lt; omega
  have HX := hide (And.intro hl (And.intro hx0 (And.intro hx1 (And.intro hx2 hx3))))
  have HW : Hid (bits BinOp.or IntKind.i64 (IntKind.i64.wrap (IntKind.i64.wrap (x0 : Int) * 256)) (IntKind.i64.wrap (x1 : Int)) = ((x0 * 256 + x1 : Nat) : Int)) := or_wrapped x0 x1 hy0 hy1
  have HH : Hid (bits BinOp.or IntKind.i64 (IntKind.i64.wrap (IntKind.i64.wrap (x2 : Int) * 256)) (IntKind.i64.wrap (x3 : Int)) = ((x2 * 256 + x3 : Nat) : Int)) := or_wrapped x2 x3 hy2 hy3
  have HD0 := hide (hS0.next ((Below.refl _ _).drew))
  rw [← hx0, ← hx1, ← hx2, ← hx3] at hsz
  rw [hsz.1] at HW
  rw [hsz.2] at HH
  have HSZ := hide hsz
  obtain ⟨n8, hn8⟩ : ∃ n8, n8 = (pack (W * H) fun _ => false).length := ⟨_, rfl⟩
  have HL8 : Hid ((pack (W * H) fun _ => false).length = n8) := hn8.symm
  have HLf : Hid (∀ f, (pack (W * H) f).length = n8) := fun f => by rw [hn8, length_pack, length_pack]
  rw [← hn8] at hlb
  clear hb hl hx0 hx1 hx2 hx3 hsz hS0 hn8 hy0 hy1 hy2 hy3
  go_enter Try.func32, Try.ntmps32
  have hlen : 4 ≤ b.length := HX.out.1
  have hl0 : 0 < b.length := by omega
  have hl1 : 1 < b.length := by omega
  have hl2 : 2 < b.length := by omega
  have hl3 : 3 < b.length := by omega
  have hi1 : (1 : Int) < (b.length : Int) := by omega
  have hi2 : (2 : Int) < (b.length : Int) := by omega
  have hi3 : (3 : Int) < (b.length : Int) := by omega
  go_wp2_with fail
  refine wp_region_held_drew (S := fun v => DS w bk off b v) (by kernel_rfl) (HD0.out) (fun hH => ?_)
  refine wpAnyH_take (i := 0) (v := ?xv0) (by simp only [List.getElem?_toArray, List.getElem?_cons_succ, List.getElem?_cons_zero]; exact rfl) (by kernel_rfl) (by kernel_rfl) (by kernel_rfl) ?xq0 ?xy0 hH ?xr0
  case xq0 => exact fun _ _ _ h => h
  case xy0 =>
    refine Or.inl ⟨by rfl, fun v hv => ?_⟩
    go_simp
    rfl
  try simp only [Act.put, List.setIfInBounds_toArray, List.set_cons_zero, List.set_cons_succ]
  refine wpAnyH_take (i := 1) (v := ?xv1) (by simp only [List.getElem?_toArray, List.getElem?_cons_succ, List.getElem?_cons_zero]; exact rfl) (by kernel_rfl) (by kernel_rfl) (by kernel_rfl) ?xq1 ?xy1 hH ?xr1
  case xq1 => exact fun _ _ _ h => h
  case xy1 =>
    refine Or.inl ⟨by rfl, fun v hv => ?_⟩
    go_simp
    rfl
  try simp only [Act.put, List.setIfInBounds_toArray, List.set_cons_zero, List.set_cons_succ]
  refine wpAnyH_take (i := 2) (v := ?xv2) (by simp only [List.getElem?_toArray, List.getElem?_cons_succ, List.getElem?_cons_zero]; exact rfl) (by kernel_rfl) (by kernel_rfl) (by kernel_rfl) ?xq2 ?xy2 hH ?xr2
  case xq2 => exact fun _ _ _ h => h
  case xy2 =>
    refine Or.inl ⟨by rfl, fun v hv => ?_⟩
    obtain ⟨q0, q1, q2, q3⟩ := DS.cells hv HX.out
    go_simp
    rfl
  try simp only [Act.put, List.setIfInBounds_toArray, List.set_cons_zero, List.set_cons_succ]
  refine wpAnyH_take (i := 3) (v := ?xv3) (by simp only [List.getElem?_toArray, List.getElem?_cons_succ, List.getElem?_cons_zero]; exact rfl) (by kernel_rfl) (by kernel_rfl) (by kernel_rfl) ?xq3 ?xy3 hH ?xr3
  case xq3 => exact fun _ _ _ h => h
  case xy3 =>
    refine Or.inl ⟨by rfl, fun v hv => ?_⟩
    go_simp
    rfl
  try simp only [Act.put, List.setIfInBounds_toArray, List.set_cons_zero, List.set_cons_succ]
  refine wpAnyH_take (i := 4) (v := ?xv4) (by simp only [List.getElem?_toArray, List.getElem?_cons_succ, List.getElem?_cons_zero]; exact rfl) (by kernel_rfl) (by kernel_rfl) (by kernel_rfl) ?xq4 ?xy4 hH ?xr4
  case xq4 => exact fun _ _ _ h => h
  case xy4 =>
    refine Or.inl ⟨by rfl, fun v hv => ?_⟩
    go_simp
    rfl
  try simp only [Act.put, List.setIfInBounds_toArray, List.set_cons_zero, List.set_cons_succ]
  refine wpAnyH_take (i := 5) (v := ?xv5) (by simp only [List.getElem?_toArray, List.getElem?_cons_succ, List.getElem?_cons_zero]; exact rfl) (by kernel_rfl) (by kernel_rfl) (by kernel_rfl) ?xq5 ?xy5 hH ?xr5
  case xq5 => exact fun _ _ _ h => h
  case xy5 =>
    refine Or.inl ⟨by rfl, fun v hv => ?_⟩
    go_simp
    rfl
  try simp only [Act.put, List.setIfInBounds_toArray, List.set_cons_zero, List.set_cons_succ]
  refine wpAnyH_take (i := 6) (v := ?xv6) (by simp only [List.getElem?_toArray, List.getElem?_cons_succ, List.getElem?_cons_zero]; exact rfl) (by kernel_rfl) (by kernel_rfl) (by kernel_rfl) ?xq6 ?xy6 hH ?xr6
  case xq6 => exact fun _ _ _ h => h
  case xy6 =>
    refine Or.inl ⟨by rfl, fun v hv => ?_⟩
    go_simp
    rfl
  try simp only [Act.put, List.setIfInBounds_toArray, List.set_cons_zero, List.set_cons_succ]
  refine wpAnyH_take (i := 7) (v := ?xv7) (by simp only [List.getElem?_toArray, List.getElem?_cons_succ, List.getElem?_cons_zero]; exact rfl) (by kernel_rfl) (by kernel_rfl) (by kernel_rfl) ?xq7 ?xy7 hH ?xr7
  case xq7 => exact fun _ _ _ h => h
  case xy7 =>
    refine Or.inl ⟨by rfl, fun v hv => ?_⟩
    obtain ⟨q0, q1, q2, q3⟩ := DS.cells hv HX.out
    go_simp
    rfl
  try simp only [Act.put, List.setIfInBounds_toArray, List.set_cons_zero, List.set_cons_succ]
  refine wpAnyH_take (i := 8) (v := ?xv8) (by simp only [List.getElem?_toArray, List.getElem?_cons_succ, List.getElem?_cons_zero]; exact rfl) (by kernel_rfl) (by kernel_rfl) (by kernel_rfl) ?xq8 ?xy8 hH ?xr8
  case xq8 => exact fun _ _ _ h => h
  case xy8 =>
    refine Or.inl ⟨by rfl, fun v hv => ?_⟩
    go_simp
    rfl
  try simp only [Act.put, List.setIfInBounds_toArray, List.set_cons_zero, List.set_cons_succ]
  refine wpAnyH_take (i := 9) (v := ?xv9) (by simp only [List.getElem?_toArray, List.getElem?_cons_succ, List.getElem?_cons_zero]; exact rfl) (by kernel_rfl) (by kernel_rfl) (by kernel_rfl) ?xq9 ?xy9 hH ?xr9
  case xq9 => exact fun _ _ _ h => h
  case xy9 =>
    refine Or.inl ⟨by rfl, fun v hv => ?_⟩
    go_simp
    rfl
  try simp only [Act.put, List.setIfInBounds_toArray, List.set_cons_zero, List.set_cons_succ]
  refine wpAnyH_take (i := 10) (v := ?xv10) (by simp only [List.getElem?_toArray, List.getElem?_cons_succ, List.getElem?_cons_zero]; exact rfl) (by kernel_rfl) (by kernel_rfl) (by kernel_rfl) ?xq10 ?xy10 hH ?xr10
  case xq10 => exact fun _ _ _ h => h
  case xy10 =>
    refine Or.inl ⟨by rfl, fun v hv => ?_⟩
    go_simp
    rfl
  try simp only [Act.put, List.setIfInBounds_toArray, List.set_cons_zero, List.set_cons_succ]
  refine wpAnyH_take (i := 11) (v := ?xv11) (by simp only [List.getElem?_toArray, List.getElem?_cons_succ, List.getElem?_cons_zero]; exact rfl) (by kernel_rfl) (by kernel_rfl) (by kernel_rfl) ?xq11 ?xy11 hH ?xr11
  case xq11 => exact fun _ _ _ h => h
  case xy11 =>
    refine Or.inl ⟨by rfl, fun v hv => ?_⟩
    go_simp
    rfl
  try simp only [Act.put, List.setIfInBounds_toArray, List.set_cons_zero, List.set_cons_succ]
  refine wpAnyH_take (i := 12) (v := ?xv12) (by simp only [List.getElem?_toArray, List.getElem?_cons_succ, List.getElem?_cons_zero]; exact rfl) (by kernel_rfl) (by kernel_rfl) (by kernel_rfl) ?xq12 ?xy12 hH ?xr12
  case xq12 => exact fun _ _ _ h => h
  case xy12 =>
    refine Or.inl ⟨by rfl, fun v hv => ?_⟩
    obtain ⟨q0, q1, q2, q3⟩ := DS.cells hv HX.out
    go_simp
    rfl
  try simp only [Act.put, List.setIfInBounds_toArray, List.set_cons_zero, List.set_cons_succ]
  refine wpAnyH_take (i := 13) (v := ?xv13) (by simp only [List.getElem?_toArray, List.getElem?_cons_succ, List.getElem?_cons_zero]; exact rfl) (by kernel_rfl) (by kernel_rfl) (by kernel_rfl) ?xq13 ?xy13 hH ?xr13
  case xq13 => exact fun _ _ _ h => h
  case xy13 =>
    refine Or.inl ⟨by rfl, fun v hv => ?_⟩
    go_simp
    rfl
  try simp only [Act.put, List.setIfInBounds_toArray, List.set_cons_zero, List.set_cons_succ]
  refine wpAnyH_take (i := 14) (v := ?xv14) (by simp only [List.getElem?_toArray, List.getElem?_cons_succ, List.getElem?_cons_zero]; exact rfl) (by kernel_rfl) (by kernel_rfl) (by kernel_rfl) ?xq14 ?xy14 hH ?xr14
  case xq14 => exact fun _ _ _ h => h
  case xy14 =>
    refine Or.inl ⟨by rfl, fun v hv => ?_⟩
    go_simp
    rfl
  try simp only [Act.put, List.setIfInBounds_toArray, List.set_cons_zero, List.set_cons_succ]
  refine wpAnyH_take (i := 15) (v := ?xv15) (by simp only [List.getElem?_toArray, List.getElem?_cons_succ, List.getElem?_cons_zero]; exact rfl) (by kernel_rfl) (by kernel_rfl) (by kernel_rfl) ?xq15 ?xy15 hH ?xr15
  case xq15 => exact fun _ _ _ h => h
  case xy15 =>
    refine Or.inl ⟨by rfl, fun v hv => ?_⟩
    go_simp
    rfl
  try simp only [Act.put, List.setIfInBounds_toArray, List.set_cons_zero, List.set_cons_succ]
  refine wpAnyH_take (i := 16) (v := ?xv16) (by simp only [List.getElem?_toArray, List.getElem?_cons_succ, List.getElem?_cons_zero]; exact rfl) (by kernel_rfl) (by kernel_rfl) (by kernel_rfl) ?xq16 ?xy16 hH ?xr16
  case xq16 => exact fun _ _ _ h => h
  case xy16 =>
    refine Or.inl ⟨by rfl, fun v hv => ?_⟩
    go_simp
    rfl
  try simp only [Act.put, List.setIfInBounds_toArray, List.set_cons_zero, List.set_cons_succ]
  refine wpAnyH_take (i := 17) (v := ?xv17) (by simp only [List.getElem?_toArray, List.getElem?_cons_succ, List.getElem?_cons_zero]; exact rfl) (by kernel_rfl) (by kernel_rfl) (by kernel_rfl) ?xq17 ?xy17 hH ?xr17
  case xq17 => exact fun _ _ _ h => h
  case xy17 =>
    refine Or.inl ⟨by rfl, fun v hv => ?_⟩
    obtain ⟨q0, q1, q2, q3⟩ := DS.cells hv HX.out
    go_simp
    rfl
  try simp only [Act.put, List.setIfInBounds_toArray, List.set_cons_zero, List.set_cons_succ]
  refine wpAnyH_take (i := 18) (v := ?xv18) (by simp only [List.getElem?_toArray, List.getElem?_cons_succ, List.getElem?_cons_zero]; exact rfl) (by kernel_rfl) (by kernel_rfl) (by kernel_rfl) ?xq18 ?xy18 hH ?xr18
  case xq18 => exact fun _ _ _ h => h
  case xy18 =>
    refine Or.inl ⟨by rfl, fun v hv => ?_⟩
    go_simp
    rfl
  try simp only [Act.put, List.setIfInBounds_toArray, List.set_cons_zero, List.set_cons_succ]
  refine wpAnyH_take (i := 19) (v := ?xv19) (by simp only [List.getElem?_toArray, List.getElem?_cons_succ, List.getElem?_cons_zero]; exact rfl) (by kernel_rfl) (by kernel_rfl) (by kernel_rfl) ?xq19 ?xy19 hH ?xr19
  case xq19 => exact fun _ _ _ h => h
  case xy19 =>
    refine Or.inl ⟨by rfl, fun v hv => ?_⟩
    go_simp
    rfl
  try simp only [Act.put, List.setIfInBounds_toArray, List.set_cons_zero, List.set_cons_succ]
  refine wpAnyH_ready (rs := [20, 24]) (by kernel_rfl) (by simp) ?_
  refine AllReadyH.cons (by simp only [List.getElem?_toArray, List.getElem?_cons_succ, List.getElem?_cons_zero]; exact rfl) (fun K hK => ?xb20) (AllReadyH.cons (by simp only [List.getElem?_toArray, List.getElem?_cons_succ, List.getElem?_cons_zero]; exact rfl) (fun K hK => ?xb24) (AllReadyH.nil))
  case xb20 =>
    go_simp
    rw [HW.out, HH.out]
    refine (HNew.out _).mono ?_
    rintro e w5 ⟨g, gc, hg, rfl, hrow, hb1⟩
    rw [HL8.out]
    have hN := hH.next hb1
    have S5 := hide hN
    have HR := hide hrow
    have hgl := hg
    simp at hgl
    clear hb1 hrow hg
    refine hK.out _ _ hN (fun hH' => ?_)
    clear hK hH hN K
    have hH := hH'
    clear hH'
    try simp only [Act.put, List.setIfInBounds_toArray, List.set_cons_zero, List.set_cons_succ]
    refine wpAnyH_take (i := 21) (v := ?xc20v21) (by simp only [List.getElem?_toArray, List.getElem?_cons_succ, List.getElem?_cons_zero]; exact rfl) (by kernel_rfl) (by kernel_rfl) (by kernel_rfl) ?xc20q21 ?xc20y21 hH ?xc20r21
    case xc20q21 => exact fun _ _ _ h => h
    case xc20y21 =>
      refine Or.inl ⟨by rfl, fun v hv => ?_⟩
      go_simp
      rfl
    try simp only [Act.put, List.setIfInBounds_toArray, List.set_cons_zero, List.set_cons_succ]
    refine wpAnyH_take (i := 22) (v := ?xc20v22) (by simp only [List.getElem?_toArray, List.getElem?_cons_succ, List.getElem?_cons_zero]; exact rfl) (by kernel_rfl) (by kernel_rfl) (by kernel_rfl) ?xc20q22 ?xc20y22 hH ?xc20r22
    case xc20q22 => exact fun _ _ _ h => h
    case xc20y22 =>
      refine Or.inl ⟨by rfl, fun v hv => ?_⟩
      go_simp
      rfl
    try simp only [Act.put, List.setIfInBounds_toArray, List.set_cons_zero, List.set_cons_succ]
    refine wpAnyH_take (i := 23) (v := ?xc20v23) (by simp only [List.getElem?_toArray, List.getElem?_cons_succ, List.getElem?_cons_zero]; exact rfl) (by kernel_rfl) (by kernel_rfl) (by kernel_rfl) ?xc20q23 ?xc20y23 hH ?xc20r23
    case xc20q23 => exact fun _ _ _ h => h
    case xc20y23 =>
      refine Or.inl ⟨by rfl, fun v hv => ?_⟩
      go_simp
      rfl
    try simp only [Act.put, List.setIfInBounds_toArray, List.set_cons_zero, List.set_cons_succ]
    refine wpAnyH_ready (rs := [24]) (by kernel_rfl) (by simp) ?_
    refine AllReadyH.cons (by simp only [List.getElem?_toArray, List.getElem?_cons_succ, List.getElem?_cons_zero]; exact rfl) (fun K hK => ?_) AllReadyH.nil
    go_simp
    have hN := hH.alloc (.cells #[.int .i64 0, .int .i64 0, .slice none 0 0] 24)
    refine hK.out _ _ hN (fun hH' => ?_)
    clear hK hH hN K
    have hH := hH'
    clear hH'
    try simp only [Act.put, List.setIfInBounds_toArray, List.set_cons_zero, List.set_cons_succ]
    refine wpAnyH_ready (rs := [25]) (by kernel_rfl) (by simp) ?_
    refine AllReadyH.cons (by simp only [List.getElem?_toArray, List.getElem?_cons_succ, List.getElem?_cons_zero]; exact rfl) (fun K hK => ?_) AllReadyH.nil
    go_simp
    refine hK.out _ _ ?xc20z25l (fun hH' => ?xc20z25m)
    case xc20z25l => exact DS.next S5.out ((Below.refl _ _).alloc (Nat.le_refl _) _)
    clear hK hH K
    have hH := hH'
    clear hH'
    try simp only [Act.put, List.setIfInBounds_toArray, List.set_cons_zero, List.set_cons_succ]
    refine wpAnyH_take (i := 26) (v := ?xc20v26) (by simp only [List.getElem?_toArray, List.getElem?_cons_succ, List.getElem?_cons_zero]; exact rfl) (by kernel_rfl) (by kernel_rfl) (by kernel_rfl) ?xc20q26 ?xc20y26 hH ?xc20r26
    case xc20q26 => exact fun _ _ _ h => h
    case xc20y26 =>
      refine Or.inl ⟨by rfl, fun v hv => ?_⟩
      go_simp
      rfl
    try simp only [Act.put, List.setIfInBounds_toArray, List.set_cons_zero, List.set_cons_succ]
    refine wpAnyH_done (by kernel_rfl) ?_ _
    obtain ⟨Oi, hOi⟩ : ∃ Oi, Oi = w5.heap.size := ⟨_, rfl⟩
    have HI : Hid (DI w bk off b W H Oi g gc n8 (fun _ => false) (w5.alloc (.cells #[.int .i64 (W : Int), .int .i64 (H : Int), .slice (some ⟨g, 0, none⟩) n8 gc] 24))) := ⟨hH, by rw [hOi]; exact Box.new _ _ _, HR.out.alloc _⟩
    have hOg : Oi ≠ g := by have := HR.out.lt; omega
    have hwO : w.heap.size < Oi := by have := S5.out.2.1.lt; omega
    rw [← hOi]
    clear hH S5 hOi HR
    rcases (show c = 4 ∨ 4 < c by omega) with rfl | hc4
    · have hwg : w.heap.size < g := by omega
      obtain ⟨z0, z1, z2, z3, z4, z5, z6, z7, z8, z9⟩ := HI.out.cells
      go_wp2_with fail
      clear z0 z1 z2 z3 z4 z5 z6 z7 z8 z9
      go_loopw [6, 7, 44] (fun a6 a7 i wr => ∃ k : Nat, k ≤ b.length - 4 ∧ i = .int .i64 k ∧ ∃ d : Dec, a6 = .int .i64 (d.at_ : Int) ∧ a7 = .bool d.on ∧ d.at_ ≤ W * H ∧ Hid (DI w bk off b W H Oi g gc n8 d.f wr) ∧ Hid (decGo (W * H) (some d) (b.drop (4 + k)) = decGo (W * H) (some ⟨0, false, fun _ => false⟩) (b.drop 4))) (fun _ _ i _ => b.length - 4 - (intOf i).toNat)
      case atStart => exact ⟨0, by omega, rfl, ⟨0, false, fun _ => false⟩, rfl, rfl, Nat.zero_le _, HI, rfl⟩
      case round =>
        clear HI
        obtain ⟨k, hk, rfl, ⟨at_, on, f⟩, rfl, rfl, hat, hI, hD⟩ := hrel
        simp only [] at hat hI hD ⊢
        obtain ⟨z0, z1, z2, z3, z4, z5, z6, z7, z8, z9⟩ := hI.out.cells
        by_cases hlt : k < b.length - 4
        · exact absurd hlt (by omega)
        · obtain rfl : b.length - 4 = k := by omega
          have hDx := hD.out
          rw [show 4 + (b.length - 4) = b.length by omega, List.drop_length] at hDx
          have HEN : Hid (decodeB b = if encode W H f = b then some (W, H, f) else none) := by
            rw [Hid, HDB.out, ← hDx]
            rfl
          have HEnc := hide (encode_any W H (some ⟨g, 0, none⟩) gc f wr hI.out.2.2.bys hW1 hW2 hH1 hH2)
          rw [HLf.out f] at HEnc
          have hel := length_encode W H f
          clear hD hDx
          go_wp2_with fail
          refine HEnc.out.mono ?_
          rintro e w6 ⟨ge, ce, hge, _, rfl, hrow, hb6⟩
          have HI6 := hide (hI.out.next hb6)
          have HEq := hide (equal_any (some ⟨ge, 0, none⟩) (some ⟨bk, off, none⟩) ce 4 (encode W H f) b w6 hrow.bys HI6.out.1.1 (by omega) (by omega))
          clear z0 z1 z2 z3 z4 z5 z6 z7 z8 z9 hI hb6 hrow HEnc hge
          obtain ⟨z0, z1, z2, z3, z4, z5, z6, z7, z8, z9⟩ := HI6.out.cells
          generalize encode W H f = en at *
          go_wp2_with fail
          refine HEq.out.mono ?_
          by_cases hen : en = b
          · rw [show (en == b) = true by rw [hen]; exact beq_self_eq_true b]
            rintro e w7 ⟨rfl, rfl⟩
            rw [if_pos hen] at HEN
            clear hen HEq
            go_wp2_with fail
            refine bodyPost_ret (v := .tuple #[.agg #[.int .i64 (W : Int), .int .i64 (H : Int), .slice (some ⟨g, 0, none⟩) n8 gc], .bool true]) (by simp [results, Try.results32, go_sem, z3, z4, z5]) rfl (dec_some HEN.out ?_)
            obtain ⟨⟨_, _, h3⟩, _, h2⟩ := HI6.out
            exact ⟨g, gc, by omega, by rw [HLf.out f], ((h2.far (by simp; omega) _).far (by simp; omega) _).far (by simp; omega) _, ((h3.setCell (by simp) _).setCell (by simp) _).setCell (by simp) _⟩
          · rw [show (en == b) = false from beq_eq_false_iff_ne.2 hen]
            rintro e w7 ⟨rfl, rfl⟩
            rw [if_neg hen] at HEN
            clear hen HEq
            go_wp2_with fail
            exact bodyPost_ret (v := .tuple #[zeroIm, .bool false]) (by simp [results, Try.results32, go_sem, zeroIm, z3, z4, z5]) rfl (dec_none HEN.out rfl (((HI6.out.1.2.2.setCell (by simp) _).setCell (by simp) _).setCell (by simp) _))
    · have hc4' : ¬ c = 4 := by omega
      have hwg : w.heap.size < g := by omega
      obtain ⟨z0, z1, z2, z3, z4, z5, z6, z7, z8, z9⟩ := HI.out.cells
      go_wp2_with fail
      clear z0 z1 z2 z3 z4 z5 z6 z7 z8 z9
      go_loopw [6, 7, 44] (fun a6 a7 i wr => ∃ k : Nat, k ≤ b.length - 4 ∧ i = .int .i64 k ∧ ∃ d : Dec, a6 = .int .i64 (d.at_ : Int) ∧ a7 = .bool d.on ∧ d.at_ ≤ W * H ∧ Hid (DI w bk off b W H Oi g gc n8 d.f wr) ∧ Hid (decGo (W * H) (some d) (b.drop (4 + k)) = decGo (W * H) (some ⟨0, false, fun _ => false⟩) (b.drop 4))) (fun _ _ i _ => b.length - 4 - (intOf i).toNat)
      case atStart => exact ⟨0, by omega, rfl, ⟨0, false, fun _ => false⟩, rfl, rfl, Nat.zero_le _, HI, rfl⟩
      case round =>
        clear HI
        obtain ⟨k, hk, rfl, ⟨at_, on, f⟩, rfl, rfl, hat, hI, hD⟩ := hrel
        simp only [] at hat hI hD ⊢
        obtain ⟨z0, z1, z2, z3, z4, z5, z6, z7, z8, z9⟩ := hI.out.cells
        by_cases hlt : k < b.length - 4
        · have q := hI.out.1.at_ (k := 4 + k) (by omega)
          have hDx := hD.out
          rw [decGo_cons _ _ _ (by omega)] at hDx
          obtain ⟨x, hx⟩ : ∃ x, x = (b.getD (4 + k) 0).toNat := ⟨_, rfl⟩
          rw [← hx] at q hDx
          have hx255 : x ≤ 255 := by have := (b.getD (4 + k) 0).toNat_lt; omega
          rw [← Nat.add_assoc] at q
          clear hx hD
          by_cases hov : at_ + x ≤ W * H
          · have hov' : (x : Int) ≤ (W : Int) * (H : Int) - (at_ : Int) := by rw [hWH.out]; omega
            have HStep : Hid (decGo (W * H) (some ⟨at_ + x, if x < 255 then !on else on, fun j => if at_ ≤ j ∧ j < at_ + x then on else f j⟩) (b.drop (4 + (k + 1))) = decGo (W * H) (some ⟨0, false, fun _ => false⟩) (b.drop 4)) := by
              unfold Dec.step at hDx
              simp only [] at hDx
              rw [if_pos hov] at hDx
              exact hDx
            clear hDx
            go_wp2_with fail
            clear z0 z1 z2 z3 z4 z5 z6 z7 z8 z9 q
            obtain ⟨wo, rfl⟩ : ∃ wo : World, wo = wr := ⟨_, rfl⟩
            go_loopw [6, 60] (fun a6 jj wr => ∃ j : Nat, j ≤ x ∧ jj = .int .u8 (j : Int) ∧ a6 = .int .i64 ((at_ : Int) + (j : Int)) ∧ Hid (DI w bk off b W H Oi g gc n8 (fun i => if at_ ≤ i ∧ i < at_ + j then on else f i) wr)) (fun _ jj _ => x - (intOf jj).toNat)
            case atStart => exact ⟨0, by omega, rfl, by simp, by rw [show (fun i => if at_ ≤ i ∧ i < at_ + 0 then on else f i) = f from funext fun i => if_neg (by omega)]; exact hI⟩
            case round =>
              clear hI
              obtain ⟨j, hj, rfl, rfl, hI⟩ := hrel
              obtain ⟨z0, z1, z2, z3, z4, z5, z6, z7, z8, z9⟩ := hI.out.cells
              by_cases hjx : j < x
              · have hj254 : (j : Int) ≤ 254 := by omega
                have HSET := hide (set_any (W : Int) (H : Int) g gc (W * H) _ ((at_ : Int) + (j : Int)) on wr hI.out.2.2 (by omega) (by omega) hN)
                rw [HLf.out] at HSET
                have HPC : Hid ((pack (W * H) fun i => if i = ((at_ : Int) + (j : Int)).toNat then on else if at_ ≤ i ∧ i < at_ + j then on else f i) = pack (W * H) fun i => if at_ ≤ i ∧ i < at_ + (j + 1) then on else f i) := pack_congr fun i _ => by
                  rw [show ((at_ : Int) + (j : Int)).toNat = at_ + j by omega]
                  by_cases e : i = at_ + j
                  · rw [if_pos e, if_pos (by omega)]
                  · rw [if_neg e]
                    by_cases e2 : at_ ≤ i ∧ i < at_ + j
                    · rw [if_pos e2, if_pos (by omega)]
                    · rw [if_neg e2, if_neg (by omega)]
                have hatj : (at_ : Int) + (j : Int) ≤ 262144 := by omega
                go_wp2_with fail
                refine HSET.out.mono ?_
                rintro e w4 ⟨rfl, hr4, hg4⟩
                rw [HPC.out] at hr4
                have HI4 := hide (hI.out.set hg4 hbk hwg hOg hr4)
                clear hr4 hg4 hI HSET z0 z1 z2 z3 z4 z5 z6 z7 z8 z9
                go_wp2_with fail
                go_roundw
                case rel => exact ⟨j + 1, by omega, by go_num, by congr 1 <;> omega, HI4⟩
                case measure => simp [intOf]; omega
              · obtain rfl : x = j := by omega
                by_cases h255 : x < 255
                · have hx5 : (x : Int) < 255 := by omega
                  rw [if_pos h255] at HStep
                  go_wp2_with fail
                  go_roundw
                  case rel => exact ⟨k + 1, by omega, by go_num, ⟨at_ + x, !on, fun j => if at_ ≤ j ∧ j < at_ + x then on else f j⟩, by simp, rfl, hov, hI, HStep⟩
                  case measure => simp [intOf]; omega
                · have hx5 : ¬ (x : Int) < 255 := by omega
                  rw [if_neg h255] at HStep
                  go_wp2_with fail
                  go_roundw
                  case rel => exact ⟨k + 1, by omega, by go_num, ⟨at_ + x, on, fun j => if at_ ≤ j ∧ j < at_ + x then on else f j⟩, by simp, rfl, hov, hI, HStep⟩
                  case measure => simp [intOf]; omega
          · have hov' : ¬ (x : Int) ≤ (W : Int) * (H : Int) - (at_ : Int) := by rw [hWH.out]; omega
            have HNo : Hid (decodeB b = none) := by
              unfold Dec.step at hDx
              simp only [] at hDx
              rw [if_neg hov, decGo_none] at hDx
              rw [Hid, HDB.out, ← hDx]
              rfl
            clear hDx
            go_wp2_with fail
            exact bodyPost_ret (v := .tuple #[zeroIm, .bool false]) (by simp [results, Try.results32, go_sem, zeroIm, z3, z4, z5]) rfl (dec_none HNo.out rfl (((hI.out.1.2.2.setCell (by simp) _).setCell (by simp) _).setCell (by simp) _))
        · obtain rfl : b.length - 4 = k := by omega
          have hDx := hD.out
          rw [show 4 + (b.length - 4) = b.length by omega, List.drop_length] at hDx
          have HEN : Hid (decodeB b = if encode W H f = b then some (W, H, f) else none) := by
            rw [Hid, HDB.out, ← hDx]
            rfl
          have HEnc := hide (encode_any W H (some ⟨g, 0, none⟩) gc f wr hI.out.2.2.bys hW1 hW2 hH1 hH2)
          rw [HLf.out f] at HEnc
          have hel := length_encode W H f
          clear hD hDx
          go_wp2_with fail
          refine HEnc.out.mono ?_
          rintro e w6 ⟨ge, ce, hge, _, rfl, hrow, hb6⟩
          have HI6 := hide (hI.out.next hb6)
          have HEq := hide (equal_any (some ⟨ge, 0, none⟩) (some ⟨bk, off, none⟩) ce c (encode W H f) b w6 hrow.bys HI6.out.1.1 (by omega) (by omega))
          clear z0 z1 z2 z3 z4 z5 z6 z7 z8 z9 hI hb6 hrow HEnc hge
          obtain ⟨z0, z1, z2, z3, z4, z5, z6, z7, z8, z9⟩ := HI6.out.cells
          generalize encode W H f = en at *
          go_wp2_with fail
          refine HEq.out.mono ?_
          by_cases hen : en = b
          · rw [show (en == b) = true by rw [hen]; exact beq_self_eq_true b]
            rintro e w7 ⟨rfl, rfl⟩
            rw [if_pos hen] at HEN
            clear hen HEq
            go_wp2_with fail
            refine bodyPost_ret (v := .tuple #[.agg #[.int .i64 (W : Int), .int .i64 (H : Int), .slice (some ⟨g, 0, none⟩) n8 gc], .bool true]) (by simp [results, Try.results32, go_sem, z3, z4, z5]) rfl (dec_some HEN.out ?_)
            obtain ⟨⟨_, _, h3⟩, _, h2⟩ := HI6.out
            exact ⟨g, gc, by omega, by rw [HLf.out f], ((h2.far (by simp; omega) _).far (by simp; omega) _).far (by simp; omega) _, ((h3.setCell (by simp) _).setCell (by simp) _).setCell (by simp) _⟩
          · rw [show (en == b) = false from beq_eq_false_iff_ne.2 hen]
            rintro e w7 ⟨rfl, rfl⟩
            rw [if_neg hen] at HEN
            clear hen HEq
            go_wp2_with fail
            exact bodyPost_ret (v := .tuple #[zeroIm, .bool false]) (by simp [results, Try.results32, go_sem, zeroIm, z3, z4, z5]) rfl (dec_none HEN.out rfl (((HI6.out.1.2.2.setCell (by simp) _).setCell (by simp) _).setCell (by simp) _))
  case xb24 =>
    go_simp
    have hN := hH.alloc (.cells #[.int .i64 0, .int .i64 0, .slice none 0 0] 24)
    have HY : Hid (Box (((w.alloc (.cells #[.int .i64 0, .int .i64 0, .slice none 0 0] 24)).alloc (.cells #[.int .i64 0, .int .i64 0, .slice none 0 0] 24)).drew) (w.heap.size + 1) 24 #[.int .i64 0, .int .i64 0, .slice none 0 0]) := by
      have h := Box.new (w.alloc (.cells #[.int .i64 0, .int .i64 0, .slice none 0 0] 24)) 24 #[.int .i64 0, .int .i64 0, .slice none 0 0]
      rw [World.size_alloc] at h
      exact h
    refine hK.out _ _ hN (fun hH' => ?_)
    clear hK hH hN K
    have hH := hH'
    clear hH'
    try simp only [Act.put, List.setIfInBounds_toArray, List.set_cons_zero, List.set_cons_succ]
    refine wpAnyH_ready (rs := [20]) (by kernel_rfl) (by simp) ?_
    refine AllReadyH.cons (by simp only [List.getElem?_toArray, List.getElem?_cons_succ, List.getElem?_cons_zero]; exact rfl) (fun K hK => ?_) AllReadyH.nil
    go_simp
    rw [HW.out, HH.out]
    refine (HNew.out _).mono ?_
    rintro e w5 ⟨g, gc, hg, rfl, hrow, hb1⟩
    rw [HL8.out]
    have hN := hH.next hb1
    have Y := hide (HY.out.kept hb1)
    have y0 : w5.cell? ⟨w.heap.size + 1, 0, none⟩ = some (.int .i64 0) := Y.out.cell 0
    have y1 : w5.cell? ⟨w.heap.size + 1, 1, none⟩ = some (.int .i64 0) := Y.out.cell 1
    have y2 : w5.cell? ⟨w.heap.size + 1, 2, none⟩ = some (.slice none 0 0) := Y.out.cell 2
    have yf0 := Y.out.frozen 0
    have yf1 := Y.out.frozen 1
    have yf2 := Y.out.frozen 2
    have yl : w.heap.size + 1 < w5.heap.size := Y.out.lt
    have HR := hide hrow
    have hgl := hg
    simp at hgl
    clear hb1 hrow hg
    refine hK.out _ _ hN (fun hH' => ?_)
    clear hK hH hN K
    have hH := hH'
    clear hH'
    try simp only [Act.put, List.setIfInBounds_toArray, List.set_cons_zero, List.set_cons_succ]
    refine wpAnyH_take (i := 21) (v := ?xc24v21) (by simp only [List.getElem?_toArray, List.getElem?_cons_succ, List.getElem?_cons_zero]; exact rfl) (by kernel_rfl) (by kernel_rfl) (by kernel_rfl) ?xc24q21 ?xc24y21 hH ?xc24r21
    case xc24q21 => exact fun _ _ _ h => h
    case xc24y21 =>
      refine Or.inl ⟨by rfl, fun v hv => ?_⟩
      go_simp
      rfl
    try simp only [Act.put, List.setIfInBounds_toArray, List.set_cons_zero, List.set_cons_succ]
    refine wpAnyH_take (i := 22) (v := ?xc24v22) (by simp only [List.getElem?_toArray, List.getElem?_cons_succ, List.getElem?_cons_zero]; exact rfl) (by kernel_rfl) (by kernel_rfl) (by kernel_rfl) ?xc24q22 ?xc24y22 hH ?xc24r22
    case xc24q22 => exact fun _ _ _ h => h
    case xc24y22 =>
      refine Or.inl ⟨by rfl, fun v hv => ?_⟩
      go_simp
      rfl
    try simp only [Act.put, List.setIfInBounds_toArray, List.set_cons_zero, List.set_cons_succ]
    refine wpAnyH_take (i := 23) (v := ?xc24v23) (by simp only [List.getElem?_toArray, List.getElem?_cons_succ, List.getElem?_cons_zero]; exact rfl) (by kernel_rfl) (by kernel_rfl) (by kernel_rfl) ?xc24q23 ?xc24y23 hH ?xc24r23
    case xc24q23 => exact fun _ _ _ h => h
    case xc24y23 =>
      refine Or.inl ⟨by rfl, fun v hv => ?_⟩
      go_simp
      rfl
    try simp only [Act.put, List.setIfInBounds_toArray, List.set_cons_zero, List.set_cons_succ]
    refine wpAnyH_ready (rs := [25]) (by kernel_rfl) (by simp) ?_
    refine AllReadyH.cons (by simp only [List.getElem?_toArray, List.getElem?_cons_succ, List.getElem?_cons_zero]; exact rfl) (fun K hK => ?_) AllReadyH.nil
    go_simp
    have hN := ((hH.far (p := ⟨w.heap.size + 1, 0, none⟩) hbk (by simp) (.int .i64 (W : Int))).far (p := ⟨w.heap.size + 1, 1, none⟩) hbk (by simp) (.int .i64 (H : Int))).far (p := ⟨w.heap.size + 1, 2, none⟩) hbk (by simp) (.slice (some ⟨g, 0, none⟩) n8 gc)
    refine hK.out _ _ hN (fun hH' => ?_)
    clear hK hH hN K
    have hH := hH'
    clear hH'
    try simp only [Act.put, List.setIfInBounds_toArray, List.set_cons_zero, List.set_cons_succ]
    refine wpAnyH_take (i := 26) (v := ?xc24v26) (by simp only [List.getElem?_toArray, List.getElem?_cons_succ, List.getElem?_cons_zero]; exact rfl) (by kernel_rfl) (by kernel_rfl) (by kernel_rfl) ?xc24q26 ?xc24y26 hH ?xc24r26
    case xc24q26 => exact fun _ _ _ h => h
    case xc24y26 =>
      refine Or.inl ⟨by rfl, fun v hv => ?_⟩
      go_simp
      rfl
    try simp only [Act.put, List.setIfInBounds_toArray, List.set_cons_zero, List.set_cons_succ]
    refine wpAnyH_done (by kernel_rfl) ?_ _
    obtain ⟨Oi, hOi⟩ : ∃ Oi, Oi = w.heap.size + 1 := ⟨_, rfl⟩
    have hOg : Oi ≠ g := by omega
    have hwO : w.heap.size < Oi := by omega
    rw [← hOi] at hH Y ⊢
    have HI : Hid (DI w bk off b W H Oi g gc n8 (fun _ => false) (((w5.setCell ⟨Oi, 0, none⟩ (.int .i64 (W : Int))).setCell ⟨Oi, 1, none⟩ (.int .i64 (H : Int))).setCell ⟨Oi, 2, none⟩ (.slice (some ⟨g, 0, none⟩) n8 gc))) :=
      ⟨hH, ((Y.out.set 0 _).set 1 _).set 2 _, ((HR.out.far (by simpa using fun e => hOg e.symm) _).far (by simpa using fun e => hOg e.symm) _).far (by simpa using fun e => hOg e.symm) _⟩
    clear hH Y y0 y1 y2 yf0 yf1 yf2 yl HY hOi HR
    rcases (show c = 4 ∨ 4 < c by omega) with rfl | hc4
    · have hwg : w.heap.size < g := by omega
      obtain ⟨z0, z1, z2, z3, z4, z5, z6, z7, z8, z9⟩ := HI.out.cells
      go_wp2_with fail
      clear z0 z1 z2 z3 z4 z5 z6 z7 z8 z9
      go_loopw [6, 7, 44] (fun a6 a7 i wr => ∃ k : Nat, k ≤ b.length - 4 ∧ i = .int .i64 k ∧ ∃ d : Dec, a6 = .int .i64 (d.at_ : Int) ∧ a7 = .bool d.on ∧ d.at_ ≤ W * H ∧ Hid (DI w bk off b W H Oi g gc n8 d.f wr) ∧ Hid (decGo (W * H) (some d) (b.drop (4 + k)) = decGo (W * H) (some ⟨0, false, fun _ => false⟩) (b.drop 4))) (fun _ _ i _ => b.length - 4 - (intOf i).toNat)
      case atStart => exact ⟨0, by omega, rfl, ⟨0, false, fun _ => false⟩, rfl, rfl, Nat.zero_le _, HI, rfl⟩
      case round =>
        clear HI
        obtain ⟨k, hk, rfl, ⟨at_, on, f⟩, rfl, rfl, hat, hI, hD⟩ := hrel
        simp only [] at hat hI hD ⊢
        obtain ⟨z0, z1, z2, z3, z4, z5, z6, z7, z8, z9⟩ := hI.out.cells
        by_cases hlt : k < b.length - 4
        · exact absurd hlt (by omega)
        · obtain rfl : b.length - 4 = k := by omega
          have hDx := hD.out
          rw [show 4 + (b.length - 4) = b.length by omega, List.drop_length] at hDx
          have HEN : Hid (decodeB b = if encode W H f = b then some (W, H, f) else none) := by
            rw [Hid, HDB.out, ← hDx]
            rfl
          have HEnc := hide (encode_any W H (some ⟨g, 0, none⟩) gc f wr hI.out.2.2.bys hW1 hW2 hH1 hH2)
          rw [HLf.out f] at HEnc
          have hel := length_encode W H f
          clear hD hDx
          go_wp2_with fail
          refine HEnc.out.mono ?_
          rintro e w6 ⟨ge, ce, hge, _, rfl, hrow, hb6⟩
          have HI6 := hide (hI.out.next hb6)
          have HEq := hide (equal_any (some ⟨ge, 0, none⟩) (some ⟨bk, off, none⟩) ce 4 (encode W H f) b w6 hrow.bys HI6.out.1.1 (by omega) (by omega))
          clear z0 z1 z2 z3 z4 z5 z6 z7 z8 z9 hI hb6 hrow HEnc hge
          obtain ⟨z0, z1, z2, z3, z4, z5, z6, z7, z8, z9⟩ := HI6.out.cells
          generalize encode W H f = en at *
          go_wp2_with fail
          refine HEq.out.mono ?_
          by_cases hen : en = b
          · rw [show (en == b) = true by rw [hen]; exact beq_self_eq_true b]
            rintro e w7 ⟨rfl, rfl⟩
            rw [if_pos hen] at HEN
            clear hen HEq
            go_wp2_with fail
            refine bodyPost_ret (v := .tuple #[.agg #[.int .i64 (W : Int), .int .i64 (H : Int), .slice (some ⟨g, 0, none⟩) n8 gc], .bool true]) (by simp [results, Try.results32, go_sem, z3, z4, z5]) rfl (dec_some HEN.out ?_)
            obtain ⟨⟨_, _, h3⟩, _, h2⟩ := HI6.out
            exact ⟨g, gc, by omega, by rw [HLf.out f], ((h2.far (by simp; omega) _).far (by simp; omega) _).far (by simp; omega) _, ((h3.setCell (by simp) _).setCell (by simp) _).setCell (by simp) _⟩
          · rw [show (en == b) = false from beq_eq_false_iff_ne.2 hen]
            rintro e w7 ⟨rfl, rfl⟩
            rw [if_neg hen] at HEN
            clear hen HEq
            go_wp2_with fail
            exact bodyPost_ret (v := .tuple #[zeroIm, .bool false]) (by simp [results, Try.results32, go_sem, zeroIm, z3, z4, z5]) rfl (dec_none HEN.out rfl (((HI6.out.1.2.2.setCell (by simp) _).setCell (by simp) _).setCell (by simp) _))
    · have hc4' : ¬ c = 4 := by omega
      have hwg : w.heap.size < g := by omega
      obtain ⟨z0, z1, z2, z3, z4, z5, z6, z7, z8, z9⟩ := HI.out.cells
      go_wp2_with fail
      clear z0 z1 z2 z3 z4 z5 z6 z7 z8 z9
      go_loopw [6, 7, 44] (fun a6 a7 i wr => ∃ k : Nat, k ≤ b.length - 4 ∧ i = .int .i64 k ∧ ∃ d : Dec, a6 = .int .i64 (d.at_ : Int) ∧ a7 = .bool d.on ∧ d.at_ ≤ W * H ∧ Hid (DI w bk off b W H Oi g gc n8 d.f wr) ∧ Hid (decGo (W * H) (some d) (b.drop (4 + k)) = decGo (W * H) (some ⟨0, false, fun _ => false⟩) (b.drop 4))) (fun _ _ i _ => b.length - 4 - (intOf i).toNat)
      case atStart => exact ⟨0, by omega, rfl, ⟨0, false, fun _ => false⟩, rfl, rfl, Nat.zero_le _, HI, rfl⟩
      case round =>
        clear HI
        obtain ⟨k, hk, rfl, ⟨at_, on, f⟩, rfl, rfl, hat, hI, hD⟩ := hrel
        simp only [] at hat hI hD ⊢
        obtain ⟨z0, z1, z2, z3, z4, z5, z6, z7, z8, z9⟩ := hI.out.cells
        by_cases hlt : k < b.length - 4
        · have q := hI.out.1.at_ (k := 4 + k) (by omega)
          have hDx := hD.out
          rw [decGo_cons _ _ _ (by omega)] at hDx
          obtain ⟨x, hx⟩ : ∃ x, x = (b.getD (4 + k) 0).toNat := ⟨_, rfl⟩
          rw [← hx] at q hDx
          have hx255 : x ≤ 255 := by have := (b.getD (4 + k) 0).toNat_lt; omega
          rw [← Nat.add_assoc] at q
          clear hx hD
          by_cases hov : at_ + x ≤ W * H
          · have hov' : (x : Int) ≤ (W : Int) * (H : Int) - (at_ : Int) := by rw [hWH.out]; omega
            have HStep : Hid (decGo (W * H) (some ⟨at_ + x, if x < 255 then !on else on, fun j => if at_ ≤ j ∧ j < at_ + x then on else f j⟩) (b.drop (4 + (k + 1))) = decGo (W * H) (some ⟨0, false, fun _ => false⟩) (b.drop 4)) := by
              unfold Dec.step at hDx
              simp only [] at hDx
              rw [if_pos hov] at hDx
              exact hDx
            clear hDx
            go_wp2_with fail
            clear z0 z1 z2 z3 z4 z5 z6 z7 z8 z9 q
            obtain ⟨wo, rfl⟩ : ∃ wo : World, wo = wr := ⟨_, rfl⟩
            go_loopw [6, 60] (fun a6 jj wr => ∃ j : Nat, j ≤ x ∧ jj = .int .u8 (j : Int) ∧ a6 = .int .i64 ((at_ : Int) + (j : Int)) ∧ Hid (DI w bk off b W H Oi g gc n8 (fun i => if at_ ≤ i ∧ i < at_ + j then on else f i) wr)) (fun _ jj _ => x - (intOf jj).toNat)
            case atStart => exact ⟨0, by omega, rfl, by simp, by rw [show (fun i => if at_ ≤ i ∧ i < at_ + 0 then on else f i) = f from funext fun i => if_neg (by omega)]; exact hI⟩
            case round =>
              clear hI
              obtain ⟨j, hj, rfl, rfl, hI⟩ := hrel
              obtain ⟨z0, z1, z2, z3, z4, z5, z6, z7, z8, z9⟩ := hI.out.cells
              by_cases hjx : j < x
              · have hj254 : (j : Int) ≤ 254 := by omega
                have HSET := hide (set_any (W : Int) (H : Int) g gc (W * H) _ ((at_ : Int) + (j : Int)) on wr hI.out.2.2 (by omega) (by omega) hN)
                rw [HLf.out] at HSET
                have HPC : Hid ((pack (W * H) fun i => if i = ((at_ : Int) + (j : Int)).toNat then on else if at_ ≤ i ∧ i < at_ + j then on else f i) = pack (W * H) fun i => if at_ ≤ i ∧ i < at_ + (j + 1) then on else f i) := pack_congr fun i _ => by
                  rw [show ((at_ : Int) + (j : Int)).toNat = at_ + j by omega]
                  by_cases e : i = at_ + j
                  · rw [if_pos e, if_pos (by omega)]
                  · rw [if_neg e]
                    by_cases e2 : at_ ≤ i ∧ i < at_ + j
                    · rw [if_pos e2, if_pos (by omega)]
                    · rw [if_neg e2, if_neg (by omega)]
                have hatj : (at_ : Int) + (j : Int) ≤ 262144 := by omega
                go_wp2_with fail
                refine HSET.out.mono ?_
                rintro e w4 ⟨rfl, hr4, hg4⟩
                rw [HPC.out] at hr4
                have HI4 := hide (hI.out.set hg4 hbk hwg hOg hr4)
                clear hr4 hg4 hI HSET z0 z1 z2 z3 z4 z5 z6 z7 z8 z9
                go_wp2_with fail
                go_roundw
                case rel => exact ⟨j + 1, by omega, by go_num, by congr 1 <;> omega, HI4⟩
                case measure => simp [intOf]; omega
              · obtain rfl : x = j := by omega
                by_cases h255 : x < 255
                · have hx5 : (x : Int) < 255 := by omega
                  rw [if_pos h255] at HStep
                  go_wp2_with fail
                  go_roundw
                  case rel => exact ⟨k + 1, by omega, by go_num, ⟨at_ + x, !on, fun j => if at_ ≤ j ∧ j < at_ + x then on else f j⟩, by simp, rfl, hov, hI, HStep⟩
                  case measure => simp [intOf]; omega
                · have hx5 : ¬ (x : Int) < 255 := by omega
                  rw [if_neg h255] at HStep
                  go_wp2_with fail
                  go_roundw
                  case rel => exact ⟨k + 1, by omega, by go_num, ⟨at_ + x, on, fun j => if at_ ≤ j ∧ j < at_ + x then on else f j⟩, by simp, rfl, hov, hI, HStep⟩
                  case measure => simp [intOf]; omega
          · have hov' : ¬ (x : Int) ≤ (W : Int) * (H : Int) - (at_ : Int) := by rw [hWH.out]; omega
            have HNo : Hid (decodeB b = none) := by
              unfold Dec.step at hDx
              simp only [] at hDx
              rw [if_neg hov, decGo_none] at hDx
              rw [Hid, HDB.out, ← hDx]
              rfl
            clear hDx
            go_wp2_with fail
            exact bodyPost_ret (v := .tuple #[zeroIm, .bool false]) (by simp [results, Try.results32, go_sem, zeroIm, z3, z4, z5]) rfl (dec_none HNo.out rfl (((hI.out.1.2.2.setCell (by simp) _).setCell (by simp) _).setCell (by simp) _))
        · obtain rfl : b.length - 4 = k := by omega
          have hDx := hD.out
          rw [show 4 + (b.length - 4) = b.length by omega, List.drop_length] at hDx
          have HEN : Hid (decodeB b = if encode W H f = b then some (W, H, f) else none) := by
            rw [Hid, HDB.out, ← hDx]
            rfl
          have HEnc := hide (encode_any W H (some ⟨g, 0, none⟩) gc f wr hI.out.2.2.bys hW1 hW2 hH1 hH2)
          rw [HLf.out f] at HEnc
          have hel := length_encode W H f
          clear hD hDx
          go_wp2_with fail
          refine HEnc.out.mono ?_
          rintro e w6 ⟨ge, ce, hge, _, rfl, hrow, hb6⟩
          have HI6 := hide (hI.out.next hb6)
          have HEq := hide (equal_any (some ⟨ge, 0, none⟩) (some ⟨bk, off, none⟩) ce c (encode W H f) b w6 hrow.bys HI6.out.1.1 (by omega) (by omega))
          clear z0 z1 z2 z3 z4 z5 z6 z7 z8 z9 hI hb6 hrow HEnc hge
          obtain ⟨z0, z1, z2, z3, z4, z5, z6, z7, z8, z9⟩ := HI6.out.cells
          generalize encode W H f = en at *
          go_wp2_with fail
          refine HEq.out.mono ?_
          by_cases hen : en = b
          · rw [show (en == b) = true by rw [hen]; exact beq_self_eq_true b]
            rintro e w7 ⟨rfl, rfl⟩
            rw [if_pos hen] at HEN
            clear hen HEq
            go_wp2_with fail
            refine bodyPost_ret (v := .tuple #[.agg #[.int .i64 (W : Int), .int .i64 (H : Int), .slice (some ⟨g, 0, none⟩) n8 gc], .bool true]) (by simp [results, Try.results32, go_sem, z3, z4, z5]) rfl (dec_some HEN.out ?_)
            obtain ⟨⟨_, _, h3⟩, _, h2⟩ := HI6.out
            exact ⟨g, gc, by omega, by rw [HLf.out f], ((h2.far (by simp; omega) _).far (by simp; omega) _).far (by simp; omega) _, ((h3.setCell (by simp) _).setCell (by simp) _).setCell (by simp) _⟩
          · rw [show (en == b) = false from beq_eq_false_iff_ne.2 hen]
            rintro e w7 ⟨rfl, rfl⟩
            rw [if_neg hen] at HEN
            clear hen HEq
            go_wp2_with fail
            exact bodyPost_ret (v := .tuple #[zeroIm, .bool false]) (by simp [results, Try.results32, go_sem, zeroIm, z3, z4, z5]) rfl (dec_none HEN.out rfl (((HI6.out.1.2.2.setCell (by simp) _).setCell (by simp) _).setCell (by simp) _))
end Go.Proofs.Ytebahhmajllmnaa
