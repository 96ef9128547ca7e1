/-
  Elections by value; console.contests: the names of the contests.
-/
import Derived.Test.YtnndaemmgbkjbaaDoorFlags
namespace Go.Proofs.YtnndaemmgbkjbaaDoor
open Go.RowKit
set_option linter.unusedVariables false
set_option linter.unusedSimpArgs false

/-- what an election's fourteen cells hold besides the numbers of precincts and contests -/
structure EV where
  title : ByteArray
  dots : Int
  blank : Int
  marked : Int
  pa : Option Addr
  pc : Nat
  ca : Option Addr
  cc : Nat
  sa : Option Addr
  sn : Nat
  sc : Nat
  scanners : Int
  batch : Int
  neg : Bool
  na : Option Addr
  nn : Nat
  nc : Nat
  da : Option Addr
  dn : Nat
  dc : Nat
  cell : Int
  seed : ByteArray
def EV.cells (e : EV) (p c : Nat) : Array Value := #[.string e.title, .int .i64 e.dots, .int .i64 e.blank, .int .i64 e.marked, .slice e.pa p e.pc, .slice e.ca c e.cc, .slice e.sa e.sn e.sc, .int .i64 e.scanners, .int .i64 e.batch, .bool e.neg, .slice e.na e.nn e.nc, .slice e.da e.dn e.dc, .int .i64 e.cell, .string e.seed]
/-- the slice at B reads as contests of these names -/
def ConsIn (F : Nat → Prop) (w : World) (B : Option Addr) (C : List ByteArray) : Prop :=
  0 < C.length → ∃ b off, B = some ⟨b, off, none⟩ ∧ F b ∧ ∀ k, k < C.length → ∃ (A : Option Addr) (n c : Nat) (x2 x3 x4 x5 x6 x7 x8 : Int), w.cell? ⟨b, off + k * 9, none⟩ = some (.string (C.getD k default)) ∧ w.cell? ⟨b, off + k * 9 + 1, none⟩ = some (.slice A n c) ∧ w.cell? ⟨b, off + k * 9 + 2, none⟩ = some (.int .i64 x2) ∧ w.cell? ⟨b, off + k * 9 + 3, none⟩ = some (.int .i64 x3) ∧
    w.cell? ⟨b, off + k * 9 + 4, none⟩ = some (.int .i64 x4) ∧ w.cell? ⟨b, off + k * 9 + 5, none⟩ = some (.int .i64 x5) ∧ w.cell? ⟨b, off + k * 9 + 6, none⟩ = some (.int .i64 x6) ∧ w.cell? ⟨b, off + k * 9 + 7, none⟩ = some (.int .i64 x7) ∧ w.cell? ⟨b, off + k * 9 + 8, none⟩ = some (.int .i64 x8)
theorem ConsIn.agree {F : Nat → Prop} {a b : World} {B : Option Addr} {C : List ByteArray} (h : ConsIn F a B C) (hg : Agree F a b) : ConsIn F b B C := fun hp => by
  obtain ⟨g, off, e, hF, hc⟩ := h hp
  refine ⟨g, off, e, hF, fun k hk => ?_⟩
  obtain ⟨A, n, c, x2, x3, x4, x5, x6, x7, x8, h0, h1, h2, h3, h4, h5, h6, h7, h8⟩ := hc k hk
  exact ⟨A, n, c, x2, x3, x4, x5, x6, x7, x8, (World.cell?_of_block (hg g hF)).trans h0, (World.cell?_of_block (hg g hF)).trans h1, (World.cell?_of_block (hg g hF)).trans h2, (World.cell?_of_block (hg g hF)).trans h3, (World.cell?_of_block (hg g hF)).trans h4, (World.cell?_of_block (hg g hF)).trans h5, (World.cell?_of_block (hg g hF)).trans h6, (World.cell?_of_block (hg g hF)).trans h7, (World.cell?_of_block (hg g hF)).trans h8⟩
abbrev Cons (w : World) (B : Option Addr) (C : List ByteArray) : Prop := ConsIn (All w) w B C
theorem Cons.below {w w' : World} {B : Option Addr} {C : List ByteArray} (h : Cons w B C) (hb : Below w.heap.size w w') : Cons w' B C := fun hp => by
  obtain ⟨g, off, e, hF, hc⟩ := ConsIn.agree h (Agree.all hb) hp
  exact ⟨g, off, e, Nat.lt_of_lt_of_le hF hb.size, hc⟩
/-- an election by value, its precincts and contests -/
def Elec (w : World) (e : EV) (P C : List ByteArray) : Prop := Strs w e.pa P ∧ Cons w e.ca C
theorem Elec.below {w w' : World} {e : EV} {P C : List ByteArray} (h : Elec w e P C) (hb : Below w.heap.size w w') : Elec w' e P C := ⟨ListIn.below h.1 hb, Cons.below h.2 hb⟩
theorem strinfo : (Tryd.prog.info? 9).map (fun i => (i.zero, i.size, i.bytes)) = some (some (.string ⟨#[]⟩), 1, 16) := by kernel_rfl
theorem push_str {B : Nat} {w : World} {v : Value} {l : List ByteArray} (h : OwnE Value.string 9 B w v l) (hB : B ≤ w.heap.size) (hl : l.length ≤ 1000000) (ot : TypeId) (y : ByteArray) :
    ∃ A c w', (Builtin.append_ #[26, 26] ot #[v, .slice (some ⟨w.heap.size, 0, none⟩) 1 1]).run Tryd.prog (w.alloc (.cells #[.string y] 9)) = .ok (.slice A (l.length + 1) c) w' ∧ OwnE Value.string 9 B w' (.slice A (l.length + 1) c) (l ++ [y]) ∧ Below B w w' := by
  obtain ⟨i0, hi, hz0, hz1, hz2⟩ := info_parts strinfo
  exact OwnE.push Tryd.underlying26 hi hz0 hz1 hz2 rfl (by decide) h hB hl (fun x => rfl) ot y
set_option maxHeartbeats 4000000 in
set_option maxRecDepth 100000 in
theorem contests_any {e : EV} {p : Nat} {C : List ByteArray} {w : World} (h : Cons w e.ca C) (hm : C.length ≤ 1000000) :
    Calls Tryd.prog 22 #[.agg (e.cells p C.length)] w fun en w' => ∃ v, en = .returned v ∧ OwnE Value.string 9 w.heap.size w' v C ∧ Below w.heap.size w w' := by
  obtain ⟨title, dots, blank, marked, pa, pc, ca, cc, sa, sn, sc, scanners, batch, neg, na, nn, nc, da, dn, dc, cell, seed⟩ := e
  simp only [] at h
  unfold EV.cells
  simp only []
  obtain ⟨w1, hw1⟩ : ∃ x, x = w.alloc (.cells #[.string title, .int .i64 dots, .int .i64 blank, .int .i64 marked, .slice pa p pc, .slice ca C.length cc, .slice sa sn sc, .int .i64 scanners, .int .i64 batch, .bool neg, .slice na nn nc, .slice da dn dc, .int .i64 cell, .string seed] 34) := ⟨_, rfl⟩
  have hb1 : Below w.heap.size w w1 := by rw [hw1]; exact (Below.refl _ _).alloc (Nat.le_refl _) _
  have hX : Box w1 w.heap.size 34 #[.string title, .int .i64 dots, .int .i64 blank, .int .i64 marked, .slice pa p pc, .slice ca C.length cc, .slice sa sn sc, .int .i64 scanners, .int .i64 batch, .bool neg, .slice na nn nc, .slice da dn dc, .int .i64 cell, .string seed] := by rw [hw1]; exact Box.new _ _ _
  have c5 := hX.cell 5
  simp at c5
  have H := hide (Cons.below h hb1)
  have HB1 := hide hb1
  have HW1 := hide hw1
  clear h hb1 hX hw1
  go_enter Tryd.func22, Tryd.ntmps22
  go_upto_region 1 with (fail)
  rw [← HW1.out]
  go_wp2_with fail
  go_loopw [3, 5, 9] (fun o _ i wr => ∃ k : Nat, k ≤ C.length ∧ i = .int .i64 k ∧ ∃ v : Value, o = v ∧ Hid (OwnE Value.string 9 w1.heap.size wr v (C.take k)) ∧ Hid (Below w1.heap.size w1 wr)) (fun _ _ i _ => C.length - (iOf i).toNat)
  case atStart => exact ⟨0, Nat.zero_le _, rfl, _, rfl, OwnE.nil _ _ _ _, Below.refl _ _⟩
  case round =>
    obtain ⟨k, hk, rfl, v, rfl, HO, HB⟩ := hrel
    by_cases hlt : k < C.length
    · obtain ⟨b, off, rfl, hb, hc⟩ := H.out (by omega)
      obtain ⟨A, n, c, x2, x3, x4, x5, x6, x7, x8, h0, h1, h2, h3, h4, h5, h6, h7, h8⟩ := hc k hlt
      have h0 := (HB.out.cell (p := ⟨b, off + k * 9, none⟩) hb).trans h0
      have h1 := (HB.out.cell (p := ⟨b, off + k * 9 + 1, none⟩) hb).trans h1
      have h2 := (HB.out.cell (p := ⟨b, off + k * 9 + 2, none⟩) hb).trans h2
      have h3 := (HB.out.cell (p := ⟨b, off + k * 9 + 3, none⟩) hb).trans h3
      have h4 := (HB.out.cell (p := ⟨b, off + k * 9 + 4, none⟩) hb).trans h4
      have h5 := (HB.out.cell (p := ⟨b, off + k * 9 + 5, none⟩) hb).trans h5
      have h6 := (HB.out.cell (p := ⟨b, off + k * 9 + 6, none⟩) hb).trans h6
      have h7 := (HB.out.cell (p := ⟨b, off + k * 9 + 7, none⟩) hb).trans h7
      have h8 := (HB.out.cell (p := ⟨b, off + k * 9 + 8, none⟩) hb).trans h8
      have hts : Hid (C.take (k + 1) = C.take k ++ [C.getD k default]) := take_succD hlt
      have hlen : (C.take k).length = k := by rw [List.length_take]; omega
      have hs1 := HB1.out.size
      have hs2 := HB.out.size
      clear hc
      generalize C.getD k default = nm at *
      obtain ⟨w2, hw2⟩ : ∃ x, wr.alloc (.cells #[.string nm, .slice A n c, .int .i64 x2, .int .i64 x3, .int .i64 x4, .int .i64 x5, .int .i64 x6, .int .i64 x7, .int .i64 x8] 45) = x := ⟨_, rfl⟩
      have hb2 : Below wr.heap.size wr w2 := by rw [← hw2]; exact (Below.refl _ _).alloc (Nat.le_refl _) _
      have hX2 : Box w2 wr.heap.size 45 #[.string nm, .slice A n c, .int .i64 x2, .int .i64 x3, .int .i64 x4, .int .i64 x5, .int .i64 x6, .int .i64 x7, .int .i64 x8] := by rw [← hw2]; exact Box.new _ _ _
      have d0 := hX2.cell 0
      simp at d0
      obtain ⟨A4, c4, w4, hr4, hO4, hb4⟩ := push_str (HO.out.kept hb2) (by have := hb2.size; omega) (by omega) 26 nm
      rw [hlen] at hr4 hO4
      rw [← hts.out] at hO4
      have HR4 := hide hr4
      have HO4 := hide hO4
      have HB4 := hide ((HB.out.trans (hb2.mono hs2)).trans hb4)
      have HW2 := hide hw2
      clear hb2 hX2 hr4 hO4 hb4 hw2
      go_upto_region 5 with (fail)
      rw [HW2.out]
      go_wp2_with ((with_reducible refine wpList_gives (o := ⟨some 17, _, _, _, _, _⟩) (v := Value.slice A4 (k + 1) c4) (w' := w4) ?_ ?_ ?_); rfl; exact gives_append rfl rfl rfl HR4.out)
      go_roundw
      case rel => exact ⟨k + 1, by omega, by go_num, _, rfl, HO4.out, HB4.out⟩
      case measure => simp [iOf]; omega
    · obtain rfl : k = C.length := by omega
      have hO := HO.out
      rw [List.take_length] at hO
      have HO := hide hO
      clear hO
      go_wp2_with fail
      go_ret
      exact ⟨_, rfl, HO.out.lower HB1.out.size, HB1.out.trans (HB.out.mono HB1.out.size)⟩
end Go.Proofs.YtnndaemmgbkjbaaDoor
