/-
  Encode: what it returns.
-/
import Derived.Test.YtebahhmajllmnaaCodeP
import Derived.Maps.AppendAt
import Derived.Deep.RegionHeld3
namespace Go.Proofs.Ytebahhmajllmnaa
open Go.RowKit
set_option linter.unusedVariables false
set_option linter.unusedSimpArgs false

/-- the slice of bytes that begins block g, with room -/
def OwnG (w : World) (g cap : Nat) (bs : List UInt8) : Prop := w.ownsRow 0 5 1 (.slice (some ⟨g, 0, none⟩) bs.length cap) bs.length (bs.map u8v)
section
variable {w w' : World} {g cap B : Nat} {bs : List UInt8}
theorem OwnG.room (h : OwnG w g cap bs) : bs.length ≤ cap := by
  rcases h.2 with ⟨h3, _⟩ | ⟨g', cap', cur, hv, hb, hg, hc, _⟩
  · cases h3
  · injection hv with e1 e2 e3
    omega
theorem OwnG.row (h : OwnG w g cap bs) : Row w g bs := Row.of_own h
theorem OwnG.lt (h : OwnG w g cap bs) : g < w.heap.size := h.row.lt
theorem OwnG.of_heap (h : OwnG w g cap bs) (e : w'.heap[g]? = w.heap[g]?) : OwnG w' g cap bs := by
  obtain ⟨h1, h2⟩ := h
  refine ⟨h1, ?_⟩
  rcases h2 with ⟨h3, _⟩ | ⟨g', cap', cur, hv, hb, hg, hr⟩
  · cases h3
  · refine .inr ⟨g', cap', cur, hv, hb, ?_, hr⟩
    injection hv with e1
    injection e1 with e1
    injection e1 with e1
    rw [← e1] at hg ⊢
    rw [e, hg]
theorem OwnG.below (h : OwnG w g cap bs) (hb : Below B w w') (hg : g < B) : OwnG w' g cap bs := h.of_heap (hb.block g hg)
theorem OwnG.kept (h : OwnG w g cap bs) (hb : Below w.heap.size w w') : OwnG w' g cap bs := h.of_heap (hb.block g h.lt)
theorem OwnG.drew (h : OwnG w g cap bs) : OwnG w.drew g cap bs := h
theorem OwnG.alloc (h : OwnG w g cap bs) (o : Obj) : OwnG (w.alloc o) g cap bs := h.of_heap (Below.heap_alloc w o g h.lt)
theorem OwnG.far (h : OwnG w g cap bs) {p : Addr} (hp : g ≠ p.block) (u : Value) : OwnG (w.setCell p u) g cap bs := h.of_heap (Below.heap_setCell w p u g hp)
theorem OwnG.new (w : World) (bs : List UInt8) (hm : bs.length ≤ maxLen) : OwnG (w.alloc (.cells (bs.map u8v).toArray 5)) w.heap.size bs.length bs :=
  ⟨by simp, .inr ⟨w.heap.size, bs.length, _, rfl, Nat.zero_le _, heap_alloc_new w _, Nat.le_refl _, hm, by simp, by rw [Nat.mul_one]; exact List.take_of_length_le (by simp)⟩⟩
theorem own_next {v : Value} {n : Nat} {news : List UInt8} (h : w'.ownsRow 0 5 1 v (bs.length + n) (bs.map u8v ++ news.map u8v)) (hn : news.length = n) (hp : 0 < n)
    (ho : v.ownBlock = some g ∨ v.ownBlock = some w.heap.size) : ∃ g' cap', v = .slice (some ⟨g', 0, none⟩) (bs ++ news).length cap' ∧ OwnG w' g' cap' (bs ++ news) ∧ (g' = g ∨ g' = w.heap.size) := by
  rw [← List.map_append] at h
  subst hn
  rw [← List.length_append] at h
  obtain ⟨g', cap', hv, _, _⟩ := own_row h (by rw [List.length_append]; omega)
  subst hv
  refine ⟨g', cap', rfl, h, ?_⟩
  rcases ho with ho | ho
  · left; injection ho
  · right; injection ho
end

/-- the closure's three variables and the bytes so far -/
def EncSt (B : Nat) (w0 : World) (Ar Oo Ob r : Nat) (bs : List UInt8) (b : Bool) (g cap : Nat) (v : World) : Prop :=
  Box v Ar 3 #[.int .i64 (r : Int)] ∧ Box v Oo 22 #[.slice (some ⟨g, 0, none⟩) bs.length cap] ∧ Box v Ob 4 #[.bool b] ∧ OwnG v g cap bs ∧ (B ≤ g ∧ g ≠ Ar ∧ g ≠ Oo ∧ g ≠ Ob ∧ B ≤ w0.heap.size) ∧ Below B w0 v
def EncAny (B : Nat) (w0 : World) (Ar Oo Ob : Nat) (b : Bool) (v : World) : Prop := ∃ r bs b' g cap, EncSt B w0 Ar Oo Ob r bs b' g cap v ∧ (b' = b ∨ b' = !b)
section
variable {B : Nat} {w0 v v' : World} {Ar Oo Ob r r' : Nat} {bs news : List UInt8} {b : Bool} {g cap n : Nat}
theorem EncSt.next (h : EncSt B w0 Ar Oo Ob r bs b g cap v) (hb : Below v.heap.size v v') : EncSt B w0 Ar Oo Ob r bs b g cap v' :=
  ⟨h.1.kept hb, h.2.1.kept hb, h.2.2.1.kept hb, h.2.2.2.1.kept hb, h.2.2.2.2.1, h.2.2.2.2.2.trans (hb.mono (Nat.le_trans h.2.2.2.2.1.2.2.2.2 h.2.2.2.2.2.size))⟩
theorem EncSt.cells (h : EncSt B w0 Ar Oo Ob r bs b g cap v) : v.cell? ⟨Ar, 0, none⟩ = some (.int .i64 (r : Int)) ∧ v.cell? ⟨Oo, 0, none⟩ = some (.slice (some ⟨g, 0, none⟩) bs.length cap) ∧ v.cell? ⟨Ob, 0, none⟩ = some (.bool b) ∧
    v.frozen? ⟨Ar, 0, none⟩ = false ∧ v.frozen? ⟨Oo, 0, none⟩ = false ∧ v.frozen? ⟨Ob, 0, none⟩ = false :=
  ⟨h.1.cell 0, h.2.1.cell 0, h.2.2.1.cell 0, h.1.frozen 0, h.2.1.frozen 0, h.2.2.1.frozen 0⟩
/-- the run's number is written -/
theorem EncSt.run (h : EncSt B w0 Ar Oo Ob r bs b g cap v) (h1 : B ≤ Ar) (h2 : Ar ≠ Oo) (h3 : Ar ≠ Ob) (h4 : Oo ≠ Ob) (r' : Nat) : EncSt B w0 Ar Oo Ob r' bs b g cap (v.setCell ⟨Ar, 0, none⟩ (.int .i64 (r' : Int))) :=
  ⟨h.1.set 0 _, h.2.1.far (by simpa using fun e => h2 e.symm) _, h.2.2.1.far (by simpa using fun e => h3 e.symm) _, h.2.2.2.1.far (by simpa using h.2.2.2.2.1.2.1) _, h.2.2.2.2.1, h.2.2.2.2.2.setCell (by simpa using h1) _⟩
theorem EncSt.on_ (h : EncSt B w0 Ar Oo Ob r bs b g cap v) (h1 : B ≤ Ob) (h2 : Ar ≠ Oo) (h3 : Ar ≠ Ob) (h4 : Oo ≠ Ob) (b' : Bool) : EncSt B w0 Ar Oo Ob r bs b' g cap (v.setCell ⟨Ob, 0, none⟩ (.bool b')) :=
  ⟨h.1.far (by simpa using h3) _, h.2.1.far (by simpa using h4) _, h.2.2.1.set 0 _, h.2.2.2.1.far (by simpa using h.2.2.2.2.1.2.2.2.1) _, h.2.2.2.2.1, h.2.2.2.2.2.setCell (by simpa using h1) _⟩
/-- bytes are appended, and the slice is stored -/
theorem EncSt.push (h : EncSt B w0 Ar Oo Ob r bs b g cap v) (h1 : B ≤ Oo) (h2 : Ar ≠ Oo) (h3 : Ar ≠ Ob) (h4 : Oo ≠ Ob) {u : Value} (hn : news.length = n) (hp : 0 < n)
    (ho : v'.ownsRow 0 5 1 u (bs.length + n) (bs.map u8v ++ news.map u8v)) (hg : v.grownBy v' (some g)) (hor : u.ownBlock = some g ∨ u.ownBlock = some v.heap.size) :
    ∃ g' cap', u = .slice (some ⟨g', 0, none⟩) (bs ++ news).length cap' ∧ EncSt B w0 Ar Oo Ob r (bs ++ news) b g' cap' (v'.setCell ⟨Oo, 0, none⟩ u) := by
  obtain ⟨g', cap', hu, hw, hd⟩ := own_next ho hn hp hor
  obtain ⟨g1, g2, g3, g4, ⟨g5, g6, g7, g8, g10⟩, g9⟩ := h
  have l1 := g1.lt
  have l2 := g2.lt
  have l3 := g3.lt
  have l4 := g9.size
  have hd' : B ≤ g' ∧ g' ≠ Ar ∧ g' ≠ Oo ∧ g' ≠ Ob ∧ B ≤ w0.heap.size := by
    rcases hd with rfl | rfl
    · exact ⟨g5, g6, g7, g8, g10⟩
    · have := g4.lt
      exact ⟨by omega, by omega, by omega, by omega, g10⟩
  refine ⟨g', cap', hu, (g1.grown hg (by simpa using fun e => g6 e.symm)).far (by simpa using h2) _, ?_, (g3.grown hg (by simpa using fun e => g8 e.symm)).far (by simpa using fun e => h4 e.symm) _, hw.far (by simpa using hd'.2.2.1) _, hd', ?_⟩
  · rw [hu]
    exact (g2.grown hg (by simpa using fun e => g7 e.symm)).set 0 _
  · have hb : Below B v v' := (Below.refl B v).grown hg (by omega) (fun k hk => by cases hk; exact g5)
    exact (g9.trans hb).setCell (by simpa using h1) _
theorem EncSt.any_ (h : EncSt B w0 Ar Oo Ob r bs b g cap v) : EncAny B w0 Ar Oo Ob b v := ⟨r, bs, b, g, cap, h, .inl rfl⟩
theorem EncSt.lt (h : EncSt B w0 Ar Oo Ob r bs b g cap v) : Ar < v.heap.size ∧ Oo < v.heap.size ∧ Ob < v.heap.size ∧ g < v.heap.size := ⟨h.1.lt, h.2.1.lt, h.2.2.1.lt, h.2.2.2.1.lt⟩
end
def runAt (Ar : Nat) (v : World) : Nat := match v.cell? ⟨Ar, 0, none⟩ with | some x => (intOf x).toNat | none => 0
theorem runAt_of {Ar : Nat} {v : World} {r : Nat} (h : v.cell? ⟨Ar, 0, none⟩ = some (.int .i64 (r : Int))) : runAt Ar v = r := by
  unfold runAt
  rw [h]
  simp [intOf]
def EndPost (B : Nat) (w0 : World) (Ar Oo Ob : Nat) (bs : List UInt8) (b : Bool) (e : Ending) (v : World) : Prop := e = .returned (.tuple #[]) ∧ ∃ g cap, EncSt B w0 Ar Oo Ob 0 bs (!b) g cap v

set_option maxHeartbeats 3200000 in
set_option maxRecDepth 10000 in
theorem end_any (B Ar Oo Ob r g cap : Nat) (bs : List UInt8) (b : Bool) (w0 w : World) (h : EncSt B w0 Ar Oo Ob r bs b g cap w) (h1 : B ≤ Ar) (h2 : B ≤ Oo) (h3 : B ≤ Ob) (h4 : Ar ≠ Oo) (h5 : Ar ≠ Ob) (h6 : Oo ≠ Ob) (hl : bs.length + r ≤ 600000) (hB : B ≤ w.heap.size) :
    Calls Try.prog 48 #[.pointer (some ⟨Ar, 0, none⟩), .pointer (some ⟨Oo, 0, none⟩), .pointer (some ⟨Ob, 0, none⟩)] w (EndPost B w0 Ar Oo Ob (bs ++ encRun r) b) := by
  obtain ⟨i0, hi, hz0, hz1, hz2⟩ := info_parts u8info
  have HS := hide h
  clear h
  have h7 : Oo ≠ Ar := fun e => h4 e.symm
  have h8 : Ob ≠ Ar := fun e => h5 e.symm
  have h9 : Ob ≠ Oo := fun e => h6 e.symm
  go_enter Try.func48, Try.ntmps48
  go_wp2_with fail
  go_loopw [] (fun wr => ∃ m q g cap : Nat, m + 255 * q = r ∧ Hid (EncSt B w0 Ar Oo Ob m (bs ++ List.replicate q 255) b g cap wr)) (fun wr => runAt Ar wr)
  case atStart => exact ⟨r, 0, g, cap, by omega, by rw [List.replicate_zero, List.append_nil]; exact HS⟩
  case round =>
    clear HS
    obtain ⟨m, q, g, cap, hm, hR⟩ := hrel
    obtain ⟨c0, c1, c2, f0, f1, f2⟩ := hR.out.cells
    obtain ⟨l0, l1, l2, l3⟩ := hR.out.lt
    obtain ⟨xs, hxs⟩ : ∃ xs, xs = bs ++ List.replicate q 255 := ⟨_, rfl⟩
    have hlen : xs.length = bs.length + q := by rw [hxs]; simp
    rw [← hxs] at hR c1
    have HXS := hide hxs
    have HM := hide hm
    have hmb : m ≤ 600000 := by omega
    clear hxs
    by_cases hlt : 255 ≤ m
    · have hrun := hide (runAt_of c0)
      have HALL := hide (hR.out.next ((Below.refl _ _).alloc (Nat.le_refl _) (.cells #[.int .u8 255] 5)))
      have hbnd : xs.length ≤ 600000 := by omega
      have HREP : Hid (xs ++ [255] = bs ++ List.replicate (q + 1) 255) := by rw [Hid, HXS.out, List.append_assoc, List.replicate_succ']
      have HU : Hid ([(255 : UInt8)].map u8v = [.int .u8 255]) := by simp [Hid, u8v]
      have HL1 : Hid ((xs ++ [(255 : UInt8)]).length = xs.length + 1) := by simp [Hid]
      clear hlen hm
      go_wp2_with (at_builtin; refine wpList_append_own_at _ rfl _ _ 22 rfl 0 5 i0 (.int .u8 0) 1 1 Try.underlying22 hi hz0 hz1 hz2 rfl (by decide) (.slice (some ⟨g, 0, none⟩) xs.length cap) xs.length (xs.map u8v) rfl HALL.out.2.2.2.1 ⟨wr.heap.size, 0, none⟩ 1 1 [.int .u8 255] rfl rfl (cell_one_new _ _ _) (by intro u hu; simp at hu; subst hu; rfl) (by unfold maxLen; omega) (by omega) (by omega) ?_; intro u w1 ho hg hn hor; rw [← HU.out] at ho; obtain ⟨g1, cap1, rfl, HP⟩ := HALL.out.push (n := 1) (news := [255]) h2 h4 h5 h6 rfl (by omega) ho hg hor; rw [HL1.out] at HP ⊢; have HP := hide HP; have d5 : Box w1 Ar 3 #[.int .i64 (m : Int)] := HALL.out.1.grown hg (fun e => by injection e with e; exact HALL.out.2.2.2.2.1.2.1 e.symm); have d0 : w1.cell? ⟨Ar, 0, none⟩ = some (.int .i64 (m : Int)) := d5.cell 0; have d1 : Box w1 Oo 22 #[.slice (some ⟨g, 0, none⟩) xs.length cap] := HALL.out.2.1.grown hg (fun e => by injection e with e; exact HALL.out.2.2.2.2.1.2.2.1 e.symm); have d2 := d1.frozen 0; have d3 : w1.cell? ⟨Oo, 0, none⟩ = some (.slice (some ⟨g, 0, none⟩) xs.length cap) := d1.cell 0; have d4 := d5.frozen 0; clear d1 d5 ho hg hn hor c0 c1 c2 f0 f1 f2)
      go_roundw
      case rel =>
        have h := HP.out.run h1 h4 h5 h6 (m - 255)
        rw [HREP.out] at h
        refine ⟨m - 255, q + 1, g1, cap1, by have := HM.out; omega, ?_⟩
        rw [show ((m - 255 : Nat) : Int) = (m : Int) - 255 by omega] at h
        exact h
      case measure =>
        have h := HP.out.run h1 h4 h5 h6 (m - 255)
        have e := runAt_of h.cells.1
        rw [show ((m - 255 : Nat) : Int) = (m : Int) - 255 by omega] at e
        have e2 := hrun.out
        omega
    · have HALL := hide (hR.out.next ((Below.refl _ _).alloc (Nat.le_refl _) (.cells #[.int .u8 (m : Int)] 5)))
      have hbnd : xs.length ≤ 600000 := by omega
      have hm8 : (UInt8.ofNat m).toNat = m := by rw [UInt8.toNat_ofNat']; omega
      have HREP : Hid (xs ++ [UInt8.ofNat m] = bs ++ encRun r) := by
        rw [Hid, HXS.out, List.append_assoc]
        unfold encRun
        rw [show r / 255 = q by omega, show r % 255 = m by omega]
      have HU : Hid ([UInt8.ofNat m].map u8v = [.int .u8 (m : Int)]) := by simp [Hid, u8v, hm8]
      have HL1 : Hid ((xs ++ [UInt8.ofNat m]).length = xs.length + 1) := by simp [Hid]
      clear hlen hm8 hm
      go_wp2_with (at_builtin; refine wpList_append_own_at _ rfl _ _ 22 rfl 0 5 i0 (.int .u8 0) 1 1 Try.underlying22 hi hz0 hz1 hz2 rfl (by decide) (.slice (some ⟨g, 0, none⟩) xs.length cap) xs.length (xs.map u8v) rfl HALL.out.2.2.2.1 ⟨wr.heap.size, 0, none⟩ 1 1 [.int .u8 (m : Int)] rfl rfl (cell_one_new _ _ _) (by intro u hu; simp at hu; subst hu; rfl) (by unfold maxLen; omega) (by omega) (by omega) ?_; intro u w1 ho hg hn hor; rw [← HU.out] at ho; obtain ⟨g1, cap1, rfl, HP⟩ := HALL.out.push (n := 1) (news := [UInt8.ofNat m]) h2 h4 h5 h6 rfl (by omega) ho hg hor; rw [HL1.out] at HP ⊢; rw [HREP.out] at HP; have HP := hide HP; have d1 : Box w1 Oo 22 #[.slice (some ⟨g, 0, none⟩) xs.length cap] := HALL.out.2.1.grown hg (fun e => by injection e with e; exact HALL.out.2.2.2.2.1.2.2.1 e.symm); have d2 := d1.frozen 0; have d3 : w1.cell? ⟨Oo, 0, none⟩ = some (.slice (some ⟨g, 0, none⟩) xs.length cap) := d1.cell 0; clear d1 ho hg hn hor c0 c1 c2 f0 f1 f2)
      have HS3 := hide (HP.out.next ((Below.refl _ _).drew))
      have HS4 := hide (HS3.out.run h1 h4 h5 h6 0)
      have HS5 := hide (HS4.out.on_ h3 h4 h5 h6 (!b))
      obtain ⟨c0, c1, c2, f0, f1, f2⟩ := HP.out.cells
      go_region
      all_goals
        go_end0
        exact ⟨rfl, g1, cap1, HS5.out⟩
end Go.Proofs.Ytebahhmajllmnaa
