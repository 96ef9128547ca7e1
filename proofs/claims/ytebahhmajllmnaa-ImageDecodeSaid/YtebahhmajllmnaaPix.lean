/-
  The reference's Open and Close: from an image to its rows of pixels, and back.
-/
import Derived.Test.YtebahhmajllmnaaGrid
namespace Go.Proofs.Ytebahhmajllmnaa
open Go.RowKit
set_option linter.unusedVariables false
set_option linter.unusedSimpArgs false

def px (W : Nat) (f : Nat → Bool) (k c : Nat) : Bool := f (k * W + c)
theorem getB_px {W H : Nat} {f : Nat → Bool} {c k : Nat} (hc : c < W) (hk : k < H) : getB W H f c k = px W f k c := by
  unfold getB px
  rw [decide_eq_true (by omega), decide_eq_true (by omega), decide_eq_true (by omega), decide_eq_true (by omega)]
  simp

def OpenPost (w : World) (W H : Nat) (f : Nat → Bool) (e : Ending) (w' : World) : Prop :=
  ∃ v, e = .returned v ∧ Grid w' w.heap.size v H W (px W f) ∧ Below w.heap.size w w'

/-- the loop over the rows -/
def OpenRel (w : World) (O W H : Nat) (A : Option Addr) (c : Nat) (f : Nat → Bool) (y : Nat) (v : Value) (wr : World) : Prop :=
  ∃ bk, wr.ownsRow w.heap.size 57 1 v y (rowsV W bk y) ∧ Rws wr w.heap.size y W bk (px W f) ∧ ImgSt w O W H A c (pack (W * H) f) wr ∧ v.ownBlock ≠ some O
/-- the loop over one row -/
def RowRel (w : World) (O W H : Nat) (A : Option Addr) (c : Nat) (f : Nat → Bool) (y : Nat) (v : Value) (b x : Nat) (wr : World) : Prop :=
  ∃ bk, (wr.ownsRow w.heap.size 57 1 v y (rowsV W bk y) ∧ Rws wr w.heap.size y W bk (px W f) ∧ ImgSt w O W H A c (pack (W * H) f) wr ∧ v.ownBlock ≠ some O) ∧
    w.heap.size ≤ b ∧ Bools wr b W (fun i => if i < x then px W f y i else false) ∧ (∀ k, k < y → bk k ≠ b)
section
variable {w wr w' : World} {O W H : Nat} {A : Option Addr} {c : Nat} {f : Nat → Bool} {y : Nat} {v : Value} {b x : Nat}
theorem RowRel.start (h : OpenRel w O W H A c f y v wr) : RowRel w O W H A c f y v wr.heap.size 0 (wr.alloc (.cells (madeCells #[.bool false] W) 4)) := by
  obtain ⟨bk, h1, h2, h3, h4⟩ := h
  refine ⟨bk, ⟨h1.alloc _, h2.alloc _, h3.alloc _, h4⟩, h3.2.2.size, (Bools.made wr W).congr fun i _ => by simp, fun k hk e => by have := h2.lt hk; omega⟩
theorem RowRel.kept (h : RowRel w O W H A c f y v b x wr) (hb : Below wr.heap.size wr w') : RowRel w O W H A c f y v b x w' := by
  obtain ⟨bk, ⟨h1, h2, h3, h4⟩, h5, h6, h7⟩ := h
  exact ⟨bk, ⟨own_kept h1 hb, h2.kept hb, h3.next hb, h4⟩, h5, Box.kept h6 hb, h7⟩
theorem RowRel.set (h : RowRel w O W H A c f y v b x wr) (hx : x < W) (hA : ∀ b off, A = some ⟨b, off, none⟩ → b < w.heap.size) (hOb : O ≠ b) : RowRel w O W H A c f y v b (x + 1) (wr.setCell ⟨b, x, none⟩ (.bool (px W f y x))) := by
  obtain ⟨bk, ⟨h1, h2, h3, h4⟩, h5, h6, h7⟩ := h
  refine ⟨bk, ⟨own_far h1 (own_block_ne h1 h6 (by decide)) _ _, h2.far (fun k hk => h7 k hk) _, h3.grown (grown_setCell (grown_refl _ _) _ _) (by simpa using Ne.symm hOb) (fun k hk => by injection hk with hk; omega) hA, h4⟩, h5,
    (h6.set x _).congr fun i hi => ?_, h7⟩
  by_cases e : i = x
  · subst e; simp
  · by_cases e2 : i < x
    · simp [e, e2, show i < x + 1 by omega]
    · simp [e, e2, show ¬ i < x + 1 by omega]
theorem RowRel.cells (h : RowRel w O W H A c f y v b x wr) : wr.cell? ⟨O, 0, none⟩ = some (.int .i64 (W : Int)) ∧ wr.cell? ⟨O, 1, none⟩ = some (.int .i64 (H : Int)) ∧ wr.cell? ⟨O, 2, none⟩ = some (.slice A (pack (W * H) f).length c) := by
  obtain ⟨bk, ⟨_, _, h3, _⟩, _⟩ := h
  exact h3.cells
theorem row_done {v' : Value} {bk : Nat → Nat} (h1 : wr.ownsRow w.heap.size 57 1 v y (rowsV W bk y)) (h2 : Rws wr w.heap.size y W bk (px W f)) (h3 : ImgSt w O W H A c (pack (W * H) f) wr) (h4 : v.ownBlock ≠ some O)
    (h5 : w.heap.size ≤ b) (h6 : Bools wr b W (fun i => if i < W then px W f y i else false)) (h7 : ∀ k, k < y → bk k ≠ b) (hA : ∀ b off, A = some ⟨b, off, none⟩ → b < w.heap.size)
    (hown : w'.ownsRow w.heap.size 57 1 v' (y + 1) (rowsV W bk y ++ [.slice (some ⟨b, 0, none⟩) W W])) (hg : wr.grownBy w' v.ownBlock) : OpenRel w O W H A c f (y + 1) v' w' := by
  rw [rowsV_push] at hown
  have hne : ∀ k, k < y → some (bk k) ≠ v.ownBlock := fun k hk => Ne.symm (own_block_ne h1 (h2.1 k hk).2 (by decide))
  have hr : ∀ k, v.ownBlock = some k → w.heap.size ≤ k := fun k hk => (h1.lt k hk).1
  have h6a : Bools w' b W (fun i => if i < W then px W f y i else false) := Box.grown h6 hg (Ne.symm (own_block_ne h1 h6 (by decide)))
  have h6' : Bools w' b W (px W f y) := Bools.congr h6a fun i hi => by simp [hi]
  have h3' := h3.grown hg h4 hr hA
  refine ⟨_, hown, ((h2.grown hg hne).push h5 h6' h7).congr fun k i hk hi => ?_, h3', own_block_ne hown h3'.1 (by decide)⟩
  by_cases e : k = y
  · subst e; simp
  · simp [e]
theorem OpenRel.cells (h : OpenRel w O W H A c f y v wr) : wr.cell? ⟨O, 0, none⟩ = some (.int .i64 (W : Int)) ∧ wr.cell? ⟨O, 1, none⟩ = some (.int .i64 (H : Int)) := by
  obtain ⟨bk, _, _, h3, _⟩ := h
  exact ⟨h3.cells.1, h3.cells.2.1⟩
end

set_option maxHeartbeats 1600000 in
theorem open_any (W H : Nat) (A : Option Addr) (c : Nat) (f : Nat → Bool) (w : World) (hb : Bys w A (pack (W * H) f)) (hW1 : 1 ≤ W) (hW : W ≤ 512) (hH1 : 1 ≤ H) (hH : H ≤ 512) :
    Calls Try.prog 43 #[.agg #[.int .i64 (W : Int), .int .i64 (H : Int), .slice A (pack (W * H) f).length c]] w (OpenPost w W H f) := by
  have HG : Hid (∀ (x y : Nat) (v : World), x < W → y < H → Bys v A (pack (W * H) f) → Calls Try.prog 20 #[.agg #[.int .i64 (W : Int), .int .i64 (H : Int), .slice A (pack (W * H) f).length c], .int .i64 (x : Int), .int .i64 (y : Int)] v fun e w' => e = .returned (.bool (px W f y x)) ∧ Below v.heap.size v w') := fun x y v hx hy hb => by
    have h := refget_any W H A c f x y v hb hW hH
    rw [getB_px hx hy] at h
    exact h
  have S0 := hide (ImgSt.start (W := (W : Int)) (H := (H : Int)) (c := c) hb)
  have HAd := hide (addr_of_pack hb (Nat.mul_pos hW1 hH1))
  have hmk : ∀ w : World, (Instr.makeSlice 57 (.int .i64 (W : Int)) (.int .i64 (W : Int))).run Try.prog w = .ok (.slice (some ⟨w.heap.size, 0, none⟩) W W) (w.alloc (.cells (madeCells #[.bool false] W) 4)) := fun w =>
    run_make_row' 57 4 (.bool false) 1 Try.underlying57 boolinfo rfl .i64 .i64 W (by omega) (by omega) w
  have a1 : (1 : Int) ≤ (W : Int) := by omega
  have a2 : (W : Int) ≤ 512 := by omega
  have a3 : (1 : Int) ≤ (H : Int) := by omega
  have a4 : (H : Int) ≤ 512 := by omega
  clear hb
  obtain ⟨bs, hbs⟩ : ∃ bs, bs = pack (W * H) f := ⟨_, rfl⟩
  have HP := hide hbs
  rw [← hbs] at S0 HG ⊢
  clear hbs
  obtain ⟨i0, hi, hz0, hz1, hz2⟩ := info_parts rowinfo
  go_enter Try.func43, Try.ntmps43
  go_wp2_with fail
  go_loopw [3, 4] (fun v i wr => ∃ y : Nat, y ≤ H ∧ i = .int .i64 y ∧ Hid (OpenRel w w.heap.size W H A c f y v wr) ∧ (wr.cell? ⟨w.heap.size, 0, none⟩ = some (.int .i64 (W : Int)) ∧ wr.cell? ⟨w.heap.size, 1, none⟩ = some (.int .i64 (H : Int)))) (fun _ i _ => H - (intOf i).toNat)
  case atStart => exact ⟨0, by omega, rfl, ⟨fun _ => 0, World.ownsRow_nil _ _ _ _, Rws.nil _ _ _ _ _, by rw [← HP.out]; exact S0.out, by simp [Value.ownBlock]⟩, ⟨S0.out.cells.1, S0.out.cells.2.1⟩⟩
  case round =>
    obtain ⟨y, hy, rfl, hR, hc0, hc1⟩ := hrel
    by_cases hlt : y < H
    · go_wp2_with fail
      obtain ⟨wo, rfl⟩ : ∃ wo : World, wo = wr := ⟨_, rfl⟩
      have HS := hide (RowRel.start hR.out)
      obtain ⟨b, hbb⟩ : ∃ b, b = wo.heap.size := ⟨_, rfl⟩
      have hOb : w.heap.size < wo.heap.size := by obtain ⟨bk, _, _, h3, _⟩ := hR.out; exact h3.1.lt
      rw [← hbb] at hOb HS ⊢
      have HBB := hide hbb
      clear hbb hc0 hc1
      go_loopw [6] (fun i wx => ∃ x : Nat, x ≤ W ∧ i = .int .i64 x ∧ Hid (RowRel w w.heap.size W H A c f y u3 b x wx) ∧ (wx.cell? ⟨w.heap.size, 0, none⟩ = some (.int .i64 (W : Int)) ∧ wx.cell? ⟨w.heap.size, 1, none⟩ = some (.int .i64 (H : Int)) ∧ wx.cell? ⟨w.heap.size, 2, none⟩ = some (.slice A bs.length c))) (fun i _ => W - (intOf i).toNat)
      case atStart => exact ⟨0, by omega, rfl, HS, by obtain ⟨bk, ⟨_, _, h3, _⟩, _⟩ := HS.out; rw [HP.out]; exact h3.cells⟩
      case round =>
        clear hR HS
        obtain ⟨x, hx, rfl, hR, hc0, hc1, hc2⟩ := hrel
        by_cases hxW : x < W
        · have hBy : Bys wr A bs := by obtain ⟨bk, ⟨_, _, h3, _⟩, _⟩ := hR.out; rw [HP.out]; exact h3.2.1
          have HBy := hide hBy
          clear hBy
          go_wp2_with fail
          refine (HG.out x y _ hxW hlt HBy.out).mono ?_
          rintro e w2 ⟨rfl, hb2⟩
          have HR2 := hide (hR.out.kept hb2)
          have z0 : w2.cell? ⟨b, x, none⟩ = some (.bool false) := by obtain ⟨bk, _, _, h6, _⟩ := HR2.out; rw [h6.cell hxW]; simp
          have zf : w2.frozen? ⟨b, x, none⟩ = false := by obtain ⟨bk, _, _, h6, _⟩ := HR2.out; exact Box.frozen h6 x
          clear hb2 hc0 hc1 hc2 hR
          have HR3 := hide (HR2.out.set hxW HAd.out (by omega))
          have hcs := hide (HR3.out.cells)
          rw [← HP.out] at hcs
          clear HR2
          go_wp2_with fail
          go_roundw
          case rel => exact ⟨x + 1, by omega, by go_num, HR3, hcs.out⟩
          case measure => simp [intOf]; omega
        · obtain rfl : W = x := by omega
          obtain ⟨bk0, ⟨g1, g2, g3, g4⟩, g5, g6, g7⟩ := hR.out
          have hbase : w.heap.size ≤ wr.heap.size := g3.2.2.size
          have hOlt : w.heap.size < wr.heap.size := g3.1.lt
          have HO0 := hide (g1.alloc (.cells #[.slice (some ⟨b, 0, none⟩) W W] 57))
          have G2 := hide (g2.alloc (.cells #[.slice (some ⟨b, 0, none⟩) W W] 57))
          have G3 := hide (g3.alloc (.cells #[.slice (some ⟨b, 0, none⟩) W W] 57))
          have G6 := hide (Box.alloc g6 (.cells #[.slice (some ⟨b, 0, none⟩) W W] 57))
          have G4 := hide g4
          have G7 := hide g7
          clear g1 g2 g3 g4 g6 g7 hR
          go_wp2_with (at_builtin; refine wpList_append_own _ rfl (.tmp 29) (.tmp 31) 54 rfl w.heap.size 57 i0 (.slice none 0 0) 1 24 Try.underlying54 hi hz0 hz1 hz2 rfl (by decide) u3 y (rowsV W bk0 y) rfl HO0.out ⟨wr.heap.size, 0, none⟩ 1 1 [.slice (some ⟨b, 0, none⟩) W W] rfl rfl (cell_one_new _ _ _) (by intro u hu; simp at hu; subst hu; rfl) (by unfold maxLen; omega) (by omega) (by simp; omega) ?_; intro v1 w1 hown1 hg1 hiff; have HQ := hide (row_done HO0.out G2.out G3.out G4.out g5 G6.out G7.out HAd.out hown1 hg1); clear hown1 hg1 hiff hc0 hc1 hc2; obtain ⟨hc0, hc1⟩ := HQ.out.cells)
          go_roundw
          case rel => exact ⟨y + 1, by omega, by go_num, HQ, hc0, hc1⟩
          case measure => simp [intOf]; omega
    · go_wp2_with fail
      obtain rfl : y = H := by omega
      obtain ⟨bk, h1, h2, h3, h4⟩ := hR.out
      go_ret
      exact ⟨_, rfl, grid_of_own (by omega) h1 h2, h3.2.2⟩
end Go.Proofs.Ytebahhmajllmnaa
