/-
  electionlaw42.cell: the cells of the example.
-/
import Derived.Test.YteeamiacplfcmaaMake
import Derived.Test.YteeamiacplfcmaaPlainT
namespace Go.Proofs.Yteeamiacplfcmaa
open Go.RowKit
set_option linter.unusedVariables false
set_option linter.unusedSimpArgs false

/-- the cells that cell makes -/
def cellW (w : World) (p : Int) : World := (((w.alloc (.cells #[.slice none 0 0, .slice none 0 0] 34)).alloc (.cells #[.int .i64 p] 3)).alloc (.cells #[.slice none 0 0, .int .i64 1] 52)).alloc (.cells #[.slice (some ⟨w.heap.size + 1, 0, none⟩) 1 1, .slice (some ⟨w.heap.size + 1 + 1, 0, none⟩) 1 1] 34)
theorem cellW_facts {w w3 : World} {p : Int} (h : w3 = cellW w p) : w3.heap.size = w.heap.size + 1 + 1 + 1 + 1 ∧ Below w.heap.size w w3 ∧ Box w3 w.heap.size 34 #[.slice none 0 0, .slice none 0 0] ∧ Box w3 (w.heap.size + 1) 3 #[.int .i64 p] ∧ Box w3 (w.heap.size + 1 + 1) 52 #[.slice none 0 0, .int .i64 1] ∧
    Box w3 (w.heap.size + 1 + 1 + 1) 34 #[.slice (some ⟨w.heap.size + 1, 0, none⟩) 1 1, .slice (some ⟨w.heap.size + 1 + 1, 0, none⟩) 1 1] := by
  have s1 : (w.alloc (.cells #[.slice none 0 0, .slice none 0 0] 34)).heap.size = w.heap.size + 1 := by simp
  have s2 : ((w.alloc (.cells #[.slice none 0 0, .slice none 0 0] 34)).alloc (.cells #[.int .i64 p] 3)).heap.size = w.heap.size + 1 + 1 := by simp
  have s3 : (((w.alloc (.cells #[.slice none 0 0, .slice none 0 0] 34)).alloc (.cells #[.int .i64 p] 3)).alloc (.cells #[.slice none 0 0, .int .i64 1] 52)).heap.size = w.heap.size + 1 + 1 + 1 := by simp
  have b0 := (((Box.new w 34 #[.slice none 0 0, .slice none 0 0]).alloc (.cells #[.int .i64 p] 3)).alloc (.cells #[.slice none 0 0, .int .i64 1] 52)).alloc (.cells #[.slice (some ⟨w.heap.size + 1, 0, none⟩) 1 1, .slice (some ⟨w.heap.size + 1 + 1, 0, none⟩) 1 1] 34)
  have b1 := ((Box.new (w.alloc (.cells #[.slice none 0 0, .slice none 0 0] 34)) 3 #[.int .i64 p]).alloc (.cells #[.slice none 0 0, .int .i64 1] 52)).alloc (.cells #[.slice (some ⟨w.heap.size + 1, 0, none⟩) 1 1, .slice (some ⟨w.heap.size + 1 + 1, 0, none⟩) 1 1] 34)
  have b2 := (Box.new ((w.alloc (.cells #[.slice none 0 0, .slice none 0 0] 34)).alloc (.cells #[.int .i64 p] 3)) 52 #[.slice none 0 0, .int .i64 1]).alloc (.cells #[.slice (some ⟨w.heap.size + 1, 0, none⟩) 1 1, .slice (some ⟨w.heap.size + 1 + 1, 0, none⟩) 1 1] 34)
  have b3 := Box.new (((w.alloc (.cells #[.slice none 0 0, .slice none 0 0] 34)).alloc (.cells #[.int .i64 p] 3)).alloc (.cells #[.slice none 0 0, .int .i64 1] 52)) 34 #[.slice (some ⟨w.heap.size + 1, 0, none⟩) 1 1, .slice (some ⟨w.heap.size + 1 + 1, 0, none⟩) 1 1]
  rw [s1] at b1
  rw [s2] at b2
  rw [s3] at b3
  subst h
  refine ⟨by simp [cellW], ?_, b0, b1, b2, b3⟩
  exact ((((Below.refl _ _).alloc (Nat.le_refl _) _).alloc (by simp) _).alloc (by simp; omega) _).alloc (by simp; omega) _
theorem one_grp {F : Nat → Prop} {w : World} {v0 v1 : Value} {g : Grp} {b : Nat} (h : GrpE F w v0 v1 g) (hb : F b) (hX : Box w b 52 #[v0, v1]) : PairsIn GrpE F w (some ⟨b, 0, none⟩) [g] := fun _ => ⟨b, 0, rfl, hb, fun k hk => by
  obtain rfl : k = 0 := by simpa using hk
  exact ⟨v0, v1, hX.cell 0, hX.cell 1, h⟩⟩
set_option maxHeartbeats 4000000 in
set_option maxRecDepth 100000 in
theorem cell_one {p : Int} {w : World} (hp : InI p) :
    Calls Try.prog 30 #[.int .i64 p, .int .i64 1] w fun e w' => ∃ x0 x1, e = .returned (.agg #[x0, x1]) ∧ Cell3 w.heap.size w' x0 x1 ([p], [([], 1)]) ∧ Below w.heap.size w w' := by
  have HP := hide hp
  obtain ⟨w3, hw3⟩ : ∃ x, x = cellW w p := ⟨_, rfl⟩
  obtain ⟨hs3, hb3, X0, X1, X2, X3⟩ := cellW_facts hw3
  have hw3' := hw3.symm
  unfold cellW at hw3'
  have HW3 := hide hw3'
  have HB3 := hide hb3
  have HX1 := hide X1
  have HX2 := hide X2
  have HX0 := hide X0
  have a0 := X0.cell 0
  have a1 := X0.cell 1
  have af0 := X0.frozen 0
  have af1 := X0.frozen 1
  have c0 := X3.cell 0
  have c1 := X3.cell 1
  simp at a0 a1 c0 c1
  clear hp hw3 hw3' hb3 X0 X1 X2 X3
  go_enter Try.func30, Try.ntmps30
  go_upto_region 2 with (fail)
  rw [HW3.out]
  go_upto_region 4 with (fail)
  go_wp2_with fail
  have W2 := hide ((HX0.out.set 0 (.slice (some ⟨w.heap.size + 1, 0, none⟩) 1 1)).set 1 (.slice (some ⟨w.heap.size + 1 + 1, 0, none⟩) 1 1))
  have s0 := W2.out.cell 0
  have s1 := W2.out.cell 1
  simp at s0 s1
  refine bodyPost_ret (v := .agg #[.slice (some ⟨w.heap.size + 1, 0, none⟩) 1 1, .slice (some ⟨w.heap.size + 1 + 1, 0, none⟩) 1 1]) (by simp [results, Try.results30, go_sem, s0, s1]) rfl ?_
  refine ⟨_, _, rfl, ?_, (HB3.out.setCell (by simp) _).setCell (by simp) _⟩
  have hI : IntsIn (fun i => w.heap.size + 1 ≤ i ∧ i < w3.heap.size) w3 (some ⟨w.heap.size + 1, 0, none⟩) [p] := fun _ => ⟨_, 0, rfl, ⟨Nat.le_refl _, by omega⟩, fun j hj => by
    obtain rfl : j = 0 := by simpa using hj
    exact HX1.out.cell 0⟩
  have hG : PairsIn GrpE (fun i => w.heap.size + 1 ≤ i ∧ i < w3.heap.size) w3 (some ⟨w.heap.size + 1 + 1, 0, none⟩) [([], 1)] := one_grp (g := ([], 1)) ⟨none, 0, rfl, Nat.le_refl _, Nat.zero_le _, (fun y hy => by cases hy), (by unfold InI; simp only []; omega), IntsIn.nil _ _ _, rfl⟩ ⟨by omega, by omega⟩ HX2.out
  refine goodC.mono (goodC.agree (show CelE (fun i => w.heap.size + 1 ≤ i ∧ i < w3.heap.size) w3 (.slice (some ⟨w.heap.size + 1, 0, none⟩) 1 1) (.slice (some ⟨w.heap.size + 1 + 1, 0, none⟩) 1 1) ([p], [([], 1)]) from ⟨_, 1, _, 1, rfl, Nat.le_refl _, by simp, fun y hy => by simp at hy; rw [hy]; exact HP.out, hI, rfl, Nat.le_refl _, by simp, hG⟩) fun i hi => ?_) fun i hi => ⟨by omega, by simpa [World.setCell] using hi.2⟩
  have n2 : i ≠ w.heap.size := by have := hi.1; omega
  exact (Below.heap_setCell _ _ _ i n2).trans (Below.heap_setCell _ _ _ i n2)

theorem own_one {w : World} {b B : Nat} {D : Nat → Prop} {v0 v1 : Value} {g : Grp} (hX : Box w b 52 #[v0, v1]) (hB : B ≤ b) (h : GrpD D (fun i => All w i ∧ (Value.slice (some ⟨b, 0, none⟩) 1 1).ownBlock ≠ some i) w v0 v1 g) : OwnD D B w (.slice (some ⟨b, 0, none⟩) 1 1) [g] := by
  refine ⟨⟨[v0, v1], ⟨rfl, .inr ⟨b, 1, #[v0, v1], rfl, Nat.zero_le _, hX, Nat.le_refl _, by unfold maxLen; omega, rfl, rfl⟩⟩, fun g' e => ?_, fun k hk => ?_⟩, fun g' e => ?_⟩
  · have : b = g' := Option.some.inj e
    subst this
    exact hX.lt
  · obtain rfl : k = 0 := by simpa using hk
    exact ⟨v0, v1, rfl, rfl, h⟩
  · have : b = g' := Option.some.inj e
    omega
/-- the second group is appended -/
theorem cell_push {w w3 : World} {p k : Int} (h : w3 = cellW w p) (hp : InI p) (hk : InI k) :
    ∃ A c w4 w5, Hid ((Builtin.append_ #[32, 32] 32 #[.slice (some ⟨w.heap.size + 1 + 1, 0, none⟩) 1 1, .slice (some ⟨w.heap.size + 1 + 1 + 1 + 1 + 1, 0, none⟩) 1 1]).run Try.prog ((w3.alloc (.cells #[.int .i64 0] 3)).alloc (.cells #[.slice (some ⟨w.heap.size + 1 + 1 + 1 + 1, 0, none⟩) 1 1, .int .i64 k] 52)) = .ok (.slice A 2 c) w4) ∧
      (w4.cell? ⟨w.heap.size + 1 + 1 + 1, 0, none⟩ = some (.slice (some ⟨w.heap.size + 1, 0, none⟩) 1 1) ∧ w4.cell? ⟨w.heap.size + 1 + 1 + 1, 1, none⟩ = some (.slice (some ⟨w.heap.size + 1 + 1, 0, none⟩) 1 1) ∧ w4.frozen? ⟨w.heap.size + 1 + 1 + 1, 1, none⟩ = false) ∧
      Hid (w4.setCell ⟨w.heap.size + 1 + 1 + 1, 1, none⟩ (.slice A 2 c) = w5) ∧
      (w5.cell? ⟨w.heap.size + 1 + 1 + 1, 0, none⟩ = some (.slice (some ⟨w.heap.size + 1, 0, none⟩) 1 1) ∧ w5.cell? ⟨w.heap.size + 1 + 1 + 1, 1, none⟩ = some (.slice A 2 c)) ∧
      Hid (Box w5 w.heap.size 34 #[.slice none 0 0, .slice none 0 0]) ∧ Hid (Below w.heap.size w w5) ∧
      Hid (CelE (fun i => w.heap.size + 1 ≤ i ∧ i < w5.heap.size) w5 (.slice (some ⟨w.heap.size + 1, 0, none⟩) 1 1) (.slice A 2 c) ([p], [([], 1), ([0], k)])) := by
  obtain ⟨hs3, hb3, X0, X1, X2, X3⟩ := cellW_facts h
  have hb4 : Below w3.heap.size w3 (w3.alloc (.cells #[.int .i64 0] 3)) := (Below.refl _ _).alloc (Nat.le_refl _) _
  have hs4 : (w3.alloc (.cells #[.int .i64 0] 3)).heap.size = w.heap.size + 1 + 1 + 1 + 1 + 1 := by simp [hs3]
  have X4 := Box.new w3 3 #[.int .i64 0]
  rw [hs3] at X4
  have hO3 : OwnD (fun i => w.heap.size + 1 ≤ i ∧ i ≠ w.heap.size + 1 + 1 + 1) (w.heap.size + 1) w3 (.slice (some ⟨w.heap.size + 1 + 1, 0, none⟩) 1 1) [([], 1)] := own_one X2 (by omega) ⟨none, 0, rfl, Nat.le_refl _, Nat.zero_le _, (fun y hy => by cases hy), (by unfold InI; simp only []; omega), IntsIn.nil _ _ _, rfl⟩
  have hO4 := hO3.kept (goodD _) hb4
  have hy : GrpD (fun i => w.heap.size + 1 ≤ i ∧ i ≠ w.heap.size + 1 + 1 + 1) (fun i => i = w.heap.size + 1 + 1 + 1 + 1) (w3.alloc (.cells #[.int .i64 0] 3)) (.slice (some ⟨w.heap.size + 1 + 1 + 1 + 1, 0, none⟩) 1 1) (.int .i64 k) ([0], k) := ⟨_, 1, rfl, Nat.le_refl _, by simp, (fun y hy => by simp at hy; rw [hy]; unfold InI; omega), hk, (fun _ => ⟨_, 0, rfl, ⟨rfl, by omega, by omega⟩, fun j hj => by
    obtain rfl : j = 0 := by simpa using hj
    exact X4.cell 0⟩), rfl⟩
  obtain ⟨A, c, w4, hr, hO, hg, hor⟩ := OwnD.push1 hO4 (by omega) (by simp) hy (fun i hi => ⟨by omega, fun e => by have e2 : w.heap.size + 1 + 1 = i := Option.some.inj e; omega⟩) 32
  rw [hs4] at hr
  have hg3 := grown_trans (grown_of_below hb4 (Value.slice (some ⟨w.heap.size + 1 + 1, 0, none⟩) 1 1).ownBlock) hg
  have hne : ∀ i, i ≠ w.heap.size + 1 + 1 → some i ≠ (Value.slice (some ⟨w.heap.size + 1 + 1, 0, none⟩) 1 1).ownBlock := fun i hi e => hi (Option.some.inj e)
  have Y0 := X0.grown hg3 (hne _ (by omega))
  have Y1 := X1.grown hg3 (hne _ (by omega))
  have Y3 := X3.grown hg3 (hne _ (by omega))
  have hb5 : Below w.heap.size w w4 := hb3.trans (own_by (by omega) (fun g e => by have e2 : w.heap.size + 1 + 1 = g := Option.some.inj e; omega) hg3)
  have Z3 := Y3.set 1 (.slice A 2 c)
  have hoth : ∀ i, i ≠ w.heap.size + 1 + 1 + 1 → (w4.setCell ⟨w.heap.size + 1 + 1 + 1, 1, none⟩ (.slice A 2 c)).heap[i]? = w4.heap[i]? := fun i hi => Below.heap_setCell _ _ _ i hi
  have hs5 : (w4.setCell ⟨w.heap.size + 1 + 1 + 1, 1, none⟩ (.slice A 2 c)).heap.size = w4.heap.size := by simp [World.setCell]
  have hL3 := Y3.lt
  have hZb : Below w.heap.size w (w4.setCell ⟨w.heap.size + 1 + 1 + 1, 1, none⟩ (.slice A 2 c)) := make_below hb5 (by omega)
  obtain ⟨w5, hw5⟩ : ∃ x, w4.setCell ⟨w.heap.size + 1 + 1 + 1, 1, none⟩ (.slice A 2 c) = x := ⟨_, rfl⟩
  rw [hw5] at Z3 hs5 hZb
  simp only [hw5] at hoth
  have W1 : Box w5 (w.heap.size + 1) 3 #[.int .i64 p] := (hoth _ (by omega)).trans Y1
  have W0 : Box w5 w.heap.size 34 #[.slice none 0 0, .slice none 0 0] := (hoth _ (by omega)).trans Y0
  refine ⟨A, c, w4, w5, hr, ⟨Y3.cell 0, Y3.cell 1, Y3.frozen 1⟩, hw5, ⟨Z3.cell 0, Z3.cell 1⟩, W0, hZb, ?_⟩
  have hs34 : w3.heap.size ≤ w4.heap.size := hg3.size
  obtain ⟨A', c', ev, hc', _, hP⟩ := OwnA.shape hO (goodD _)
  injection ev with e1 e2 e3
  subst e1 e3
  refine ⟨_, 1, A, c, rfl, Nat.le_refl _, by simp, (fun y hy => by simp at hy; rw [hy]; exact hp), (fun _ => ⟨_, 0, rfl, ⟨Nat.le_refl _, by omega⟩, fun j hj => by
    obtain rfl : j = 0 := by simpa using hj
    exact W1.cell 0⟩), rfl, hc', by simp, fun hlen => ?_⟩
  obtain ⟨b, off, rfl, hb, hcel⟩ := hP (by simp)
  have hb1 : w.heap.size + 1 ≤ b ∧ b ≠ w.heap.size + 1 + 1 + 1 := by
    rcases hor b rfl with e | e
    · have e2 : w.heap.size + 1 + 1 = b := Option.some.inj e
      omega
    · omega
  refine ⟨b, off, rfl, ⟨hb1.1, by rw [hs5]; exact hb⟩, fun j hj => ?_⟩
  obtain ⟨v0, v1, g0, g1, g2⟩ := hcel j hj
  refine ⟨v0, v1, (World.cell?_of_block (hoth b hb1.2)).trans g0, (World.cell?_of_block (hoth b hb1.2)).trans g1, ?_⟩
  exact goodG.mono (goodG.agree (show GrpE _ w4 v0 v1 _ from g2) fun i hi => hoth i hi.2.2) fun i hi => ⟨hi.2.1, by rw [hs5]; exact hi.1⟩
set_option maxHeartbeats 4000000 in
set_option maxRecDepth 100000 in
theorem cell_more {p k : Int} {w : World} (hp : InI p) (hk : 1 < k ∧ k ≤ 100) :
    Calls Try.prog 30 #[.int .i64 p, .int .i64 k] w fun e w' => ∃ x0 x1, e = .returned (.agg #[x0, x1]) ∧ Cell3 w.heap.size w' x0 x1 ([p], [([], 1), ([0], k - 1)]) ∧ Below w.heap.size w w' := by
  have HP := hide hp
  have hwk : IntKind.i64.wrap (k - 1) = k - 1 := IntWalk.i64_in _ (by omega)
  obtain ⟨w3, hw3⟩ : ∃ x, x = cellW w p := ⟨_, rfl⟩
  have HT := hide (cell_push (k := k - 1) hw3 hp (by unfold InI; omega))
  obtain ⟨hs3, hb3, X0, X1, X2, X3⟩ := cellW_facts hw3
  have hw3' := hw3.symm
  unfold cellW at hw3'
  have HW3 := hide hw3'
  have c0 := X3.cell 0
  have c1 := X3.cell 1
  have cf1 := X3.frozen 1
  simp at c0 c1
  have hk1 := hk.1
  clear hp hw3 hw3' hb3 X0 X1 X2 X3 hk
  go_enter Try.func30, Try.ntmps30
  go_upto_region 2 with (fail)
  rw [HW3.out]
  obtain ⟨A2, c2, w4, w5, HR4, ⟨s0, s1, sf1⟩, HW5, ⟨o0, o1⟩, HX0, HB5, HE⟩ := HT.out
  go_upto_region 4 with ((with_reducible refine wpList_gives (o := ⟨some 20, _, _, _, _, _⟩) (v := Value.slice A2 2 c2) (w' := w4) ?_ ?_ ?_); rfl; exact gives_append rfl rfl rfl HR4.out)
  rw [HW5.out]
  have a0 := HX0.out.cell 0
  have a1 := HX0.out.cell 1
  have af0 := HX0.out.frozen 0
  have af1 := HX0.out.frozen 1
  simp at a0 a1
  go_wp2_with fail
  have W2 := hide ((HX0.out.set 0 (.slice (some ⟨w.heap.size + 1, 0, none⟩) 1 1)).set 1 (.slice A2 2 c2))
  have t0 := W2.out.cell 0
  have t1 := W2.out.cell 1
  simp at t0 t1
  refine bodyPost_ret (v := .agg #[.slice (some ⟨w.heap.size + 1, 0, none⟩) 1 1, .slice A2 2 c2]) (by simp [results, Try.results30, go_sem, t0, t1]) rfl ?_
  refine ⟨_, _, rfl, ?_, (HB5.out.setCell (by simp) _).setCell (by simp) _⟩
  refine goodC.mono (goodC.agree HE.out fun i hi => ?_) fun i hi => ⟨by omega, by simpa [World.setCell] using hi.2⟩
  have n2 : i ≠ w.heap.size := by have := hi.1; omega
  exact (Below.heap_setCell _ _ _ i n2).trans (Below.heap_setCell _ _ _ i n2)
end Go.Proofs.Yteeamiacplfcmaa
