/-
  digest.mix.
-/
import Derived.Test.YtlelkhonkhlflaaDoorSched
import Derived.Deep.RegionHeld3
namespace Go.Proofs.YtlelkhonkhlflaaDoor
open Go.RowKit
set_option linter.unusedVariables false
set_option linter.unusedSimpArgs false

/-- the table of constants lies in the first block -/
structure Kon (C : List Nat) (w : World) : Prop where
  some_ : 0 < w.heap.size
  cell : ∀ k, k < 64 → w.cell? ⟨0, k, none⟩ = some (.int .u32 (C.getD k 0 : Nat))
  lt : ∀ k, C.getD k 0 < 4294967296
theorem Kon.below {C : List Nat} {w w' : World} {B : Nat} (h : Kon C w) (hb : Below B w w') (hB : 0 < B) : Kon C w' :=
  ⟨Nat.lt_of_lt_of_le h.some_ hb.size, fun k hk => (hb.cell (p := ⟨0, k, none⟩) hB).trans (h.cell k hk), h.lt⟩
theorem Kon.kept {C : List Nat} {w w' : World} (h : Kon C w) (hb : Below w.heap.size w w') : Kon C w' := h.below hb h.some_

theorem gives_box_u32 {t : TypeId} {l : List Nat} {o : Oper} {a : Act} {w : World} {x : Operand} (ho : o.op = .box t x) (hx : a.eval x = .agg (u32A l)) : Gives o a w (.pointer (some ⟨w.heap.size, 0, none⟩)) (w.alloc (.cells (u32A l) t)) := by
  unfold Gives execOp
  simp [ho, hx, Instr.box, newVar, newRow, Value.cells]
theorem gives_build {o : Oper} {a : Act} {w : World} {t : TypeId} {p : Array (Nat × Operand)} {vs : Array (Nat × Value)} {cs : Array Value} (ho : o.op = .build t p) (hp : (p.map fun x => (x.1, a.eval x.2)) = vs) (hb : Tryd.prog.built t vs.toList = some cs) : Gives o a w (.agg cs) w := by
  have hr := run_build (P := Tryd.prog) w t vs _ hb
  unfold Gives execOp
  simp only [ho]
  simp only [Sem.run_bind, Sem.run_pure, Result.andThen_ok, hp, hr]
theorem built8 (v0 v1 v2 v3 v4 v5 v6 v7 : Int) : Tryd.prog.built 88 [(0, .int .u32 v0), (1, .int .u32 v1), (2, .int .u32 v2), (3, .int .u32 v3), (4, .int .u32 v4), (5, .int .u32 v5), (6, .int .u32 v6), (7, .int .u32 v7)] = some #[.int .u32 v0, .int .u32 v1, .int .u32 v2, .int .u32 v3, .int .u32 v4, .int .u32 v5, .int .u32 v6, .int .u32 v7] := by kernel_rfl
def xorI (a b : Int) : Int := bits .xor .u32 a b
def andI (a b : Int) : Int := bits .and .u32 a b
def notI (a : Int) : Int := bits .xor .u32 (if IntKind.u32.signed = true then -1 else IntKind.u32.max) a
/-- a round, on the state s with the constant c and the word m -/
def one (s : List Nat) (c m : Nat) : Int := (((s.getD 7 0 : Nat) + xorI (xorI (rotV (s.getD 4 0 : Nat) 26) (rotV (s.getD 4 0 : Nat) 21)) (rotV (s.getD 4 0 : Nat) 7) + xorI (andI (s.getD 4 0 : Nat) (s.getD 5 0 : Nat)) (andI (notI (s.getD 4 0 : Nat)) (s.getD 6 0 : Nat)) + (c : Int)) % 4294967296 + (m : Int)) % 4294967296
def two (s : List Nat) : Int := (xorI (xorI (rotV (s.getD 0 0 : Nat) 30) (rotV (s.getD 0 0 : Nat) 19)) (rotV (s.getD 0 0 : Nat) 10) + xorI (xorI (andI (s.getD 0 0 : Nat) (s.getD 1 0 : Nat)) (andI (s.getD 0 0 : Nat) (s.getD 2 0 : Nat))) (andI (s.getD 1 0 : Nat) (s.getD 2 0 : Nat))) % 4294967296
def mixR (s : List Nat) (c m : Nat) : List Nat := [((one s c m + two s) % 4294967296).toNat, s.getD 0 0, s.getD 1 0, s.getD 2 0, (((s.getD 3 0 : Nat) + one s c m) % 4294967296).toNat, s.getD 4 0, s.getD 5 0, s.getD 6 0]
/-- the state behind k rounds -/
def mixS (C W h : List Nat) : Nat → List Nat
  | 0 => h
  | k + 1 => mixR (mixS C W h k) (C.getD k 0) (W.getD k 0)
theorem mixS_length {C W h : List Nat} (hh : h.length = 8) : ∀ k, (mixS C W h k).length = 8
  | 0 => hh
  | k + 1 => rfl
theorem wrap32_nat (x : Int) : (IntKind.u32.wrap x).toNat < 4294967296 := by have := wrap32_lt x; omega
theorem getD_lt {l : List Nat} (h : ∀ x ∈ l, x < 4294967296) (k : Nat) : l.getD k 0 < 4294967296 := by
  rw [List.getD_eq_getElem?_getD]
  by_cases hk : k < l.length
  · rw [List.getElem?_eq_getElem hk]
    exact h _ (List.getElem_mem hk)
  · rw [List.getElem?_eq_none (by omega)]
    exact Nat.zero_lt_succ _
theorem mixS_lt {C W h : List Nat} (hh : ∀ k, h.getD k 0 < 4294967296) : ∀ k j, (mixS C W h k).getD j 0 < 4294967296
  | 0, j => hh j
  | k + 1, j => by
    have ih := mixS_lt (C := C) (W := W) hh k
    rw [mixS, mixR]
    generalize mixS C W h k = s at ih
    generalize hu : ((one s (C.getD k 0) (W.getD k 0) + two s) % 4294967296).toNat = u
    generalize hv : (((s.getD 3 0 : Nat) + one s (C.getD k 0) (W.getD k 0)) % 4294967296).toNat = v
    have hu' : u < 4294967296 := by rw [← hu]; omega
    have hv' : v < 4294967296 := by rw [← hv]; omega
    refine getD_lt (fun x hx => ?_) j
    simp only [List.mem_cons, List.not_mem_nil, or_false] at hx
    rcases hx with rfl | rfl | rfl | rfl | rfl | rfl | rfl | rfl
    · exact hu'
    · exact ih 0
    · exact ih 1
    · exact ih 2
    · exact hv'
    · exact ih 4
    · exact ih 5
    · exact ih 6
/-- the new state: the old one and what the rounds made of it, word by word -/
def sumW (h s : List Nat) : Nat → List Nat
  | 0 => h
  | k + 1 => (sumW h s k).set k ((((sumW h s k).getD k 0 : Nat) + (s.getD k 0 : Nat) : Int) % 4294967296).toNat
theorem sumW_length {h s : List Nat} : ∀ k, (sumW h s k).length = h.length
  | 0 => rfl
  | k + 1 => by rw [sumW, List.length_set]; exact sumW_length k
theorem sumW_lt {h s : List Nat} (hh : ∀ k, h.getD k 0 < 4294967296) : ∀ k j, (sumW h s k).getD j 0 < 4294967296
  | 0, j => hh j
  | k + 1, j => set_lt (sumW_lt hh k) (by omega)
def mixF (C h : List Nat) (bs : List UInt8) : List Nat := sumW h (mixS C (sched bs) h 64) 8
/-- what the loops of mix hold -/
structure MixI (C W h s : List Nat) (g2 g4 g5 g6 : Nat) (w v : World) : Prop where
  ws : Wrd 88 v g6 s
  wh : Wrd 88 v g2 h
  wd : Wrd 98 v g5 W
  r : Box v g4 88 (u32A (List.replicate 8 0))
  kon : Kon C v
  below : Below w.heap.size w v
  ne : g2 ≠ g4 ∧ g2 ≠ g5 ∧ g2 ≠ g6 ∧ g4 ≠ g5 ∧ g4 ≠ g6 ∧ g5 ≠ g6
  lo : w.heap.size ≤ g2 ∧ w.heap.size ≤ g4 ∧ w.heap.size ≤ g5 ∧ w.heap.size ≤ g6 ∧ 0 < w.heap.size
  len : s.length = 8 ∧ h.length = 8 ∧ W.length = 64
theorem MixI.drew {C W h s : List Nat} {g2 g4 g5 g6 : Nat} {w v : World} (I : MixI C W h s g2 g4 g5 g6 w v) : MixI C W h s g2 g4 g5 g6 w v.drew :=
  ⟨I.ws, I.wh, I.wd, I.r, ⟨I.kon.some_, I.kon.cell, I.kon.lt⟩, below_drew I.below 1, I.ne, I.lo, I.len⟩
theorem MixI.drewN {C W h s : List Nat} {g2 g4 g5 g6 : Nat} {w v : World} (I : MixI C W h s g2 g4 g5 g6 w v) (n : Nat) : MixI C W h s g2 g4 g5 g6 w (v.drewN n) :=
  ⟨I.ws, I.wh, I.wd, I.r, ⟨I.kon.some_, I.kon.cell, I.kon.lt⟩, below_drew I.below n, I.ne, I.lo, I.len⟩
set_option maxHeartbeats 1600000 in
set_option maxRecDepth 100000 in
theorem mix_any {C h : List Nat} {b off c : Nat} {bs : List UInt8} {w : World} (hK : Kon C w) (hh : h.length = 8) (hlt : ∀ k, h.getD k 0 < 4294967296) (hb : Bys w (some ⟨b, off, none⟩) bs) (hl : 64 ≤ bs.length) (hm : bs.length ≤ 400100) :
    Calls Tryd.prog 47 #[.agg (u32A h), .slice (some ⟨b, off, none⟩) bs.length c] w (fun en w' => en = .returned (.agg (u32A (mixF C h bs))) ∧ Below w.heap.size w w') := by
  have h0 := hK.some_
  obtain ⟨hA, hhA⟩ : ∃ hA, hA = u32A h := ⟨_, rfl⟩
  obtain ⟨w1, hw1⟩ : ∃ w1, w1 = w.alloc (.cells hA 88) := ⟨_, rfl⟩
  have hs1 : w1.heap.size = w.heap.size + 1 := by rw [hw1]; simp
  obtain ⟨w2, hw2⟩ : ∃ w2, w2 = w1.alloc (.cells (u32A (List.replicate 8 0)) 88) := ⟨_, rfl⟩
  have hs2 : w2.heap.size = w.heap.size + 1 + 1 := by rw [hw2]; simp [hs1]
  have HA1 : Hid (∀ {o : Oper} {a : Act} {x : Operand}, o.op = .box 88 x → a.eval x = .agg hA → Gives o a w (.pointer (some ⟨w.heap.size, 0, none⟩)) w1) := fun ho hx => by rw [hw1, hhA]; exact gives_box_u32 ho (by rw [hx, hhA])
  have HA2 : Hid (∀ {o : Oper} {a : Act}, o.op = .alloc 88 → Gives o a w1 (.pointer (some ⟨w.heap.size + 1, 0, none⟩)) w2) := fun ho => by rw [hw2, ← hs1]; exact gives_alloc_u32 u32t8 ho
  have HB2 : Hid (Below w.heap.size w w2) := by rw [hw2, hw1]; exact ((Below.refl _ _).alloc (Nat.le_refl _) _).alloc (by simp) _
  have HG2 : Hid (Wrd 88 w2 w.heap.size h) := ⟨by rw [hw2, hw1, hhA]; exact (Box.new _ _ _).alloc _, hlt⟩
  have HG4 : Hid (Box w2 (w.heap.size + 1) 88 (u32A (List.replicate 8 0))) := by rw [hw2, ← hs1]; exact Box.new _ _ _
  have HK2 := hide (hK.below HB2.out h0)
  have HSC := hide (sched_any b off c bs w2 (hb.below HB2.out) hl hm)
  rw [← hhA]
  have HHA := hide hhA
  have HL := hide hh
  clear hw1 hw2 hs1 hhA hK hb
  go_enter Tryd.func47, Tryd.ntmps47
  go_wp2_with (first | ((with_reducible refine wpList_gives (o := ⟨some 2, _, _, _, _, _⟩) (v := .pointer (some ⟨w.heap.size, 0, none⟩)) (w' := w1) ?_ ?_ ?_); rfl; exact HA1.out rfl rfl) | ((with_reducible refine wpList_gives (o := ⟨some 4, _, _, _, _, _⟩) (v := .pointer (some ⟨w.heap.size + 1, 0, none⟩)) (w' := w2) ?_ ?_ ?_); rfl; exact HA2.out rfl))
  refine HSC.out.mono ?_
  rintro en w3 ⟨rfl, hB3⟩
  have hsz3 : w2.heap.size ≤ w3.heap.size := hB3.size
  obtain ⟨sA, hsA⟩ : ∃ sA, sA = u32A (sched bs) := ⟨_, rfl⟩
  obtain ⟨w4, hw4⟩ : ∃ w4, w4 = w3.alloc (.cells (u32A z64) 98) := ⟨_, rfl⟩
  have hs4 : w4.heap.size = w3.heap.size + 1 := by rw [hw4]; simp
  have hb4 : Below w3.heap.size w3 w4 := by rw [hw4]; exact (Below.refl _ _).alloc (Nat.le_refl _) _
  have HA3 : Hid (∀ {o : Oper} {a : Act}, o.op = .alloc 98 → Gives o a w3 (.pointer (some ⟨w3.heap.size, 0, none⟩)) w4) := fun ho => by rw [hw4]; exact gives_alloc_u32 u32t64 ho
  have hG5 : Wrd 98 w4 w3.heap.size z64 := ⟨by rw [hw4]; exact Box.new _ _ _, z_lt 64⟩
  obtain ⟨w5, hr5, hS5, hg5⟩ := Wrd.store (l' := sched bs) u32t64 hG5 (List.length_replicate ..) (sched_length bs) (sched_lt bs)
  have hs5 : w4.heap.size ≤ w5.heap.size := hg5.size
  have HB5 : Hid (Below w.heap.size w w5) := (HB2.out.trans ((hB3.mono HB2.out.size).trans (hb4.mono (by omega)))).grown hg5 (by omega) (fun k hk => by injection hk with hk; omega)
  have hL5 : Below w3.heap.size w3 w5 := hb4.grown hg5 (by omega) (fun k hk => by injection hk with hk; omega)
  have hG25 := (HG2.out.kept hB3).kept hL5
  have HG25 := hide hG25
  have HG45 : Hid (Box w5 (w.heap.size + 1) 88 (u32A (List.replicate 8 0))) := (HG4.out.kept hB3).kept hL5
  have HK5 := hide ((HK2.out.kept hB3).kept hL5)
  have HG5 := hide hS5
  have hlo := (hG25.load u32t8 hh)
  rw [← hsA] at hr5 ⊢
  rw [← HHA.out] at hlo
  have HR5 := hide hr5
  have HLO := hide hlo
  have HSA := hide hsA
  obtain ⟨w6, hw6⟩ : ∃ w6, w6 = w5.alloc (.cells (u32A (List.replicate 8 0)) 88) := ⟨_, rfl⟩
  have hs6 : w6.heap.size = w5.heap.size + 1 := by rw [hw6]; simp
  have hb6 : Below w5.heap.size w5 w6 := by rw [hw6]; exact (Below.refl _ _).alloc (Nat.le_refl _) _
  have HA6 : Hid (∀ {o : Oper} {a : Act}, o.op = .alloc 88 → Gives o a w5 (.pointer (some ⟨w5.heap.size, 0, none⟩)) w6) := fun ho => by rw [hw6]; exact gives_alloc_u32 u32t8 ho
  have hG6 : Wrd 88 w6 w5.heap.size (List.replicate 8 0) := ⟨by rw [hw6]; exact Box.new _ _ _, z_lt 8⟩
  obtain ⟨w7, hr7, hS7, hg7⟩ := Wrd.store (l' := h) u32t8 hG6 (List.length_replicate ..) hh hlt
  have hs7 : w6.heap.size ≤ w7.heap.size := hg7.size
  have hL7 : Below w5.heap.size w5 w7 := hb6.grown hg7 (by omega) (fun k hk => by injection hk with hk; omega)
  rw [← HHA.out] at hr7
  have HR7 := hide hr7
  have HI : Hid (MixI C (sched bs) h (mixS C (sched bs) h 0) w.heap.size (w.heap.size + 1) w3.heap.size w5.heap.size w w7) :=
    ⟨hS7, HG25.out.kept hL7, HG5.out.kept hL7, HG45.out.kept hL7, HK5.out.kept hL7, HB5.out.trans (hL7.mono (by omega)), by omega, by omega, ⟨hh, hh, sched_length bs⟩⟩
  have HSL := hide (sched_length bs)
  clear hw4 hw6 hb4 hG5 hr5 hS5 hg5 hL5 hG25 hsA hlo hb6 hG6 hr7 hS7 hg7 hL7 hB3
  go_upto_region 3 with (first | ((with_reducible refine wpList_gives (o := ⟨some 5, _, _, _, _, _⟩) (v := .pointer (some ⟨w3.heap.size, 0, none⟩)) (w' := w4) ?_ ?_ ?_); rfl; exact HA3.out rfl) | ((with_reducible refine wpList_does (o := ⟨none, .store 98 _ _, _, _, _, _⟩) (w' := w5) ?_ ?_ ?_); rfl; exact does_store rfl rfl rfl HR5.out) | ((with_reducible refine wpList_gives (o := ⟨some 16, _, _, _, _, _⟩) (v := Value.agg hA) (w' := w5) ?_ ?_ ?_); rfl; exact gives_load rfl rfl HLO.out) | ((with_reducible refine wpList_gives (o := ⟨some 6, _, _, _, _, _⟩) (v := .pointer (some ⟨w5.heap.size, 0, none⟩)) (w' := w6) ?_ ?_ ?_); rfl; exact HA6.out rfl) | ((with_reducible refine wpList_does (o := ⟨none, .store 88 _ _, _, _, _, _⟩) (w' := w7) ?_ ?_ ?_); rfl; exact does_store rfl rfl rfl HR7.out))
  obtain ⟨g5, hg5⟩ : ∃ g5, g5 = w3.heap.size := ⟨_, rfl⟩
  obtain ⟨g6, hg6⟩ : ∃ g6, g6 = w5.heap.size := ⟨_, rfl⟩
  obtain ⟨W, hW⟩ : ∃ W, W = sched bs := ⟨_, rfl⟩
  rw [← hg5, ← hg6, ← hW] at HI
  rw [← hg5, ← hg6]
  have HW := hide hW
  clear hg5 hg6 hW HA1 HA2 HA3 HA6 HR5 HR7 HLO HG5 HG25 HG45 HK5 HG2 HG4 HB5 HK2 HSC HSA HSL hs4 hs5 hs6 hs7 hsz3
  go_wp2_with fail
  go_loopw [17] (fun i wr => ∃ k : Nat, k ≤ 64 ∧ i = .int .i64 k ∧ Hid (MixI C W h (mixS C W h k) w.heap.size (w.heap.size + 1) g5 g6 w wr)) (fun i _ => 64 - (iOf i).toNat)
  case atStart => exact ⟨0, by omega, rfl, HI⟩
  case round =>
    clear HI
    obtain ⟨k, hk, rfl, HI⟩ := hrel
    by_cases hlt2 : k < 64
    · have I := HI.out
      obtain ⟨s, hs⟩ : ∃ s, s = mixS C W h k := ⟨_, rfl⟩
      rw [← hs] at I
      have HST := hide hs
      obtain ⟨cs, _, cw⟩ := I.len
      have CS := hide cs
      have q4 := I.ws.cell (k := 4) (by omega)
      have b4 := I.ws.2 4
      generalize hA4 : s.getD 4 0 = a4 at q4 b4
      have HA4 := hide hA4
      have I6 := I
      clear hs cs cw hA4 I
      go_upto_region 6 with fail
      refine wp_region_held_drew (S := fun v => MixI C W h s w.heap.size (w.heap.size + 1) g5 g6 w v) (by kernel_rfl) (I6.drew) (fun hH => ?_)
      refine wpAnyH_take (i := 0) (v := ?x6v0) (by simp only [List.getElem?_toArray, List.getElem?_cons_succ, List.getElem?_cons_zero]; exact rfl) (by kernel_rfl) (by kernel_rfl) (by kernel_rfl) ?x6q0 ?x6y0 hH ?x6r0
      case x6q0 => exact fun _ _ _ h => h
      case x6y0 =>
        refine Or.inl ⟨by rfl, fun v hv => ?_⟩
        go_simp
        rfl
      try simp only [Act.put, List.setIfInBounds_toArray, List.set_cons_zero, List.set_cons_succ]
      refine wpAnyH_take (i := 1) (v := ?x6v1) (by simp only [List.getElem?_toArray, List.getElem?_cons_succ, List.getElem?_cons_zero]; exact rfl) (by kernel_rfl) (by kernel_rfl) (by kernel_rfl) ?x6q1 ?x6y1 hH ?x6r1
      case x6q1 => exact fun _ _ _ h => h
      case x6y1 =>
        refine Or.inl ⟨by rfl, fun v hv => ?_⟩
        have q := hv.ws.cell (k := 4) (by rw [CS.out]; omega); rw [HA4.out] at q
        go_simp
        rfl
      try simp only [Act.put, List.setIfInBounds_toArray, List.set_cons_zero, List.set_cons_succ]
      refine wpAnyH_take (i := 3) (v := ?x6v3) (by simp only [List.getElem?_toArray, List.getElem?_cons_succ, List.getElem?_cons_zero]; exact rfl) (by kernel_rfl) (by kernel_rfl) (by kernel_rfl) ?x6q3 ?x6y3 hH ?x6r3
      case x6q3 => exact fun _ _ _ h => h
      case x6y3 =>
        refine Or.inl ⟨by rfl, fun v hv => ?_⟩
        go_simp
        rfl
      try simp only [Act.put, List.setIfInBounds_toArray, List.set_cons_zero, List.set_cons_succ]
      refine wpAnyH_take (i := 4) (v := ?x6v4) (by simp only [List.getElem?_toArray, List.getElem?_cons_succ, List.getElem?_cons_zero]; exact rfl) (by kernel_rfl) (by kernel_rfl) (by kernel_rfl) ?x6q4 ?x6y4 hH ?x6r4
      case x6q4 => exact fun _ _ _ h => h
      case x6y4 =>
        refine Or.inl ⟨by rfl, fun v hv => ?_⟩
        have q := hv.ws.cell (k := 4) (by rw [CS.out]; omega); rw [HA4.out] at q
        go_simp
        rfl
      try simp only [Act.put, List.setIfInBounds_toArray, List.set_cons_zero, List.set_cons_succ]
      refine wpAnyH_take (i := 7) (v := ?x6v7) (by simp only [List.getElem?_toArray, List.getElem?_cons_succ, List.getElem?_cons_zero]; exact rfl) (by kernel_rfl) (by kernel_rfl) (by kernel_rfl) ?x6q7 ?x6y7 hH ?x6r7
      case x6q7 => exact fun _ _ _ h => h
      case x6y7 =>
        refine Or.inl ⟨by rfl, fun v hv => ?_⟩
        go_simp
        rfl
      try simp only [Act.put, List.setIfInBounds_toArray, List.set_cons_zero, List.set_cons_succ]
      refine wpAnyH_take (i := 8) (v := ?x6v8) (by simp only [List.getElem?_toArray, List.getElem?_cons_succ, List.getElem?_cons_zero]; exact rfl) (by kernel_rfl) (by kernel_rfl) (by kernel_rfl) ?x6q8 ?x6y8 hH ?x6r8
      case x6q8 => exact fun _ _ _ h => h
      case x6y8 =>
        refine Or.inl ⟨by rfl, fun v hv => ?_⟩
        have q := hv.ws.cell (k := 4) (by rw [CS.out]; omega); rw [HA4.out] at q
        go_simp
        rfl
      try simp only [Act.put, List.setIfInBounds_toArray, List.set_cons_zero, List.set_cons_succ]
      refine wpAnyH_ready (rs := [2]) (by kernel_rfl) (by simp) ?_
      refine AllReadyH.cons (by simp only [List.getElem?_toArray, List.getElem?_cons_succ, List.getElem?_cons_zero]; exact rfl) (fun K hK => ?_) AllReadyH.nil
      go_simp
      refine (rot_any (a4 : Int) (-6) 26 (by omega) (by omega) (by decide) (by decide) (by decide) _).mono ?_
      rintro _ _ ⟨rfl, rfl⟩
      have hN := hH
      refine hK.out _ _ hN (fun hH' => ?_)
      clear hK hH hN K
      have hH := hH'
      clear hH'
      try simp only [Act.put, List.setIfInBounds_toArray, List.set_cons_zero, List.set_cons_succ]
      refine wpAnyH_ready (rs := [5]) (by kernel_rfl) (by simp) ?_
      refine AllReadyH.cons (by simp only [List.getElem?_toArray, List.getElem?_cons_succ, List.getElem?_cons_zero]; exact rfl) (fun K hK => ?_) AllReadyH.nil
      go_simp
      refine (rot_any (a4 : Int) (-11) 21 (by omega) (by omega) (by decide) (by decide) (by decide) _).mono ?_
      rintro _ _ ⟨rfl, rfl⟩
      have hN := hH
      refine hK.out _ _ hN (fun hH' => ?_)
      clear hK hH hN K
      have hH := hH'
      clear hH'
      try simp only [Act.put, List.setIfInBounds_toArray, List.set_cons_zero, List.set_cons_succ]
      refine wpAnyH_take (i := 6) (v := ?x6v6) (by simp only [List.getElem?_toArray, List.getElem?_cons_succ, List.getElem?_cons_zero]; exact rfl) (by kernel_rfl) (by kernel_rfl) (by kernel_rfl) ?x6q6 ?x6y6 hH ?x6r6
      case x6q6 => exact fun _ _ _ h => h
      case x6y6 =>
        refine Or.inl ⟨by rfl, fun v hv => ?_⟩
        go_simp
        rfl
      try simp only [Act.put, List.setIfInBounds_toArray, List.set_cons_zero, List.set_cons_succ]
      refine wpAnyH_ready (rs := [9]) (by kernel_rfl) (by simp) ?_
      refine AllReadyH.cons (by simp only [List.getElem?_toArray, List.getElem?_cons_succ, List.getElem?_cons_zero]; exact rfl) (fun K hK => ?_) AllReadyH.nil
      go_simp
      refine (rot_any (a4 : Int) (-25) 7 (by omega) (by omega) (by decide) (by decide) (by decide) _).mono ?_
      rintro _ _ ⟨rfl, rfl⟩
      have hN := hH
      refine hK.out _ _ hN (fun hH' => ?_)
      clear hK hH hN K
      have hH := hH'
      clear hH'
      try simp only [Act.put, List.setIfInBounds_toArray, List.set_cons_zero, List.set_cons_succ]
      refine wpAnyH_take (i := 10) (v := ?x6v10) (by simp only [List.getElem?_toArray, List.getElem?_cons_succ, List.getElem?_cons_zero]; exact rfl) (by kernel_rfl) (by kernel_rfl) (by kernel_rfl) ?x6q10 ?x6y10 hH ?x6r10
      case x6q10 => exact fun _ _ _ h => h
      case x6y10 =>
        refine Or.inl ⟨by rfl, fun v hv => ?_⟩
        go_simp
        rfl
      try simp only [Act.put, List.setIfInBounds_toArray, List.set_cons_zero, List.set_cons_succ]
      refine wpAnyH_take (i := 11) (v := ?x6v11) (by simp only [List.getElem?_toArray, List.getElem?_cons_succ, List.getElem?_cons_zero]; exact rfl) (by kernel_rfl) (by kernel_rfl) (by kernel_rfl) ?x6q11 ?x6y11 hH ?x6r11
      case x6q11 => exact fun _ _ _ h => h
      case x6y11 =>
        refine Or.inl ⟨by rfl, fun v hv => ?_⟩
        go_simp
        rfl
      try simp only [Act.put, List.setIfInBounds_toArray, List.set_cons_zero, List.set_cons_succ]
      refine wpAnyH_done (by kernel_rfl) ?_ _
      have I7 := hH
      clear hH q4
      generalize wr.drew = wa at *
      generalize hx : bits BinOp.xor IntKind.u32 (bits BinOp.xor IntKind.u32 (rotV (↑a4) 26) (rotV (↑a4) 21)) (rotV (↑a4) 7) = x
      have HX := hide hx
      have q4 := I7.ws.cell (k := 4) (by rw [CS.out]; omega)
      have q5 := I7.ws.cell (k := 5) (by rw [CS.out]; omega)
      have q6 := I7.ws.cell (k := 6) (by rw [CS.out]; omega)
      rw [HA4.out] at q4
      generalize hA5 : s.getD 5 0 = a5 at q5
      generalize hA6 : s.getD 6 0 = a6 at q6
      have HA5 := hide hA5
      have HA6 := hide hA6
      clear hx hA5 hA6
      go_upto_region 8 with fail
      generalize hch : bits BinOp.xor IntKind.u32 (bits BinOp.and IntKind.u32 ↑a4 ↑a5) (bits BinOp.and IntKind.u32 (bits BinOp.xor IntKind.u32 (if IntKind.u32.signed = true then -1 else IntKind.u32.max) ↑a4) ↑a6) = ch
      have HCH := hide hch
      clear hch q4 q5 q6
      have q7 := I7.ws.cell (k := 7) (by rw [CS.out]; omega)
      have qc := I7.kon.cell k hlt2
      have qw := I7.wd.cell (k := k) (by rw [I7.len.2.2]; omega)
      generalize hA7 : s.getD 7 0 = a7 at q7
      generalize hAc : C.getD k 0 = ac at qc
      generalize hAw : W.getD k 0 = aw at qw
      have HA7 := hide hA7
      have HAC := hide hAc
      have HAW := hide hAw
      have ewk : IntKind.i64.wrap (k : Int) = (k : Int) := IntWalk.i64_in _ (by omega)
      clear hA7 hAc hAw
      go_quiet (fail)
      clear q7 qc qw
      have I8 : MixI C W h s w.heap.size (w.heap.size + 1) g5 g6 w (wa.drewN nq) := I7.drewN nq
      generalize wa.drewN nq = wb at *
      generalize hon : (((a7 : Int) + x + ch + (ac : Int)) % 4294967296 + (aw : Int)) % 4294967296 = on
      have HON := hide hon
      clear hon
      have q0 := I8.ws.cell (k := 0) (by rw [CS.out]; omega)
      have b0 := I8.ws.2 0
      generalize hA0 : s.getD 0 0 = a0 at q0 b0
      have HA0 := hide hA0
      clear hA0
      have I9 := I8
      clear I6 I7 q0
      go_upto_region 9 with fail
      refine wp_region_held_drew (S := fun v => MixI C W h s w.heap.size (w.heap.size + 1) g5 g6 w v) (by kernel_rfl) (I9.drew) (fun hH => ?_)
      refine wpAnyH_take (i := 0) (v := ?x9v0) (by simp only [List.getElem?_toArray, List.getElem?_cons_succ, List.getElem?_cons_zero]; exact rfl) (by kernel_rfl) (by kernel_rfl) (by kernel_rfl) ?x9q0 ?x9y0 hH ?x9r0
      case x9q0 => exact fun _ _ _ h => h
      case x9y0 =>
        refine Or.inl ⟨by rfl, fun v hv => ?_⟩
        go_simp
        rfl
      try simp only [Act.put, List.setIfInBounds_toArray, List.set_cons_zero, List.set_cons_succ]
      refine wpAnyH_take (i := 1) (v := ?x9v1) (by simp only [List.getElem?_toArray, List.getElem?_cons_succ, List.getElem?_cons_zero]; exact rfl) (by kernel_rfl) (by kernel_rfl) (by kernel_rfl) ?x9q1 ?x9y1 hH ?x9r1
      case x9q1 => exact fun _ _ _ h => h
      case x9y1 =>
        refine Or.inl ⟨by rfl, fun v hv => ?_⟩
        have q := hv.ws.cell (k := 0) (by rw [CS.out]; omega); rw [HA0.out] at q
        go_simp
        rfl
      try simp only [Act.put, List.setIfInBounds_toArray, List.set_cons_zero, List.set_cons_succ]
      refine wpAnyH_take (i := 3) (v := ?x9v3) (by simp only [List.getElem?_toArray, List.getElem?_cons_succ, List.getElem?_cons_zero]; exact rfl) (by kernel_rfl) (by kernel_rfl) (by kernel_rfl) ?x9q3 ?x9y3 hH ?x9r3
      case x9q3 => exact fun _ _ _ h => h
      case x9y3 =>
        refine Or.inl ⟨by rfl, fun v hv => ?_⟩
        go_simp
        rfl
      try simp only [Act.put, List.setIfInBounds_toArray, List.set_cons_zero, List.set_cons_succ]
      refine wpAnyH_take (i := 4) (v := ?x9v4) (by simp only [List.getElem?_toArray, List.getElem?_cons_succ, List.getElem?_cons_zero]; exact rfl) (by kernel_rfl) (by kernel_rfl) (by kernel_rfl) ?x9q4 ?x9y4 hH ?x9r4
      case x9q4 => exact fun _ _ _ h => h
      case x9y4 =>
        refine Or.inl ⟨by rfl, fun v hv => ?_⟩
        have q := hv.ws.cell (k := 0) (by rw [CS.out]; omega); rw [HA0.out] at q
        go_simp
        rfl
      try simp only [Act.put, List.setIfInBounds_toArray, List.set_cons_zero, List.set_cons_succ]
      refine wpAnyH_take (i := 7) (v := ?x9v7) (by simp only [List.getElem?_toArray, List.getElem?_cons_succ, List.getElem?_cons_zero]; exact rfl) (by kernel_rfl) (by kernel_rfl) (by kernel_rfl) ?x9q7 ?x9y7 hH ?x9r7
      case x9q7 => exact fun _ _ _ h => h
      case x9y7 =>
        refine Or.inl ⟨by rfl, fun v hv => ?_⟩
        go_simp
        rfl
      try simp only [Act.put, List.setIfInBounds_toArray, List.set_cons_zero, List.set_cons_succ]
      refine wpAnyH_take (i := 8) (v := ?x9v8) (by simp only [List.getElem?_toArray, List.getElem?_cons_succ, List.getElem?_cons_zero]; exact rfl) (by kernel_rfl) (by kernel_rfl) (by kernel_rfl) ?x9q8 ?x9y8 hH ?x9r8
      case x9q8 => exact fun _ _ _ h => h
      case x9y8 =>
        refine Or.inl ⟨by rfl, fun v hv => ?_⟩
        have q := hv.ws.cell (k := 0) (by rw [CS.out]; omega); rw [HA0.out] at q
        go_simp
        rfl
      try simp only [Act.put, List.setIfInBounds_toArray, List.set_cons_zero, List.set_cons_succ]
      refine wpAnyH_ready (rs := [2]) (by kernel_rfl) (by simp) ?_
      refine AllReadyH.cons (by simp only [List.getElem?_toArray, List.getElem?_cons_succ, List.getElem?_cons_zero]; exact rfl) (fun K hK => ?_) AllReadyH.nil
      go_simp
      refine (rot_any (a0 : Int) (-2) 30 (by omega) (by omega) (by decide) (by decide) (by decide) _).mono ?_
      rintro _ _ ⟨rfl, rfl⟩
      have hN := hH
      refine hK.out _ _ hN (fun hH' => ?_)
      clear hK hH hN K
      have hH := hH'
      clear hH'
      try simp only [Act.put, List.setIfInBounds_toArray, List.set_cons_zero, List.set_cons_succ]
      refine wpAnyH_ready (rs := [5]) (by kernel_rfl) (by simp) ?_
      refine AllReadyH.cons (by simp only [List.getElem?_toArray, List.getElem?_cons_succ, List.getElem?_cons_zero]; exact rfl) (fun K hK => ?_) AllReadyH.nil
      go_simp
      refine (rot_any (a0 : Int) (-13) 19 (by omega) (by omega) (by decide) (by decide) (by decide) _).mono ?_
      rintro _ _ ⟨rfl, rfl⟩
      have hN := hH
      refine hK.out _ _ hN (fun hH' => ?_)
      clear hK hH hN K
      have hH := hH'
      clear hH'
      try simp only [Act.put, List.setIfInBounds_toArray, List.set_cons_zero, List.set_cons_succ]
      refine wpAnyH_take (i := 6) (v := ?x9v6) (by simp only [List.getElem?_toArray, List.getElem?_cons_succ, List.getElem?_cons_zero]; exact rfl) (by kernel_rfl) (by kernel_rfl) (by kernel_rfl) ?x9q6 ?x9y6 hH ?x9r6
      case x9q6 => exact fun _ _ _ h => h
      case x9y6 =>
        refine Or.inl ⟨by rfl, fun v hv => ?_⟩
        go_simp
        rfl
      try simp only [Act.put, List.setIfInBounds_toArray, List.set_cons_zero, List.set_cons_succ]
      refine wpAnyH_ready (rs := [9]) (by kernel_rfl) (by simp) ?_
      refine AllReadyH.cons (by simp only [List.getElem?_toArray, List.getElem?_cons_succ, List.getElem?_cons_zero]; exact rfl) (fun K hK => ?_) AllReadyH.nil
      go_simp
      refine (rot_any (a0 : Int) (-22) 10 (by omega) (by omega) (by decide) (by decide) (by decide) _).mono ?_
      rintro _ _ ⟨rfl, rfl⟩
      have hN := hH
      refine hK.out _ _ hN (fun hH' => ?_)
      clear hK hH hN K
      have hH := hH'
      clear hH'
      try simp only [Act.put, List.setIfInBounds_toArray, List.set_cons_zero, List.set_cons_succ]
      refine wpAnyH_take (i := 10) (v := ?x9v10) (by simp only [List.getElem?_toArray, List.getElem?_cons_succ, List.getElem?_cons_zero]; exact rfl) (by kernel_rfl) (by kernel_rfl) (by kernel_rfl) ?x9q10 ?x9y10 hH ?x9r10
      case x9q10 => exact fun _ _ _ h => h
      case x9y10 =>
        refine Or.inl ⟨by rfl, fun v hv => ?_⟩
        go_simp
        rfl
      try simp only [Act.put, List.setIfInBounds_toArray, List.set_cons_zero, List.set_cons_succ]
      refine wpAnyH_take (i := 11) (v := ?x9v11) (by simp only [List.getElem?_toArray, List.getElem?_cons_succ, List.getElem?_cons_zero]; exact rfl) (by kernel_rfl) (by kernel_rfl) (by kernel_rfl) ?x9q11 ?x9y11 hH ?x9r11
      case x9q11 => exact fun _ _ _ h => h
      case x9y11 =>
        refine Or.inl ⟨by rfl, fun v hv => ?_⟩
        go_simp
        rfl
      try simp only [Act.put, List.setIfInBounds_toArray, List.set_cons_zero, List.set_cons_succ]
      refine wpAnyH_done (by kernel_rfl) ?_ _
      have I10 := hH
      clear hH I8 I9
      generalize wb.drew = wc at *
      generalize hy : bits BinOp.xor IntKind.u32 (bits BinOp.xor IntKind.u32 (rotV (↑a0) 30) (rotV (↑a0) 19)) (rotV (↑a0) 10) = y
      have HY := hide hy
      have q0 := I10.ws.cell (k := 0) (by rw [CS.out]; omega)
      have q1 := I10.ws.cell (k := 1) (by rw [CS.out]; omega)
      have q2 := I10.ws.cell (k := 2) (by rw [CS.out]; omega)
      rw [HA0.out] at q0
      generalize hA1 : s.getD 1 0 = a1 at q1
      generalize hA2 : s.getD 2 0 = a2 at q2
      have HA1 := hide hA1
      have HA2 := hide hA2
      clear hy hA1 hA2
      go_upto_region 11 with fail
      generalize htw : (y + bits BinOp.xor IntKind.u32 (bits BinOp.xor IntKind.u32 (bits BinOp.and IntKind.u32 ↑a0 ↑a1) (bits BinOp.and IntKind.u32 ↑a0 ↑a2)) (bits BinOp.and IntKind.u32 ↑a1 ↑a2)) % 4294967296 = tw
      have HTW := hide htw
      have q3 := I10.ws.cell (k := 3) (by rw [CS.out]; omega)
      have q4 := I10.ws.cell (k := 4) (by rw [CS.out]; omega)
      have q5 := I10.ws.cell (k := 5) (by rw [CS.out]; omega)
      have q6 := I10.ws.cell (k := 6) (by rw [CS.out]; omega)
      rw [HA4.out] at q4
      rw [HA5.out] at q5
      rw [HA6.out] at q6
      generalize hA3 : s.getD 3 0 = a3 at q3
      have HA3 := hide hA3
      clear htw hA3
      generalize hz0 : (on + tw) % 4294967296 = z0
      generalize hz4 : ((a3 : Int) + on) % 4294967296 = z4
      have HZ0 := hide hz0
      have HZ4 := hide hz4
      have hmr : mixS C W h (k + 1) = [z0.toNat, a0, a1, a2, z4.toNat, a4, a5, a6] := by
        have e1 : one s ac aw = on := by rw [← HON.out, ← HX.out, ← HCH.out, one, HA7.out, HA4.out, HA5.out, HA6.out]; rfl
        have e2 : two s = tw := by rw [← HTW.out, ← HY.out, two, HA0.out, HA1.out, HA2.out]; rfl
        rw [mixS, ← HST.out, HAC.out, HAW.out, mixR, e1, e2, HZ0.out, HA0.out, HA1.out, HA2.out, HA3.out, HZ4.out, HA4.out, HA5.out, HA6.out]
      have hlts : ∀ j, (mixS C W h (k + 1)).getD j 0 < 4294967296 := mixS_lt (fun j => I10.wh.2 j) (k + 1)
      have hu : u32A (mixS C W h (k + 1)) = #[.int .u32 z0, .int .u32 a0, .int .u32 a1, .int .u32 a2, .int .u32 z4, .int .u32 a4, .int .u32 a5, .int .u32 a6] := by
        have h0 : 0 ≤ z0 := by rw [← HZ0.out]; omega
        have h4 : 0 ≤ z4 := by rw [← HZ4.out]; omega
        obtain ⟨n0, rfl⟩ : ∃ n : Nat, z0 = (n : Int) := ⟨z0.toNat, by omega⟩
        obtain ⟨n4, rfl⟩ : ∃ n : Nat, z4 = (n : Int) := ⟨z4.toNat, by omega⟩
        rw [hmr]
        rfl
      obtain ⟨wd, hrd, hSd, hgd⟩ := Wrd.store (l' := mixS C W h (k + 1)) u32t8 I10.ws CS.out (mixS_length I10.len.2.1 (k + 1)) hlts
      rw [hu] at hrd
      have HRD := hide hrd
      have HI2 : Hid (MixI C W h (mixS C W h (k + 1)) w.heap.size (w.heap.size + 1) g5 g6 w wd) := by
        obtain ⟨n1, n2, n3, n4, n5, n6⟩ := I10.ne
        obtain ⟨l1, l2, l3, l4, l5⟩ := I10.lo
        have hsc := I10.below.size
        have hbd : ∀ g, g < wc.heap.size → g ≠ g6 → wd.heap[g]? = wc.heap[g]? := fun g hg hne => hgd.block g hg (fun e => by injection e with e; omega)
        refine ⟨hSd, ⟨(hbd _ I10.wh.1.lt n3).trans I10.wh.1, I10.wh.2⟩, ⟨(hbd _ I10.wd.1.lt n6).trans I10.wd.1, I10.wd.2⟩, (hbd _ I10.r.lt n5).trans I10.r, ?_, ?_, I10.ne, I10.lo, ⟨mixS_length I10.len.2.1 (k + 1), I10.len.2⟩⟩
        · exact I10.kon.below (below_of_grown hgd l4 hsc) l5
        · exact I10.below.trans (below_of_grown hgd l4 hsc)
      have HBU := hide (built8 z0 a0 a1 a2 z4 a4 a5 a6)
      clear hmr hlts hu hrd hSd hgd
      go_upto_region 12 with (first | ((with_reducible refine wpList_gives (o := ⟨some 106, _, _, _, _, _⟩) (v := .agg #[.int .u32 z0, .int .u32 a0, .int .u32 a1, .int .u32 a2, .int .u32 z4, .int .u32 a4, .int .u32 a5, .int .u32 a6]) (w' := wc) ?_ ?_ ?_); rfl; exact gives_build (vs := #[(0, .int .u32 z0), (1, .int .u32 a0), (2, .int .u32 a1), (3, .int .u32 a2), (4, .int .u32 z4), (5, .int .u32 a4), (6, .int .u32 a5), (7, .int .u32 a6)]) rfl rfl HBU.out) | ((with_reducible refine wpList_does (o := ⟨none, .store 88 _ _, _, _, _, _⟩) (w' := wd) ?_ ?_ ?_); rfl; exact does_store rfl rfl rfl HRD.out))
      clear q0 q1 q2 q3 q4 q5 q6 hz0 hz4 I10
      go_wp2_with fail
      go_roundw
      case rel => exact ⟨k + 1, by omega, by go_num, HI2⟩
      case measure => simp [iOf]; omega
    · obtain rfl : k = 64 := by omega
      obtain ⟨S, hS⟩ : ∃ S, S = mixS C W h 64 := ⟨_, rfl⟩
      have HI0 : Hid (MixI C W (sumW h S 0) S w.heap.size (w.heap.size + 1) g5 g6 w wr) := by rw [hS]; exact HI.out
      have HS := hide hS
      clear hS HI
      go_wp2_with fail
      go_loopw [108] (fun i wr => ∃ k : Nat, k ≤ 8 ∧ i = .int .i64 k ∧ Hid (MixI C W (sumW h S k) S w.heap.size (w.heap.size + 1) g5 g6 w wr)) (fun i _ => 8 - (iOf i).toNat)
      case atStart => exact ⟨0, by omega, rfl, HI0⟩
      case round =>
        clear HI0
        obtain ⟨k, hk8, rfl, HI⟩ := hrel
        by_cases hlt8 : k < 8
        · have I := HI.out
          have q1 := I.wh.cell (k := k) (by rw [I.len.2.1]; omega)
          have q2 := I.ws.cell (k := k) (by rw [I.len.1]; omega)
          have hf := I.wh.1.frozen k
          have ewk : IntKind.i64.wrap (k : Int) = (k : Int) := IntWalk.i64_in _ (by omega)
          have hst : sumW h S (k + 1) = (sumW h S k).set k ((((sumW h S k).getD k 0 : Nat) + (S.getD k 0 : Nat) : Int) % 4294967296).toNat := rfl
          generalize hA : (sumW h S k).getD k 0 = a at q1 hst
          generalize hB : S.getD k 0 = b at q2 hst
          have hn : (((a : Int) + (b : Int)) % 4294967296).toNat < 4294967296 := by omega
          have hn2 : ((((a : Int) + (b : Int)) % 4294967296).toNat : Int) = ((a : Int) + (b : Int)) % 4294967296 := by omega
          have HI2 : Hid (MixI C W (sumW h S (k + 1)) S w.heap.size (w.heap.size + 1) g5 g6 w (wr.setCell ⟨w.heap.size, k, none⟩ (.int .u32 (((a : Int) + (b : Int)) % 4294967296))).drew) := by
            obtain ⟨n1, n2, n3, n4, n5, n6⟩ := I.ne
            obtain ⟨l1, l2, l3, l4, l5⟩ := I.lo
            have h1 := I.wh.set (k := k) (by rw [I.len.2.1]; omega) hn
            rw [hn2, ← hst] at h1
            refine MixI.drew ⟨⟨I.ws.1.far (Ne.symm n3) _, I.ws.2⟩, h1, ⟨I.wd.1.far (Ne.symm n2) _, I.wd.2⟩, I.r.far (Ne.symm n1) _, ?_, ?_, I.ne, I.lo, ⟨I.len.1, by rw [sumW_length, ← sumW_length (h := h) (s := S) k, I.len.2.1], I.len.2.2⟩⟩
            · exact I.kon.below (Below.refl _ _ |>.setCell (B := w.heap.size) (by exact Nat.le_refl _) _) l5
            · exact I.below.setCell (by exact Nat.le_refl _) _
          clear I hst hA hB hn hn2
          go_upto_region 16 with fail
          refine wp_region_still_tail 8 (by kernel_rfl) (by kernel_rfl) ?_
          simp only [List.take_succ_cons, List.take_zero, List.drop_succ_cons, List.drop_zero]
          iterate 8 still_step
          refine wpStill_nil ?_
          change wpList _ _ _ _ _ wr.drew
          go_wp2_with fail
          go_roundw
          case rel =>
            repeat apply Exists.intro
            refine ⟨⟨k + 1, by omega, ?_, HI2⟩, rfl⟩
            go_num
          case measure => simp [iOf]; omega
        · obtain rfl : k = 8 := by omega
          have I := HI.out
          have HSA : Hid (u32A (mixF C h bs) = u32A (sumW h S 8)) := by rw [Hid, mixF, HS.out, HW.out]
          have HLd := hide (I.wh.load u32t8 I.len.2.1)
          obtain ⟨w9, hr9, hS9, hg9⟩ := Wrd.store (l' := sumW h S 8) u32t8 ⟨I.r, z_lt 8⟩ (List.length_replicate ..) I.len.2.1 I.wh.2
          have HR9 := hide hr9
          have HL9 := hide (hS9.load u32t8 I.len.2.1)
          have HB9 := hide (I.below.grown hg9 I.below.size (fun k hk => by injection hk with hk; omega))
          clear hr9 hS9 hg9 I
          generalize u32A (sumW h S 8) = sB at *
          go_upto_region 18 with fail
          go_wp2_with (first | ((with_reducible refine wpList_gives (o := ⟨some 120, _, _, _, _, _⟩) (v := Value.agg sB) (w' := wr) ?_ ?_ ?_); rfl; exact gives_load rfl rfl HLd.out) | ((with_reducible refine wpList_does (o := ⟨none, .store 88 _ _, _, _, _, _⟩) (w' := w9) ?_ ?_ ?_); rfl; exact does_store rfl rfl rfl HR9.out))
          refine bodyPost_ret (v := .agg sB) (results_cell rfl rfl HL9.out) rfl ⟨?_, HB9.out⟩
          rw [HSA.out]
end Go.Proofs.YtlelkhonkhlflaaDoor
