/-
  digest.Sum.
-/
import Derived.Test.YtlelkhonkhlflaaDoorMix
namespace Go.Proofs.YtlelkhonkhlflaaDoor
open Go.RowKit
set_option linter.unusedVariables false
set_option linter.unusedSimpArgs false

theorem mixF_length {C h : List Nat} {bs : List UInt8} (hh : h.length = 8) : (mixF C h bs).length = 8 := by rw [mixF, sumW_length, hh]
theorem mixF_lt {C h : List Nat} {bs : List UInt8} (hh : ∀ k, h.getD k 0 < 4294967296) (k : Nat) : (mixF C h bs).getD k 0 < 4294967296 := sumW_lt hh 8 k
def H0 : List Nat := [1779033703, 3144134277, 1013904242, 2773480762, 1359893119, 2600822924, 528734635, 1541459225]
theorem H0_length : H0.length = 8 := rfl
theorem H0_lt (k : Nat) : H0.getD k 0 < 4294967296 := by
  refine getD_lt (fun x hx => ?_) k
  simp only [H0, List.mem_cons, List.not_mem_nil, or_false] at hx
  omega
/-- the state behind k blocks -/
def hashS (C : List Nat) (p : List UInt8) : Nat → List Nat
  | 0 => H0
  | k + 1 => mixF C (hashS C p k) (p.drop (k * 64))
theorem hashS_length (C : List Nat) (p : List UInt8) : ∀ k, (hashS C p k).length = 8
  | 0 => rfl
  | k + 1 => mixF_length (hashS_length C p k)
theorem hashS_lt (C : List Nat) (p : List UInt8) : ∀ k j, (hashS C p k).getD j 0 < 4294967296
  | 0, j => H0_lt j
  | k + 1, j => mixF_lt (hashS_lt C p k) j
/-- the words, each in four bytes -/
def outB (l : List Nat) : Nat → List UInt8
  | 0 => []
  | k + 1 => outB l k ++ beB (l.getD k 0) 4
theorem outB_length (l : List Nat) : ∀ k, (outB l k).length = k * 4
  | 0 => rfl
  | k + 1 => by rw [outB, List.length_append, outB_length l k, beB_length]; omega
def shaF (C : List Nat) (bs : List UInt8) : List UInt8 := outB (hashS C (padL bs) ((padL bs).length / 64)) 8
theorem shaF_length (C : List Nat) (bs : List UInt8) : (shaF C bs).length = 32 := outB_length _ 8
theorem built_H0 : Tryd.prog.built 88 [(0, .int .u32 1779033703), (1, .int .u32 3144134277), (2, .int .u32 1013904242), (3, .int .u32 2773480762), (4, .int .u32 1359893119), (5, .int .u32 2600822924), (6, .int .u32 528734635), (7, .int .u32 1541459225)] = some (u32A H0) := by kernel_rfl
theorem gives_index_u32 {o : Oper} {a : Act} {w : World} {x i : Operand} {l : List Nat} {k : Nat} (ho : o.op = .index 88 x i) (hx : a.eval x = .agg (u32A l)) (hi : a.eval i = .int .i64 (k : Int)) (hl : l.length = 8) (hk : k < 8) :
    Gives o a w (.int .u32 (l.getD k 0 : Nat)) w := by
  have hg : (u32A l)[k]? = some (.int .u32 (l.getD k 0 : Nat)) := by
    rw [u32A, List.getElem?_toArray, List.getElem?_map, List.getElem?_eq_getElem (by omega), List.getD_eq_getElem?_getD, List.getElem?_eq_getElem (by omega)]
    rfl
  have hA : ∀ w : World, (isAgg 87).run Tryd.prog w = .ok false w := fun w => by
    unfold isAgg
    rw [Sem.run_bind, run_underlying Tryd.underlying87 w]
    rfl
  have hS : (Tryd.prog.info? 87).map (fun i => i.size) = some 1 := by kernel_rfl
  obtain ⟨i0, h1, h2⟩ := Option.map_eq_some_iff.1 hS
  have hU := fun w => run_underlying (P := Tryd.prog) Tryd.underlying88 w
  unfold Gives execOp
  simp only [ho, hx, hi]
  have hk2 : (k : Int) < 8 := by omega
  simp [Instr.index, asIntOf, Sem.run_bind, hU, part, hA, sizeOf, typeInfo, h1, h2, hk2, hg]
  omega
/-- block g is a digest -/
def z32 : List UInt8 := List.replicate 32 0
def Dig (w : World) (g : Nat) (d : List UInt8) : Prop := Box w g 58 (secA d)
theorem dig_type : (∃ i0, Tryd.prog.info? 58 = some i0 ∧ i0.zero = some (.agg (secA z32)) ∧ i0.size = 32) ∧ ∀ w : World, (isAgg 58).run Tryd.prog w = .ok true w := by
  refine ⟨?_, fun w => ?_⟩
  · have h : (Tryd.prog.info? 58).map (fun i => (i.zero, i.size)) = some (some (.agg (secA z32)), 32) := by kernel_rfl
    obtain ⟨i0, h1, h2⟩ := Option.map_eq_some_iff.1 h
    injection h2 with h2 h3
    exact ⟨i0, h1, h2, h3⟩
  · unfold isAgg
    rw [Sem.run_bind, run_underlying Tryd.underlying58 w]
    rfl
theorem gives_alloc_dig {o : Oper} {a : Act} {w : World} (ho : o.op = .alloc 58) : Gives o a w (.pointer (some ⟨w.heap.size, 0, none⟩)) (w.alloc (.cells (secA z32) 58)) := by
  obtain ⟨⟨i0, h1, h2, h3⟩, _⟩ := dig_type
  unfold Gives execOp
  simp [ho, Instr.alloc, zeroValue, typeInfo, h1, h2, newVar, newRow, Value.cells]
theorem gives_arrayAt {o : Oper} {a : Act} {w : World} {x : Operand} {A : Option Addr} {c : Nat} (ho : o.op = .sliceToArrayPointer 58 x) (hx : a.eval x = .slice A 32 c) : Gives o a w (.pointer A) w := by
  have hU := fun w => run_underlying (P := Tryd.prog) Tryd.underlying58 w
  unfold Gives execOp
  simp only [ho, hx]
  simp [Instr.arrayAt, Sem.run_bind, hU]
theorem load_dig {w : World} {b off : Nat} {d : List UInt8} (h : Bys w (some ⟨b, off, none⟩) d) (hl : d.length = 32) : (loadVar 58 ⟨b, off, none⟩).run Tryd.prog w = .ok (.agg (secA d)) w := by
  have h1 := run_loadCells_list (P := Tryd.prog) w ⟨b, off, none⟩ _ (news_of_bys h)
  rw [List.length_map, hl] at h1
  obtain ⟨⟨i0, h2, _, h3⟩, h4⟩ := dig_type
  have h5 : (loadCells ⟨b, off, none⟩ 32).run Tryd.prog w = .ok (secA d) w := h1
  simp [loadVar, Sem.run_bind, h4, sizeOf, typeInfo, h2, h3, h5]
theorem Dig.bys {w : World} {g : Nat} {d : List UInt8} (h : Dig w g d) : Bys w (some ⟨g, 0, none⟩) d := fun _ => ⟨g, 0, rfl, Box.lt h, fun k hk => by
  rw [Nat.zero_add, Box.cell h k, secA, List.getElem?_toArray, List.getElem?_map, List.getElem?_eq_getElem hk, List.getD_eq_getElem?_getD, List.getElem?_eq_getElem hk]
  rfl⟩
set_option maxRecDepth 100000 in
theorem Dig.store {w : World} {g : Nat} {d d' : List UInt8} (h : Dig w g d) (hl : d.length = 32) (hl' : d'.length = 32) :
    ∃ w', (storeVar 58 ⟨g, 0, none⟩ (.agg (secA d'))).run Tryd.prog w = .ok () w' ∧ Dig w' g d' ∧ w.grownBy w' (some g) := by
  have hr := run_storeCells_at Tryd.prog g 0 58 (d'.map u8v) 0 (secA d) w h (by rw [secA_size, List.length_map]; omega) one_byte
  have e0 : ((secA d).toList.take (0 + 0) ++ d'.map u8v ++ (secA d).toList.drop (0 + (d'.map u8v).length + 0)) = d'.map u8v := by
    rw [List.take_zero, List.nil_append, List.drop_of_length_le (by simp [secA, hl, hl']), List.append_nil]
  refine ⟨w.setRow g (secA d'), ?_, setRow_heap w g _ _ _ _ h, setRow_grown _ _ _⟩
  obtain ⟨⟨i0, h2, _, h3⟩, h4⟩ := dig_type
  have e : (Value.agg (secA d')).cells.toList = d'.map u8v := by simp [Value.cells, secA]
  have e2 : (Value.agg (secA d')).cells.size = 32 := by simp [Value.cells, secA, hl']
  simp [storeVar, sizeOf, typeInfo, h2, h3, e, e2]
  rw [hr]
  congr 2
  have e5 : (secA d').toList = d'.map u8v := by simp [secA]
  apply Array.toList_inj.1
  rw [e5]
  simpa using e0
/-- what the loops of Sum hold -/
structure SumI (C h : List Nat) (g2 g3 : Nat) (w v : World) : Prop where
  wh : Wrd 88 v g3 h
  r : Dig v g2 z32
  kon : Kon C v
  below : Below w.heap.size w v
  ne : g2 ≠ g3 ∧ w.heap.size ≤ g2 ∧ w.heap.size ≤ g3 ∧ 0 < w.heap.size
  len : h.length = 8
theorem SumI.kept {C h : List Nat} {g2 g3 : Nat} {w v v' : World} (I : SumI C h g2 g3 w v) (hb : Below v.heap.size v v') : SumI C h g2 g3 w v' :=
  ⟨I.wh.kept hb, Box.kept I.r hb, I.kon.kept hb, I.below.trans (hb.mono I.below.size), I.ne, I.len⟩
theorem SumI.below_ {B : Nat} {C h : List Nat} {g2 g3 : Nat} {w v v' : World} (I : SumI C h g2 g3 w v) (hb : Below B v v') (h2 : g2 < B) (h3 : g3 < B) : SumI C h g2 g3 w v' :=
  ⟨⟨I.wh.1.below hb h3, I.wh.2⟩, Box.below I.r hb h2, I.kon.below hb (by omega), I.below.trans (hb.mono (by have := I.ne; omega)), I.ne, I.len⟩
theorem SumI.store {C h h' : List Nat} {g2 g3 : Nat} {w v : World} (I : SumI C h g2 g3 w v) (hl : h'.length = 8) (hlt : ∀ k, h'.getD k 0 < 4294967296) :
    ∃ v', (storeVar 88 ⟨g3, 0, none⟩ (.agg (u32A h'))).run Tryd.prog v = .ok () v' ∧ SumI C h' g2 g3 w v' ∧ v.grownBy v' (some g3) := by
  obtain ⟨v', hr, hS, hg⟩ := Wrd.store u32t8 I.wh I.len hl hlt
  obtain ⟨n1, n2, n3, n4⟩ := I.ne
  have hb : Below w.heap.size v v' := below_of_grown hg n3 I.below.size
  exact ⟨v', hr, ⟨hS, Box.grown I.r hg (fun e => by injection e with e; omega), I.kon.below hb n4, I.below.trans hb, I.ne, hl⟩, hg⟩
set_option maxHeartbeats 1600000 in
set_option maxRecDepth 100000 in
theorem sum_any {C : List Nat} {b off c : Nat} {bs : List UInt8} {w : World} (hK : Kon C w) (hb : Bys w (some ⟨b, off, none⟩) bs) (hl : 0 < bs.length) (hm : bs.length ≤ 400000) :
    Calls Tryd.prog 33 #[.slice (some ⟨b, off, none⟩) bs.length c] w (fun en w' => en = .returned (.agg (secA (shaF C bs))) ∧ Below w.heap.size w w') := by
  have h0 := hK.some_
  obtain ⟨w1, hw1⟩ : ∃ w1, w1 = w.alloc (.cells (secA z32) 58) := ⟨_, rfl⟩
  have hs1 : w1.heap.size = w.heap.size + 1 := by rw [hw1]; simp
  obtain ⟨w2, hw2⟩ : ∃ w2, w2 = w1.alloc (.cells (u32A (List.replicate 8 0)) 88) := ⟨_, rfl⟩
  have hs2 : w2.heap.size = w.heap.size + 1 + 1 := by rw [hw2]; simp [hs1]
  have HA1 : Hid (∀ {o : Oper} {a : Act}, o.op = .alloc 58 → Gives o a w (.pointer (some ⟨w.heap.size, 0, none⟩)) w1) := fun ho => by rw [hw1]; exact gives_alloc_dig ho
  have HA2 : Hid (∀ {o : Oper} {a : Act}, o.op = .alloc 88 → Gives o a w1 (.pointer (some ⟨w.heap.size + 1, 0, none⟩)) w2) := fun ho => by rw [hw2, ← hs1]; exact gives_alloc_u32 u32t8 ho
  have hB2 : Below w.heap.size w w2 := by rw [hw2, hw1]; exact ((Below.refl _ _).alloc (Nat.le_refl _) _).alloc (by simp) _
  have hI2 : SumI C (List.replicate 8 0) w.heap.size (w.heap.size + 1) w w2 :=
    ⟨⟨by rw [hw2, ← hs1]; exact Box.new _ _ _, z_lt 8⟩, by unfold Dig; rw [hw2, hw1]; exact (Box.new _ _ _).alloc _, hK.below hB2 h0, hB2, by omega, rfl⟩
  obtain ⟨w3, hr3, hI3, hg3⟩ := hI2.store H0_length H0_lt
  have HR3 := hide hr3
  have HI3 := hide hI3
  have hs3 : w.heap.size + 1 + 1 ≤ w3.heap.size := by have := hg3.size; omega
  have HBU := hide built_H0
  have HP := hide (padded_any b off c bs w3 (hb.below hI3.below) hl hm)
  obtain ⟨P, hP⟩ : ∃ P, P = padL bs := ⟨_, rfl⟩
  have hpl := padL_length bs
  have HSH : Hid (shaF C bs = outB (hashS C P (P.length / 64)) 8) := by rw [Hid, hP]; rfl
  rw [← hP] at HP hpl
  obtain ⟨K, hKL⟩ : ∃ K, P.length = K * 64 := ⟨P.length / 64, by omega⟩
  have HKL := hide hKL
  have HPL := hide hpl
  clear hw1 hw2 hs1 hs2 hB2 hI2 hr3 hI3 hg3 hb hK hP hKL hpl
  go_enter Tryd.func33, Tryd.ntmps33
  go_wp2_with (first | ((with_reducible refine wpList_gives (o := ⟨some 2, _, _, _, _, _⟩) (v := .pointer (some ⟨w.heap.size, 0, none⟩)) (w' := w1) ?_ ?_ ?_); rfl; exact HA1.out rfl) | ((with_reducible refine wpList_gives (o := ⟨some 8, _, _, _, _, _⟩) (v := .agg (u32A H0)) (w' := w1) ?_ ?_ ?_); rfl; exact gives_build (vs := #[(0, .int .u32 1779033703), (1, .int .u32 3144134277), (2, .int .u32 1013904242), (3, .int .u32 2773480762), (4, .int .u32 1359893119), (5, .int .u32 2600822924), (6, .int .u32 528734635), (7, .int .u32 1541459225)]) rfl rfl HBU.out) | ((with_reducible refine wpList_gives (o := ⟨some 3, _, _, _, _, _⟩) (v := .pointer (some ⟨w.heap.size + 1, 0, none⟩)) (w' := w2) ?_ ?_ ?_); rfl; exact HA2.out rfl) | ((with_reducible refine wpList_does (o := ⟨none, .store 88 _ _, _, _, _, _⟩) (w' := w3) ?_ ?_ ?_); rfl; exact does_store rfl rfl rfl HR3.out))
  refine HP.out.mono ?_
  rintro en w4 ⟨A4, c4, rfl, hO4, hB4⟩
  have HI4 := hide (HI3.out.kept hB4)
  have HY4 : Hid (Bys w4 A4 P ∧ ∀ b off, A4 = some ⟨b, off, none⟩ → w.heap.size + 1 < b) := ⟨hO4.bys, fun b off e => by
    have := hO4.lo b (by rw [e]; rfl)
    omega⟩
  have hcap4 : P.length ≤ c4 := by
    obtain ⟨A, c, e, h⟩ := hO4.form
    injection e with e1 e2 e3
    omega
  rw [HKL.out] at hcap4 ⊢
  clear hO4 hB4 HP HA1 HA2 HR3 HI3 HBU
  go_wp2_with fail
  go_loopw [4] (fun v wr => ∃ k : Nat, k ≤ K ∧ ∃ A c, v = .slice A ((K - k) * 64) c ∧ (K - k) * 64 ≤ c ∧ Hid (Bys wr A (P.drop (k * 64)) ∧ ∀ b off, A = some ⟨b, off, none⟩ → w.heap.size + 1 < b) ∧ Hid (SumI C (hashS C P k) w.heap.size (w.heap.size + 1) w wr)) (fun v _ => (match v with | .slice _ n _ => n | _ => 0))
  case atStart => exact ⟨0, by omega, A4, c4, by simp, by omega, by simpa using HY4, HI4⟩
  case round =>
    clear HI4 HY4
    obtain ⟨k, hk, A, c, rfl, hc, HY, HI⟩ := hrel
    by_cases hlt : k < K
    · obtain ⟨n, hn⟩ : ∃ n, n = (K - k) * 64 := ⟨_, rfl⟩
      have hn2 : (K - (k + 1)) * 64 = n - 64 := by omega
      have hnp : 64 ≤ n := by omega
      have hPl : (P.drop (k * 64)).length = n := by rw [List.length_drop, HKL.out]; omega
      have hPm : n ≤ 400100 := by have := HPL.out; have := HKL.out; omega
      have HPLd := hide hPl
      rw [← hn] at hc ⊢
      obtain ⟨b1, o1, hA, hb1, hc1⟩ := HY.out.1 (by omega)
      obtain rfl := hA
      have hb1g := HY.out.2 b1 o1 rfl
      have I := HI.out
      have HLd := hide (I.wh.load u32t8 I.len)
      have hmx := mix_any (h := hashS C P k) (b := b1) (off := o1) (c := c) (bs := P.drop (k * 64)) (w := wr) I.kon I.len I.wh.2 HY.out.1 (by omega) (by omega)
      rw [hPl] at hmx
      have HMX := hide hmx
      have hll : (mixF C (hashS C P k) (P.drop (k * 64))) = hashS C P (k + 1) := rfl
      have HLL := hide hll
      obtain ⟨sA, hsA⟩ : ∃ sA, sA = u32A (hashS C P k) := ⟨_, rfl⟩
      rw [← hsA] at HLd HMX
      have HN2 := hide hn2
      clear hc1 I hmx hll hsA hPl hn hn2
      go_wp2_with ((with_reducible refine wpList_gives (o := ⟨some 16, _, _, _, _, _⟩) (v := Value.agg sA) (w' := wr) ?_ ?_ ?_); rfl; exact gives_load rfl rfl HLd.out)
      refine HMX.out.mono ?_
      rintro en w5 ⟨rfl, hB5⟩
      rw [HLL.out]
      obtain ⟨w6, hr6, hI6, hg6⟩ := (HI.out.kept hB5).store (hashS_length C P (k + 1)) (hashS_lt C P (k + 1))
      have HR6 := hide hr6
      have HI6 := hide hI6
      have hY6 : Bys w6 (some ⟨b1, o1, none⟩) (P.drop (k * 64)) := (HY.out.1.below hB5).grown hg6 (fun b off e => by injection e with e; injection e with e1 e2 e3; omega)
      have HY6 := hide hY6
      obtain ⟨sB, hsB⟩ : ∃ sB, sB = u32A (hashS C P (k + 1)) := ⟨_, rfl⟩
      rw [← hsB] at HR6 ⊢
      clear hr6 hI6 hg6 hY6 hsB hB5
      go_upto_region 4 with ((with_reducible refine wpList_does (o := ⟨none, .store 88 _ _, _, _, _, _⟩) (w' := w6) ?_ ?_ ?_); rfl; exact does_store rfl rfl rfl HR6.out)
      by_cases hc64 : c = 64
      · have hn64 : n = 64 := by omega
        subst hc64
        subst hn64
        have HYE : Hid (Bys w6 (some ⟨b1, o1, none⟩) (P.drop ((k + 1) * 64)) ∧ ∀ b off, some (⟨b1, o1, none⟩ : Addr) = some ⟨b, off, none⟩ → w.heap.size + 1 < b) := by
          refine ⟨fun hp => ?_, fun b off e => by injection e with e; injection e with e1 e2 e3; omega⟩
          have h1 := HPLd.out
          rw [List.length_drop] at hp h1
          omega
        go_wp2_with fail
        go_roundw
        case rel => exact ⟨k + 1, by omega, some ⟨b1, o1, none⟩, 0, by rw [HN2.out], by rw [HN2.out]; omega, HYE, HI6⟩
        case measure => simp
      · have hc65 : 64 < c := by omega
        have HYE : Hid (Bys w6 (some ⟨b1, o1 + 64, none⟩) (P.drop ((k + 1) * 64)) ∧ ∀ b off, some (⟨b1, o1 + 64, none⟩ : Addr) = some ⟨b, off, none⟩ → w.heap.size + 1 < b) := by
          refine ⟨fun hp => ?_, fun b off e => by injection e with e; injection e with e1 e2 e3; omega⟩
          obtain ⟨b', o', e, hb', hc'⟩ := HY6.out (by have := HPLd.out; omega)
          injection e with e
          injection e with e1 e2 e3
          subst e1
          subst e2
          refine ⟨b1, o1 + 64, rfl, hb', fun j hj => ?_⟩
          have h1 := HPLd.out
          rw [List.length_drop] at hj h1
          have h2 := hc' (64 + j) (by rw [List.length_drop]; omega)
          have e3 : o1 + 64 + j = o1 + (64 + j) := by omega
          rw [e3, h2]
          simp only [List.getD_eq_getElem?_getD, List.getElem?_drop]
          congr 4
          omega
        go_wp2_with fail
        go_roundw
        case rel => exact ⟨k + 1, by omega, some ⟨b1, o1 + 64, none⟩, c - 64, by rw [HN2.out], by rw [HN2.out]; omega, HYE, HI6⟩
        case measure => simp; omega
    · obtain rfl : k = K := by omega
      have I := HI.out
      obtain ⟨l, hl2⟩ : ∃ l, l = hashS C P k := ⟨_, rfl⟩
      have HSH2 : Hid (shaF C bs = outB l 8) := by
        rw [Hid, HSH.out, hl2, HKL.out, show k * 64 / 64 = k by omega]
      rw [← hl2] at I
      have HI2 := hide I
      have HLd := hide (I.wh.load u32t8 I.len)
      clear HI HY hl2 I
      rw [show (k - k) * 64 = 0 by omega]
      go_upto_region 8 with ((with_reducible refine wpList_gives (o := ⟨some 19, _, _, _, _, _⟩) (v := Value.agg (u32A l)) (w' := wr) ?_ ?_ ?_); rfl; exact gives_load rfl rfl HLd.out)
      go_loopw [5, 20] (fun v i wr => ∃ j : Nat, j ≤ 8 ∧ i = .int .i64 j ∧ ∃ A c, v = .slice A (j * 4) c ∧ Hid (OwnBy (w.heap.size + 1 + 1) wr (.slice A (j * 4) c) (outB l j)) ∧ Hid (SumI C l w.heap.size (w.heap.size + 1) w wr)) (fun _ i _ => 8 - (iOf i).toNat)
      case atStart => exact ⟨0, by omega, rfl, none, 0, rfl, OwnBy.nil _ _, HI2⟩
      case round =>
        clear HI2 HLd
        obtain ⟨j, hj, rfl, A, c, rfl, HO, HI⟩ := hrel
        have hol := outB_length l j
        by_cases hlt8 : j < 8
        · have hx := HI.out.wh.2 j
          have hlen := HI.out.len
          have HJ : Hid (∀ {o : Oper} {a : Act} {x i : Operand}, o.op = .index 88 x i → a.eval x = .agg (u32A l) → a.eval i = .int .i64 (j : Int) → Gives o a wr (.int .u32 (l.getD j 0 : Nat)) wr) := fun ho hx hi => gives_index_u32 ho hx hi hlen hlt8
          have hnum := number_any (B := w.heap.size + 1 + 1) (w := wr) (A := A) (c := c) (bs := outB l j) (by rw [hol]; exact HO.out) (by
            have h1 := HO.out
            have h2 := HI.out.wh.1.lt
            omega) (by omega) (l.getD j 0) (by omega) 4 (by omega)
          rw [hol] at hnum
          have hob : outB l j ++ beB (l.getD j 0) 4 = outB l (j + 1) := rfl
          rw [hob] at hnum
          generalize l.getD j 0 = x at hx HJ hnum
          have HN := hide hnum
          have ewx : IntKind.u64.wrap (x : Int) = (x : Int) := by
            rw [show IntKind.u64.wrap (x : Int) = (x : Int) % 18446744073709551616 from rfl]
            omega
          clear hlen hnum hob
          go_wp2_with ((with_reducible refine wpList_gives (o := ⟨some 22, _, _, _, _, _⟩) (v := .int .u32 (x : Int)) (w' := wr) ?_ ?_ ?_); rfl; exact HJ.out rfl rfl rfl)
          refine HN.out.mono ?_
          rintro en w5 ⟨A5, c5, rfl, hO5, hB5⟩
          have hol2 := outB_length l (j + 1)
          rw [hol2] at hO5 ⊢
          have HO5 := hide hO5
          have HI5 := hide (HI.out.below_ hB5 (by omega) (by omega))
          clear hO5 hB5 hol hol2
          go_wp2_with fail
          go_roundw
          case rel => exact ⟨j + 1, by omega, by go_num, A5, c5, rfl, HO5, HI5⟩
          case measure => simp [iOf]; omega
        · obtain rfl : j = 8 := by omega
          have hO := HO.out
          obtain ⟨g, cap, hv, hgB, hRow, hcap⟩ := own_row (n := 32) (bs := outB l 8) hO (by omega)
          injection hv with e1 e2 e3
          subst e1
          have HLd := hide (load_dig hRow.bys (outB_length l 8))
          obtain ⟨w9, hr9, hS9, hg9⟩ := Dig.store (d' := outB l 8) HI.out.r (List.length_replicate ..) (outB_length l 8)
          have HR9 := hide hr9
          have HL9 := hide (load_dig hS9.bys (outB_length l 8))
          have HB9 := hide (HI.out.below.grown hg9 HI.out.below.size (fun k hk => by injection hk with hk; omega))
          clear hO hRow hr9 hS9 hg9 hol
          have HSA : Hid (secA (shaF C bs) = secA (outB l 8)) := congrArg secA HSH2.out
          generalize secA (outB l 8) = sD at *
          rw [show 8 * 4 = 32 from rfl]
          go_upto_region 12 with fail
          go_wp2_with (first | ((with_reducible refine wpList_gives (o := ⟨some 29, _, _, _, _, _⟩) (v := .pointer (some ⟨g, 0, none⟩)) (w' := wr) ?_ ?_ ?_); rfl; exact gives_arrayAt rfl rfl) | ((with_reducible refine wpList_gives (o := ⟨some 30, _, _, _, _, _⟩) (v := Value.agg sD) (w' := wr) ?_ ?_ ?_); rfl; exact gives_load rfl rfl HLd.out) | ((with_reducible refine wpList_does (o := ⟨none, .store 58 _ _, _, _, _, _⟩) (w' := w9) ?_ ?_ ?_); rfl; exact does_store rfl rfl rfl HR9.out))
          refine bodyPost_ret (v := .agg sD) (results_cell rfl rfl HL9.out) rfl ⟨?_, HB9.out⟩
          rw [HSA.out]
end Go.Proofs.YtlelkhonkhlflaaDoor
