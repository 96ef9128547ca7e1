/-
  digest.schedule.
-/
import Derived.Test.YtlelkhonkhlflaaDoorPadded
import Derived.BigQuiet
import Derived.Deep.DeepCutAuto
namespace Go.Proofs.YtlelkhonkhlflaaDoor
open Go.RowKit
set_option linter.unusedVariables false
set_option linter.unusedSimpArgs false

def u32v (x : Nat) : Value := .int .u32 (x : Int)
def u32A (l : List Nat) : Array Value := (l.map u32v).toArray
/-- block g is just these words -/
def Wrd (t : TypeId) (w : World) (g : Nat) (l : List Nat) : Prop := Box w g t (u32A l) ∧ ∀ k, l.getD k 0 < 4294967296
section
variable {t : TypeId} {w w' : World} {g : Nat} {l : List Nat}
theorem Wrd.cell (h : Wrd t w g l) {k : Nat} (hk : k < l.length) : w.cell? ⟨g, k, none⟩ = some (.int .u32 (l.getD k 0 : Nat)) := by
  rw [h.1.cell k, u32A, List.getElem?_toArray, List.getElem?_map, List.getElem?_eq_getElem hk, List.getD_eq_getElem?_getD, List.getElem?_eq_getElem hk]
  rfl
theorem Wrd.set (h : Wrd t w g l) {k : Nat} (hk : k < l.length) {x : Nat} (hx : x < 4294967296) : Wrd t (w.setCell ⟨g, k, none⟩ (.int .u32 (x : Int))) g (l.set k x) := by
  refine ⟨?_, fun j => ?_⟩
  · have e : u32A (l.set k x) = (u32A l).setIfInBounds k (u32v x) := by
      unfold u32A
      rw [List.setIfInBounds_toArray, List.map_set]
    rw [e]
    exact h.1.set k _
  · by_cases e : j = k
    · subst e
      rw [List.getD_eq_getElem?_getD, List.getElem?_set_self hk]
      exact hx
    · rw [List.getD_eq_getElem?_getD, List.getElem?_set_ne (fun e' => e e'.symm), ← List.getD_eq_getElem?_getD]
      exact h.2 j
theorem Wrd.kept (h : Wrd t w g l) (hb : Below w.heap.size w w') : Wrd t w' g l := ⟨h.1.kept hb, h.2⟩
end
theorem results_cell {fn : Func} {p : Tmp} {ty : TypeId} {tmps : Array Value} {w : World} {a : Addr} {v : Value} (h : fn.results = #[.cell p ty]) (hp : tmps.getD p undef = .pointer (some a))
    (hl : (loadVar ty a).run Tryd.prog w = .ok v w) : (results fn tmps).run Tryd.prog w = .ok v w := by
  have hp' : tmps[p]?.getD undef = .pointer (some a) := by simpa using hp
  simp [results, h, hp', asAddr, hl]
/-- an array of n words -/
def U32T (t : TypeId) (n : Nat) : Prop := (∃ i0, Tryd.prog.info? t = some i0 ∧ i0.zero = some (.agg (u32A (List.replicate n 0))) ∧ i0.size = n) ∧ ∀ w : World, (isAgg t).run Tryd.prog w = .ok true w
theorem u32t64 : U32T 98 64 := by
  refine ⟨?_, fun w => ?_⟩
  · have h : (Tryd.prog.info? 98).map (fun i => (i.zero, i.size)) = some (some (.agg (u32A (List.replicate 64 0))), 64) := by kernel_rfl
    obtain ⟨i0, h1, h2⟩ := Option.map_eq_some_iff.1 h
    injection h2 with h2 h3
    exact ⟨i0, h1, h2, h3⟩
  · unfold isAgg
    rw [Sem.run_bind, run_underlying Tryd.underlying98 w]
    rfl
theorem u32t8 : U32T 88 8 := by
  refine ⟨?_, fun w => ?_⟩
  · have h : (Tryd.prog.info? 88).map (fun i => (i.zero, i.size)) = some (some (.agg (u32A (List.replicate 8 0))), 8) := by kernel_rfl
    obtain ⟨i0, h1, h2⟩ := Option.map_eq_some_iff.1 h
    injection h2 with h2 h3
    exact ⟨i0, h1, h2, h3⟩
  · unfold isAgg
    rw [Sem.run_bind, run_underlying Tryd.underlying88 w]
    rfl
theorem gives_alloc_u32 {t : TypeId} {n : Nat} {o : Oper} {a : Act} {w : World} (hT : U32T t n) (ho : o.op = .alloc t) : Gives o a w (.pointer (some ⟨w.heap.size, 0, none⟩)) (w.alloc (.cells (u32A (List.replicate n 0)) t)) := by
  obtain ⟨⟨i0, h1, h2, h3⟩, _⟩ := hT
  unfold Gives execOp
  simp [ho, Instr.alloc, zeroValue, typeInfo, h1, h2, newVar, newRow, Value.cells]
theorem u32A_list (l : List Nat) : (u32A l).toList = l.map u32v := by simp [u32A]
theorem u32A_size (l : List Nat) : (u32A l).size = l.length := by simp [u32A]
theorem one_word {l : List Nat} : ∀ v ∈ l.map u32v, v.oneCell' = true := by
  intro v hv
  rw [List.mem_map] at hv
  obtain ⟨x, _, rfl⟩ := hv
  rfl
theorem Wrd.load {t : TypeId} {n : Nat} {w : World} {g : Nat} {l : List Nat} (hT : U32T t n) (h : Wrd t w g l) (hl : l.length = n) : (loadVar t ⟨g, 0, none⟩).run Tryd.prog w = .ok (.agg (u32A l)) w := by
  have hc : ∀ j v, (l.map u32v)[j]? = some v → w.cell? ((⟨g, 0, none⟩ : Addr).add j) = some v := fun j v hv => by
    rw [List.getElem?_map, Option.map_eq_some_iff] at hv
    obtain ⟨x, hx, rfl⟩ := hv
    have hj : j < l.length := (List.getElem?_eq_some_iff.1 hx).1
    rw [add_off, Nat.zero_add, h.cell hj, List.getD_eq_getElem?_getD, hx]
    rfl
  have h1 := run_loadCells_list (P := Tryd.prog) w ⟨g, 0, none⟩ _ hc
  rw [List.length_map, hl] at h1
  obtain ⟨⟨i0, h2, _, h3⟩, h4⟩ := hT
  have h5 : (loadCells ⟨g, 0, none⟩ n).run Tryd.prog w = .ok (u32A l) w := h1
  simp [loadVar, Sem.run_bind, h4, sizeOf, typeInfo, h2, h3, h5]
set_option maxRecDepth 100000 in
theorem Wrd.store {t : TypeId} {n : Nat} {w : World} {g : Nat} {l l' : List Nat} (hT : U32T t n) (h : Wrd t w g l) (hl : l.length = n) (hl' : l'.length = n) (hlt : ∀ k, l'.getD k 0 < 4294967296) :
    ∃ w', (storeVar t ⟨g, 0, none⟩ (.agg (u32A l'))).run Tryd.prog w = .ok () w' ∧ Wrd t w' g l' ∧ w.grownBy w' (some g) := by
  have hr := run_storeCells_at Tryd.prog g 0 t (l'.map u32v) 0 (u32A l) w h.1 (by rw [u32A_size, List.length_map]; omega) one_word
  have e0 : ((u32A l).toList.take (0 + 0) ++ l'.map u32v ++ (u32A l).toList.drop (0 + (l'.map u32v).length + 0)) = l'.map u32v := by
    rw [List.take_zero, List.nil_append, List.drop_of_length_le (by rw [u32A_list, List.length_map, List.length_map]; omega), List.append_nil]
  refine ⟨w.setRow g (u32A l'), ?_, ⟨setRow_heap w g _ _ _ _ h.1, hlt⟩, setRow_grown _ _ _⟩
  obtain ⟨⟨i0, h2, _, h3⟩, h4⟩ := hT
  have e : (Value.agg (u32A l')).cells.toList = l'.map u32v := by simp [Value.cells, u32A]
  have e2 : (Value.agg (u32A l')).cells.size = n := by simp [Value.cells, u32A, hl']
  simp [storeVar, sizeOf, typeInfo, h2, h3, e, e2]
  rw [hr]
  congr 2
  have e5 : (u32A l').toList = l'.map u32v := u32A_list l'
  apply Array.toList_inj.1
  rw [e5]
  simpa using e0
theorem bys_cell {w : World} {b off : Nat} {bs : List UInt8} (h : Bys w (some ⟨b, off, none⟩) bs) {k : Nat} (hk : k < bs.length) : w.cell? ⟨b, off + k, none⟩ = some (.int .u8 ((bs.getD k 0).toNat : Nat)) := by
  obtain ⟨b', off', e, hlt, hc⟩ := h (by omega)
  injection e with e
  injection e with e1 e2 _
  rw [e1, e2]
  exact hc k hk
def z64 : List Nat := List.replicate 64 0
theorem z_lt (n k : Nat) : (List.replicate n 0).getD k 0 < 4294967296 := by
  rw [List.getD_eq_getElem?_getD, List.getElem?_replicate]
  split <;> simp

def orN (a b : Int) : Nat := (bits .or .u32 a b).toNat
theorem orN_eq (a b : Int) : bits .or .u32 a b = (orN a b : Int) := by have := or_u32 a b; unfold orN; omega
theorem orN_lt (a b : Int) : orN a b < 4294967296 := by have := or_u32 a b; unfold orN; omega
/-- the words behind k bytes -/
def sch1 (bs : List UInt8) : Nat → List Nat
  | 0 => z64
  | k + 1 => (sch1 bs k).set (k / 4) (orN (((sch1 bs k).getD (k / 4) 0 : Nat) * 256 % 4294967296) ((bs.getD k 0).toNat : Nat))
theorem sch1_length (bs : List UInt8) : ∀ k, (sch1 bs k).length = 64
  | 0 => List.length_replicate ..
  | k + 1 => by rw [sch1, List.length_set]; exact sch1_length bs k

def sig0 (x : Int) : Int := bits .xor .u32 (bits .xor .u32 (rotV x 25) (rotV x 14)) (x / 8)
def sig1 (x : Int) : Int := bits .xor .u32 (bits .xor .u32 (rotV x 15) (rotV x 13)) (x / 1024)
/-- the word in the place k -/
def schW (l : List Nat) (k : Nat) : Nat := (IntKind.u32.wrap (IntKind.u32.wrap (IntKind.u32.wrap ((l.getD (k - 16) 0 : Nat) + sig0 (l.getD (k - 15) 0 : Nat)) + (l.getD (k - 7) 0 : Nat)) + sig1 (l.getD (k - 2) 0 : Nat))).toNat
theorem wrap32_lt (x : Int) : 0 ≤ IntKind.u32.wrap x ∧ IntKind.u32.wrap x < 4294967296 := by
  rw [show IntKind.u32.wrap x = x % 4294967296 from rfl]
  omega
theorem schW_lt (l : List Nat) (k : Nat) : schW l k < 4294967296 := by
  have h := wrap32_lt (IntKind.u32.wrap (IntKind.u32.wrap ((l.getD (k - 16) 0 : Nat) + sig0 (l.getD (k - 15) 0 : Nat)) + (l.getD (k - 7) 0 : Nat)) + sig1 (l.getD (k - 2) 0 : Nat))
  unfold schW
  omega
def sch2 (l : List Nat) : Nat → List Nat
  | 0 => l
  | k + 1 => (sch2 l k).set (k + 16) (schW (sch2 l k) (k + 16))
theorem sch2_length (l : List Nat) : ∀ k, (sch2 l k).length = l.length
  | 0 => rfl
  | k + 1 => by rw [sch2, List.length_set]; exact sch2_length l k
/-- the words of a block -/
def sched (bs : List UInt8) : List Nat := sch2 (sch1 bs 64) 48
theorem sched_length (bs : List UInt8) : (sched bs).length = 64 := by
  unfold sched
  rw [sch2_length]
  exact sch1_length bs 64
theorem set_lt {l : List Nat} {i v k : Nat} (h : ∀ k, l.getD k 0 < 4294967296) (hv : v < 4294967296) : (l.set i v).getD k 0 < 4294967296 := by
  by_cases e : k = i
  · subst e
    by_cases hk : k < l.length
    · rw [List.getD_eq_getElem?_getD, List.getElem?_set_self hk]
      exact hv
    · rw [List.getD_eq_getElem?_getD, List.getElem?_eq_none (by rw [List.length_set]; omega)]
      exact Nat.zero_lt_succ _
  · rw [List.getD_eq_getElem?_getD, List.getElem?_set_ne (fun e' => e e'.symm), ← List.getD_eq_getElem?_getD]
    exact h k
theorem sch2_lt (l : List Nat) (h : ∀ k, l.getD k 0 < 4294967296) : ∀ n k, (sch2 l n).getD k 0 < 4294967296
  | 0, k => h k
  | n + 1, k => set_lt (sch2_lt l h n) (schW_lt _ _)
theorem sch1_lt (bs : List UInt8) : ∀ n k, (sch1 bs n).getD k 0 < 4294967296
  | 0, k => z_lt 64 k
  | n + 1, k => set_lt (sch1_lt bs n) (orN_lt _ _)
theorem sched_lt (bs : List UInt8) (k : Nat) : (sched bs).getD k 0 < 4294967296 := sch2_lt _ (sch1_lt bs 64) 48 k
set_option maxHeartbeats 1600000 in
set_option maxRecDepth 100000 in
theorem sched_any (b off c : Nat) (bs : List UInt8) (w : World) (hb : Bys w (some ⟨b, off, none⟩) bs) (hl : 64 ≤ bs.length) (hm : bs.length ≤ 400100) :
    Calls Tryd.prog 54 #[.slice (some ⟨b, off, none⟩) bs.length c] w (fun en w' => en = .returned (.agg (u32A (sched bs))) ∧ Below w.heap.size w w') := by
  have HBY := hide hb
  clear hb
  go_enter Tryd.func54, Tryd.ntmps54
  obtain ⟨w0, hw0⟩ : ∃ w0, w0 = (w.alloc (.cells (u32A z64) 98)).alloc (.cells (u32A z64) 98) := ⟨_, rfl⟩
  have HB0 : Hid (Below w.heap.size w w0) := by rw [hw0]; exact ((Below.refl _ _).alloc (Nat.le_refl _) _).alloc (by simp) _
  have HG0 : Hid (Wrd 98 w0 (w.heap.size + 1) z64) := by
    refine ⟨?_, z_lt 64⟩
    have h := Box.new (w.alloc (.cells (u32A z64) 98)) 98 (u32A z64)
    rw [World.size_alloc, ← hw0] at h
    exact h
  have HR0 : Hid (Box w0 w.heap.size 98 (u32A z64)) := by rw [hw0]; exact (Box.new _ _ _).alloc _
  obtain ⟨w1, hw1⟩ : ∃ w1, w1 = w.alloc (.cells (u32A z64) 98) := ⟨_, rfl⟩
  have hs1 : w1.heap.size = w.heap.size + 1 := by rw [hw1]; simp
  rw [← hw1] at hw0
  have HA1 : Hid (∀ {o : Oper} {a : Act}, o.op = .alloc 98 → Gives o a w (.pointer (some ⟨w.heap.size, 0, none⟩)) w1) := fun ho => by rw [hw1]; exact gives_alloc_u32 u32t64 ho
  have HA2 : Hid (∀ {o : Oper} {a : Act}, o.op = .alloc 98 → Gives o a w1 (.pointer (some ⟨w.heap.size + 1, 0, none⟩)) w0) := fun ho => by rw [hw0, ← hs1]; exact gives_alloc_u32 u32t64 ho
  clear hw0 hw1 hs1
  go_wp2_with (first | ((with_reducible refine wpList_gives (o := ⟨some 2, _, _, _, _, _⟩) (v := .pointer (some ⟨w.heap.size, 0, none⟩)) (w' := w1) ?_ ?_ ?_); rfl; exact HA1.out rfl) | ((with_reducible refine wpList_gives (o := ⟨some 3, _, _, _, _, _⟩) (v := .pointer (some ⟨w.heap.size + 1, 0, none⟩)) (w' := w0) ?_ ?_ ?_); rfl; exact HA2.out rfl))
  go_loopw [8] (fun i wr => ∃ k : Nat, k ≤ 64 ∧ i = .int .i64 k ∧ Hid (Wrd 98 wr (w.heap.size + 1) (sch1 bs k)) ∧ Hid (Box wr w.heap.size 98 (u32A z64)) ∧ Hid (Below w.heap.size w wr)) (fun i _ => 64 - (iOf i).toNat)
  case atStart => exact ⟨0, by omega, rfl, HG0, HR0, HB0⟩
  case round =>
    obtain ⟨k, hk, rfl, HG, HRs, HB⟩ := hrel
    have hll := sch1_length bs k
    have hsr := HB.out.size
    by_cases hlt : k < 64
    · have e4 : (k : Int).tdiv 4 = ((k / 4 : Nat) : Int) := by rw [Int.tdiv_eq_ediv_of_nonneg (by omega)]; omega
      have q1 := HG.out.cell (k := k / 4) (by omega)
      have hx := HG.out.2 (k / 4)
      have q2 := bys_cell (HBY.out.below HB.out) (k := k) (by omega)
      have hb2 : (bs.getD k 0).toNat < 256 := (bs.getD k 0).toNat_lt
      have hf := HG.out.1.frozen (k / 4)
      have HST : Hid (sch1 bs (k + 1) = (sch1 bs k).set (k / 4) (orN (((sch1 bs k).getD (k / 4) 0 : Nat) * 256 % 4294967296) ((bs.getD k 0).toNat : Nat))) := rfl
      have HLL := hide hll
      clear hll
      generalize hX : (sch1 bs k).getD (k / 4) 0 = x at *
      generalize hY : (bs.getD k 0).toNat = y at *
      obtain ⟨j, hj⟩ : ∃ j, j = k / 4 := ⟨_, rfl⟩
      rw [← hj] at e4 q1 hf hX HST
      have HS : Hid (Wrd 98 (wr.setCell ⟨w.heap.size + 1, j, none⟩ (.int .u32 (bits .or .u32 ((x : Int) * 256 % 4294967296) (y : Int)))) (w.heap.size + 1) (sch1 bs (k + 1))) := by
        rw [HST.out, orN_eq]
        exact HG.out.set (by rw [HLL.out]; omega) (orN_lt _ _)
      have HRs' : Hid (Box (wr.setCell ⟨w.heap.size + 1, j, none⟩ (.int .u32 (bits .or .u32 ((x : Int) * 256 % 4294967296) (y : Int)))) w.heap.size 98 (u32A z64)) := HRs.out.far (by show w.heap.size ≠ w.heap.size + 1; omega) _
      have HB' : Hid (Below w.heap.size w (wr.setCell ⟨w.heap.size + 1, j, none⟩ (.int .u32 (bits .or .u32 ((x : Int) * 256 % 4294967296) (y : Int))))) := HB.out.setCell (by show w.heap.size ≤ w.heap.size + 1; omega) _
      have hj64 : j < 64 := by omega
      have hj64' : (j : Int) < 64 := by omega
      have hkb : k < bs.length := by omega
      have ew : IntKind.i64.wrap (j : Int) = (j : Int) := IntWalk.i64_in _ (by omega)
      clear hj
      go_upto_region 5 with fail
      refine wp_region_still_tail 14 (by kernel_rfl) (by kernel_rfl) ?_
      simp only [List.take_succ_cons, List.take_zero, List.drop_succ_cons, List.drop_zero]
      iterate 14 still_step
      refine wpStill_nil ?_
      change wpList _ _ _ _ _ wr.drew
      go_wp2_with fail
      go_roundw
      case rel => exact ⟨k + 1, by omega, by go_num, HS, HRs', below_drew HB'.out 1⟩
      case measure => simp [iOf]; omega
    · obtain rfl : k = 64 := by omega
      obtain ⟨l, hl1⟩ : ∃ l, l = sch1 bs 64 := ⟨_, rfl⟩
      have HL64 : Hid (l.length = 64) := by rw [Hid, hl1]; exact sch1_length bs 64
      rw [← hl1] at HG
      have HL1 := hide hl1
      clear hl1
      go_wp2_with fail
      go_loopw [5] (fun i wr => ∃ k : Nat, 16 ≤ k ∧ k ≤ 64 ∧ i = .int .i64 (k : Int) ∧ Hid (Wrd 98 wr (w.heap.size + 1) (sch2 l (k - 16))) ∧ Hid (Box wr w.heap.size 98 (u32A z64)) ∧ Hid (Below w.heap.size w wr)) (fun i _ => 64 - (iOf i).toNat)
      case atStart => exact ⟨16, by omega, by omega, rfl, HG, HRs, HB⟩
      case round =>
        clear HG HRs HB
        obtain ⟨k, hk16, hk, rfl, HG, HRs, HB⟩ := hrel
        have hll := sch2_length l (k - 16)
        rw [HL64.out] at hll
        have hsr := HB.out.size
        by_cases hlt : k < 64
        · have t1 : decide ((k : Int) < 64) = true := decide_eq_true (by omega)
          have q2 := HG.out.cell (k := k - 15) (by omega)
          have q4 := HG.out.cell (k := k - 2) (by omega)
          have b2 := HG.out.2 (k - 15)
          have b4 := HG.out.2 (k - 2)
          have l1 : k - 15 < 64 := by omega
          have l2 : k - 2 < 64 := by omega
          have l1' : ((k - 15 : Nat) : Int) < 64 := by omega
          have l2' : ((k - 2 : Nat) : Int) < 64 := by omega
          have ew1 : IntKind.i64.wrap ((k - 15 : Nat) : Int) = ((k - 15 : Nat) : Int) := IntWalk.i64_in _ (by omega)
          have ew2 : IntKind.i64.wrap ((k - 2 : Nat) : Int) = ((k - 2 : Nat) : Int) := IntWalk.i64_in _ (by omega)
          generalize hX : (sch2 l (k - 16)).getD (k - 15) 0 = x at *
          generalize hY : (sch2 l (k - 16)).getD (k - 2) 0 = y at *
          have HX := hide hX
          have HY := hide hY
          clear hX hY
          go_upto_region 10 with fail
          go_quiet (fail)
          go_wp2_with fail
          refine (rot_any (x : Int) (-7) 25 (by omega) (by omega) (by decide) (by decide) (by decide) _).mono ?_
          rintro _ _ ⟨rfl, rfl⟩
          go_wp2_with fail
          refine (rot_any (x : Int) (-18) 14 (by omega) (by omega) (by decide) (by decide) (by decide) _).mono ?_
          rintro _ _ ⟨rfl, rfl⟩
          go_wp2_with fail
          refine (rot_any (y : Int) (-17) 15 (by omega) (by omega) (by decide) (by decide) (by decide) _).mono ?_
          rintro _ _ ⟨rfl, rfl⟩
          go_wp2_with fail
          refine (rot_any (y : Int) (-19) 13 (by omega) (by omega) (by decide) (by decide) (by decide) _).mono ?_
          rintro _ _ ⟨rfl, rfl⟩
          go_upto_region 13 with fail
          have HB2 : Hid (Below wr.heap.size wr (wr.drewN nq)) := below_drew (Below.refl _ _) nq
          have HG2 := hide (HG.out.kept HB2.out)
          have HRs2 := hide (HRs.out.kept (HB2.out.mono (by omega)))
          have HB3 := hide (HB.out.trans (HB2.out.mono hsr))
          have q1 := HG2.out.cell (k := k - 16) (by omega)
          have q3 := HG2.out.cell (k := k - 7) (by omega)
          have b1 := HG2.out.2 (k - 16)
          have b3 := HG2.out.2 (k - 7)
          have hf := HG2.out.1.frozen k
          have q0 := HG2.out.cell (k := k) (by omega)
          generalize hO : (sch2 l (k - 16)).getD k 0 = old at *
          have l0' : (k : Int) < 64 := by omega
          have l3 : k - 16 < 64 := by omega
          have l4 : k - 7 < 64 := by omega
          have l3' : ((k - 16 : Nat) : Int) < 64 := by omega
          have l4' : ((k - 7 : Nat) : Int) < 64 := by omega
          have ew3 : IntKind.i64.wrap ((k : Int) - 16) = ((k - 16 : Nat) : Int) := by rw [IntWalk.i64_in _ (by omega)]; omega
          have ew4 : IntKind.i64.wrap ((k : Int) - 7) = ((k - 7 : Nat) : Int) := by rw [IntWalk.i64_in _ (by omega)]; omega
          have ew0 : IntKind.i64.wrap (k : Int) = (k : Int) := IntWalk.i64_in _ (by omega)
          generalize wr.drewN nq = wq at *
          generalize hsx : bits BinOp.xor IntKind.u32 (bits BinOp.xor IntKind.u32 (rotV (↑x) 25) (rotV (↑x) 14)) (↑x / 8) = sx
          generalize hsy : bits BinOp.xor IntKind.u32 (bits BinOp.xor IntKind.u32 (rotV (↑y) 15) (rotV (↑y) 13)) (↑y / 1024) = sy
          have HSX := hide hsx
          have HSY := hide hsy
          clear hsx hsy q2 q4
          generalize hU : (sch2 l (k - 16)).getD (k - 16) 0 = u at *
          generalize hV : (sch2 l (k - 16)).getD (k - 7) 0 = v at *
          have HU := hide hU
          have HV := hide hV
          clear hU hV
          refine wp_region_still_tail 15 (by kernel_rfl) (by kernel_rfl) ?_
          simp only [List.take_succ_cons, List.take_zero, List.drop_succ_cons, List.drop_zero]
          iterate 15 still_step
          refine wpStill_nil ?_
          change wpList _ _ _ _ _ wq.drew
          generalize hz1 : IntKind.u32.wrap ((u : Int) + sx) = z1
          generalize hz2 : IntKind.u32.wrap (z1 + (v : Int)) = z2
          generalize hz3 : IntKind.u32.wrap (z2 + sy) = z3
          have HZ1 := hide hz1
          have HZ2 := hide hz2
          have HZ3 := hide hz3
          clear hz1 hz2 hz3 q1 q3
          have hz : ((schW (sch2 l (k - 16)) k : Nat) : Int) = z3 := by
            have h := wrap32_lt (z2 + sy)
            rw [HZ3.out] at h
            unfold schW
            rw [HU.out, HX.out, HV.out, HY.out, show sig0 (x : Int) = sx from HSX.out, show sig1 (y : Int) = sy from HSY.out, HZ1.out, HZ2.out, HZ3.out]
            omega
          have HST : Hid (sch2 l (k + 1 - 16) = (sch2 l (k - 16)).set k (schW (sch2 l (k - 16)) k)) := by
            have e1 : k + 1 - 16 = k - 16 + 1 := by omega
            have e2 : k - 16 + 16 = k := by omega
            rw [Hid, e1, sch2, e2]
          have HS : Hid (Wrd 98 (wq.setCell ⟨w.heap.size + 1, k, none⟩ (.int .u32 z3)) (w.heap.size + 1) (sch2 l (k + 1 - 16))) := by
            rw [HST.out, ← hz]
            exact HG2.out.set (by omega) (schW_lt _ _)
          have HRs' : Hid (Box (wq.setCell ⟨w.heap.size + 1, k, none⟩ (.int .u32 z3)) w.heap.size 98 (u32A z64)) := HRs2.out.far (by show w.heap.size ≠ w.heap.size + 1; omega) _
          have HB' : Hid (Below w.heap.size w (wq.setCell ⟨w.heap.size + 1, k, none⟩ (.int .u32 z3))) := HB3.out.setCell (by show w.heap.size ≤ w.heap.size + 1; omega) _
          clear hz
          go_wp2_with fail
          go_roundw
          case rel =>
            repeat apply Exists.intro
            refine ⟨⟨k + 1, by omega, by omega, ?_, HS, HRs', below_drew HB'.out 1⟩, rfl⟩
            go_num
          case measure => simp [iOf]; omega
        · obtain rfl : k = 64 := by omega
          have t1 : decide (((64 : Nat) : Int) < 64) = false := by decide
          have HLd := hide (HG.out.load u32t64 hll)
          obtain ⟨w9, hr9, hS9, hg9⟩ := Wrd.store (l' := sch2 l (64 - 16)) u32t64 ⟨HRs.out, z_lt 64⟩ (List.length_replicate ..) hll HG.out.2
          have HR9 := hide hr9
          have HL9 := hide (hS9.load u32t64 hll)
          have HB9 := hide (HB.out.grown hg9 hsr (fun k hk => by injection hk with hk; omega))
          have HSA : Hid (u32A (sched bs) = u32A (sch2 l (64 - 16))) := by rw [Hid, HL1.out]; rfl
          clear hr9 hS9 hg9 hll
          generalize u32A (sch2 l (64 - 16)) = sA at *
          go_upto_region 14 with fail
          go_wp2_with (first | ((with_reducible refine wpList_gives (o := ⟨some 69, _, _, _, _, _⟩) (v := Value.agg sA) (w' := wr) ?_ ?_ ?_); rfl; exact gives_load rfl rfl HLd.out) | ((with_reducible refine wpList_does (o := ⟨none, .store 98 _ _, _, _, _, _⟩) (w' := w9) ?_ ?_ ?_); rfl; exact does_store rfl rfl rfl HR9.out))
          refine bodyPost_ret (v := .agg sA) (results_cell rfl rfl HL9.out) rfl ⟨?_, HB9.out⟩
          rw [HSA.out]
end Go.Proofs.YtlelkhonkhlflaaDoor
