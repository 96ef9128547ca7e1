/-
  The map of the safe sectors: number to sector.
-/
import Derived.Test.YtlelkhonkhlflaaDoorSec
import Derived.Maps.OwnSet
import Derived.Maps.RangeWalk
import Derived.Lib.SlKeysI
namespace Go.Proofs.YtlelkhonkhlflaaDoor
open Go.RowKit Go.Maps Go.WideElems Go.WideAt Go.ChangeMaps Go.MapKept
set_option linter.unusedVariables false
set_option linter.unusedSimpArgs false

def cellCode : Value → DataW Unit
  | .int k z => .lit (.int k z)
  | _ => .agg []
def secCode (s : List UInt8) : DataW Unit := .agg (s.map fun b => .lit (.int .u8 (b.toNat : Int)))
/-- what a sector reads as in the map: its bytes -/
def secElem : Value → Option (DataW Unit × List MemPlace)
  | .agg cs => some (.agg (cs.toList.map cellCode), [])
  | _ => none
theorem secElem_sec (s : List UInt8) : secElem (.agg (secA s)) = some (secCode s, []) := by
  simp [secElem, secA, secCode, u8v, cellCode, Function.comp_def]
theorem codes_back : ∀ (l : List Value) (s : List UInt8), l.map cellCode = s.map (fun b => (.lit (.int .u8 (b.toNat : Int)) : DataW Unit)) → l = s.map u8v
  | [], [], _ => rfl
  | [], _ :: _, h => by simp at h
  | _ :: _, [], h => by simp at h
  | v :: r, b :: t, h => by
    simp only [List.map_cons, List.cons.injEq] at h ⊢
    refine ⟨?_, codes_back r t h.2⟩
    have h1 := h.1
    cases v <;> simp [cellCode] at h1
    obtain ⟨rfl, rfl⟩ := h1
    rfl
theorem secElem_back {v : Value} {s : List UInt8} {ps : List MemPlace} (h : secElem v = some (secCode s, ps)) : v = .agg (secA s) := by
  cases v <;> simp [secElem, secCode] at h
  rename_i cs
  have h1 := codes_back cs.toList s h.1
  congr 1
  apply Array.toList_inj.1
  rw [h1, secA]

theorem intKey : Keyed Tryd.prog 3 := int_keyed Tryd.underlying3
theorem zeroSec (w : World) : (zeroValue 75).run Tryd.prog w = .ok (.agg (secA zeroS)) w := by
  obtain ⟨i0, h1, h2, h3, h4⟩ := sector_zero
  simp [zeroValue, typeInfo, h1, h2]
def InR (k : Int) : Prop := -9223372036854775808 ≤ k ∧ k ≤ 9223372036854775807
theorem keyInt {k : Int} (h : InR k) : keyOf Tryd.prog 3 (.int .i64 k) = some (.int .i64 k) := keyOf_int_mk Tryd.underlying3 (WalkArith.wf_i64 h)
theorem isKey {k : Int} (h : InR k) : WideAt.IsKeyLit (.int .i64 k) := intKey.key (keyInt h)
theorem ne_key {a b : Int} (h : a ≠ b) : (Lit.int .i64 a) ≠ Lit.int .i64 b := fun e => h (by injection e)
theorem inR_nat {i n : Nat} (hi : i < n) (hn : n ≤ 4096) : InR (i : Int) := ⟨by omega, by omega⟩

/-- the numbers of the dirty sectors, ascending -/
def dirtyL (n : Nat) (e : Nat → Option (List UInt8)) : List Nat := (List.range n).filter fun i => (e i).isSome
theorem dirtyL_le (n : Nat) (e : Nat → Option (List UInt8)) : (dirtyL n e).length ≤ n := by
  have := List.length_filter_le (fun i => (e i).isSome) (List.range n)
  rw [List.length_range] at this
  exact this
theorem dirtyL_mem {n i : Nat} {e : Nat → Option (List UInt8)} : i ∈ dirtyL n e ↔ i < n ∧ (e i).isSome = true := by simp [dirtyL]
/-- the datum D reads as e, on the numbers below n -/
structure ReadsAs (D : DataW Unit) (n : Nat) (e : Nat → Option (List UInt8)) : Prop where
  keys : ∀ k : Int, InR k → Maps.has D (.int .i64 k) = true → ∃ i, i < n ∧ k = (i : Int) ∧ (e i).isSome = true
  lens : ∀ i, i < n → ∀ s, e i = some s → s.length = 64
  vals : ∀ i, i < n → ∀ s, e i = some s → Maps.has D (.int .i64 (i : Int)) = true ∧ ∀ z, D.atKey (.int .i64 (i : Int)) z = secCode s
theorem ReadsAs.none_ {D : DataW Unit} {n : Nat} {e : Nat → Option (List UInt8)} (h : ReadsAs D n e) {i : Nat} (hn : n ≤ 4096) (hi : i < n) (he : e i = none) : Maps.has D (.int .i64 (i : Int)) = false := by
  cases hh : Maps.has D (.int .i64 (i : Int)) with
  | false => rfl
  | true =>
    obtain ⟨j, _, e1, h2⟩ := h.keys i (inR_nat hi hn) hh
    obtain rfl : i = j := by omega
    rw [he] at h2
    cases h2
/-- block mb is a map that reads as e -/
def SafeM (w : World) (mb n : Nat) (e : Nat → Option (List UInt8)) : Prop := ∃ D, w.ownsMap Tryd.prog 3 secElem mb 4096 D ∧ ReadsAs D n e
section
variable {w w' : World} {mb n c : Nat} {D : DataW Unit} {e : Nat → Option (List UInt8)}
theorem keys_perm (hown : w.ownsMap Tryd.prog 3 secElem mb c D) (h : ReadsAs D n e) (hn : n ≤ 4096) : ((dirtyL n e).map fun (i : Nat) => (i : Int)).Perm (intKeys D) := by
  obtain ⟨es, hD, hpw, _⟩ := hown.entries intKey
  obtain ⟨es', hD', hko⟩ := hown.keysOf
  obtain rfl : es = es' := by rw [hD] at hD'; simpa using hD'
  subst hD
  have hk : ∀ p ∈ es, ∃ x, p.1 = .int .i64 x ∧ (Lit.int .i64 x).wf = true := fun p hp => by
    obtain ⟨v, hv⟩ := hko p hp
    obtain ⟨x, _, hx, hwf⟩ := Maps.keyOf_i64 Tryd.underlying3 hv
    exact ⟨x, hx, hwf⟩
  refine perm_intKeys hpw (fun p hp => by obtain ⟨x, hx, _⟩ := hk p hp; exact ⟨x, hx⟩) ?_ fun x => ?_
  · refine List.pairwise_map.2 ?_
    have h1 : (dirtyL n e).Nodup := (List.nodup_range).filter _
    exact h1.imp fun {a b} hne he => hne (by have he' : (a : Int) = (b : Int) := he; omega)
  · rw [List.mem_map]
    constructor
    · rintro ⟨i, hi, rfl⟩
      obtain ⟨h1, h2⟩ := dirtyL_mem.1 hi
      obtain ⟨s, hs⟩ := Option.isSome_iff_exists.1 h2
      exact (h.vals i h1 s hs).1
    · intro hx
      have hx' := hx
      rw [has_eq, List.any_eq_true] at hx
      obtain ⟨p, hp, hs⟩ := hx
      obtain ⟨a, ha, hwf⟩ := hk p hp
      rw [ha] at hs
      have hax : a = x := by simpa [Lit.sameKey] using hs
      subst hax
      have hr : InR a := by
        have hmin : IntKind.i64.min = -9223372036854775808 := rfl
        have hmax : IntKind.i64.max = 9223372036854775807 := rfl
        simp only [Lit.wf, Bool.and_eq_true, decide_eq_true_eq] at hwf
        unfold InR
        omega
      obtain ⟨i, h1, h2, h3⟩ := h.keys a hr hx'
      exact ⟨i, dirtyL_mem.2 ⟨h1, h3⟩, h2.symm⟩
theorem size_intKeys {D : DataW Unit} : Maps.size D = (intKeys D).length := by
  cases D <;> simp [Maps.size, intKeys]
theorem size_dirty (hown : w.ownsMap Tryd.prog 3 secElem mb c D) (h : ReadsAs D n e) (hn : n ≤ 4096) : Maps.size D = (dirtyL n e).length := by
  rw [size_intKeys]; have := (keys_perm hown h hn).length_eq; rw [List.length_map] at this; exact this.symm
theorem own_tight (hown : w.ownsMap Tryd.prog 3 secElem mb c D) (h : ReadsAs D n e) (hn : n ≤ 4096) : w.ownsMap Tryd.prog 3 secElem mb 4096 D := by
  have hs := size_dirty hown h hn
  have hl := dirtyL_le n e
  obtain ⟨es, clock, hb, F, h1, hD⟩ := hown
  have e1 : Maps.size D = es.size := by rw [hD]; simp [Maps.size, length_sorted]
  exact ⟨es, clock, hb, F, by omega, hD⟩
theorem SafeM.lt (h : SafeM w mb n e) : mb < w.heap.size := by
  obtain ⟨D, h1, _⟩ := h
  exact h1.lt
theorem SafeM.of_eq (h : SafeM w mb n e) (hm : w'.heap[mb]? = w.heap[mb]?) : SafeM w' mb n e := by
  obtain ⟨D, ⟨es, clock, hb, hr⟩, h2⟩ := h
  exact ⟨D, ⟨es, clock, hm.trans hb, hr⟩, h2⟩
theorem SafeM.len64 (h : SafeM w mb n e) {i : Nat} (hi : i < n) {s : List UInt8} (he : e i = some s) : s.length = 64 := by
  obtain ⟨D, _, h2⟩ := h
  exact h2.lens i hi s he
theorem SafeM.new (w : World) (n : Nat) : SafeM (w.alloc (.map #[] 0)) w.heap.size n (fun _ => none) :=
  ⟨.map [], (World.ownsMap_made w _ _ _).mono (Nat.zero_le _), ⟨fun k _ h => (by cases h), fun i _ s h => (by cases h), fun i _ s h => (by cases h)⟩⟩
theorem SafeM.look_none (h : SafeM w mb n e) (hn : n ≤ 4096) {i : Nat} (hi : i < n) (he : e i = none) : (Instr.lookup 66 (.map (some mb)) (.int .i64 (i : Int)) true).run Tryd.prog w = .ok (.tuple #[.agg (secA zeroS), .bool false]) w := by
  obtain ⟨D, h1, h2⟩ := h
  obtain ⟨v, ps, hrun, hv⟩ := h1.look_ok intKey Tryd.underlying66 (zeroSec w) (secElem_sec zeroS) (keyInt (inR_nat hi hn))
  have hq := h2.none_ hn hi he
  rw [Maps.atKey_of_not_has hq] at hv
  rw [hrun, hq, secElem_back hv]
theorem SafeM.look_some (h : SafeM w mb n e) (hn : n ≤ 4096) {i : Nat} (hi : i < n) {s : List UInt8} (he : e i = some s) : (Instr.lookup 66 (.map (some mb)) (.int .i64 (i : Int)) true).run Tryd.prog w = .ok (.tuple #[.agg (secA s), .bool true]) w := by
  obtain ⟨D, h1, h2⟩ := h
  obtain ⟨v, ps, hrun, hv⟩ := h1.look_ok intKey Tryd.underlying66 (zeroSec w) (secElem_sec zeroS) (keyInt (inR_nat hi hn))
  obtain ⟨h3, h4⟩ := h2.vals i hi s he
  rw [h4] at hv
  rw [hrun, h3, secElem_back hv]
theorem SafeM.look (h : SafeM w mb n e) (hn : n ≤ 4096) {i : Nat} (hi : i < n) {s : List UInt8} (he : e i = some s) : (Instr.lookup 66 (.map (some mb)) (.int .i64 (i : Int)) false).run Tryd.prog w = .ok (.agg (secA s)) w := by
  obtain ⟨D, h1, h2⟩ := h
  obtain ⟨v, ps, hrun, hv⟩ := h1.lookup intKey Tryd.underlying66 (zeroSec w) (secElem_sec zeroS) (keyInt (inR_nat hi hn))
  obtain ⟨h3, h4⟩ := h2.vals i hi s he
  rw [h4] at hv
  rw [hrun, secElem_back hv]
theorem SafeM.store (h : SafeM w mb n e) (hn : n ≤ 4096) {i : Nat} (hi : i < n) (s : List UInt8) (hs : s.length = 64) :
    ∃ w', (Instr.mapUpdate 66 (.map (some mb)) (.int .i64 (i : Int)) (.agg (secA s))).run Tryd.prog w = .ok () w' ∧ SafeM w' mb n (fun j => if j = i then some s else e j) ∧ w.grownBy w' (some mb) := by
  obtain ⟨D, h1, h2⟩ := h
  have hk := inR_nat hi hn
  obtain ⟨w', hrun, g1, g2⟩ := h1.update intKey Tryd.underlying66 (by unfold maxLen; omega) (keyInt hk) (secElem_sec s)
  have hR : ReadsAs (D.put (.int .i64 (i : Int)) (secCode s)) n (fun j => if j = i then some s else e j) := by
    refine ⟨fun k hkr hh => ?_, fun j hj t ht => ?_, fun j hj t ht => ?_⟩
    · by_cases e1 : k = (i : Int)
      · exact ⟨i, hi, e1, by simp⟩
      · rw [Maps.has_put_other (ne_key e1)] at hh
        obtain ⟨j, q1, q2, q3⟩ := h2.keys k hkr hh
        refine ⟨j, q1, q2, ?_⟩
        have : j ≠ i := by omega
        simp [this, q3]
    · by_cases e1 : j = i
      · simp only [if_pos e1, Option.some.injEq] at ht
        rw [← ht]; exact hs
      · simp only [if_neg e1] at ht
        exact h2.lens j hj t ht
    · by_cases e1 : j = i
      · subst e1
        simp only [if_true, Option.some.injEq] at ht
        subst ht
        exact ⟨Maps.has_put_same h1.isMap (isKey hk) _, fun z => Maps.atKey_put_same h1.isMap (isKey hk) _ z⟩
      · simp only [if_neg e1] at ht
        have hne : (j : Int) ≠ (i : Int) := by omega
        obtain ⟨q1, q2⟩ := h2.vals j hj t ht
        exact ⟨(Maps.has_put_other (ne_key hne) _).trans q1, fun z => (Maps.atKey_put_other (ne_key hne) _ z).trans (q2 z)⟩
  exact ⟨w', hrun, ⟨_, own_tight g1 hR hn, hR⟩, g2⟩
theorem SafeM.clear (h : SafeM w mb n e) (ty : TypeId) :
    ∃ w', (Builtin.clear_ #[66] ty #[.map (some mb)]).run Tryd.prog w = .ok (.tuple #[]) w' ∧ SafeM w' mb n (fun _ => none) ∧ w.grownBy w' (some mb) := by
  obtain ⟨D, ⟨es, clock, hb, hr⟩, h2⟩ := h
  refine ⟨setBlock w mb (.map #[] clock), ?_, ⟨.map [], ⟨#[], clock, heap_setBlock_same hb _, ⟨by simp, stamped_empty clock, by simp⟩, Nat.zero_le _, rfl⟩, ⟨fun k _ h => (by cases h), fun i _ s h => (by cases h), fun i _ s h => (by cases h)⟩⟩,
    ⟨rfl, rfl, rfl, by simp [setBlock], fun i _ hi => heap_setBlock_other hb _ (fun e => hi (by rw [e]))⟩⟩
  simp [Builtin.clear_, run_underlying Tryd.underlying66, MapKept.run_getObj_map hb, MapKept.run_setObj_map _ hb, setBlock]
theorem SafeM.len (h : SafeM w mb n e) (hn : n ≤ 4096) (ty : TypeId) : (Builtin.len_ #[66] ty #[.map (some mb)]).run Tryd.prog w = .ok (.int .i64 ((dirtyL n e).length : Nat)) w := by
  obtain ⟨D, h1, h2⟩ := h
  rw [h1.len Tryd.underlying66 ty, size_dirty h1 h2 hn]
end
end Go.Proofs.YtlelkhonkhlflaaDoor
