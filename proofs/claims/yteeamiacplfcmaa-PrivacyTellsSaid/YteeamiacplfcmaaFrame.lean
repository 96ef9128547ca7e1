/-
  The frame of every law of this seat, and its arguments opened: where the call returns true and turns nothing below the heap that it found, the law's row holds.
-/
import Derived.Test.YteeamiacplfcmaaMakeT
import Derived.ProofKit
import Derived.Lib.SmallJoins
import Derived.Carry
import Derived.Deep.Slices
import Derived.Deep.Fields
import Derived.ChangeSame
namespace Go.Proofs.Yteeamiacplfcmaa
open Go.ChangeShapes Go.WideShapes Go.ChangeAt Go.RowKit
set_option linter.unusedVariables false
set_option linter.unusedSimpArgs false

theorem own : ownKnob Try.prog.godebug = none := by kernel_rfl
theorem laidOut : laidOutB Try.prog = true := by kernel_rfl

theorem params_ok {ts : List TypeId} (h : ts.all (fun t => Try.prog.readableRec t && decide (t < Try.prog.types.size)) = true) : ∀ t ∈ ts, Try.prog.readableRec t = true ∧ t < Try.prog.types.size := fun t ht => by
  have := List.all_eq_true.1 h t ht
  simpa using this
section
variable {H : Type} {enc : TypeId × Value → H}
theorem args_below {W W' : World} (hb : Below W.heap.size W W') : ∀ (ts : List TypeId) (vs : List Value) (ds : List (DataW H)) (ps : List MemPlace),
    (∀ t ∈ ts, Try.prog.readableRec t = true ∧ t < Try.prog.types.size) → DataW.TrodAll enc Try.prog W 0 (fun _ => true) true ts vs ds ps → (∀ x ∈ ps, x.block < W.heap.size) →
    DataW.TrodAll enc Try.prog W' 0 (fun b => decide (b < W.heap.size)) true ts vs ds ps
  | [], vs, ds, ps, _, h, _ => by
    obtain ⟨rfl, rfl, rfl⟩ := trodAll_nil h
    exact trodAll_mk0
  | t :: ts, vs, ds, ps, ht, h, hlt => by
    obtain ⟨v, vs', d, ds', p, q, rfl, rfl, rfl, h1, h2⟩ := trodAll_cons h
    exact trodAll_cons_mk (Below.trod laidOut (ht t (by simp)).1 (ht t (by simp)).2 h1 hb fun x hx => hlt x (by simp [hx]))
      (args_below hb ts vs' ds' q (fun u hu => ht u (by simp [hu])) h2 fun x hx => hlt x (by simp [hx]))

theorem post_law {f : Func} {s : ChangeSpec} {W W' : World} {args : Array Value} {ds gs : List (DataW H)} {before : List MemPlace}
    (hW : DataW.Whole enc Try.prog f.params.toList s.vars false W args.toList ds gs before) (hvars : s.vars = []) (hb : Below W.heap.size W W')
    (hp : ∀ t ∈ f.params.toList, Try.prog.readableRec t = true ∧ t < Try.prog.types.size) (hr : f.resultTypes = #[4])
    (hs : s.fn H (ds ++ []) = { results := [.lit (.bool true)], args := ds }) : s.post enc Try.prog f false true false false W args (.bool true) W' := by
  have hlt := hW.lt
  have hW' := hW
  obtain ⟨p, q, hA, hV, rfl, hfz, hnd⟩ := hW
  rw [hvars] at hV
  obtain ⟨rfl, rfl⟩ := trodVars_none hV
  refine ⟨ds, [], p ++ [], [], p, [], hW', ?_, ?_, ?_, hb.frame _, fun h => by cases h⟩
  · rw [hs, hr]
    exact trodAll_cons_mk (shut_bool Try.underlying4 _) trodAll_mk0
  · rw [hs]
    exact args_below hb _ _ _ _ hp hA fun x hx => hlt x (by simp [hx])
  · rw [hs, hvars]
    exact rfl
end

theorem maxLen_le : maxLen ≤ 9223372036854775807 := by unfold maxLen; omega
theorem cellsInt : Try.prog.cellsOf 3 = 1 := by kernel_rfl
theorem cellsInts : Try.prog.cellsOf 31 = 1 := by kernel_rfl
theorem cellsRows : Try.prog.cellsOf 45 = 1 := by kernel_rfl

section
variable {H : Type} {enc : TypeId × Value → H}
theorem i64_bd {a : Int} (h : (Lit.int .i64 a).wf = true) : InI a := by
  have hmin : IntKind.i64.min = -9223372036854775808 := rfl
  have hmax : IntKind.i64.max = 9223372036854775807 := rfl
  unfold InI
  simp only [Lit.wf, Bool.and_eq_true, decide_eq_true_eq] at h
  omega
theorem inI_of {a : Int} (h : InI a) : -9223372036854775808 ≤ a ∧ a ≤ 9223372036854775807 := h
/-- a slice of numbers, opened -/
theorem open_ints0 {W : World} {fuel : Nat} {v : Value} {x : DataW H × List MemPlace} (h : DataW.trod enc Try.prog W 0 (fun _ => true) true fuel 31 [v] = some x) :
    ∃ A c l, v = .slice A l.length c ∧ Ints W A l ∧ l.length ≤ maxLen ∧ l.length ≤ c ∧ ∀ y ∈ l, InI y := by
  rcases open_ints Try.underlying31 Try.underlying3 cellsInt h with ⟨hcs, _⟩ | ⟨a, len, cap, zs, hcs, _, hl, hm, hz, _, hcell, hwz⟩
  · cases hcs
    exact ⟨none, 0, [], rfl, IntsIn.nil _ _ _, Nat.zero_le _, Nat.le_refl _, fun y hy => by cases hy⟩
  · cases hcs
    have hz' : zs.length = cap := hz
    have hlen : (zs.take len).length = len := by rw [List.length_take]; omega
    refine ⟨some a, cap, zs.take len, by rw [hlen], ?_, by omega, by omega, fun y hy => i64_bd (hwz y (List.mem_of_mem_take hy))⟩
    intro hp
    rw [hlen] at hp
    obtain ⟨b, off, rfl, hc⟩ := ints_at hcell (by omega)
    refine ⟨b, off, rfl, World.block_lt_of_cell? W _ (hc 0 (by omega)), fun k hk => ?_⟩
    rw [hlen] at hk
    rw [hc k (by omega)]
    simp [List.getD_eq_getElem?_getD, List.getElem?_take, hk]
theorem plain_addr {W : World} {a : Addr} {n : Nat} {V : Nat → Value} (h : ∀ i, i < n → W.cell? (a.add i) = some (V i)) (hp : 0 < n) : ∃ b off, a = ⟨b, off, none⟩ ∧ ∀ i, i < n → W.cell? ⟨b, off + i, none⟩ = some (V i) := by
  obtain ⟨b, off, spot⟩ := a
  have hspot : spot = none := by simpa [Addr.add] using World.cell?_spot (h 0 hp)
  subst hspot
  exact ⟨b, off, rfl, fun j hj => by rw [← Go.WideShapes.add_plain]; exact h j hj⟩
/-- a slice of slices of numbers, opened -/
theorem open_rows0 {W : World} {fuel : Nat} {v : Value} {x : DataW H × List MemPlace} (h : DataW.trod enc Try.prog W 0 (fun _ => true) true fuel 45 [v] = some x) :
    ∃ A c ls, v = .slice A ls.length c ∧ RowsIn W A ls ∧ ls.length ≤ maxLen ∧ ls.length ≤ c := by
  rcases Go.Deep.open_slice1 Try.underlying45 cellsInts h with ⟨e, _⟩ | ⟨a, len, cap, m, n, V, D, Pl, e, _, hlc, hcm, hm, _, hi⟩
  · cases e
    exact ⟨none, 0, [], rfl, fun h => absurd h (by simp), Nat.zero_le _, Nat.le_refl _⟩
  · cases e
    have hm' : m = cap := hm
    have key : ∀ i, ∃ l : List Int, i < len → ∃ A c, V i = .slice A l.length c ∧ Ints W A l ∧ l.length ≤ maxLen ∧ l.length ≤ c ∧ ∀ y ∈ l, InI y := fun i => by
      by_cases hlt : i < len
      · obtain ⟨A, c, l, h1⟩ := open_ints0 (hi i (by omega)).2
        exact ⟨l, fun _ => ⟨A, c, h1⟩⟩
      · exact ⟨[], fun h => absurd h hlt⟩
    obtain ⟨f, hf2⟩ := Classical.axiomOfChoice key
    have hlen : ((List.range len).map f).length = len := by simp
    have hget : ∀ k, k < len → ((List.range len).map f).getD k [] = f k := fun k hk => by simp [List.getD_eq_getElem?_getD, hk]
    refine ⟨some a, cap, (List.range len).map f, by rw [hlen], fun hp => ?_, by omega, by omega⟩
    rw [hlen] at hp
    obtain ⟨b, off, rfl, hc⟩ := plain_addr (fun i hil => (hi i (by omega)).1) hp
    refine ⟨b, off, rfl, World.block_lt_of_cell? W ⟨b, off + 0, none⟩ (hc 0 hp), fun k hk => ?_⟩
    rw [hlen] at hk
    obtain ⟨A, c, h1, h2, h3, h4, h5⟩ := hf2 k hk
    rw [hget k hk]
    exact ⟨A, c, by rw [hc k hk, h1], h4, by have := maxLen_le; omega, h5, h2⟩
set_option maxRecDepth 100000 in
/-- three levels -/
theorem open_rows3 {r : Reach} {b0 : Nat} {W : World} {v : Value} {d : DataW H} {p : List MemPlace} (hv : Value.okWide Try.prog W r b0 22 v) (h : DataW.Trod enc Try.prog W 0 (fun _ => true) true 22 v d p) :
    ∃ A c xs, v = .slice A xs.length c ∧ Rows3 W A xs ∧ xs.length ≤ 9223372036854775807 := by
  obtain ⟨a0, n0, c0, rfl⟩ := okWide_slice Try.underlying22 hv
  obtain ⟨fuel, hf⟩ := h
  have hmx := maxLen_le
  rcases Go.Deep.open_slice1 Try.underlying22 cellsRows (show DataW.trod enc Try.prog W 0 (fun _ => true) true fuel 22 [.slice a0 n0 c0] = some (d, p) from hf) with ⟨e, _⟩ | ⟨a, len, cap, m, n, V, D, Pl, e, _, hlc, hcm, hm, _, hi⟩
  · cases e
    exact ⟨none, 0, [], rfl, fun h => absurd h (by simp), Nat.zero_le _⟩
  · cases e
    have hm' : m = c0 := hm
    have key : ∀ i, ∃ l : List (List Int), i < n0 → ∃ A c, V i = .slice A l.length c ∧ RowsIn W A l ∧ l.length ≤ maxLen ∧ l.length ≤ c := fun i => by
      by_cases hlt : i < n0
      · obtain ⟨A, c, l, h1⟩ := open_rows0 (hi i (by omega)).2
        exact ⟨l, fun _ => ⟨A, c, h1⟩⟩
      · exact ⟨[], fun h => absurd h hlt⟩
    obtain ⟨f, hf2⟩ := Classical.axiomOfChoice key
    have hlen : ((List.range n0).map f).length = n0 := by simp
    have hget : ∀ k, k < n0 → ((List.range n0).map f).getD k [] = f k := fun k hk => by simp [List.getD_eq_getElem?_getD, hk]
    refine ⟨some a, c0, (List.range n0).map f, by rw [hlen], fun hp => ?_, by omega⟩
    rw [hlen] at hp
    obtain ⟨b, off, rfl, hc⟩ := plain_addr (fun i hil => (hi i (by omega)).1) hp
    refine ⟨b, off, rfl, World.block_lt_of_cell? W ⟨b, off + 0, none⟩ (hc 0 hp), fun k hk => ?_⟩
    rw [hlen] at hk
    obtain ⟨A, c, h1, h2, h3, h4⟩ := hf2 k hk
    rw [hget k hk]
    exact ⟨A, c, by rw [hc k hk, h1], by omega, h2⟩
end
end Go.Proofs.Yteeamiacplfcmaa
