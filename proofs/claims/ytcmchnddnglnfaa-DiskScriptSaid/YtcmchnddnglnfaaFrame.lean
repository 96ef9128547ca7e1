/-
  The frame of every law of this seat, and its arguments opened: where the call returns true and turns nothing below the heap that it found, the law's row holds.
-/
import Derived.Test.YtcmchnddnglnfaaAwake
import Derived.ProofKit
import Derived.Lib.SmallJoins
import Derived.Carry
import Derived.Deep.Slices
import Derived.Deep.Fields
import Derived.ChangeSame
namespace Go.Proofs.Ytcmchnddnglnfaa
open Go.ChangeShapes Go.WideShapes Go.ChangeAt Go.RowKit
set_option linter.unusedVariables false
set_option linter.unusedSimpArgs false

theorem own : ownKnob Try.prog.godebug = none := by kernel_rfl
theorem laidOut : laidOutB Try.prog = true := by kernel_rfl

theorem params_ok {ts : List TypeId} (h : ts.all (fun t => Try.prog.readableRec t && decide (t < Try.prog.types.size)) = true) : ∀ t ∈ ts, Try.prog.readableRec t = true ∧ t < Try.prog.types.size := fun t ht => by
  have := List.all_eq_true.1 h t ht
  simpa using this
section
variable {H : Type} {enc : TypeId × Value → H}
theorem args_below {W W' : World} (hb : Below W.heap.size W W') : ∀ (ts : List TypeId) (vs : List Value) (ds : List (DataW H)) (ps : List MemPlace),
    (∀ t ∈ ts, Try.prog.readableRec t = true ∧ t < Try.prog.types.size) → DataW.TrodAll enc Try.prog W 0 (fun _ => true) true ts vs ds ps → (∀ x ∈ ps, x.block < W.heap.size) →
    DataW.TrodAll enc Try.prog W' 0 (fun b => decide (b < W.heap.size)) true ts vs ds ps
  | [], vs, ds, ps, _, h, _ => by
    obtain ⟨rfl, rfl, rfl⟩ := trodAll_nil h
    exact trodAll_mk0
  | t :: ts, vs, ds, ps, ht, h, hlt => by
    obtain ⟨v, vs', d, ds', p, q, rfl, rfl, rfl, h1, h2⟩ := trodAll_cons h
    exact trodAll_cons_mk (Below.trod laidOut (ht t (by simp)).1 (ht t (by simp)).2 h1 hb fun x hx => hlt x (by simp [hx]))
      (args_below hb ts vs' ds' q (fun u hu => ht u (by simp [hu])) h2 fun x hx => hlt x (by simp [hx]))

theorem post_law {f : Func} {s : ChangeSpec} {W W' : World} {args : Array Value} {ds gs : List (DataW H)} {before : List MemPlace}
    (hW : DataW.Whole enc Try.prog f.params.toList s.vars false W args.toList ds gs before) (hvars : s.vars = []) (hb : Below W.heap.size W W')
    (hp : ∀ t ∈ f.params.toList, Try.prog.readableRec t = true ∧ t < Try.prog.types.size) (hr : f.resultTypes = #[4])
    (hs : s.fn H (ds ++ []) = { results := [.lit (.bool true)], args := ds }) : s.post enc Try.prog f false true false false W args (.bool true) W' := by
  have hlt := hW.lt
  have hW' := hW
  obtain ⟨p, q, hA, hV, rfl, hfz, hnd⟩ := hW
  rw [hvars] at hV
  obtain ⟨rfl, rfl⟩ := trodVars_none hV
  refine ⟨ds, [], p ++ [], [], p, [], hW', ?_, ?_, ?_, hb.frame _, fun h => by cases h⟩
  · rw [hs, hr]
    exact trodAll_cons_mk (shut_bool Try.underlying4 _) trodAll_mk0
  · rw [hs]
    exact args_below hb _ _ _ _ hp hA fun x hx => hlt x (by simp [hx])
  · rw [hs, hvars]
    exact rfl
end

theorem cellsBytes : Try.prog.cellsOf 22 = 1 := by kernel_rfl
theorem cellsU8 : Try.prog.cellsOf 5 = 1 := by kernel_rfl
theorem cellsBool : Try.prog.cellsOf 4 = 1 := by kernel_rfl

section
variable {H : Type} {enc : TypeId × Value → H}
/-- a slice of bytes, opened -/
theorem open_bytes {W : World} {fuel : Nat} {v : Value} {x : DataW H × List MemPlace} (h : DataW.trod enc Try.prog W 0 (fun _ => true) true fuel 22 [v] = some x) :
    ∃ A c bs, v = .slice A bs.length c ∧ Bys W A bs ∧ bs.length ≤ maxLen ∧ bs.length ≤ c := by
  rcases open_ints Try.underlying22 Try.underlying5 cellsU8 h with ⟨hcs, _⟩ | ⟨a, len, cap, zs, hcs, _, hl, hm, hz, _, hcell, hwz⟩
  · cases hcs
    exact ⟨none, 0, [], rfl, fun h => absurd h (by simp), Nat.zero_le _, Nat.le_refl _⟩
  · cases hcs
    have hz' : zs.length = cap := hz
    refine ⟨some a, cap, (zs.take len).map fun z => UInt8.ofNat z.toNat, ?_, ?_, ?_, ?_⟩
    · rw [List.length_map, List.length_take, Nat.min_eq_left (by omega)]
    · intro hp
      rw [List.length_map, List.length_take] at hp
      obtain ⟨b, off, rfl, hc⟩ := ints_at hcell (by omega)
      refine ⟨b, off, rfl, World.block_lt_of_cell? W _ (hc 0 (by omega)), fun k hk => ?_⟩
      rw [List.length_map, List.length_take] at hk
      have hkz : k < zs.length := by omega
      rw [hc k hkz]
      have hwf := hwz _ (List.getElem_mem hkz)
      have hb : 0 ≤ zs[k] ∧ zs[k] ≤ 255 := by
        have hmin : IntKind.u8.min = 0 := rfl
        have hmax : IntKind.u8.max = 255 := rfl
        simp only [Lit.wf, Bool.and_eq_true, decide_eq_true_eq] at hwf
        omega
      have e1 : zs.getD k 0 = zs[k] := by simp [hkz]
      have e2 : ((zs.take len).map fun z => UInt8.ofNat z.toNat).getD k 0 = UInt8.ofNat zs[k].toNat := by
        have : k < len := by omega
        simp [hkz, this]
      rw [e1, e2]
      unfold u8v
      rw [UInt8.toNat_ofNat', Nat.mod_eq_of_lt (by omega)]
      congr 2
      omega
    · rw [List.length_map, List.length_take]; omega
    · rw [List.length_map, List.length_take]; omega
theorem open_bytes_arg {r : Reach} {b0 : Nat} {W : World} {v : Value} {d : DataW H} {p : List MemPlace} (hv : Value.okWide Try.prog W r b0 22 v) (h : DataW.Trod enc Try.prog W 0 (fun _ => true) true 22 v d p) :
    ∃ A c bs, v = .slice A bs.length c ∧ Bys W A bs ∧ bs.length ≤ maxLen ∧ bs.length ≤ c := by
  obtain ⟨a, n, c, rfl⟩ := okWide_slice Try.underlying22 hv
  obtain ⟨fuel, hf⟩ := h
  exact open_bytes (show DataW.trod enc Try.prog W 0 (fun _ => true) true fuel 22 [.slice a n c] = some (d, p) from hf)

theorem plain_addr {W : World} {a : Addr} {n : Nat} {V : Nat → Value} (h : ∀ i, i < n → W.cell? (a.add i) = some (V i)) (hp : 0 < n) : ∃ b off, a = ⟨b, off, none⟩ ∧ ∀ i, i < n → W.cell? ⟨b, off + i, none⟩ = some (V i) := by
  obtain ⟨b, off, spot⟩ := a
  have hspot : spot = none := by simpa [Addr.add] using World.cell?_spot (h 0 hp)
  subst hspot
  exact ⟨b, off, rfl, fun j hj => by rw [← Go.WideShapes.add_plain]; exact h j hj⟩
/-- a slice of Bools, its value opened -/
theorem open_bools0 {W : World} {fuel : Nat} {v : Value} {x : DataW H × List MemPlace} (hf : DataW.trod enc Try.prog W 0 (fun _ => true) true fuel 30 [v] = some x) :
    ∃ A c bs, v = .slice A bs.length c ∧ BoolsIn (fun i => i < W.heap.size) W A bs ∧ bs.length ≤ maxLen ∧ bs.length ≤ c := by
  obtain ⟨d, p⟩ := x
  rcases Go.Deep.open_slice1 Try.underlying30 cellsBool hf with ⟨e, _⟩ | ⟨a, n0, c0, m, n, V, D, Pl, e, _, hlc, hcm, hm, _, hi⟩
  · cases e
    exact ⟨none, 0, [], rfl, fun h => absurd h (by simp), Nat.zero_le _, Nat.le_refl _⟩
  · cases e
    have hm' : m = c0 := hm
    have key : ∀ i, ∃ y : Bool, i < n0 → V i = .bool y := fun i => by
      by_cases hlt : i < n0
      · obtain ⟨y, h1, _⟩ := DataW.trod_bool Try.underlying4 (hi i (by omega)).2
        exact ⟨y, fun _ => by injection h1 with h1⟩
      · exact ⟨false, fun h => absurd h hlt⟩
    obtain ⟨f, hf2⟩ := Classical.axiomOfChoice key
    have hlen : ((List.range n0).map f).length = n0 := by simp
    have hget : ∀ k, k < n0 → ((List.range n0).map f).getD k false = f k := fun k hk => by simp [List.getD_eq_getElem?_getD, hk]
    refine ⟨some a, c0, (List.range n0).map f, by rw [hlen], fun hp => ?_, by omega, by omega⟩
    rw [hlen] at hp
    obtain ⟨b, off, rfl, hc⟩ := plain_addr (fun i hil => (hi i (by omega)).1) hp
    refine ⟨b, off, rfl, World.block_lt_of_cell? W ⟨b, off + 0, none⟩ (hc 0 hp), fun k hk => ?_⟩
    rw [hlen] at hk
    rw [hget k hk, hc k hk, hf2 k hk]
/-- a slice of Bools, opened -/
theorem open_bools {r : Reach} {b0 : Nat} {W : World} {v : Value} {d : DataW H} {p : List MemPlace} (hv : Value.okWide Try.prog W r b0 30 v) (h : DataW.Trod enc Try.prog W 0 (fun _ => true) true 30 v d p) :
    ∃ A c bs, v = .slice A bs.length c ∧ BoolsIn (fun i => i < W.heap.size) W A bs ∧ bs.length ≤ maxLen ∧ bs.length ≤ c := by
  obtain ⟨a0, n0, c0, rfl⟩ := okWide_slice Try.underlying30 hv
  obtain ⟨fuel, hf⟩ := h
  exact open_bools0 hf
end
end Go.Proofs.Ytcmchnddnglnfaa
