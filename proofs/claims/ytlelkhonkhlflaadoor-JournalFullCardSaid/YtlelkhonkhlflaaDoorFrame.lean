/-
  The frame of every law of this seat, and its arguments opened: where the call returns true and turns nothing below the heap that it found, the law's row holds.
-/
import Derived.Test.YtlelkhonkhlflaaDoorFresh
import Derived.Test.YtlelkhonkhlflaaDoorCards
import Derived.Test.YtlelkhonkhlflaaDoorTie
import Derived.ProofKit
import Derived.Lib.SmallJoins
import Derived.Carry
import Derived.Deep.Slices
import Derived.Deep.Fields
import Derived.ChangeSame
import Derived.Deep.DeepHandedRow
import Derived.Lib.LaidTab
namespace Go.Proofs.YtlelkhonkhlflaaDoor
open Go.ChangeShapes Go.WideShapes Go.ChangeAt Go.RowKit
set_option linter.unusedVariables false
set_option linter.unusedSimpArgs false
set_option maxRecDepth 100000

theorem own : ownKnob Tryd.prog.godebug = none := by kernel_rfl
theorem laidOut : laidOutB Tryd.prog = true := by kernel_rfl

theorem params_ok {ts : List TypeId} (h : ts.all (fun t => Tryd.prog.readableRec t && decide (t < Tryd.prog.types.size)) = true) : ∀ t ∈ ts, Tryd.prog.readableRec t = true ∧ t < Tryd.prog.types.size := fun t ht => by
  have := List.all_eq_true.1 h t ht
  simpa using this
section
variable {H : Type} {enc : TypeId × Value → H}
theorem args_below {W W' : World} (hb : Below W.heap.size W W') : ∀ (ts : List TypeId) (vs : List Value) (ds : List (DataW H)) (ps : List MemPlace),
    (∀ t ∈ ts, Tryd.prog.readableRec t = true ∧ t < Tryd.prog.types.size) → DataW.TrodAll enc Tryd.prog W 0 (fun _ => true) true ts vs ds ps → (∀ x ∈ ps, x.block < W.heap.size) →
    DataW.TrodAll enc Tryd.prog W' 0 (fun b => decide (b < W.heap.size)) true ts vs ds ps
  | [], vs, ds, ps, _, h, _ => by
    obtain ⟨rfl, rfl, rfl⟩ := trodAll_nil h
    exact trodAll_mk0
  | t :: ts, vs, ds, ps, ht, h, hlt => by
    obtain ⟨v, vs', d, ds', p, q, rfl, rfl, rfl, h1, h2⟩ := trodAll_cons h
    exact trodAll_cons_mk (Below.trod laidOut (ht t (by simp)).1 (ht t (by simp)).2 h1 hb fun x hx => hlt x (by simp [hx]))
      (args_below hb ts vs' ds' q (fun u hu => ht u (by simp [hu])) h2 fun x hx => hlt x (by simp [hx]))

theorem post_law {f : Func} {s : ChangeSpec} {W W' : World} {args : Array Value} {ds gs : List (DataW H)} {before : List MemPlace}
    (hW : DataW.Whole enc Tryd.prog f.params.toList s.vars false W args.toList ds gs before) (hvars : s.vars = []) (hb : Below W.heap.size W W')
    (hp : ∀ t ∈ f.params.toList, Tryd.prog.readableRec t = true ∧ t < Tryd.prog.types.size) (hr : f.resultTypes = #[4])
    (hs : s.fn H (ds ++ []) = { results := [.lit (.bool true)], args := ds }) : s.post enc Tryd.prog f false true false false W args (.bool true) W' := by
  have hlt := hW.lt
  have hW' := hW
  obtain ⟨p, q, hA, hV, rfl, hfz, hnd⟩ := hW
  rw [hvars] at hV
  obtain ⟨rfl, rfl⟩ := trodVars_none hV
  refine ⟨ds, [], p ++ [], [], p, [], hW', ?_, ?_, ?_, hb.frame _, fun h => by cases h⟩
  · rw [hs, hr]
    exact trodAll_cons_mk (shut_bool Tryd.underlying4 _) trodAll_mk0
  · rw [hs]
    exact args_below hb _ _ _ _ hp hA fun x hx => hlt x (by simp [hx])
  · rw [hs, hvars]
    exact rfl
end

theorem cellsBytes : Tryd.prog.cellsOf 22 = 1 := by kernel_rfl
theorem cellsU8 : Tryd.prog.cellsOf 5 = 1 := by kernel_rfl
theorem cellsBool : Tryd.prog.cellsOf 4 = 1 := by kernel_rfl

section
variable {H : Type} {enc : TypeId × Value → H}
/-- a slice of bytes, opened -/
theorem open_bytes {W : World} {fuel : Nat} {v : Value} {x : DataW H × List MemPlace} (h : DataW.trod enc Tryd.prog W 0 (fun _ => true) true fuel 22 [v] = some x) :
    ∃ A c bs, v = .slice A bs.length c ∧ Bys W A bs ∧ bs.length ≤ maxLen ∧ bs.length ≤ c := by
  rcases open_ints Tryd.underlying22 Tryd.underlying5 cellsU8 h with ⟨hcs, _⟩ | ⟨a, len, cap, zs, hcs, _, hl, hm, hz, _, hcell, hwz⟩
  · cases hcs
    exact ⟨none, 0, [], rfl, fun h => absurd h (by simp), Nat.zero_le _, Nat.le_refl _⟩
  · cases hcs
    have hz' : zs.length = cap := hz
    refine ⟨some a, cap, (zs.take len).map fun z => UInt8.ofNat z.toNat, ?_, ?_, ?_, ?_⟩
    · rw [List.length_map, List.length_take, Nat.min_eq_left (by omega)]
    · intro hp
      rw [List.length_map, List.length_take] at hp
      obtain ⟨b, off, rfl, hc⟩ := ints_at hcell (by omega)
      refine ⟨b, off, rfl, World.block_lt_of_cell? W _ (hc 0 (by omega)), fun k hk => ?_⟩
      rw [List.length_map, List.length_take] at hk
      have hkz : k < zs.length := by omega
      rw [hc k hkz]
      have hwf := hwz _ (List.getElem_mem hkz)
      have hb : 0 ≤ zs[k] ∧ zs[k] ≤ 255 := by
        have hmin : IntKind.u8.min = 0 := rfl
        have hmax : IntKind.u8.max = 255 := rfl
        simp only [Lit.wf, Bool.and_eq_true, decide_eq_true_eq] at hwf
        omega
      have e1 : zs.getD k 0 = zs[k] := by simp [hkz]
      have e2 : ((zs.take len).map fun z => UInt8.ofNat z.toNat).getD k 0 = UInt8.ofNat zs[k].toNat := by
        have : k < len := by omega
        simp [hkz, this]
      rw [e1, e2]
      unfold u8v
      rw [UInt8.toNat_ofNat', Nat.mod_eq_of_lt (by omega)]
      congr 2
      omega
    · rw [List.length_map, List.length_take]; omega
    · rw [List.length_map, List.length_take]; omega
theorem open_bytes_arg {r : Reach} {b0 : Nat} {W : World} {v : Value} {d : DataW H} {p : List MemPlace} (hv : Value.okWide Tryd.prog W r b0 22 v) (h : DataW.Trod enc Tryd.prog W 0 (fun _ => true) true 22 v d p) :
    ∃ A c bs, v = .slice A bs.length c ∧ Bys W A bs ∧ bs.length ≤ maxLen ∧ bs.length ≤ c := by
  obtain ⟨a, n, c, rfl⟩ := okWide_slice Tryd.underlying22 hv
  obtain ⟨fuel, hf⟩ := h
  exact open_bytes (show DataW.trod enc Tryd.prog W 0 (fun _ => true) true fuel 22 [.slice a n c] = some (d, p) from hf)

theorem plain_addr {W : World} {a : Addr} {n : Nat} {V : Nat → Value} (h : ∀ i, i < n → W.cell? (a.add i) = some (V i)) (hp : 0 < n) : ∃ b off, a = ⟨b, off, none⟩ ∧ ∀ i, i < n → W.cell? ⟨b, off + i, none⟩ = some (V i) := by
  obtain ⟨b, off, spot⟩ := a
  have hspot : spot = none := by simpa [Addr.add] using World.cell?_spot (h 0 hp)
  subst hspot
  exact ⟨b, off, rfl, fun j hj => by rw [← Go.WideShapes.add_plain]; exact h j hj⟩
/-- a slice of Bools, its value opened -/
theorem open_bools0 {W : World} {fuel : Nat} {v : Value} {x : DataW H × List MemPlace} (hf : DataW.trod enc Tryd.prog W 0 (fun _ => true) true fuel 34 [v] = some x) :
    ∃ A c bs, v = .slice A bs.length c ∧ BoolsIn (fun i => i < W.heap.size) W A bs ∧ bs.length ≤ maxLen ∧ bs.length ≤ c := by
  obtain ⟨d, p⟩ := x
  rcases Go.Deep.open_slice1 Tryd.underlying34 cellsBool hf with ⟨e, _⟩ | ⟨a, n0, c0, m, n, V, D, Pl, e, _, hlc, hcm, hm, _, hi⟩
  · cases e
    exact ⟨none, 0, [], rfl, fun h => absurd h (by simp), Nat.zero_le _, Nat.le_refl _⟩
  · cases e
    have hm' : m = c0 := hm
    have key : ∀ i, ∃ y : Bool, i < n0 → V i = .bool y := fun i => by
      by_cases hlt : i < n0
      · obtain ⟨y, h1, _⟩ := DataW.trod_bool Tryd.underlying4 (hi i (by omega)).2
        exact ⟨y, fun _ => by injection h1 with h1⟩
      · exact ⟨false, fun h => absurd h hlt⟩
    obtain ⟨f, hf2⟩ := Classical.axiomOfChoice key
    have hlen : ((List.range n0).map f).length = n0 := by simp
    have hget : ∀ k, k < n0 → ((List.range n0).map f).getD k false = f k := fun k hk => by simp [List.getD_eq_getElem?_getD, hk]
    refine ⟨some a, c0, (List.range n0).map f, by rw [hlen], fun hp => ?_, by omega, by omega⟩
    rw [hlen] at hp
    obtain ⟨b, off, rfl, hc⟩ := plain_addr (fun i hil => (hi i (by omega)).1) hp
    refine ⟨b, off, rfl, World.block_lt_of_cell? W ⟨b, off + 0, none⟩ (hc 0 hp), fun k hk => ?_⟩
    rw [hlen] at hk
    rw [hget k hk, hc k hk, hf2 k hk]
/-- a slice of Bools, opened -/
theorem open_bools {r : Reach} {b0 : Nat} {W : World} {v : Value} {d : DataW H} {p : List MemPlace} (hv : Value.okWide Tryd.prog W r b0 34 v) (h : DataW.Trod enc Tryd.prog W 0 (fun _ => true) true 34 v d p) :
    ∃ A c bs, v = .slice A bs.length c ∧ BoolsIn (fun i => i < W.heap.size) W A bs ∧ bs.length ≤ maxLen ∧ bs.length ≤ c := by
  obtain ⟨a0, n0, c0, rfl⟩ := okWide_slice Tryd.underlying34 hv
  obtain ⟨fuel, hf⟩ := h
  exact open_bools0 hf
end
/-- the constants of the rounds -/
def konN : List Nat := [1116352408, 1899447441, 3049323471, 3921009573, 961987163, 1508970993, 2453635748, 2870763221, 3624381080, 310598401, 607225278, 1426881987, 1925078388, 2162078206, 2614888103, 3248222580, 3835390401, 4022224774, 264347078, 604807628, 770255983, 1249150122, 1555081692, 1996064986, 2554220882, 2821834349, 2952996808, 3210313671, 3336571891, 3584528711, 113926993, 338241895, 666307205, 773529912, 1294757372, 1396182291, 1695183700, 1986661051, 2177026350, 2456956037, 2730485921, 2820302411, 3259730800, 3345764771, 3516065817, 3600352804, 4094571909, 275423344, 430227734, 506948616, 659060556, 883997877, 958139571, 1322822218, 1537002063, 1747873779, 1955562222, 2024104815, 2227730452, 2361852424, 2428436474, 2756734187, 3204031479, 3329325298]
theorem konN_lt (k : Nat) : konN.getD k 0 < 4294967296 := by
  refine getD_lt (fun x hx => ?_) k
  have h : konN.all (fun x => decide (x < 4294967296)) = true := by decide +kernel
  simpa using List.all_eq_true.1 h x hx
theorem gTab : Tryd.prog.globalNamed "election/digest.constants" = some 0 := by kernel_rfl
theorem gTabType : (Tryd.prog.globals[0]?).map (·.type) = some 98 := by kernel_rfl
theorem cellsTab : Tryd.prog.cellsOf 98 = 64 := by kernel_rfl
theorem cellsU32 : Tryd.prog.cellsOf 87 = 1 := by kernel_rfl
theorem kon_of_laid {W : World} (h : laidMetH Tryd.prog [("election/digest.constants", Rows.laid_election_digest_constants)] W) : Kon konN W := by
  have hT : Lib.TabIs Tryd.prog W "election/digest.constants" .u32 (konN.map fun n : Nat => (n : Int)) := Lib.tabIs_of_head (rest := []) gTab gTabType Tryd.underlying98 Tryd.underlying87 cellsU32 cellsTab h
  have hc : ∀ k, k < 64 → W.cell? ⟨0, k, none⟩ = some (.int .u32 (konN.getD k 0 : Nat)) := fun k hk => by
    rw [hT.cell gTab k (by rw [List.length_map]; exact hk)]
    congr 2
    rw [List.getD_eq_getElem?_getD, List.getElem?_map, List.getD_eq_getElem?_getD, List.getElem?_eq_getElem (show k < konN.length from hk)]
    rfl
  exact ⟨World.block_lt_of_cell? W _ (hc 0 (by omega)), hc, konN_lt⟩
/-- a world for the witness: the table lies as its initialiser lays it -/
noncomputable def laidWorld (os : Os) : World :=
  { World.holding Tryd.prog os ⟨#[], #[], []⟩ with heap := (World.holding Tryd.prog os ⟨#[], #[], []⟩).heap.modify 0 fun
      | .cells _ t frozen => .cells (konN.map fun n : Nat => Value.int .u32 (n : Int)).toArray t frozen
      | o => o }
end Go.Proofs.YtlelkhonkhlflaaDoor
