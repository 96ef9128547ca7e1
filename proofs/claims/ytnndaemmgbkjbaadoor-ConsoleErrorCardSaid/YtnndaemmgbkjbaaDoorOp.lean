/-
  Operations by value and in memory: loaded and stored as a whole.
-/
import Derived.Test.YtnndaemmgbkjbaaDoorElec
import Derived.Laws.CopyRow
import Derived.Laws.Cells
namespace Go.Proofs.YtnndaemmgbkjbaaDoor
open Go.RowKit
set_option linter.unusedVariables false
set_option linter.unusedSimpArgs false

structure Opn where
  kind : Int
  prec : Int
  cont : Int
  scan : Int
  n : Int
  lie : Int
  marks : List Int
  keep : List Bool
  lose : Bool
  deaf : Bool
  twice : Bool
  text : ByteArray
def Opn.cells (o : Opn) (A : Option Addr) (c : Nat) (B : Option Addr) (d : Nat) : Array Value := #[.int .i64 o.kind, .int .i64 o.prec, .int .i64 o.cont, .int .i64 o.scan, .int .i64 o.n, .int .i64 o.lie, .slice A o.marks.length c, .slice B o.keep.length d, .bool o.lose, .bool o.deaf, .bool o.twice, .string o.text]
def zeroO : Opn := ⟨0, 0, 0, 0, 0, 0, [], [], false, false, false, ⟨#[]⟩⟩
/-- the value is an operation, its lists in blocks of F -/
def OpV (F : Nat → Prop) (w : World) (v : Value) (o : Opn) : Prop := ∃ A c B d, v = .agg (o.cells A c B d) ∧ ListIn iv F w A o.marks ∧ o.marks.length ≤ c ∧ ListIn Value.bool F w B o.keep ∧ o.keep.length ≤ d
theorem Opn.cells_size (o : Opn) (A : Option Addr) (c : Nat) (B : Option Addr) (d : Nat) : (o.cells A c B d).size = 12 := rfl
theorem OpV.agree {F : Nat → Prop} {a b : World} {v : Value} {o : Opn} (h : OpV F a v o) (hg : Agree F a b) : OpV F b v o := by
  obtain ⟨A, c, B, d, rfl, h1, h2, h3, h4⟩ := h
  exact ⟨A, c, B, d, rfl, h1.agree hg, h2, h3.agree hg, h4⟩
theorem OpV.mono {F G : Nat → Prop} {w : World} {v : Value} {o : Opn} (h : OpV F w v o) (hs : ∀ i, F i → G i) : OpV G w v o := by
  obtain ⟨A, c, B, d, rfl, h1, h2, h3, h4⟩ := h
  exact ⟨A, c, B, d, rfl, h1.mono hs, h2, h3.mono hs, h4⟩
theorem OpV.below {w w' : World} {v : Value} {o : Opn} (h : OpV (All w) w v o) (hb : Below w.heap.size w w') : OpV (All w') w' v o :=
  (h.agree (Agree.all hb)).mono fun _ hi => Nat.lt_of_lt_of_le hi hb.size
def OneC (cs : Array Value) : Prop := ∀ v ∈ cs.toList, v.oneCell' = true
theorem Opn.one (o : Opn) (A : Option Addr) (c : Nat) (B : Option Addr) (d : Nat) : OneC (o.cells A c B d) := by
  intro v hv
  simp only [Opn.cells, List.mem_cons, List.not_mem_nil, or_false] at hv
  rcases hv with rfl | rfl | rfl | rfl | rfl | rfl | rfl | rfl | rfl | rfl | rfl | rfl <;> rfl
/-- a struct type of n cells -/
def AggT (t : TypeId) (n : Nat) : Prop := (∃ i0, Tryd.prog.info? t = some i0 ∧ i0.size = n) ∧ ∀ w : World, (isAgg t).run Tryd.prog w = .ok true w
theorem aggOp : AggT 39 12 := by
  refine ⟨?_, fun w => ?_⟩
  · have h : (Tryd.prog.info? 39).map (fun i => i.size) = some 12 := by kernel_rfl
    obtain ⟨i0, h1, h2⟩ := Option.map_eq_some_iff.1 h
    exact ⟨i0, h1, h2⟩
  · unfold isAgg
    rw [Sem.run_bind, run_underlying Tryd.underlying39 w]
    rfl
theorem box_load {t : TypeId} {n g : Nat} {cs : Array Value} {w : World} (hT : AggT t n) (h : Box w g t cs) (hs : cs.size = n) : (loadVar t ⟨g, 0, none⟩).run Tryd.prog w = .ok (.agg cs) w := by
  have hc : ∀ j v, cs.toList[j]? = some v → w.cell? ((⟨g, 0, none⟩ : Addr).add j) = some v := fun j v hv => by
    rw [add_off, Nat.zero_add, h.cell]
    simpa using hv
  have h1 := run_loadCells_list (P := Tryd.prog) w ⟨g, 0, none⟩ _ hc
  rw [Array.length_toList, hs] at h1
  obtain ⟨⟨i0, h2, h3⟩, h4⟩ := hT
  have h5 : (loadCells ⟨g, 0, none⟩ n).run Tryd.prog w = .ok cs w := by simpa using h1
  simp [loadVar, Sem.run_bind, h4, sizeOf, typeInfo, h2, h3, h5]
theorem setRow_grown (w : World) (g : Nat) (cs : Array Value) : w.grownBy (w.setRow g cs) (some g) :=
  ⟨rfl, rfl, rfl, by simp, fun k hk hne => setRow_other w g k cs (fun e => hne (by rw [e]))⟩
set_option maxRecDepth 100000 in
theorem box_store {t : TypeId} {n g : Nat} {cs cs' : Array Value} {w : World} (hT : AggT t n) (h : Box w g t cs) (hs : cs.size = n) (hs' : cs'.size = n) (h1 : OneC cs') :
    ∃ w', (storeVar t ⟨g, 0, none⟩ (.agg cs')).run Tryd.prog w = .ok () w' ∧ Box w' g t cs' ∧ w.grownBy w' (some g) := by
  have hr := run_storeCells_at Tryd.prog g 0 t cs'.toList 0 cs w h (by rw [Array.length_toList]; omega) h1
  have e0 : (cs.toList.take (0 + 0) ++ cs'.toList ++ cs.toList.drop (0 + cs'.toList.length + 0)) = cs'.toList := by
    rw [List.take_zero, List.nil_append, List.drop_of_length_le (by rw [Array.length_toList, Array.length_toList]; omega), List.append_nil]
  refine ⟨w.setRow g cs', ?_, setRow_heap w g _ _ _ _ h, setRow_grown _ _ _⟩
  obtain ⟨⟨i0, h2, h3⟩, h4⟩ := hT
  have e : (Value.agg cs').cells.toList = cs'.toList := by simp [Value.cells]
  have e2 : (Value.agg cs').cells.size = n := by simp [Value.cells, hs']
  simp [storeVar, sizeOf, typeInfo, h2, h3, e, e2]
  rw [hr]
  congr 2
  apply Array.toList_inj.1
  simpa using e0
/-- the results: a box's value and a slot -/
theorem results_ct {fn : Func} {p q : Tmp} {ty : TypeId} {tmps : Array Value} {w : World} {a : Addr} {v : Value} (h : fn.results = #[.cell p ty, .tmp q]) (hp : tmps.getD p undef = .pointer (some a))
    (hl : (loadVar ty a).run Tryd.prog w = .ok v w) : (results fn tmps).run Tryd.prog w = .ok (.tuple #[v, tmps.getD q undef]) w := by
  have hp' : tmps[p]?.getD undef = .pointer (some a) := by simpa using hp
  simp [results, h, hp', asAddr, hl]
theorem results_cell {fn : Func} {p : Tmp} {ty : TypeId} {tmps : Array Value} {w : World} {a : Addr} {v : Value} (h : fn.results = #[.cell p ty]) (hp : tmps.getD p undef = .pointer (some a))
    (hl : (loadVar ty a).run Tryd.prog w = .ok v w) : (results fn tmps).run Tryd.prog w = .ok v w := by
  have hp' : tmps[p]?.getD undef = .pointer (some a) := by simpa using hp
  simp [results, h, hp', asAddr, hl]
end Go.Proofs.YtnndaemmgbkjbaaDoor
