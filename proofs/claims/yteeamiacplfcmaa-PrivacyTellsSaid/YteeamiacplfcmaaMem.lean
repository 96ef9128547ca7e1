/-
  Memory words: lists of numbers, of groups, of cells, in blocks of a footprint.
-/
import Derived.Test.YteeamiacplfcmaaRows
import Derived.WalkKit
import Derived.WalkSpells
import Derived.WalkLawsBesides
import Derived.OpenShut
import Derived.Deep.QuietTactic
import Derived.BigQuiet
import Derived.Lib.Hide
import Derived.Lib.SliceRun
import Derived.Deep.OwnRows
import Derived.Maps.AppendAt
import Derived.Laws.CopyOwn
import Derived.Deep.AppendLies
import Derived.Laws.OwnMore
import Derived.Deep.DeepCutAuto
import Derived.Deep.RegionHeld3
import Derived.Deep.DrawnRows
namespace Go.Proofs.Yteeamiacplfcmaa
open Go.RowKit
set_option linter.unusedVariables false
set_option linter.unusedSimpArgs false

theorem hide {p : Prop} (h : p) : Hid p := h
theorem intinfo : (Try.prog.info? 3).map (fun i => (i.zero, i.size, i.bytes)) = some (some (.int .i64 0), 1, 8) := by kernel_rfl
theorem add_off (b off j : Nat) : (⟨b, off, none⟩ : Addr).add j = ⟨b, off + j, none⟩ := by unfold Addr.add; split <;> simp_all
theorem ownsRow_of {w w' : World} {B : Nat} {e : TypeId} {z : Nat} {v : Value} {n : Nat} {xs : List Value} (h : w.ownsRow B e z v n xs) (hh : ∀ g, v.ownBlock = some g → g < w.heap.size → w'.heap[g]? = w.heap[g]?) : w'.ownsRow B e z v n xs := by
  obtain ⟨h1, h2⟩ := h
  refine ⟨h1, ?_⟩
  rcases h2 with h2 | ⟨g, cap, cur, rfl, hb, hg, hr⟩
  · exact .inl h2
  · have hlt : g < w.heap.size := by
      rcases Nat.lt_or_ge g w.heap.size with hlt | hge
      · exact hlt
      · rw [Array.getElem?_eq_none hge] at hg; cases hg
    exact .inr ⟨g, cap, cur, rfl, hb, (hh g rfl hlt).trans hg, hr⟩
theorem grown_of_below {a b : World} (h : Below a.heap.size a b) (r : Option Nat) : a.grownBy b r := ⟨h.os, h.tape, h.output, h.size, fun k hk _ => h.block k hk⟩
theorem grown_refl (w : World) (r : Option Nat) : w.grownBy w r := ⟨rfl, rfl, rfl, Nat.le_refl _, fun _ _ _ => rfl⟩
theorem grown_trans {a b c : World} {r : Option Nat} (h : a.grownBy b r) (k : b.grownBy c r) : a.grownBy c r :=
  ⟨k.os.trans h.os, k.tape.trans h.tape, k.output.trans h.output, Nat.le_trans h.size k.size, fun i hi hr => (k.block i (Nat.lt_of_lt_of_le hi h.size) hr).trans (h.block i hi hr)⟩
theorem below_then {w w1 w2 : World} (h : Below w.heap.size w w1) (h2 : Below w1.heap.size w1 w2) : Below w.heap.size w w2 := h.trans (h2.mono h.size)
theorem below_drew {B : Nat} {a b : World} (h : Below B a b) (n : Nat) : Below B a (b.drewN n) := h.trans ⟨rfl, rfl, rfl, Nat.le_refl _, fun _ _ => rfl⟩
theorem below_box {w w1 : World} {o : Obj} (h : Below (w.alloc o).heap.size (w.alloc o) w1) : Below w.heap.size w w1 :=
  ((Below.refl _ _).alloc (Nat.le_refl _) o).trans (h.mono (by simp))
theorem own_by {B : Nat} {w w' : World} {v : Value} (hB : B ≤ w.heap.size) (hlo : ∀ g, v.ownBlock = some g → B ≤ g) (hg : w.grownBy w' v.ownBlock) : Below B w w' :=
  ⟨hg.os, hg.tape, hg.output, hg.size, fun i hi => hg.block i (by omega) (fun e => by have := hlo i e.symm; omega)⟩

/-- block g is just the cells cs -/
def Box (w : World) (g : Nat) (t : TypeId) (cs : Array Value) : Prop := w.heap[g]? = some (.cells cs t (0, 0))
section
variable {w w' : World} {g : Nat} {t : TypeId} {cs : Array Value}
theorem Box.lt (h : Box w g t cs) : g < w.heap.size := by
  rcases Nat.lt_or_ge g w.heap.size with hlt | hge
  · exact hlt
  · unfold Box at h; rw [Array.getElem?_eq_none hge] at h; cases h
theorem Box.new (w : World) (t : TypeId) (cs : Array Value) : Box (w.alloc (.cells cs t)) w.heap.size t cs := heap_alloc_new w _
theorem Box.cell (h : Box w g t cs) (i : Nat) : w.cell? ⟨g, i, none⟩ = cs[i]? := cell_of_row w g i cs t (0, 0) h
theorem Box.frozen (h : Box w g t cs) (i : Nat) : w.frozen? ⟨g, i, none⟩ = false := by
  unfold Box at h
  simp [World.frozen?, h]
theorem Box.drew (h : Box w g t cs) : Box w.drew g t cs := h
theorem Box.drewN (h : Box w g t cs) (n : Nat) : Box (w.drewN n) g t cs := h
theorem Box.alloc (h : Box w g t cs) (o : Obj) : Box (w.alloc o) g t cs := (Below.heap_alloc w o g h.lt).trans h
theorem Box.far (h : Box w g t cs) {p : Addr} (hp : g ≠ p.block) (u : Value) : Box (w.setCell p u) g t cs := (Below.heap_setCell w p u g hp).trans h
theorem Box.set (h : Box w g t cs) (i : Nat) (u : Value) : Box (w.setCell ⟨g, i, none⟩ u) g t (cs.setIfInBounds i u) := by
  unfold Box at h ⊢
  simp [World.setCell, Array.getElem?_modify, h]
theorem Box.kept (h : Box w g t cs) (hb : Below w.heap.size w w') : Box w' g t cs := (hb.block g h.lt).trans h
theorem Box.below {B : Nat} (h : Box w g t cs) (hb : Below B w w') (hg : g < B) : Box w' g t cs := (hb.block g hg).trans h
theorem Box.grown {row : Option Nat} (h : Box w g t cs) (hb : w.grownBy w' row) (hg : some g ≠ row) : Box w' g t cs := (hb.block g h.lt hg).trans h
end

/-- the blocks of F are as they were -/
def Agree (F : Nat → Prop) (a b : World) : Prop := ∀ i, F i → b.heap[i]? = a.heap[i]?
/-- the blocks of F are there -/
def Lt (F : Nat → Prop) (w : World) : Prop := ∀ i, F i → i < w.heap.size
/-- all the blocks of w -/
def All (w : World) (i : Nat) : Prop := i < w.heap.size
section
variable {F G : Nat → Prop} {a b w w' : World} {A : Option Addr}
theorem Agree.of_below {B : Nat} (h : Below B a b) (hl : ∀ i, F i → i < B) : Agree F a b := fun i hi => h.block i (hl i hi)
theorem Agree.mono (h : Agree F a b) (hs : ∀ i, G i → F i) : Agree G a b := fun i hi => h i (hs i hi)
theorem Agree.all (h : Below a.heap.size a b) : Agree (All a) a b := fun i hi => h.block i hi
theorem Agree.grown {r : Option Nat} (h : a.grownBy b r) (hl : Lt F a) (hr : ∀ i, F i → r ≠ some i) : Agree F a b := fun i hi => h.block i (hl i hi) fun e => hr i hi e.symm
theorem Lt.size (h : Lt F a) (hc : a.heap.size ≤ b.heap.size) : Lt F b := fun i hi => Nat.lt_of_lt_of_le (h i hi) hc

/-- the slice at A reads as the numbers l, in blocks of F -/
def IntsIn (F : Nat → Prop) (w : World) (A : Option Addr) (l : List Int) : Prop :=
  0 < l.length → ∃ b off, A = some ⟨b, off, none⟩ ∧ F b ∧ ∀ k, k < l.length → w.cell? ⟨b, off + k, none⟩ = some (.int .i64 (l.getD k 0))
/-- numbers of the model's int -/
def InI (x : Int) : Prop := -9223372036854775808 ≤ x ∧ x ≤ 9223372036854775807
theorem IntsIn.agree {l : List Int} (h : IntsIn F a A l) (hg : Agree F a b) : IntsIn F b A l := fun hp => by
  obtain ⟨g, off, e, hF, hc⟩ := h hp
  exact ⟨g, off, e, hF, fun k hk => (World.cell?_of_block (hg g hF)).trans (hc k hk)⟩
theorem IntsIn.mono {l : List Int} (h : IntsIn F w A l) (hs : ∀ i, F i → G i) : IntsIn G w A l := fun hp => by
  obtain ⟨g, off, e, hF, hc⟩ := h hp
  exact ⟨g, off, e, hs g hF, hc⟩
theorem IntsIn.nil (F : Nat → Prop) (w : World) (A : Option Addr) : IntsIn F w A [] := fun h => absurd h (by simp)
theorem IntsIn.at_ {l : List Int} (h : IntsIn F w A l) {k : Nat} (hk : k < l.length) : ∃ b off, A = some ⟨b, off, none⟩ ∧ F b ∧ w.cell? ⟨b, off + k, none⟩ = some (.int .i64 (l.getD k 0)) := by
  obtain ⟨g, off, e, hF, hc⟩ := h (by omega)
  exact ⟨g, off, e, hF, hc k hk⟩
theorem IntsIn.take {l : List Int} (h : IntsIn F w A l) (k : Nat) : IntsIn F w A (l.take k) := fun hp => by
  rw [List.length_take] at hp
  obtain ⟨g, off, e, hF, hc⟩ := h (by omega)
  refine ⟨g, off, e, hF, fun j hj => ?_⟩
  rw [List.length_take] at hj
  rw [hc j (by omega)]
  simp [List.getD_eq_getElem?_getD, List.getElem?_take, show j < k by omega]
end
/-- the slice at A reads as the numbers l -/
def Ints (w : World) (A : Option Addr) (l : List Int) : Prop := IntsIn (All w) w A l
theorem IntsIn.ints {F : Nat → Prop} {w : World} {A : Option Addr} {l : List Int} (h : IntsIn F w A l) (hl : Lt F w) : Ints w A l := h.mono hl
theorem Ints.below {w w' : World} {A : Option Addr} {l : List Int} (h : Ints w A l) (hb : Below w.heap.size w w') : Ints w' A l :=
  (IntsIn.agree h (Agree.all hb)).mono fun _ hi => Nat.lt_of_lt_of_le hi hb.size
theorem Ints.at_ {w : World} {A : Option Addr} {l : List Int} (h : Ints w A l) {k : Nat} (hk : k < l.length) : ∃ b off, A = some ⟨b, off, none⟩ ∧ b < w.heap.size ∧ w.cell? ⟨b, off + k, none⟩ = some (.int .i64 (l.getD k 0)) := IntsIn.at_ h hk

/-- nothing has changed: choices were drawn -/
def Drew (w w' : World) : Prop := ∃ m, w' = w.drewN m
theorem Drew.refl (w : World) : Drew w w := ⟨0, rfl⟩
theorem Drew.drew {w w' : World} (h : Drew w w') (n : Nat) : Drew w (w'.drewN n) := by
  obtain ⟨m, rfl⟩ := h
  exact ⟨m + n, World.drewN_drewN _ _ _⟩
theorem Drew.trans {a b c : World} (h : Drew a b) (k : Drew b c) : Drew a c := by
  obtain ⟨n, rfl⟩ := k
  exact h.drew n
theorem Drew.below {w w' : World} (h : Drew w w') : Below w.heap.size w w' := by
  obtain ⟨m, rfl⟩ := h
  exact below_drew (Below.refl _ _) m
theorem Drew.heap {w w' : World} (h : Drew w w') : w'.heap = w.heap := by
  obtain ⟨m, rfl⟩ := h
  rfl
/-- a call that only draws, in a region that draws its order -/
theorem quiet {P : Program} {f : FuncId} {args : Array Value} {w : World} {n : Nat} {v : Value} (h : ∀ w', Drew w w' → Calls P f args w' fun e w2 => e = .returned v ∧ Drew w' w2) : Calls P f args (w.drewN n) fun e w'' => e = .returned v ∧ ∃ m, w'' = w.drewN m :=
  Calls.quiet_of (h _ ⟨n, rfl⟩)
theorem Ints.drew {w w' : World} {A : Option Addr} {l : List Int} (h : Ints w A l) (hd : Drew w w') : Ints w' A l := h.below hd.below
/-- what two cells bear, in blocks of a footprint -/
abbrev Rel (α : Type) := (Nat → Prop) → World → Value → Value → α → Prop
structure Good {α : Type} (E : Rel α) : Prop where
  mono : ∀ {F G : Nat → Prop} {w : World} {v0 v1 : Value} {x : α}, E F w v0 v1 x → (∀ i, F i → G i) → E G w v0 v1 x
  agree : ∀ {F : Nat → Prop} {a b : World} {v0 v1 : Value} {x : α}, E F a v0 v1 x → Agree F a b → E F b v0 v1 x
  one : ∀ {F : Nat → Prop} {w : World} {v0 v1 : Value} {x : α}, E F w v0 v1 x → v0.oneCell' = true ∧ v1.oneCell' = true
/-- the slice at A reads as the elements xs, of two cells each -/
def PairsIn {α : Type} [Inhabited α] (E : Rel α) (F : Nat → Prop) (w : World) (A : Option Addr) (xs : List α) : Prop :=
  0 < xs.length → ∃ b off, A = some ⟨b, off, none⟩ ∧ F b ∧ ∀ k, k < xs.length → ∃ v0 v1, w.cell? ⟨b, off + k * 2, none⟩ = some v0 ∧ w.cell? ⟨b, off + k * 2 + 1, none⟩ = some v1 ∧ E F w v0 v1 (xs.getD k default)
section
variable {α : Type} [Inhabited α] {E : Rel α} {F G : Nat → Prop} {a b w w' : World} {A : Option Addr} {xs : List α}
theorem PairsIn.agree (h : PairsIn E F a A xs) (hE : Good E) (hg : Agree F a b) : PairsIn E F b A xs := fun hp => by
  obtain ⟨g, off, e, hF, hc⟩ := h hp
  refine ⟨g, off, e, hF, fun k hk => ?_⟩
  obtain ⟨v0, v1, h0, h1, h2⟩ := hc k hk
  exact ⟨v0, v1, (World.cell?_of_block (hg g hF)).trans h0, (World.cell?_of_block (hg g hF)).trans h1, hE.agree h2 hg⟩
theorem PairsIn.mono (h : PairsIn E F w A xs) (hE : Good E) (hs : ∀ i, F i → G i) : PairsIn E G w A xs := fun hp => by
  obtain ⟨g, off, e, hF, hc⟩ := h hp
  refine ⟨g, off, e, hs g hF, fun k hk => ?_⟩
  obtain ⟨v0, v1, h0, h1, h2⟩ := hc k hk
  exact ⟨v0, v1, h0, h1, hE.mono h2 hs⟩
theorem PairsIn.nil (E : Rel α) (F : Nat → Prop) (w : World) (A : Option Addr) : PairsIn E F w A [] := fun h => absurd h (by simp)
theorem PairsIn.at_ (h : PairsIn E F w A xs) {k : Nat} (hk : k < xs.length) :
    ∃ b off v0 v1, A = some ⟨b, off, none⟩ ∧ F b ∧ w.cell? ⟨b, off + k * 2, none⟩ = some v0 ∧ w.cell? ⟨b, off + k * 2 + 1, none⟩ = some v1 ∧ E F w v0 v1 (xs.getD k default) := by
  obtain ⟨g, off, e, hF, hc⟩ := h (by omega)
  obtain ⟨v0, v1, h0, h1, h2⟩ := hc k hk
  exact ⟨g, off, v0, v1, e, hF, h0, h1, h2⟩
end
/-- a group: the preferences, the number -/
abbrev Grp := List Int × Int
def GrpE : Rel Grp := fun F w v0 v1 x => ∃ A c, v0 = .slice A x.1.length c ∧ x.1.length ≤ c ∧ x.1.length ≤ 1000000 ∧ (∀ y ∈ x.1, InI y) ∧ InI x.2 ∧ IntsIn F w A x.1 ∧ v1 = .int .i64 x.2
theorem goodG : Good GrpE where
  mono := fun ⟨A, c, h0, hc, hm, hi, hj, h1, h2⟩ hs => ⟨A, c, h0, hc, hm, hi, hj, h1.mono hs, h2⟩
  agree := fun ⟨A, c, h0, hc, hm, hi, hj, h1, h2⟩ hg => ⟨A, c, h0, hc, hm, hi, hj, h1.agree hg, h2⟩
  one := fun ⟨A, c, h0, hc, hm, hi, hj, h1, h2⟩ => by subst h0 h2; exact ⟨rfl, rfl⟩
/-- a cell of a report: the precincts, the groups -/
abbrev Cel := List Int × List Grp
def CelE : Rel Cel := fun F w v0 v1 x => ∃ A c B d, v0 = .slice A x.1.length c ∧ x.1.length ≤ c ∧ x.1.length ≤ 1000000 ∧ (∀ y ∈ x.1, InI y) ∧ IntsIn F w A x.1 ∧ v1 = .slice B x.2.length d ∧ x.2.length ≤ d ∧ x.2.length ≤ 1000000 ∧ PairsIn GrpE F w B x.2
theorem goodC : Good CelE where
  mono := fun ⟨A, c, B, d, h0, hc, hm, hi, h1, h2, hd, hn, h3⟩ hs => ⟨A, c, B, d, h0, hc, hm, hi, h1.mono hs, h2, hd, hn, h3.mono goodG hs⟩
  agree := fun ⟨A, c, B, d, h0, hc, hm, hi, h1, h2, hd, hn, h3⟩ hg => ⟨A, c, B, d, h0, hc, hm, hi, h1.agree hg, h2, hd, hn, h3.agree goodG hg⟩
  one := fun ⟨A, c, B, d, h0, hc, hm, hi, h1, h2, hd, hn, h3⟩ => by subst h0 h2; exact ⟨rfl, rfl⟩
/-- the slice at A reads as these groups, these cells -/
def Grps (w : World) (A : Option Addr) (gs : List Grp) : Prop := PairsIn GrpE (All w) w A gs
def Cels (w : World) (A : Option Addr) (cs : List Cel) : Prop := PairsIn CelE (All w) w A cs
theorem below_all {α : Type} [Inhabited α] {E : Rel α} {w w' : World} {A : Option Addr} {xs : List α} (h : PairsIn E (All w) w A xs) (hE : Good E) (hb : Below w.heap.size w w') : PairsIn E (All w') w' A xs :=
  (h.agree hE (Agree.all hb)).mono hE fun _ hi => Nat.lt_of_lt_of_le hi hb.size
theorem Grps.below {w w' : World} {A : Option Addr} {gs : List Grp} (h : Grps w A gs) (hb : Below w.heap.size w w') : Grps w' A gs := below_all h goodG hb
theorem Cels.below {w w' : World} {A : Option Addr} {cs : List Cel} (h : Cels w A cs) (hb : Below w.heap.size w w') : Cels w' A cs := below_all h goodC hb
theorem Grps.at_ {w : World} {A : Option Addr} {gs : List Grp} (h : Grps w A gs) {k : Nat} (hk : k < gs.length) :
    ∃ b off Ak ck, A = some ⟨b, off, none⟩ ∧ b < w.heap.size ∧ w.cell? ⟨b, off + k * 2, none⟩ = some (.slice Ak (gs.getD k default).1.length ck) ∧ w.cell? ⟨b, off + k * 2 + 1, none⟩ = some (.int .i64 (gs.getD k default).2) ∧ (gs.getD k default).1.length ≤ ck ∧ (gs.getD k default).1.length ≤ 1000000 ∧ (∀ y ∈ (gs.getD k default).1, InI y) ∧ InI (gs.getD k default).2 ∧ Ints w Ak (gs.getD k default).1 := by
  obtain ⟨b, off, v0, v1, e, hb, h0, h1, A2, c2, rfl, hc, hm, hi, hj, h3, rfl⟩ := PairsIn.at_ h hk
  exact ⟨b, off, A2, c2, e, hb, h0, h1, hc, hm, hi, hj, h3⟩
theorem Cels.at_ {w : World} {A : Option Addr} {cs : List Cel} (h : Cels w A cs) {k : Nat} (hk : k < cs.length) :
    ∃ b off Ak ck Bk dk, A = some ⟨b, off, none⟩ ∧ b < w.heap.size ∧ w.cell? ⟨b, off + k * 2, none⟩ = some (.slice Ak (cs.getD k default).1.length ck) ∧ w.cell? ⟨b, off + k * 2 + 1, none⟩ = some (.slice Bk (cs.getD k default).2.length dk) ∧
      (cs.getD k default).1.length ≤ ck ∧ (cs.getD k default).1.length ≤ 1000000 ∧ (∀ y ∈ (cs.getD k default).1, InI y) ∧ Ints w Ak (cs.getD k default).1 ∧ (cs.getD k default).2.length ≤ dk ∧ (cs.getD k default).2.length ≤ 1000000 ∧ Grps w Bk (cs.getD k default).2 := by
  obtain ⟨b, off, v0, v1, e, hb, h0, h1, A2, c2, B2, d2, rfl, hc, hm, hi, h2, rfl, hd, hn, h3⟩ := PairsIn.at_ h hk
  exact ⟨b, off, A2, c2, B2, d2, e, hb, h0, h1, hc, hm, hi, h2, hd, hn, h3⟩

/-- a list of elements of two cells to which the program appends: the value v, nil or the head of a block of F -/
def OwnP {α : Type} [Inhabited α] (E : Rel α) (ty : TypeId) (F : Nat → Prop) (w : World) (v : Value) (xs : List α) : Prop :=
  ∃ vals : List Value, w.ownsRow 0 ty 2 v xs.length vals ∧ (∀ g, v.ownBlock = some g → F g) ∧
    ∀ k, k < xs.length → ∃ v0 v1, vals[k * 2]? = some v0 ∧ vals[k * 2 + 1]? = some v1 ∧ E (fun b => F b ∧ v.ownBlock ≠ some b) w v0 v1 (xs.getD k default)
section
variable {α : Type} [Inhabited α] {E : Rel α} {F G : Nat → Prop} {a b w w' : World} {A : Option Addr} {xs : List α} {ty : TypeId} {v v' : Value}
theorem OwnP.nil (E : Rel α) (ty : TypeId) (F : Nat → Prop) (w : World) : OwnP E ty F w (.slice none 0 0) [] :=
  ⟨[], World.ownsRow_nil w _ _ 2, fun g e => (by cases e), fun k hk => absurd hk (by simp)⟩
theorem OwnP.agree (h : OwnP E ty F a v xs) (hE : Good E) (hg : Agree F a b) : OwnP E ty F b v xs := by
  obtain ⟨vals, h1, h3, h4⟩ := h
  refine ⟨vals, ownsRow_of h1 fun g e _ => hg g (h3 g e), h3, fun k hk => ?_⟩
  obtain ⟨v0, v1, g0, g1, g2⟩ := h4 k hk
  exact ⟨v0, v1, g0, g1, hE.agree g2 (hg.mono fun i hi => hi.1)⟩
theorem OwnP.mono (h : OwnP E ty F w v xs) (hE : Good E) (hs : ∀ i, F i → G i) : OwnP E ty G w v xs := by
  obtain ⟨vals, h1, h3, h4⟩ := h
  refine ⟨vals, h1, fun g e => hs g (h3 g e), fun k hk => ?_⟩
  obtain ⟨v0, v1, g0, g1, g2⟩ := h4 k hk
  exact ⟨v0, v1, g0, g1, hE.mono g2 fun i hi => ⟨hs i hi.1, hi.2⟩⟩
theorem OwnP.shape (h : OwnP E ty F w v xs) (hE : Good E) : ∃ A c, v = .slice A xs.length c ∧ xs.length ≤ c ∧ (∀ g, v.ownBlock = some g → F g ∧ g < w.heap.size ∧ A = some ⟨g, 0, none⟩) ∧ PairsIn E F w A xs := by
  obtain ⟨vals, h1, h3, h4⟩ := h
  obtain ⟨hl, hr⟩ := h1
  rcases hr with ⟨hv, hn⟩ | ⟨g, cap, cur, hv, hb, hg, hc, hm, hz, ht⟩
  · obtain rfl := List.length_eq_zero_iff.1 hn
    exact ⟨none, 0, hv, Nat.le_refl _, fun g e => (by rw [hv] at e; cases e), fun h => absurd h (by simp)⟩
  · have hown : v.ownBlock = some g := by rw [hv]; rfl
    have hlt : g < w.heap.size := by
      rcases Nat.lt_or_ge g w.heap.size with hlt | hge
      · exact hlt
      · rw [Array.getElem?_eq_none hge] at hg; cases hg
    refine ⟨some ⟨g, 0, none⟩, cap, hv, hc, fun g' e => ?_, fun hp => ⟨g, 0, rfl, h3 g hown, fun k hk => ?_⟩⟩
    · rw [hown] at e
      injection e with e
      subst e
      exact ⟨h3 g hown, hlt, rfl⟩
    · obtain ⟨v0, v1, g0, g1, g2⟩ := h4 k hk
      refine ⟨v0, v1, ?_, ?_, hE.mono g2 fun i hi => hi.1⟩
      · rw [cell_of_row w g (0 + k * 2) _ ty (0, 0) hg, ← g0, ← ht, List.getElem?_take_of_lt (by omega)]
        simp
      · rw [cell_of_row w g (0 + k * 2 + 1) _ ty (0, 0) hg, ← g1, ← ht, List.getElem?_take_of_lt (by omega)]
        simp
/-- elements are appended -/
theorem OwnP.push {ys : List α} {vals news : List Value} (h1 : w.ownsRow 0 ty 2 v xs.length vals)
    (h4 : ∀ k, k < xs.length → ∃ v0 v1, vals[k * 2]? = some v0 ∧ vals[k * 2 + 1]? = some v1 ∧ E (fun b => F b ∧ v.ownBlock ≠ some b) w v0 v1 (xs.getD k default)) (hE : Good E) (hl : Lt F w)
    (hn : news.length = ys.length * 2)
    (hy : ∀ k, k < ys.length → ∃ v0 v1, news[k * 2]? = some v0 ∧ news[k * 2 + 1]? = some v1 ∧ E (fun b => G b ∧ v.ownBlock ≠ some b) w v0 v1 (ys.getD k default)) (hG : Lt G w)
    (ho : w'.ownsRow 0 ty 2 v' (xs.length + ys.length) (vals ++ news))
    (hg : w.grownBy w' v.ownBlock) (hb : v'.ownBlock = v.ownBlock ∨ v'.ownBlock = some w.heap.size) :
    OwnP E ty (fun b => F b ∨ G b ∨ v'.ownBlock = some b) w' v' (xs ++ ys) := by
  have hvl : vals.length = xs.length * 2 := h1.1
  have hag : ∀ H : Nat → Prop, Lt H w → Agree (fun b => H b ∧ v.ownBlock ≠ some b) w w' := fun H hH i hi => hg.block i (hH i hi.1) fun e => hi.2 e.symm
  have hsub : ∀ H : Nat → Prop, Lt H w → (∀ i, H i → F i ∨ G i ∨ v'.ownBlock = some i) → ∀ i, (H i ∧ v.ownBlock ≠ some i) → ((F i ∨ G i ∨ v'.ownBlock = some i) ∧ v'.ownBlock ≠ some i) := fun H hH hs i hi => by
    refine ⟨hs i hi.1, ?_⟩
    rcases hb with hb | hb <;> rw [hb]
    · exact hi.2
    · intro e
      injection e with e
      have := hH i hi.1
      omega
  refine ⟨vals ++ news, by rw [List.length_append]; exact ho, fun g e => .inr (.inr e), fun k hk => ?_⟩
  rw [List.length_append] at hk
  by_cases e : k < xs.length
  · obtain ⟨v0, v1, g0, g1, g2⟩ := h4 k e
    have e2 : (xs ++ ys).getD k default = xs.getD k default := by simp [List.getD_eq_getElem?_getD, List.getElem?_append, e]
    rw [e2]
    refine ⟨v0, v1, ?_, ?_, hE.mono (hE.agree g2 (hag F hl)) (hsub F hl fun i hi => .inl hi)⟩
    · rw [List.getElem?_append_left (by omega)]; exact g0
    · rw [List.getElem?_append_left (by omega)]; exact g1
  · obtain ⟨v0, v1, g0, g1, g2⟩ := hy (k - xs.length) (by omega)
    have e2 : (xs ++ ys).getD k default = ys.getD (k - xs.length) default := by simp [List.getD_eq_getElem?_getD, List.getElem?_append, e]
    rw [e2]
    refine ⟨v0, v1, ?_, ?_, hE.mono (hE.agree g2 (hag G hG)) (hsub G hG fun i hi => .inr (.inl hi))⟩
    · rw [List.getElem?_append_right (by omega), ← g0]; congr 1; omega
    · rw [List.getElem?_append_right (by omega), ← g1]; congr 1; omega
end
end Go.Proofs.Yteeamiacplfcmaa
