/-
  Memory words for slices of bytes, over this seat's type numbers.
-/
import Derived.Test.YtlelkhonkhlflaaDoorRows
import Derived.WalkKit
import Derived.WalkSpells
import Derived.WalkLawsBesides
import Derived.OpenShut
import Derived.Deep.QuietTactic
import Derived.BigQuiet
import Derived.Lib.Hide
import Derived.Lib.SliceRun
import Derived.Deep.OwnRows
namespace Go.Proofs.YtlelkhonkhlflaaDoor
open Go.RowKit

theorem u8info : (Tryd.prog.info? 5).map (fun i => (i.zero, i.size, i.bytes)) = some (some (.int .u8 0), 1, 1) := by kernel_rfl
theorem hide {p : Prop} (h : p) : Hid p := h

def u8v (b : UInt8) : Value := .int .u8 (b.toNat : Int)

/-- the slice at A reads as the bytes bs -/
def Bys (w : World) (A : Option Addr) (bs : List UInt8) : Prop :=
  0 < bs.length → ∃ b off, A = some ⟨b, off, none⟩ ∧ b < w.heap.size ∧ ∀ k, k < bs.length → w.cell? ⟨b, off + k, none⟩ = some (u8v (bs.getD k 0))

theorem Bys.below {w w' : World} {A : Option Addr} {bs : List UInt8} (h : Bys w A bs) (hb : Below w.heap.size w w') : Bys w' A bs := fun hp => by
  obtain ⟨b, off, e, hlt, hc⟩ := h hp
  exact ⟨b, off, e, Nat.lt_of_lt_of_le hlt hb.size, fun k hk => (hb.cell (p := ⟨b, off + k, none⟩) hlt).trans (hc k hk)⟩
theorem Bys.at_ {w : World} {A : Option Addr} {bs : List UInt8} (h : Bys w A bs) {k : Nat} (hk : k < bs.length) :
    ∃ b off x, A = some ⟨b, off, none⟩ ∧ b < w.heap.size ∧ x ≤ 255 ∧ Hid (x = (bs.getD k 0).toNat) ∧ w.cell? ⟨b, off + k, none⟩ = some (.int .u8 (x : Int)) := by
  obtain ⟨b, off, e, hlt, hc⟩ := h (by omega)
  refine ⟨b, off, (bs.getD k 0).toNat, e, hlt, ?_, rfl, hc k hk⟩
  have := (bs.getD k 0).toNat_lt
  omega
theorem Bys.alloc {w : World} {A : Option Addr} {bs : List UInt8} (h : Bys w A bs) (o : Obj) : Bys (w.alloc o) A bs := h.below ((Below.refl _ _).alloc (Nat.le_refl _) o)

theorem Bys.drew {w : World} {A : Option Addr} {bs : List UInt8} (h : Bys w A bs) : Bys w.drew A bs := h
/-- block g is just the cells cs -/
def Box (w : World) (g : Nat) (t : TypeId) (cs : Array Value) : Prop := w.heap[g]? = some (.cells cs t (0, 0))
section
variable {w w' : World} {g : Nat} {t : TypeId} {cs : Array Value}
theorem Box.lt (h : Box w g t cs) : g < w.heap.size := by
  rcases Nat.lt_or_ge g w.heap.size with hlt | hge
  · exact hlt
  · unfold Box at h; rw [Array.getElem?_eq_none hge] at h; cases h
theorem Box.new (w : World) (t : TypeId) (cs : Array Value) : Box (w.alloc (.cells cs t)) w.heap.size t cs := heap_alloc_new w _
theorem Box.cell (h : Box w g t cs) (i : Nat) : w.cell? ⟨g, i, none⟩ = cs[i]? := cell_of_row w g i cs t (0, 0) h
theorem Box.frozen (h : Box w g t cs) (i : Nat) : w.frozen? ⟨g, i, none⟩ = false := by
  unfold Box at h
  simp [World.frozen?, h]
theorem Box.drew (h : Box w g t cs) : Box w.drew g t cs := h
theorem Box.drewN (h : Box w g t cs) (n : Nat) : Box (w.drewN n) g t cs := h
theorem Box.alloc (h : Box w g t cs) (o : Obj) : Box (w.alloc o) g t cs := (Below.heap_alloc w o g h.lt).trans h
theorem Box.far (h : Box w g t cs) {p : Addr} (hp : g ≠ p.block) (u : Value) : Box (w.setCell p u) g t cs := (Below.heap_setCell w p u g hp).trans h
theorem Box.set (h : Box w g t cs) (i : Nat) (u : Value) : Box (w.setCell ⟨g, i, none⟩ u) g t (cs.setIfInBounds i u) := by
  unfold Box at h ⊢
  simp [World.setCell, Array.getElem?_modify, h]
theorem Box.kept (h : Box w g t cs) (hb : Below w.heap.size w w') : Box w' g t cs := (hb.block g h.lt).trans h
theorem Box.below {B : Nat} (h : Box w g t cs) (hb : Below B w w') (hg : g < B) : Box w' g t cs := (hb.block g hg).trans h
theorem Box.grown {row : Option Nat} (h : Box w g t cs) (hb : w.grownBy w' row) (hg : some g ≠ row) : Box w' g t cs := (hb.block g h.lt hg).trans h
end

/-- block g begins with the bytes bs -/
def Row (w : World) (g : Nat) (bs : List UInt8) : Prop := ∃ rest : List Value, w.heap[g]? = some (.cells (bs.map u8v ++ rest).toArray 5 (0, 0))
section
variable {w w' : World} {g : Nat} {bs : List UInt8}
theorem Row.lt (h : Row w g bs) : g < w.heap.size := by
  obtain ⟨rest, h⟩ := h
  rcases Nat.lt_or_ge g w.heap.size with hlt | hge
  · exact hlt
  · rw [Array.getElem?_eq_none hge] at h; cases h
theorem Row.cell (h : Row w g bs) {k : Nat} (hk : k < bs.length) : w.cell? ⟨g, k, none⟩ = some (u8v (bs.getD k 0)) := by
  obtain ⟨rest, h⟩ := h
  rw [cell_of_row w g k _ 5 (0, 0) h]
  simp [List.getElem?_append, hk]
theorem Row.frozen (h : Row w g bs) (i : Nat) : w.frozen? ⟨g, i, none⟩ = false := by
  obtain ⟨rest, h⟩ := h
  simp [World.frozen?, h]
theorem Row.bys (h : Row w g bs) : Bys w (some ⟨g, 0, none⟩) bs := fun _ => ⟨g, 0, rfl, h.lt, fun k hk => by rw [Nat.zero_add]; exact h.cell hk⟩
theorem Row.at_ (h : Row w g bs) {k : Nat} (hk : k < bs.length) : ∃ x : Nat, x ≤ 255 ∧ Hid (x = (bs.getD k 0).toNat) ∧ w.cell? ⟨g, k, none⟩ = some (.int .u8 (x : Int)) := by
  refine ⟨(bs.getD k 0).toNat, ?_, rfl, h.cell hk⟩
  have := (bs.getD k 0).toNat_lt
  omega
theorem Row.drew (h : Row w g bs) : Row w.drew g bs := h
theorem Row.drewN (h : Row w g bs) (n : Nat) : Row (w.drewN n) g bs := h
theorem Row.alloc (h : Row w g bs) (o : Obj) : Row (w.alloc o) g bs := by
  have hl := h.lt
  obtain ⟨rest, h⟩ := h
  exact ⟨rest, (Below.heap_alloc w o g hl).trans h⟩
theorem Row.set (h : Row w g bs) {i : Nat} (hi : i < bs.length) (y : UInt8) : Row (w.setCell ⟨g, i, none⟩ (u8v y)) g (bs.set i y) := by
  obtain ⟨rest, h⟩ := h
  refine ⟨rest, ?_⟩
  simp only [World.setCell, Array.getElem?_modify, h]
  simp [hi]
theorem Row.far (h : Row w g bs) {p : Addr} (hp : g ≠ p.block) (u : Value) : Row (w.setCell p u) g bs := by
  obtain ⟨rest, h⟩ := h
  exact ⟨rest, (Below.heap_setCell w p u g hp).trans h⟩
theorem Row.below {B : Nat} (h : Row w g bs) (hb : Below B w w') (hg : g < B) : Row w' g bs := by
  obtain ⟨rest, h⟩ := h
  exact ⟨rest, (hb.block g hg).trans h⟩
theorem Row.kept (h : Row w g bs) (hb : Below w.heap.size w w') : Row w' g bs := h.below hb h.lt
theorem Row.grown {row : Option Nat} (h : Row w g bs) (hb : w.grownBy w' row) (hg : some g ≠ row) : Row w' g bs := by
  have hl := h.lt
  obtain ⟨rest, h⟩ := h
  exact ⟨rest, (hb.block g hl hg).trans h⟩
theorem Row.made (w : World) (n : Nat) : Row (w.alloc (.cells (madeCells #[.int .u8 0] n) 5)) w.heap.size (List.replicate n 0) := by
  have e : madeCells #[Value.int .u8 0] n = ((List.replicate n (0 : UInt8)).map u8v ++ []).toArray := by
    rw [List.map_replicate, List.append_nil]
    apply Array.toList_inj.1
    rw [toList_madeCells_one]
    rfl
  refine ⟨[], ?_⟩
  rw [e]
  exact heap_alloc_new w _
theorem Row.of_own {base n cap : Nat} {g : Nat} (h : w.ownsRow base 5 1 (.slice (some ⟨g, 0, none⟩) n cap) n (bs.map u8v)) : Row w g bs := by
  obtain ⟨hl, h⟩ := h
  rcases h with ⟨h, _⟩ | ⟨g', cap', cur, hv, _, hg, _, _, _, ht⟩
  · cases h
  · have e : g' = g := by injection hv with h1; injection h1 with h1; injection h1 with h1; exact h1.symm
    subst e
    refine ⟨cur.toList.drop n, ?_⟩
    rw [Nat.mul_one] at ht
    rw [hg, ← ht, List.take_append_drop]
theorem own_row {base n : Nat} {v : Value} (h : w.ownsRow base 5 1 v n (bs.map u8v)) (hn : 0 < n) : ∃ g cap, v = .slice (some ⟨g, 0, none⟩) n cap ∧ base ≤ g ∧ Row w g bs ∧ n ≤ cap := by
  rcases h.2 with ⟨_, h0⟩ | ⟨g, cap, cur, hv, hb, _, hc, _⟩
  · omega
  · subst hv
    exact ⟨g, cap, rfl, hb, Row.of_own h, hc⟩
end

/-- all but block g is as it was, new blocks aside -/
theorem grown_refl (w : World) (r : Option Nat) : w.grownBy w r := ⟨rfl, rfl, rfl, Nat.le_refl _, fun _ _ _ => rfl⟩
theorem grown_trans {a b c : World} {r : Option Nat} (h : a.grownBy b r) (k : b.grownBy c r) : a.grownBy c r :=
  ⟨k.os.trans h.os, k.tape.trans h.tape, k.output.trans h.output, Nat.le_trans h.size k.size, fun i hi hr => (k.block i (Nat.lt_of_lt_of_le hi h.size) hr).trans (h.block i hi hr)⟩
theorem grown_of_below {a b : World} (h : Below a.heap.size a b) (r : Option Nat) : a.grownBy b r := ⟨h.os, h.tape, h.output, h.size, fun k hk _ => h.block k hk⟩
theorem below_of_grown {B : Nat} {a b : World} {g : Nat} (h : a.grownBy b (some g)) (hg : B ≤ g) (hB : B ≤ a.heap.size) : Below B a b :=
  (Below.refl B a).grown h hB (fun k hk => by cases hk; exact hg)
theorem grown_alloc {a b : World} {r : Option Nat} (h : a.grownBy b r) (o : Obj) : a.grownBy (b.alloc o) r :=
  grown_trans h (World.grownBy_alloc b o r)
theorem grown_setCell {a b : World} {g : Nat} (h : a.grownBy b (some g)) (i : Nat) (u : Value) : a.grownBy (b.setCell ⟨g, i, none⟩ u) (some g) :=
  grown_trans h ⟨rfl, rfl, rfl, by simp [World.setCell], fun k _ hk => Below.heap_setCell _ _ _ _ (fun e => hk (by rw [e]))⟩
theorem grown_setNew {a b : World} {r : Option Nat} (h : a.grownBy b r) {p : Addr} (hp : a.heap.size ≤ p.block) (u : Value) : a.grownBy (b.setCell p u) r :=
  ⟨h.os, h.tape, h.output, by have := h.size; simp [World.setCell]; omega, fun k hk hr => (Below.heap_setCell _ _ _ _ (by omega)).trans (h.block k hk hr)⟩
theorem Bys.grown {w w' : World} {A : Option Addr} {bs : List UInt8} {g : Nat} (h : Bys w A bs) (hg : w.grownBy w' (some g)) (hA : ∀ b off, A = some ⟨b, off, none⟩ → b ≠ g) : Bys w' A bs := fun hp => by
  obtain ⟨b, off, e, hlt, hc⟩ := h hp
  exact ⟨b, off, e, Nat.lt_of_lt_of_le hlt hg.size, fun k hk => hg.cell (hc k hk) (by simpa using hA b off e)⟩

theorem below_box {w w1 : World} {o : Obj} (h : Below (w.alloc o).heap.size (w.alloc o) w1) : Below w.heap.size w w1 :=
  ((Below.refl _ _).alloc (Nat.le_refl _) o).trans (h.mono (by simp))
theorem below_then {w w1 w2 : World} (h : Below w.heap.size w w1) (h2 : Below w1.heap.size w1 w2) : Below w.heap.size w w2 := h.trans (h2.mono h.size)
theorem below_drew {B : Nat} {a b : World} (h : Below B a b) (n : Nat) : Below B a (b.drewN n) := h.trans ⟨rfl, rfl, rfl, Nat.le_refl _, fun _ _ => rfl⟩
theorem box3 {w w1 : World} {v0 v1 v2 : Value} {t : TypeId} (h : Below (w.alloc (.cells #[v0, v1, v2] t)).heap.size (w.alloc (.cells #[v0, v1, v2] t)) w1) :
    w1.cell? ⟨w.heap.size, 0, none⟩ = some v0 ∧ w1.cell? ⟨w.heap.size, 1, none⟩ = some v1 ∧ w1.cell? ⟨w.heap.size, 2, none⟩ = some v2 := by
  refine ⟨(h.cell (p := ⟨w.heap.size, 0, none⟩) (by simp)).trans ?_, (h.cell (p := ⟨w.heap.size, 1, none⟩) (by simp)).trans ?_, (h.cell (p := ⟨w.heap.size, 2, none⟩) (by simp)).trans ?_⟩ <;> exact (cell_of_row _ w.heap.size _ _ t (0, 0) (heap_alloc_new w _)).trans rfl

theorem boxf {w w1 : World} {v0 v1 v2 : Value} {t : TypeId} (h : Below (w.alloc (.cells #[v0, v1, v2] t)).heap.size (w.alloc (.cells #[v0, v1, v2] t)) w1) :
    w1.frozen? ⟨w.heap.size, 0, none⟩ = false ∧ w1.frozen? ⟨w.heap.size, 1, none⟩ = false ∧ w1.frozen? ⟨w.heap.size, 2, none⟩ = false ∧ w.heap.size < w1.heap.size := by
  have e : ∀ i, (w.alloc (.cells #[v0, v1, v2] t)).frozen? ⟨w.heap.size, i, none⟩ = false := fun i => by
    unfold World.frozen?
    rw [heap_alloc_new w (.cells #[v0, v1, v2] t)]
    simp
  refine ⟨(h.frozen (p := ⟨w.heap.size, 0, none⟩) (by simp)).trans (e 0), (h.frozen (p := ⟨w.heap.size, 1, none⟩) (by simp)).trans (e 1), (h.frozen (p := ⟨w.heap.size, 2, none⟩) (by simp)).trans (e 2), ?_⟩
  have := h.size
  simp at this
  omega

theorem one_byte {bs : List UInt8} : ∀ u ∈ bs.map u8v, u.oneCell' = true := by
  intro u hu
  obtain ⟨b, _, rfl⟩ := List.mem_map.1 hu
  rfl
/-- the cells at an address are these bytes -/
def News (w : World) (ad : Addr) (bs : List UInt8) : Prop := ∀ j u, (bs.map u8v)[j]? = some u → w.cell? (ad.add j) = some u
theorem add_off (b off j : Nat) : (⟨b, off, none⟩ : Addr).add j = ⟨b, off + j, none⟩ := by unfold Addr.add; split <;> simp_all
theorem news_of_bys {w : World} {b off : Nat} {bs : List UInt8} (h : Bys w (some ⟨b, off, none⟩) bs) : News w ⟨b, off, none⟩ bs := fun j u hu => by
  rw [List.getElem?_map, Option.map_eq_some_iff] at hu
  obtain ⟨x, hx, rfl⟩ := hu
  have hj : j < bs.length := (List.getElem?_eq_some_iff.1 hx).1
  obtain ⟨b', off', e, _, hc⟩ := h (by omega)
  cases e
  rw [add_off, hc j hj, List.getD_eq_getElem?_getD, hx]
  rfl
theorem News.below {w w' : World} {B : Nat} {ad : Addr} {bs : List UInt8} (h : News w ad bs) (hb : Below B w w') (hB : ad.block < B) : News w' ad bs := fun j u hu =>
  (hb.cell (by rw [show (ad.add j).block = ad.block from by unfold Addr.add; split <;> rfl]; exact hB)).trans (h j u hu)
theorem News.alloc {w : World} {ad : Addr} {bs : List UInt8} (h : News w ad bs) (o : Obj) : News (w.alloc o) ad bs := fun j u hu => by
  have hc := h j u hu
  exact (World.cell?_alloc_lt w o _ (World.block_lt_of_cell? w _ hc)).trans hc
/-- bytes.Clone of a slice that is not nil -/
def Cloned (w : World) (bs : List UInt8) (e : Ending) (w' : World) : Prop :=
  ∃ g c, w.heap.size ≤ g ∧ e = .returned (.slice (some ⟨g, 0, none⟩) bs.length c) ∧ Row w' g bs ∧ Below w.heap.size w w' ∧ bs.length ≤ c
set_option maxHeartbeats 400000 in
theorem clone_any (b off c : Nat) (bs : List UInt8) (w : World) (hb : Bys w (some ⟨b, off, none⟩) bs) (hl : 0 < bs.length) (hm : bs.length ≤ 1000000) :
    Calls Tryd.prog 44 #[.slice (some ⟨b, off, none⟩) bs.length c] w (Cloned w bs) := by
  have qT : ∀ (w : World) (a : Option Addr) (n c n' c' : Nat), (binOp .eql 22 (.slice a n c) (.slice none n' c')).run Tryd.prog w = .ok (.bool a.isNone) w := fun w a n c n' c' => Lib.run_eql_slice_nil w _ _ a n c n' c' Tryd.underlying22
  obtain ⟨i0, hi, hz0, hz1, hz2⟩ := info_parts u8info
  have hlen : (bs.map u8v).length = bs.length * 1 := by simp
  have HN := hide ((news_of_bys hb).alloc (.cells #[] 5))
  have hown : Hid ((w.alloc (.cells #[] 5)).ownsRow w.heap.size 5 1 (.slice (some ⟨w.heap.size, 0, none⟩) 0 0) 0 []) :=
    ⟨rfl, .inr ⟨w.heap.size, 0, #[], rfl, Nat.le_refl _, heap_alloc_new w _, Nat.le_refl _, Nat.zero_le _, rfl, rfl⟩⟩
  clear hb
  go_enter Tryd.func44, Tryd.ntmps44
  go_wp2_with (at_builtin; refine wpList_append_own _ rfl (.tmp 5) (.tmp 6) 22 rfl w.heap.size 5 i0 (.int .u8 0) 1 1 Tryd.underlying22 hi hz0 hz1 hz2 rfl (by decide) _ 0 [] rfl hown.out ⟨b, off, none⟩ bs.length c (bs.map u8v) rfl hlen HN.out one_byte (by unfold maxLen; omega) (by omega) (by simp) ?_; intro v1 w1 hown1 hg1 hiff)
  have hx : w1.ownsRow w.heap.size 5 1 v1 bs.length (bs.map u8v) := by simpa using hown1
  obtain ⟨g, cap, hv, hg, hrow, hcap⟩ := own_row hx hl
  go_ret
  refine ⟨g, cap, hg, by rw [← hv]; rfl, hrow, ?_, hcap⟩
  exact ((Below.refl _ _).alloc (Nat.le_refl _) (.cells #[] 5)).grown hg1 (by simp) (fun k hk => by have hk' : some w.heap.size = some k := hk; injection hk' with hk'; omega)

end Go.Proofs.YtlelkhonkhlflaaDoor
