/-
  Rows of pixels in memory: a slice of slices of bools.
-/
import Derived.Test.YtebahhmajllmnaaOpen
namespace Go.Proofs.Ytebahhmajllmnaa
open Go.RowKit
set_option linter.unusedVariables false
set_option linter.unusedSimpArgs false

theorem boolinfo : (Try.prog.info? 4).map (fun i => (i.zero, i.size, i.bytes)) = some (some (.bool false), 1, 1) := by kernel_rfl
theorem rowinfo : (Try.prog.info? 57).map (fun i => (i.zero, i.size, i.bytes)) = some (some (.slice none 0 0), 1, 24) := by kernel_rfl

/-- block b is W bools -/
def Bools (w : World) (b W : Nat) (g : Nat → Bool) : Prop := Box w b 4 ((List.range W).map fun c => Value.bool (g c)).toArray
theorem Bools.made (w : World) (W : Nat) : Bools (w.alloc (.cells (madeCells #[.bool false] W) 4)) w.heap.size W fun _ => false := by
  unfold Bools Box
  have e : madeCells #[Value.bool false] W = ((List.range W).map fun c => Value.bool false).toArray := by
    apply Array.toList_inj.1
    rw [toList_madeCells_one]
    simp [List.map_const']
  rw [e]
  exact heap_alloc_new w _
theorem Bools.cell {w : World} {b W : Nat} {g : Nat → Bool} (h : Bools w b W g) {c : Nat} (hc : c < W) : w.cell? ⟨b, c, none⟩ = some (.bool (g c)) := by
  rw [Box.cell h]
  simp [hc]
theorem Bools.congr {w : World} {b W : Nat} {g g' : Nat → Bool} (h : Bools w b W g) (e : ∀ c, c < W → g c = g' c) : Bools w b W g' := by
  unfold Bools at h ⊢
  have e' : (List.range W).map (fun c => Value.bool (g c)) = (List.range W).map fun c => Value.bool (g' c) := List.map_congr_left fun c hc => by rw [e c (List.mem_range.1 hc)]
  rw [← e']
  exact h
theorem Bools.set {w : World} {b W : Nat} {g : Nat → Bool} (h : Bools w b W g) (c : Nat) (u : Bool) : Bools (w.setCell ⟨b, c, none⟩ (.bool u)) b W fun x => if x = c then u else g x := by
  have := Box.set h c (.bool u)
  unfold Bools
  have e : (((List.range W).map fun c => Value.bool (g c)).toArray.setIfInBounds c (.bool u)) = ((List.range W).map fun x => Value.bool (if x = c then u else g x)).toArray := by
    apply Array.toList_inj.1
    simp only [Array.toList_setIfInBounds]
    apply List.ext_getElem (by simp)
    intro i h1 h2
    simp only [List.getElem_set, List.getElem_map, List.getElem_range]
    by_cases hi : c = i
    · subst hi; simp
    · simp [hi, Ne.symm hi]
  rw [e] at this
  exact this

/-- n rows of W bools, in blocks of their own from base on -/
def Rws (w : World) (base n W : Nat) (bk : Nat → Nat) (g : Nat → Nat → Bool) : Prop :=
  (∀ k, k < n → base ≤ bk k ∧ Bools w (bk k) W (g k)) ∧ ∀ j k, j < n → k < n → bk j = bk k → j = k
section
variable {w w' : World} {base n W : Nat} {bk : Nat → Nat} {g : Nat → Nat → Bool}
theorem Rws.nil (w : World) (base W : Nat) (bk : Nat → Nat) (g : Nat → Nat → Bool) : Rws w base 0 W bk g := ⟨fun k h => absurd h (by omega), fun j k h => absurd h (by omega)⟩
theorem Rws.kept (h : Rws w base n W bk g) (hb : Below w.heap.size w w') : Rws w' base n W bk g := ⟨fun k hk => ⟨(h.1 k hk).1, Box.kept (h.1 k hk).2 hb⟩, h.2⟩
theorem Rws.alloc (h : Rws w base n W bk g) (o : Obj) : Rws (w.alloc o) base n W bk g := h.kept ((Below.refl _ _).alloc (Nat.le_refl _) o)
theorem Rws.grown {row : Option Nat} (h : Rws w base n W bk g) (hb : w.grownBy w' row) (hr : ∀ k, k < n → some (bk k) ≠ row) : Rws w' base n W bk g := ⟨fun k hk => ⟨(h.1 k hk).1, Box.grown (h.1 k hk).2 hb (hr k hk)⟩, h.2⟩
theorem Rws.far (h : Rws w base n W bk g) {p : Addr} (hp : ∀ k, k < n → bk k ≠ p.block) (u : Value) : Rws (w.setCell p u) base n W bk g := ⟨fun k hk => ⟨(h.1 k hk).1, Box.far (h.1 k hk).2 (hp k hk) u⟩, h.2⟩
theorem Rws.lt (h : Rws w base n W bk g) {k : Nat} (hk : k < n) : bk k < w.heap.size := Box.lt (h.1 k hk).2
theorem Rws.congr {g' : Nat → Nat → Bool} (h : Rws w base n W bk g) (e : ∀ k c, k < n → c < W → g k c = g' k c) : Rws w base n W bk g' := ⟨fun k hk => ⟨(h.1 k hk).1, (h.1 k hk).2.congr fun c hc => e k c hk hc⟩, h.2⟩
theorem Rws.set (h : Rws w base n W bk g) {r c : Nat} (hr : r < n) (u : Bool) : Rws (w.setCell ⟨bk r, c, none⟩ (.bool u)) base n W bk fun k x => if k = r ∧ x = c then u else g k x := by
  refine ⟨fun k hk => ⟨(h.1 k hk).1, ?_⟩, h.2⟩
  by_cases e : k = r
  · subst e
    exact ((h.1 k hk).2.set c u).congr fun x _ => by simp
  · have := Box.far (h.1 k hk).2 (p := ⟨bk r, c, none⟩) (fun e' => e (h.2 k r hk hr e')) (.bool u)
    exact Bools.congr this fun x _ => by simp [e]
/-- one row more -/
theorem Rws.push {b : Nat} {gr : Nat → Bool} (h : Rws w base n W bk g) (hb : base ≤ b) (hbo : Bools w b W gr) (hne : ∀ k, k < n → bk k ≠ b) :
    Rws w base (n + 1) W (fun k => if k = n then b else bk k) fun k => if k = n then gr else g k := by
  refine ⟨fun k hk => ?_, fun j k hj hk e => ?_⟩
  · by_cases e : k = n
    · simp only [e, if_true]; exact ⟨hb, hbo⟩
    · simp only [e, if_false]; exact h.1 k (by omega)
  · simp only [] at e
    by_cases ej : j = n <;> by_cases ek : k = n
    · omega
    · rw [if_pos ej, if_neg ek] at e; exact absurd e.symm (hne k (by omega))
    · rw [if_neg ej, if_pos ek] at e; exact absurd e (hne j (by omega))
    · rw [if_neg ej, if_neg ek] at e; exact h.2 j k (by omega) (by omega) e
end
def rowV (W : Nat) (bk : Nat → Nat) (k : Nat) : Value := .slice (some ⟨bk k, 0, none⟩) W W
def rowsV (W : Nat) (bk : Nat → Nat) (n : Nat) : List Value := (List.range n).map (rowV W bk)

/-- a slice of n rows -/
def Grid (w : World) (base : Nat) (v : Value) (n W : Nat) (g : Nat → Nat → Bool) : Prop :=
  ∃ P cap bk, v = .slice (some ⟨P, 0, none⟩) n cap ∧ base ≤ P ∧ P < w.heap.size ∧ (∀ k, k < n → w.cell? ⟨P, k, none⟩ = some (rowV W bk k)) ∧ (∀ k, k < n → bk k ≠ P) ∧ Rws w base n W bk g
theorem Grid.congr {w : World} {base n W : Nat} {v : Value} {g g' : Nat → Nat → Bool} (h : Grid w base v n W g) (e : ∀ k c, k < n → c < W → g k c = g' k c) : Grid w base v n W g' := by
  obtain ⟨P, cap, bk, h1, h2, h3, h4, h5, h6⟩ := h
  exact ⟨P, cap, bk, h1, h2, h3, h4, h5, h6.congr e⟩
theorem Grid.kept {w w' : World} {base n W : Nat} {v : Value} {g : Nat → Nat → Bool} (h : Grid w base v n W g) (hb : Below w.heap.size w w') : Grid w' base v n W g := by
  obtain ⟨P, cap, bk, h1, h2, h3, h4, h5, h6⟩ := h
  exact ⟨P, cap, bk, h1, h2, Nat.lt_of_lt_of_le h3 hb.size, fun k hk => (hb.cell (p := ⟨P, k, none⟩) h3).trans (h4 k hk), h5, h6.kept hb⟩
theorem own_block_ne {w : World} {base n size : Nat} {v : Value} {xs : List Value} {e t : TypeId} {b : Nat} {cs : Array Value} (h : w.ownsRow base e size v n xs) (hb : Box w b t cs) (hne : e ≠ t) : v.ownBlock ≠ some b := by
  rcases h.2 with ⟨rfl, _⟩ | ⟨g', cap, cur, rfl, _, hh, _⟩
  · simp [Value.ownBlock]
  · intro he
    have : g' = b := by simpa [Value.ownBlock] using he
    subst this
    unfold Box at hb
    rw [hh] at hb
    injection hb with hb
    injection hb with _ ht
    exact hne ht
theorem grid_of_own {w : World} {base n W : Nat} {v : Value} {bk : Nat → Nat} {g : Nat → Nat → Bool} (hn : 0 < n) (h : w.ownsRow base 57 1 v n (rowsV W bk n)) (hr : Rws w base n W bk g) : Grid w base v n W g := by
  have hne : ∀ k, k < n → v.ownBlock ≠ some (bk k) := fun k hk => own_block_ne h (hr.1 k hk).2 (by decide)
  have hc : ∀ {g : Nat}, v.ownBlock = some g → ∀ j u, (rowsV W bk n)[j]? = some u → w.cell? ((⟨g, 0, none⟩ : Addr).add j) = some u := fun hg => h.cells hg
  rcases h.2 with ⟨_, h0⟩ | ⟨P, cap, cur, rfl, hb, hh, _⟩
  · omega
  · refine ⟨P, cap, bk, rfl, hb, ?_, fun k hk => ?_, fun k hk e => hne k hk (by simp [Value.ownBlock, e]), hr⟩
    · rcases Nat.lt_or_ge P w.heap.size with hlt | hge
      · exact hlt
      · rw [Array.getElem?_eq_none hge] at hh; cases hh
    · have := hc (g := P) rfl k (rowV W bk k) (by simp [rowsV, hk])
      rwa [add_off, Nat.zero_add] at this
theorem own_kept {w w' : World} {base n size : Nat} {v : Value} {xs : List Value} {e : TypeId} (h : w.ownsRow base e size v n xs) (hb : Below w.heap.size w w') : w'.ownsRow base e size v n xs :=
  h.kept (grown_of_below hb none) (by cases v.ownBlock <;> simp)
theorem own_far {w : World} {base n size : Nat} {v : Value} {xs : List Value} {e : TypeId} {b : Nat} (h : w.ownsRow base e size v n xs) (hb : v.ownBlock ≠ some b) (i : Nat) (u : Value) : (w.setCell ⟨b, i, none⟩ u).ownsRow base e size v n xs :=
  h.kept (grown_setCell (grown_refl w (some b)) i u) (.inr hb)
theorem bys_grown {w w' : World} {B : Nat} {A : Option Addr} {bs : List UInt8} {row : Option Nat} (h : Bys w A bs) (hg : w.grownBy w' row) (hA : ∀ b off, A = some ⟨b, off, none⟩ → b < B) (hr : ∀ k, row = some k → B ≤ k) : Bys w' A bs := fun hp => by
  obtain ⟨b, off, e, hlt, hc⟩ := h hp
  exact ⟨b, off, e, Nat.lt_of_lt_of_le hlt hg.size, fun k hk => hg.cell (hc k hk) (fun e' => by have := hA b off e; have := hr b e'.symm; omega)⟩
theorem ImgSt.grown {w0 v v' : World} {O : Nat} {W H : Int} {A : Option Addr} {c : Nat} {bs : List UInt8} {row : Option Nat} (h : ImgSt w0 O W H A c bs v) (hg : v.grownBy v' row) (hO : row ≠ some O) (hr : ∀ k, row = some k → w0.heap.size ≤ k)
    (hA : ∀ b off, A = some ⟨b, off, none⟩ → b < w0.heap.size) : ImgSt w0 O W H A c bs v' :=
  ⟨Box.grown h.1 hg (fun e => hO e.symm), bys_grown h.2.1 hg hA hr, h.2.2.grown hg h.2.2.size hr⟩
theorem rowsV_push (W : Nat) (bk : Nat → Nat) (n b : Nat) : rowsV W bk n ++ [.slice (some ⟨b, 0, none⟩) W W] = rowsV W (fun k => if k = n then b else bk k) (n + 1) := by
  unfold rowsV
  rw [List.range_succ, List.map_append]
  congr 1
  · exact List.map_congr_left fun k hk => by have := List.mem_range.1 hk; simp [rowV, show ¬ k = n by omega]
  · simp [rowV]
theorem addr_of_pack {w : World} {A : Option Addr} {n : Nat} {f : Nat → Bool} (hb : Bys w A (pack n f)) (hn : 1 ≤ n) : ∀ b off, A = some ⟨b, off, none⟩ → b < w.heap.size := fun b off e => by
  obtain ⟨b', off', e', hlt, _⟩ := hb (by rw [length_pack]; omega)
  rw [e] at e'
  injection e' with e'
  injection e' with e'
  omega
/-- the rows at block P -/
def GridAt (w : World) (base P n W : Nat) (bk : Nat → Nat) (g : Nat → Nat → Bool) : Prop :=
  base ≤ P ∧ P < w.heap.size ∧ (∀ k, k < n → w.cell? ⟨P, k, none⟩ = some (rowV W bk k)) ∧ (∀ k, k < n → bk k ≠ P) ∧ Rws w base n W bk g
section
variable {w w' : World} {base P n W : Nat} {bk : Nat → Nat} {g : Nat → Nat → Bool}
theorem GridAt.grid (h : GridAt w base P n W bk g) (cap : Nat) : Grid w base (.slice (some ⟨P, 0, none⟩) n cap) n W g := ⟨P, cap, bk, rfl, h⟩
theorem GridAt.kept (h : GridAt w base P n W bk g) (hb : Below w.heap.size w w') : GridAt w' base P n W bk g :=
  ⟨h.1, Nat.lt_of_lt_of_le h.2.1 hb.size, fun k hk => (hb.cell (p := ⟨P, k, none⟩) h.2.1).trans (h.2.2.1 k hk), h.2.2.2.1, h.2.2.2.2.kept hb⟩
theorem GridAt.congr {g' : Nat → Nat → Bool} (h : GridAt w base P n W bk g) (e : ∀ k c, k < n → c < W → g k c = g' k c) : GridAt w base P n W bk g' :=
  ⟨h.1, h.2.1, h.2.2.1, h.2.2.2.1, h.2.2.2.2.congr e⟩
theorem GridAt.set (h : GridAt w base P n W bk g) {r c : Nat} (hr : r < n) (u : Bool) : GridAt (w.setCell ⟨bk r, c, none⟩ (.bool u)) base P n W bk fun k x => if k = r ∧ x = c then u else g k x := by
  refine ⟨h.1, by have := h.2.1; simpa [World.setCell] using this, fun k hk => ?_, h.2.2.2.1, h.2.2.2.2.set hr u⟩
  rw [World.cell?_setCell_other w ⟨bk r, c, none⟩ ⟨P, k, none⟩ _ (fun e => by injection e with e; exact h.2.2.2.1 r hr e)]
  exact h.2.2.1 k hk
theorem GridAt.row (h : GridAt w base P n W bk g) {r : Nat} (hr : r < n) : w.cell? ⟨P, r, none⟩ = some (.slice (some ⟨bk r, 0, none⟩) W W) := h.2.2.1 r hr
theorem GridAt.pix (h : GridAt w base P n W bk g) {r c : Nat} (hr : r < n) (hc : c < W) : w.cell? ⟨bk r, c, none⟩ = some (.bool (g r c)) := (h.2.2.2.2.1 r hr).2.cell hc
theorem GridAt.frozen (h : GridAt w base P n W bk g) {r : Nat} (hr : r < n) (c : Nat) : w.frozen? ⟨bk r, c, none⟩ = false := Box.frozen (h.2.2.2.2.1 r hr).2 c
theorem GridAt.ge (h : GridAt w base P n W bk g) {r : Nat} (hr : r < n) : base ≤ bk r := (h.2.2.2.2.1 r hr).1
end
end Go.Proofs.Ytebahhmajllmnaa
