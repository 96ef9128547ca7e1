/-
  Memory: a cell is put to the list (for Make).
-/
import Derived.Test.YteeamiacplfcmaaRMake
namespace Go.Proofs.Yteeamiacplfcmaa
open Go.RowKit
set_option linter.unusedVariables false
set_option linter.unusedSimpArgs false

/-- the slice at A reads as these lists of lists -/
def Rows3 (w : World) (A : Option Addr) (xs : List (List (List Int))) : Prop :=
  0 < xs.length → ∃ b off, A = some ⟨b, off, none⟩ ∧ b < w.heap.size ∧ ∀ k, k < xs.length → ∃ Ak ck, w.cell? ⟨b, off + k, none⟩ = some (.slice Ak (xs.getD k []).length ck) ∧ (xs.getD k []).length ≤ 9223372036854775807 ∧ RowsIn w Ak (xs.getD k [])
theorem Rows3.at_ {w : World} {A : Option Addr} {xs : List (List (List Int))} (h : Rows3 w A xs) {k : Nat} (hk : k < xs.length) : ∃ b off Ak ck, A = some ⟨b, off, none⟩ ∧ b < w.heap.size ∧ w.cell? ⟨b, off + k, none⟩ = some (.slice Ak (xs.getD k []).length ck) ∧ (xs.getD k []).length ≤ 9223372036854775807 ∧ RowsIn w Ak (xs.getD k []) := by
  obtain ⟨b, off, e, hlt, hc⟩ := h (by omega)
  obtain ⟨Ak, ck, h0, h1, h2⟩ := hc k hk
  exact ⟨b, off, Ak, ck, e, hlt, h0, h1, h2⟩
/-- the numbers from 0 to p - 1 -/
def upTo (p : Nat) : List Int := (List.range p).map Int.ofNat
theorem upTo_succ (p : Nat) : upTo (p + 1) = upTo p ++ [(p : Int)] := by simp [upTo, List.range_succ]
theorem upTo_few {p : Nat} (h : p ≤ 12) : Few (upTo p) := by
  refine ⟨?_, fun y hy => ?_⟩
  · unfold upTo
    have h1 : (List.range p).Pairwise (· ≠ ·) := List.Pairwise.imp (fun h e => by omega) (List.pairwise_lt_range (n := p))
    rw [List.Nodup, List.pairwise_map]
    exact List.Pairwise.imp (fun {a b} h e => h (Int.ofNat.inj e)) h1
  · unfold upTo at hy
    rw [List.mem_map] at hy
    obtain ⟨n, hn, rfl⟩ := hy
    rw [List.mem_range] at hn
    show 0 ≤ (n : Int) ∧ (n : Int) < 12
    omega
/-- cells of the precincts below p -/
def MakeOk (p : Nat) (cs : List Cel) : Prop := (∀ c ∈ cs, OneC c) ∧ preC cs = upTo p ∧ totC cs ≤ 12 * cs.length ∧ cs.length ≤ p
theorem MakeOk.nil : MakeOk 0 [] := ⟨fun c h => (by cases h), rfl, by simp [totC], by simp⟩
theorem MakeOk.one {p : Nat} {cs : List Cel} (h : MakeOk p cs) {gs : List Grp} (hg : pileOk 7 gs = true) (hs : sumN gs ≤ 12) : MakeOk (p + 1) (cs ++ [([(p : Int)], gs)]) := by
  obtain ⟨h1, h2, h3, h4⟩ := h
  refine ⟨fun c hc => ?_, ?_, ?_, by simp; omega⟩
  · rw [List.mem_append, List.mem_singleton] at hc
    rcases hc with hc | rfl
    · exact h1 c hc
    · exact ⟨by simp, by simp [SortI], hg⟩
  · rw [preC_append, preC_cons, h2, upTo_succ]; simp [preC]
  · rw [totC_append, totC_cons, List.length_append]
    simp [totC] at h3 ⊢
    omega
theorem MakeOk.two {p : Nat} {cs : List Cel} (h : MakeOk p cs) {gs : List Grp} (hg : pileOk 7 gs = true) (hs : sumN gs ≤ 12) : MakeOk (p + 2) (cs ++ [([(p : Int), ((p + 1 : Nat) : Int)], gs)]) := by
  obtain ⟨h1, h2, h3, h4⟩ := h
  refine ⟨fun c hc => ?_, ?_, ?_, by simp; omega⟩
  · rw [List.mem_append, List.mem_singleton] at hc
    rcases hc with hc | rfl
    · exact h1 c hc
    · exact ⟨by simp, by simp [SortI]; omega, hg⟩
  · rw [preC_append, preC_cons, h2, show p + 2 = (p + 1) + 1 from rfl, upTo_succ, upTo_succ]; simp [preC]
  · rw [totC_append, totC_cons, List.length_append]
    simp [totC] at h3 ⊢
    omega
theorem MakeOk.valid {p : Nat} {cs : List Cel} (h : MakeOk p cs) (hp : p ≤ 12) : validC cs = true := by
  obtain ⟨h1, h2, h3, h4⟩ := h
  exact valid_iff.2 ⟨h1, by rw [h2]; exact upTo_few hp, by omega⟩
theorem make_below {B g j : Nat} {a b : World} {x : Value} (h : Below B a b) (hg : B ≤ g) : Below B a (b.setCell ⟨g, j, none⟩ x) := h.setCell (by exact hg) _
theorem make_two {wr w3 : World} {p q : Int} (hX : Box w3 (wr.heap.size + 1) 34 #[.slice (some ⟨wr.heap.size, 0, none⟩) 1 1, .slice none 0 0]) (hO : OwnI wr.heap.size w3 (.slice (some ⟨wr.heap.size, 0, none⟩) 1 1) [p]) (hb : Below wr.heap.size wr w3) (hs : w3.heap.size = wr.heap.size + 1 + 1) :
    ∃ A c w4 w5, Hid ((Builtin.append_ #[31, 31] 31 #[.slice (some ⟨wr.heap.size, 0, none⟩) 1 1, .slice (some ⟨wr.heap.size + 1 + 1, 0, none⟩) 1 1]).run Try.prog (w3.alloc (.cells #[.int .i64 q] 3)) = .ok (.slice A 2 c) w4) ∧
      (w4.cell? ⟨wr.heap.size + 1, 0, none⟩ = some (.slice (some ⟨wr.heap.size, 0, none⟩) 1 1) ∧ w4.frozen? ⟨wr.heap.size + 1, 0, none⟩ = false) ∧ Hid (w4.setCell ⟨wr.heap.size + 1, 0, none⟩ (.slice A 2 c) = w5) ∧
      Hid (Box w5 (wr.heap.size + 1) 34 #[.slice A 2 c, .slice none 0 0]) ∧ Hid (Below wr.heap.size wr w5) ∧ 2 ≤ c ∧ Hid (IntsIn (fun b => wr.heap.size ≤ b ∧ b < w5.heap.size ∧ b ≠ wr.heap.size + 1) w5 A [p, q]) := by
  obtain ⟨A, c, w4, hr, hO4, hg, hown⟩ := push_int hO (by omega) (by simp) 31 q
  rw [hs] at hr
  have hX4 : Box w4 (wr.heap.size + 1) 34 #[.slice (some ⟨wr.heap.size, 0, none⟩) 1 1, .slice none 0 0] := hX.grown hg (fun e => by
    have : wr.heap.size + 1 = wr.heap.size := Option.some.inj e
    omega)
  have hb4 : Below wr.heap.size wr w4 := hb.trans (own_by (by omega) (fun g e => by
    have : wr.heap.size = g := Option.some.inj e
    omega) hg)
  obtain ⟨A', c', e, hc, hI, hlo⟩ := hO4.form
  have e1 : A = A' := by injection e
  have e2 : c = c' := by injection e
  subst e1 e2
  have hX5 := hX4.set 0 (.slice A 2 c)
  have hs5 : (w4.setCell ⟨wr.heap.size + 1, 0, none⟩ (.slice A 2 c)).heap.size = w4.heap.size := by simp [World.setCell]
  have hl : ∀ g, (Value.slice A ([p].length + 1) c).ownBlock = some g → g ≠ wr.heap.size + 1 := fun g e => by
    rcases hown with h | ⟨g', h1, h2⟩
    · rw [e] at h
      have : g = wr.heap.size := Option.some.inj h
      omega
    · rw [e] at h1
      have : g = g' := Option.some.inj h1
      omega
  refine ⟨A, c, w4, _, hr, ⟨hX4.cell 0, hX4.frozen 0⟩, rfl, hX5, make_below hb4 (Nat.le_succ _), hc, ?_⟩
  refine (IntsIn.agree hI fun i hi => Below.heap_setCell _ _ _ i (hl i hi.2.2)).mono fun i hi => ⟨hi.2.1, by rw [hs5]; exact hi.1, hl i hi.2.2⟩
theorem make_tail {w1 wr w5 w6 : World} {u vg : Value} {A0 : Option Addr} {PN PC : Nat} {PL : List Int} {cs : List Cel} {gs : List Grp} (HO : OwnC w1.heap.size wr u cs) (HB : Below w1.heap.size w1 wr) (HBr5 : Below wr.heap.size wr w5) (HX5 : Box w5 (wr.heap.size + 1) 34 #[.slice A0 PN PC, .slice none 0 0])
    (hPN : PL.length = PN) (hPC : PN ≤ PC) (hP2 : PN ≤ 1000000) (hPI : ∀ y ∈ PL, InI y) (hI5 : IntsIn (fun b => wr.heap.size ≤ b ∧ b < w5.heap.size ∧ b ≠ wr.heap.size + 1) w5 A0 PL) (hb6 : Below w5.heap.size w5 w6) (hOg : OwnF GrpE 52 w5.heap.size w6 vg gs) (hpg : pileOk 7 gs = true) (hcs : cs.length ≤ 1000) :
    ∃ Ag cg w7 A8 d8 w8, vg = .slice Ag gs.length cg ∧ (w6.cell? ⟨wr.heap.size + 1, 0, none⟩ = some (.slice A0 PN PC) ∧ w6.cell? ⟨wr.heap.size + 1, 1, none⟩ = some (.slice none 0 0) ∧ w6.frozen? ⟨wr.heap.size + 1, 1, none⟩ = false) ∧
      Hid (w6.setCell ⟨wr.heap.size + 1, 1, none⟩ (.slice Ag gs.length cg) = w7) ∧
      (w7.cell? ⟨wr.heap.size + 1, 0, none⟩ = some (.slice A0 PN PC) ∧ w7.cell? ⟨wr.heap.size + 1, 1, none⟩ = some (.slice Ag gs.length cg)) ∧
      Hid ((Builtin.append_ #[23, 23] 23 #[u, .slice (some ⟨w7.heap.size, 0, none⟩) 1 1]).run Try.prog (w7.alloc (.cells #[.slice A0 PN PC, .slice Ag gs.length cg] 34)) = .ok (.slice A8 (cs.length + 1) d8) w8) ∧
      Hid (OwnC w1.heap.size w8 (.slice A8 (cs.length + 1) d8) (cs ++ [(PL, gs)])) ∧ Hid (Below w1.heap.size w1 w8) := by
  have hX6 := HX5.kept hb6
  have hlt5 := HX5.lt
  have hsw := HB.size
  have hbr5s := HBr5.size
  have h67 := hb6.size
  obtain ⟨Ag, cg, rfl, hcg, hqg, hPg⟩ := hOg.pairs goodG
  have hpl := pile_len hpg
  have hX7 : Box (w6.setCell ⟨wr.heap.size + 1, 1, none⟩ (.slice Ag gs.length cg)) (wr.heap.size + 1) 34 #[.slice A0 PN PC, .slice Ag gs.length cg] := hX6.set 1 (.slice Ag gs.length cg)
  have hs7 : (w6.setCell ⟨wr.heap.size + 1, 1, none⟩ (.slice Ag gs.length cg)).heap.size = w6.heap.size := by simp [World.setCell]
  have hother : ∀ i, i ≠ wr.heap.size + 1 → (w6.setCell ⟨wr.heap.size + 1, 1, none⟩ (.slice Ag gs.length cg)).heap[i]? = w6.heap[i]? := fun i hi => Below.heap_setCell _ _ _ i hi
  have hbr7 : Below wr.heap.size wr (w6.setCell ⟨wr.heap.size + 1, 1, none⟩ (.slice Ag gs.length cg)) := make_below (HBr5.trans (hb6.mono hbr5s)) (Nat.le_succ _)
  obtain ⟨w7, hw7⟩ : ∃ x, w6.setCell ⟨wr.heap.size + 1, 1, none⟩ (.slice Ag gs.length cg) = x := ⟨_, rfl⟩
  rw [hw7] at hX7 hs7 hbr7
  simp only [hw7] at hother
  have hb7 : Below w1.heap.size w1 w7 := HB.trans (hbr7.mono hsw)
  have hO7 := HO.kept goodC hbr7
  have hlo : ∀ g, u.ownBlock = some g → g < wr.heap.size := fun g e => by
    obtain ⟨_, _, _, _, hq, _⟩ := HO.shape goodC
    exact (hq g e).2.1
  have hcell : CelE (fun i => wr.heap.size ≤ i ∧ i < w7.heap.size) w7 (.slice A0 PN PC) (.slice Ag gs.length cg) (PL, gs) :=
    ⟨A0, PC, Ag, cg, by rw [hPN], by rw [hPN]; exact hPC, by rw [hPN]; exact hP2, hPI, (IntsIn.agree hI5 fun i hi => (hother i hi.2.2).trans (hb6.block i hi.2.1)).mono fun i hi => ⟨hi.1, by omega⟩, rfl, hcg, by show gs.length ≤ 1000000; omega, (hPg.agree goodG fun i hi => hother i (by omega)).mono goodG fun i hi => ⟨by omega, by omega⟩⟩
  obtain ⟨A8, d8, w8, hr8, hO8, hg8, _⟩ := OwnC.push1 hO7 hb7.size (by omega) hcell (fun i hi => ⟨hi.2, fun e => by have := hlo _ e; have := hi.1; omega⟩) 23
  exact ⟨Ag, cg, w7, A8, d8, w8, rfl, ⟨hX6.cell 0, hX6.cell 1, hX6.frozen 1⟩, hw7, ⟨hX7.cell 0, hX7.cell 1⟩, hr8, hO8, hb7.trans (OwnA.below hO7 hb7.size hg8)⟩
end Go.Proofs.Yteeamiacplfcmaa
