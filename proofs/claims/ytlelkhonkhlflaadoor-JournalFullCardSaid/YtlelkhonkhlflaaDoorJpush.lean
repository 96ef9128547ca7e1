/-
  An entry is added to a journal in memory.
-/
import Derived.Test.YtlelkhonkhlflaaDoorJclear
namespace Go.Proofs.YtlelkhonkhlflaaDoor
open Go.RowKit
set_option linter.unusedVariables false
set_option linter.unusedSimpArgs false

section
variable {F G : Nat → Prop} {w w' : World} {j s : Nat} {ss : List (List UInt8)} {e : Nat → Option (List UInt8)} {fuse : Int} {dead : Bool} {last : List UInt8} {es : List (List UInt8)} {v : Value} {vals : List Value}
theorem GotsV.mono {F G : Nat → Prop} (h : GotsV F w v es vals) (hs : ∀ i, F i → G i) : GotsV G w v es vals := by
  obtain ⟨h1, h2, h3, h4⟩ := h
  refine ⟨h1, h2, fun g e => hs g (h3 g e), fun k hk => ?_⟩
  obtain ⟨Ak, ck, g1, g2, g3⟩ := h4 k hk
  exact ⟨Ak, ck, g1, g2.mono fun i hi => ⟨hs i hi.1, hi.2⟩, g3⟩
/-- what the append in memory gives -/
theorem append_step (hx : JBox w j s last v) (hv : GotsV (fun i => G i ∧ i ≠ j) w v es vals) (hd : Dsk F w s ss e fuse dead) (hmem : G j) (hlt : Lt G w) (hap : ∀ i, F i → ¬ G i) (hl : es.length ≤ 100000) {g c : Nat} {f : List UInt8} (hrow : Row w g f) (hgF : ¬ F g) (hgG : ¬ G g) (hc : f.length ≤ c) (ty : TypeId) :
    ∃ v' w3, (Builtin.append_ #[29, 29] ty #[v, .slice (some ⟨w.heap.size, 0, none⟩) 1 1]).run Tryd.prog (w.alloc (.cells #[.slice (some ⟨g, 0, none⟩) f.length c] 22)) = .ok v' w3 ∧ Chg (fun i => G i ∧ i ≠ j) w w3 ∧ w3.frozen? ⟨j, 33, none⟩ = false ∧ w3.cell? ⟨j, 33, none⟩ = some v ∧ (∃ A' c', v' = .slice A' (es.length + 1) c') ∧
      ∃ G', Jrn F G' (w3.setCell ⟨j, 33, none⟩ v') j s ss e fuse dead last (es ++ [f]) ∧ (∀ i, G' i → G i ∨ i = g ∨ w.heap.size ≤ i) := by
  obtain ⟨i0, hi, hz0, hz1, hz2⟩ := info_parts sliceinfo
  obtain ⟨wa, hwa⟩ : ∃ wa, wa = w.alloc (.cells #[.slice (some ⟨g, 0, none⟩) f.length c] 22) := ⟨_, rfl⟩
  have hBa : Below w.heap.size w wa := by rw [hwa]; exact (Below.refl _ _).alloc (Nat.le_refl _) _
  have hsa : wa.heap.size = w.heap.size + 1 := by rw [hwa]; simp
  have hnews : ∀ i u, ([.slice (some ⟨g, 0, none⟩) f.length c] : List Value)[i]? = some u → wa.cell? ((⟨w.heap.size, 0, none⟩ : Addr).add i) = some u := by rw [hwa]; exact World.news_of_block (heap_alloc_new _ _)
  have hva : GotsV (fun i => (G i ∨ i = g) ∧ i ≠ j) wa v es vals := (hv.agree (Agree.of_below hBa fun i hi => hlt i hi.1)).mono fun i hi => ⟨.inl hi.1, hi.2⟩
  have hglt := hrow.lt
  have hgj : g ≠ j := fun e => hgG (e ▸ hmem)
  have hown : v.ownBlock ≠ some g := fun e => hgG (hv.2.2.1 g e).1
  obtain ⟨v', w3, hr, ho, hg, _, hor⟩ := run_append_own_at (P := Tryd.prog) wa 0 29 ty 22 i0 (.slice none 0 0) 1 24 Tryd.underlying29 hi hz0 hz1 hz2 rfl (by decide) v es.length vals hva.1 ⟨w.heap.size, 0, none⟩ 1 1 [.slice (some ⟨g, 0, none⟩) f.length c] (by rfl) hnews (by intro u hu; simp at hu; subst hu; rfl) (by unfold maxLen; omega) (by omega) (by omega)
  have hfb : BysIn (fun b => ((G b ∨ b = g) ∧ b ≠ j) ∧ v.ownBlock ≠ some b) wa (some ⟨g, 0, none⟩) f := BysIn.of_row (hrow.kept hBa) ⟨⟨.inr rfl, hgj⟩, hown⟩
  have hlta : Lt (fun i => (G i ∨ i = g) ∧ i ≠ j) wa := fun i hi => by
    rcases hi.1 with h1 | h1
    · have := hlt i h1; omega
    · omega
  obtain ⟨vals', hG⟩ := hva.push (v' := v') (n := wa.heap.size) hlta hfb hc ho hg rfl hor
  have hvj : v.ownBlock ≠ some j := fun e => (hv.2.2.1 j e).2 rfl
  have hv'j : v'.ownBlock ≠ some j := by
    rcases hor with e1 | e1 <;> rw [e1]
    · exact hvj
    · intro e2; injection e2 with e2; have := hlt j hmem; omega
  have hChg : Chg (fun i => G i ∧ i ≠ j) w w3 := (Chg.of_below hBa _).trans ⟨hg.os, hg.tape, hg.output, hg.size, fun i hi hm => hg.block i hi (fun e1 => hm (hv.2.2.1 i e1.symm))⟩ (fun i _ hi => hi)
  have hj3 : w3.heap[j]? = w.heap[j]? := hChg.block j (hlt j hmem) (fun h1 => h1.2 rfl)
  have hx3 : JBox w3 j s last v := hx.of_eq hj3
  rw [← hwa]
  have hform : ∃ A' c', v' = .slice A' (es.length + 1) c' := by
    rcases ho.2 with ⟨_, h1⟩ | ⟨g', cap, cur, e1, _⟩
    · omega
    · exact ⟨_, _, e1⟩
  refine ⟨v', w3, hr, hChg, hx3.frozen 33, hx3.entries, hform, fun i => (G i ∨ i = g) ∨ v'.ownBlock = some i, ?_, ?_⟩
  · have ha2 : Agree (fun i => i ≠ j) w3 (w3.setCell ⟨j, 33, none⟩ v') := fun i hi => Below.heap_setCell _ _ _ _ hi
    have hFj : ¬ F j := fun h1 => hap j h1 hmem
    have hlt3 : Lt (fun i => (G i ∨ i = g) ∨ v'.ownBlock = some i) w3 := fun i hi => by
      have h1 := hg.size
      rcases hi with (h2 | h2) | h2
      · have := hlt i h2; omega
      · omega
      · rcases ho.2 with ⟨e1, _⟩ | ⟨g', cap, cur, e1, _, hh, _⟩
        · rw [e1] at h2; cases h2
        · rw [e1] at h2
          have h3 : g' = i := by injection h2
          subst h3
          rcases Nat.lt_or_ge g' w3.heap.size with hlt | hge
          · exact hlt
          · rw [Array.getElem?_eq_none hge] at hh; cases hh
    refine ⟨⟨v', vals', hx3.setEntries v', ?_⟩, ?_, .inl (.inl hmem), fun i hi => by simpa [World.setCell] using hlt3 i hi, fun i hF hi => ?_⟩
    · have h2 : GotsV (fun i => ((G i ∨ i = g) ∨ v'.ownBlock = some i) ∧ i ≠ j) w3 v' (es ++ [f]) vals' := hG.mono fun i hi => by
        rcases hi with h3 | h3
        · exact ⟨.inl h3.1, h3.2⟩
        · exact ⟨.inr h3, fun e1 => hv'j (e1 ▸ h3)⟩
      exact h2.agree (ha2.mono fun i hi => hi.2)
    · exact (hd.chg hChg (fun i hF hi => hap i hF hi.1)).agree (ha2.mono fun i hi e1 => hFj (e1 ▸ hi)) (by simp [World.setCell])
    · rcases hi with (h2 | h2) | h2
      · exact hap i hF h2
      · exact hgF (h2 ▸ hF)
      · rcases hor with e1 | e1
        · rw [e1] at h2
          exact hap i hF (hv.2.2.1 i h2).1
        · rw [e1] at h2
          injection h2 with h2
          have := hd.lt i hF
          omega
  · intro i hi
    rcases hi with (h2 | h2) | h2
    · exact .inl h2
    · exact .inr (.inl h2)
    · rcases hor with e1 | e1
      · rw [e1] at h2
        exact .inl (hv.2.2.1 i h2).1
      · rw [e1] at h2
        injection h2 with h2
        exact .inr (.inr (by omega))
/-- the last digest is written -/
theorem Jrn.setLast (h : Jrn F G w j s ss e fuse dead last es) {d : List UInt8} (hl : d.length = 32) :
    ∃ w', (storeVar 58 ⟨j, 1, none⟩ (.agg (secA d))).run Tryd.prog w = .ok () w' ∧ Jrn F G w' j s ss e fuse dead d es ∧ w.grownBy w' (some j) := by
  obtain ⟨v, vals, h1, h2⟩ := h.box
  obtain ⟨w', hr, hx, hg⟩ := h1.setLast hl
  have ha : Agree (fun i => i < w.heap.size ∧ i ≠ j) w w' := fun i hi => hg.block i hi.1 (fun e => hi.2 (by injection e))
  exact ⟨w', hr, ⟨⟨v, vals, hx, h2.agree (ha.mono fun i hi => ⟨h.lt i hi.1, hi.2⟩)⟩, h.dsk.agree (ha.mono fun i hi => ⟨h.dsk.lt i hi, fun e => h.apart i hi (e ▸ h.mem)⟩) hg.size, h.mem, h.lt.size hg.size, h.apart⟩, hg⟩
end
end Go.Proofs.YtlelkhonkhlflaaDoor
