/-
  slices.IndexFunc: the first cell that is not safe.
-/
import Derived.Test.YteeamiacplfcmaaDel
namespace Go.Proofs.Yteeamiacplfcmaa
open Go.RowKit Go.Shelf
set_option linter.unusedVariables false
set_option linter.unusedSimpArgs false

set_option maxHeartbeats 2000000 in
theorem bad_any {v0 v1 : Value} {c : Cel} {least : Int} {g : Nat} {w : World} (h : Cell2 w v0 v1 c) (hl : w.cell? ⟨g, 0, none⟩ = some (.int .i64 least)) (hi : InI least) :
    Calls Try.prog 25 #[.agg #[v0, v1], .pointer (some ⟨g, 0, none⟩)] w fun e w' => e = .returned (.bool (!safeC least c)) ∧ Below w.heap.size w w' := by
  have hlt := World.block_lt_of_cell? w _ hl
  have hb1 : Below w.heap.size w (w.alloc (.cells #[v0, v1] 34)) := (Below.refl _ _).alloc (Nat.le_refl _) _
  have hl1 := (hb1.cell (p := ⟨g, 0, none⟩) hlt).trans hl
  have HS := hide (psafe_any (least := least) (h.below hb1) hi)
  obtain ⟨A, ca, B, d, rfl, hca, hpm, hpi, hpA, rfl, hd, hgm, hgB⟩ := h
  have HB1 := hide hb1
  obtain ⟨pa, ga⟩ := c
  simp only [] at *
  clear hpA hgB hpi hb1
  generalize safeC least (pa, ga) = r at *
  go_enter Try.func25, Try.ntmps25
  go_wp2_with fail
  refine HS.out.mono ?_
  rintro e w1 ⟨rfl, hb2⟩
  have HB2 := hide (below_then HB1.out hb2)
  clear hb2
  go_wp2_with fail
  go_ret
  exact ⟨rfl, HB2.out⟩
/-- the index that IndexFunc returns -/
def badAt (least : Int) (cs : List Cel) : Int := if firstBad least cs = cs.length then -1 else (firstBad least cs : Nat)
def CP (w : World) : Type := { p : (Value × Value) × Cel // Cell2 w p.1.1 p.1.2 p.2 }
instance (w : World) : Inhabited (CP w) := ⟨⟨((.slice none 0 0, .slice none 0 0), ([], [])), none, 0, none, 0, rfl, Nat.le_refl _, by simp, by simp, IntsIn.nil _ _ _, rfl, Nat.le_refl _, by simp, PairsIn.nil _ _ _ _⟩⟩
def CP.enc {w : World} (x : CP w) : List Value := [x.1.1.1, x.1.1.2]
theorem cp_list {w : World} {b off : Nat} {xs : List Cel} (h : Cels w (some ⟨b, off, none⟩) xs) : ∃ zs : List (CP w), zs.length = xs.length ∧ ∀ k, k < xs.length → (zs[k]!).1.2 = xs.getD k default ∧ w.cell? ⟨b, off + k * 2, none⟩ = some (zs[k]!).1.1.1 ∧ w.cell? ⟨b, off + k * 2 + 1, none⟩ = some (zs[k]!).1.1.2 := by
  have : ∀ n, n ≤ xs.length → ∃ zs : List (CP w), zs.length = n ∧ ∀ k, k < n → (zs[k]!).1.2 = xs.getD k default ∧ w.cell? ⟨b, off + k * 2, none⟩ = some (zs[k]!).1.1.1 ∧ w.cell? ⟨b, off + k * 2 + 1, none⟩ = some (zs[k]!).1.1.2 := fun n => by
    induction n with
    | zero => intro _; exact ⟨[], rfl, fun k hk => absurd hk (by omega)⟩
    | succ n ih =>
      intro hn
      obtain ⟨zs, hl, hz⟩ := ih (by omega)
      obtain ⟨b', o', v0, v1, e, hb, h0, h1, h2⟩ := PairsIn.at_ h (k := n) (by omega)
      cases e
      obtain ⟨z, hz1⟩ : ∃ z : CP w, z.1 = ((v0, v1), xs.getD n default) := ⟨⟨((v0, v1), xs.getD n default), h2⟩, rfl⟩
      refine ⟨zs ++ [z], by rw [List.length_append, hl]; rfl, fun k hk => ?_⟩
      by_cases e : k = n
      · subst e
        have e2 : (zs ++ [z])[k]! = z := by
          rw [getElem!_pos _ k (by rw [List.length_append, hl]; exact hk), List.getElem_append_right (by omega)]
          simp [hl]
        rw [e2, hz1]
        exact ⟨rfl, h0, h1⟩
      · have e2 : (zs ++ [z])[k]! = zs[k]! := by
          rw [getElem!_pos _ k (by rw [List.length_append, hl]; exact hk), List.getElem_append_left (by omega), getElem!_pos _ k (by omega)]
        rw [e2]
        exact hz k (by omega)
  exact this xs.length (Nat.le_refl _)
theorem index_any {w : World} {b off n cap g : Nat} {xs : List Cel} {least : Int} (h : Cels w (some ⟨b, off, none⟩) xs) (hn : xs.length = n) (hm : n ≤ 1000000) (hb : b < w.heap.size) (hl : w.cell? ⟨g, 0, none⟩ = some (.int .i64 least)) (hi : InI least) :
    Calls Try.prog 24 #[.slice (some ⟨b, off, none⟩) n cap, .func (.func 25) #[] #[.pointer (some ⟨g, 0, none⟩)]] w fun e w' => e = .returned (.int .i64 (badAt least xs)) ∧ Below w.heap.size w w' := by
  obtain ⟨zs, hzl, hz⟩ := cp_list h
  have hlt := World.block_lt_of_cell? w _ hl
  have hcon := AnyQ.slices_IndexFunc Try.idxC 2 Try.isAgg34 Try.sizeOf34 (CP.enc (w := w)) (fun _ => rfl) (fun x => !safeC least x.1.2) 25 #[.pointer (some ⟨g, 0, none⟩)] (enters_of Try.func25 (by kernel_rfl) rfl) b off n cap zs w
    (fun W x hW => (bad_any (Cell2.below x.2 hW) ((hW.cell (p := ⟨g, 0, none⟩) hlt).trans hl) hi).mono fun e w' hq => ⟨hq.1, hW.trans (hq.2.mono hW.size)⟩) (by omega) (by omega) hb (fun j hj i v hv => by
      obtain ⟨_, h0, h1⟩ := hz j (by omega)
      rcases i with _ | _ | i
      · have : v = (zs[j]!).1.1.1 := by simpa [CP.enc] using hv.symm
        rw [this]; exact h0
      · have : v = (zs[j]!).1.1.2 := by simpa [CP.enc] using hv.symm
        rw [this]; exact h1
      · simp [CP.enc] at hv)
  refine Calls.mono hcon ?_
  rintro e w' ⟨rfl, hbw⟩
  refine ⟨?_, hbw⟩
  congr 2
  have hp : ∀ k, k < n → (!safeC least (zs[k]!).1.2) = !safeC least (xs.getD k default) := fun k hk => by rw [(hz k (by omega)).1]
  unfold badAt
  by_cases e : firstBad least xs = xs.length
  · rw [if_pos e]
    refine Lib.idxBy_miss _ zs n default fun j hj => ?_
    show (!safeC least (zs[j]!).1.2) = false
    rw [hp j hj]
    have := List.findIdx_eq_length.1 e (xs.getD j default) (getD_memC (by omega))
    exact this
  · rw [if_neg e]
    have hlt2 : firstBad least xs < xs.length := Nat.lt_of_le_of_ne (firstBad_le _ _) e
    refine Lib.idxBy_hit _ zs n (firstBad least xs) default (by omega) (by omega) ?_ fun j hj => ?_
    · show (!safeC least (zs[firstBad least xs]!).1.2) = true
      rw [hp _ (by omega)]
      have := List.findIdx_getElem (w := hlt2)
      rw [List.getD_eq_getElem?_getD, List.getElem?_eq_getElem hlt2, Option.getD_some]
      exact this
    · show (!safeC least (zs[j]!).1.2) = false
      rw [hp j (by omega)]
      have := List.not_of_lt_findIdx hj
      rw [List.getD_eq_getElem?_getD, List.getElem?_eq_getElem (by omega), Option.getD_some]
      simpa using this
end Go.Proofs.Yteeamiacplfcmaa
