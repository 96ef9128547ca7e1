/-
  Plain: a sorted list of groups, equal ones put together.
-/
import Derived.Test.YteeamiacplfcmaaEqual
namespace Go.Proofs.Yteeamiacplfcmaa
open Go.RowKit
set_option linter.unusedVariables false
set_option linter.unusedSimpArgs false

def coalStep (out : List Grp) (g : Grp) : List Grp :=
  if 0 < out.length ∧ (out.getD (out.length - 1) default).1 = g.1 then out.set (out.length - 1) ((out.getD (out.length - 1) default).1, (out.getD (out.length - 1) default).2 + g.2) else out ++ [g]
/-- equal neighbours are put together -/
def coal (gs : List Grp) : List Grp := gs.foldl coalStep []
theorem coal_take {gs : List Grp} {k : Nat} (hk : k < gs.length) : coal (gs.take (k + 1)) = coalStep (coal (gs.take k)) (gs.getD k default) := by
  unfold coal
  rw [take_succG hk, List.foldl_append]
  rfl
theorem snoc_last (init : List Grp) (x : Grp) : (init ++ [x]).getD ((init ++ [x]).length - 1) default = x := by
  simp [List.getD_eq_getElem?_getD]
theorem coalStep_snoc (init : List Grp) (x g : Grp) : coalStep (init ++ [x]) g = if x.1 = g.1 then init ++ [(x.1, x.2 + g.2)] else init ++ [x] ++ [g] := by
  unfold coalStep
  rw [snoc_last]
  by_cases h : x.1 = g.1
  · rw [if_pos ⟨by simp, h⟩, if_pos h]
    simp
  · rw [if_neg fun e => h e.2, if_neg h]
theorem coalStep_nil (g : Grp) : coalStep [] g = [g] := by simp [coalStep]
theorem snoc_cases (out : List Grp) : out = [] ∨ ∃ init x, out = init ++ [x] := by
  rcases List.eq_nil_or_concat out with h | ⟨a, b, h⟩
  · exact .inl h
  · exact .inr ⟨a, b, by simpa using h⟩
theorem sumN_coalStep (out : List Grp) (g : Grp) : sumN (coalStep out g) = sumN out + g.2 := by
  rcases snoc_cases out with rfl | ⟨init, x, rfl⟩
  · rw [coalStep_nil, sumN_cons]; simp [sumN]
  · rw [coalStep_snoc]
    split
    · simp only [sumN_append, sumN_cons, sumN_nil]; omega
    · simp only [sumN_append, sumN_cons, sumN_nil]; omega
theorem cnt_coalStep (q : List Int) (out : List Grp) (g : Grp) : cnt q (coalStep out g) = cnt q out + if g.1 = q then g.2 else 0 := by
  rcases snoc_cases out with rfl | ⟨init, x, rfl⟩
  · rw [coalStep_nil, cnt_cons, cnt_nil]; omega
  · rw [coalStep_snoc]
    split
    · rename_i e
      simp only [cnt_append, cnt_cons, cnt_nil, e]
      split <;> omega
    · simp only [cnt_append, cnt_cons, cnt_nil]; omega
theorem Pos.coalStep {out : List Grp} {g : Grp} (h : Pos out) (hg : 1 ≤ g.2) : Pos (coalStep out g) := by
  rcases snoc_cases out with rfl | ⟨init, x, rfl⟩
  · rw [coalStep_nil]
    intro y hy
    simp at hy
    rw [hy]; exact hg
  · have hx := h x (by simp)
    rw [coalStep_snoc]
    split
    · intro y hy
      rw [List.mem_append, List.mem_singleton] at hy
      rcases hy with hy | rfl
      · exact h y (by simp [hy])
      · simp only []; omega
    · intro y hy
      rw [List.mem_append, List.mem_singleton] at hy
      rcases hy with hy | rfl
      · exact h y hy
      · exact hg
theorem coal_facts (gs : List Grp) (h : Pos gs) : ∀ k, k ≤ gs.length → sumN (coal (gs.take k)) = sumN (gs.take k) ∧ Pos (coal (gs.take k)) ∧ ∀ q, cnt q (coal (gs.take k)) = cnt q (gs.take k)
  | 0, _ => by simp [coal, sumN, Pos, cnt]
  | k + 1, hk => by
    obtain ⟨h1, h2, h3⟩ := coal_facts gs h k (by omega)
    rw [coal_take (by omega), sumN_coalStep, sumN_take (by omega), h1]
    refine ⟨rfl, h2.coalStep (h _ (getD_memG (by omega))), fun q => ?_⟩
    rw [cnt_coalStep, h3, take_succG (by omega), cnt_append, cnt_cons, cnt_nil]; omega
theorem coal_sort : ∀ (ys out : List Grp), SortG out → (∀ x ∈ out, ∀ g ∈ ys, lexLt g.1 x.1 = false) → (ys.Pairwise fun a b => lexLt b.1 a.1 = false) → SortG (ys.foldl coalStep out)
  | [], _, h, _, _ => h
  | g :: r, out, h, hx, hp => by
    obtain ⟨p1, p2⟩ := List.pairwise_cons.1 hp
    rw [List.foldl_cons]
    rcases snoc_cases out with rfl | ⟨init, x, rfl⟩
    · rw [coalStep_nil]
      refine coal_sort r [g] (by simp [SortG]) (fun y hy z hz => ?_) p2
      simp at hy
      rw [hy]; exact p1 z hz
    · obtain ⟨s1, s2, s3⟩ := List.pairwise_append.1 h
      have hxg := hx x (by simp) g (by simp)
      rw [coalStep_snoc]
      split
      · rename_i e
        refine coal_sort r _ (List.pairwise_append.2 ⟨s1, by simp, fun a ha b hb => ?_⟩) (fun y hy z hz => ?_) p2
        · simp at hb
          rw [hb]
          exact s3 a ha x (by simp)
        · rw [List.mem_append, List.mem_singleton] at hy
          rcases hy with hy | rfl
          · exact hx y (by simp [hy]) z (by simp [hz])
          · exact hx x (by simp) z (by simp [hz])
      · rename_i e
        have hlt : lexLt x.1 g.1 = true := by
          cases k : lexLt x.1 g.1 with
          | true => rfl
          | false => exact absurd (lexLt_conn k hxg) e
        refine coal_sort r _ (List.pairwise_append.2 ⟨h, by simp, fun a ha b hb => ?_⟩) (fun y hy z hz => ?_) p2
        · simp at hb
          subst hb
          rw [List.mem_append, List.mem_singleton] at ha
          rcases ha with ha | rfl
          · exact lexLt_trans (s3 a ha x (by simp)) hlt
          · exact hlt
        · rw [List.mem_append, List.mem_singleton] at hy
          rcases hy with hy | rfl
          · exact hx y hy z (by simp [hz])
          · exact p1 z hz
/-- sorting and putting together joins two piles -/
theorem coal_join {a b ys : List Grp} (ha : pileOk 7 a = true) (hb : pileOk 7 b = true) (hp : ys.Perm (a ++ b)) (hs : ys.Pairwise fun a b => lexLt b.1 a.1 = false) : coal ys = joinG a b := by
  rw [pile_iff] at ha hb
  have hpos : Pos ys := fun g hg => by
    have := hp.mem_iff.1 hg
    rw [List.mem_append] at this
    rcases this with h | h
    · exact ha.2.2.1 g h
    · exact hb.2.2.1 g h
  obtain ⟨h1, h2, h3⟩ := coal_facts ys hpos ys.length (Nat.le_refl _)
  rw [List.take_length] at h1 h2 h3
  refine pile_ext (coal_sort ys [] (by simp [SortG]) (fun x hx => by cases hx) hs) ha.1.joinG h2 (ha.2.2.1.joinG hb.2.2.1) fun q => ?_
  rw [h3, cnt_joinG, cnt_perm hp, cnt_append]
end Go.Proofs.Yteeamiacplfcmaa
