/-
  Plain: valid lists of cells, merged.
-/
import Derived.Test.YteeamiacplfcmaaUnite
namespace Go.Proofs.Yteeamiacplfcmaa
open Go.RowKit
set_option linter.unusedVariables false
set_option linter.unusedSimpArgs false

/-- the numbers ascend -/
def SortI (l : List Int) : Prop := l.Pairwise (· < ·)
theorem SortI.of_step {l : List Int} (h : ∀ k, k < l.length → 0 < k → l.getD (k - 1) 0 < l.getD k 0) : SortI l := by
  induction l with
  | nil => exact List.Pairwise.nil
  | cons g r ih =>
    have hr : SortI r := ih fun k hk h0 => by
      have := h (k + 1) (by simp; omega) (by omega)
      obtain ⟨j, rfl⟩ : ∃ j, k = j + 1 := ⟨k - 1, by omega⟩
      simpa using this
    refine List.Pairwise.cons (fun x hx => ?_) hr
    cases r with
    | nil => cases hx
    | cons y s =>
      have h1 : g < y := by simpa using h 1 (by simp) (by omega)
      rw [List.mem_cons] at hx
      rcases hx with rfl | hx
      · exact h1
      · exact Int.lt_trans h1 ((List.pairwise_cons.1 hr).1 x hx)
theorem SortI.step {l : List Int} (h : SortI l) {k : Nat} (hk : k < l.length) (h0 : 0 < k) : l.getD (k - 1) 0 < l.getD k 0 := by
  have := List.pairwise_iff_getElem.1 h (k - 1) k (by omega) hk (by omega)
  rwa [List.getD_eq_getElem?_getD, List.getD_eq_getElem?_getD, List.getElem?_eq_getElem hk, List.getElem?_eq_getElem (by omega), Option.getD_some, Option.getD_some]
/-- two ascending lists of the same numbers are equal -/
theorem sortI_ext : ∀ {a b : List Int}, SortI a → SortI b → (∀ x, x ∈ a ↔ x ∈ b) → a = b
  | [], [], _, _, _ => rfl
  | [], h :: s, _, _, hc => by have := (hc h).2 (by simp); cases this
  | g :: r, [], _, _, hc => by have := (hc g).1 (by simp); cases this
  | g :: r, h :: s, hs, hs', hc => by
    obtain ⟨h1, h2⟩ := List.pairwise_cons.1 hs
    obtain ⟨h3, h4⟩ := List.pairwise_cons.1 hs'
    have e1 : g = h := by
      have p1 := (hc g).1 (by simp)
      have p2 := (hc h).2 (by simp)
      rw [List.mem_cons] at p1 p2
      rcases p1 with p1 | p1
      · exact p1
      · rcases p2 with p2 | p2
        · exact p2.symm
        · have := h1 h p2
          have := h3 g p1
          omega
    subst e1
    rw [sortI_ext h2 h4 fun x => by
      have := hc x
      rw [List.mem_cons, List.mem_cons] at this
      constructor
      · intro hx
        rcases this.1 (.inr hx) with e | e
        · have := h1 x hx; omega
        · exact e
      · intro hx
        rcases this.2 (.inr hx) with e | e
        · have := h3 x hx; omega
        · exact e]
/-- the precincts of all cells -/
def preC (cs : List Cel) : List Int := cs.flatMap (·.1)
/-- the ballots of all cells -/
def totC (cs : List Cel) : Int := (cs.map fun c => sumN c.2).sum
def OneC (c : Cel) : Prop := c.1 ≠ [] ∧ SortI c.1 ∧ pileOk 7 c.2 = true
theorem preC_append (a b : List Cel) : preC (a ++ b) = preC a ++ preC b := by simp [preC]
theorem preC_cons (a : Cel) (b : List Cel) : preC (a :: b) = a.1 ++ preC b := by simp [preC]
theorem totC_append (a b : List Cel) : totC (a ++ b) = totC a + totC b := by simp [totC]
theorem totC_cons (a : Cel) (b : List Cel) : totC (a :: b) = sumN a.2 + totC b := by simp [totC]
theorem getD_memC {cs : List Cel} {k : Nat} (hk : k < cs.length) : cs.getD k default ∈ cs := by
  rw [List.getD_eq_getElem?_getD, List.getElem?_eq_getElem hk, Option.getD_some]
  exact List.getElem_mem _
theorem getD_memI {l : List Int} {k : Nat} (hk : k < l.length) : l.getD k 0 ∈ l := by
  rw [List.getD_eq_getElem?_getD, List.getElem?_eq_getElem hk, Option.getD_some]
  exact List.getElem_mem _
theorem drop_consC {cs : List Cel} {k : Nat} (hk : k < cs.length) : cs.drop k = cs.getD k default :: cs.drop (k + 1) := by
  rw [List.drop_eq_getElem_cons hk, List.getD_eq_getElem?_getD, List.getElem?_eq_getElem hk, Option.getD_some]
theorem drop_consI {l : List Int} {k : Nat} (hk : k < l.length) : l.drop k = l.getD k 0 :: l.drop (k + 1) := by
  rw [List.drop_eq_getElem_cons hk, List.getD_eq_getElem?_getD, List.getElem?_eq_getElem hk, Option.getD_some]
theorem valid_iff {cs : List Cel} : validC cs = true ↔ (∀ c ∈ cs, OneC c) ∧ Few (preC cs) ∧ totC cs ≤ 100000 := by
  rw [validC_iff]
  constructor
  · rintro ⟨h1, h2⟩
    refine ⟨fun c hc => ?_, ?_, ?_⟩
    · obtain ⟨i, hi, rfl⟩ := List.getElem_of_mem hc
      have h3 := h1 i hi
      rw [List.getD_eq_getElem?_getD, List.getElem?_eq_getElem hi, Option.getD_some] at h3
      exact ⟨fun e => h3.1 (by rw [e]; rfl), SortI.of_step fun k hk h0 => (h3.2.2 k hk).2.2.2 h0, h3.2.1⟩
    · have := few_seen (Nat.le_refl _) h1
      unfold seenTo at this
      rwa [List.take_length] at this
    · unfold totTo at h2
      rwa [List.take_length] at h2
  · rintro ⟨h1, h2, h3⟩
    refine ⟨fun i hi => ?_, ?_⟩
    · obtain ⟨o1, o2, o3⟩ := h1 _ (getD_memC hi)
      refine ⟨fun e => o1 (List.length_eq_zero_iff.1 e), o3, fun k hk => ?_⟩
      have e1 : preC cs = (seenTo cs i ++ (cs.getD i default).1.take k) ++ (cs.getD i default).1.getD k 0 :: ((cs.getD i default).1.drop (k + 1) ++ preC (cs.drop (i + 1))) := by
        have : preC cs = preC (cs.take i) ++ preC (cs.drop i) := by rw [← preC_append, List.take_append_drop]
        rw [this, drop_consC hi, preC_cons]
        have e2 : (cs.getD i default).1 = (cs.getD i default).1.take k ++ ((cs.getD i default).1.getD k 0 :: (cs.getD i default).1.drop (k + 1)) := by
          rw [← drop_consI hk, List.take_append_drop]
        conv => lhs; rw [e2]
        show preC (cs.take i) ++ _ = preC (cs.take i) ++ _ ++ _
        simp [List.append_assoc]
      have h4 := h2.2 ((cs.getD i default).1.getD k 0) (by rw [e1]; simp)
      refine ⟨h4.1, h4.2, fun hm => ?_, fun h0 => o2.step hk h0⟩
      have h5 := h2.1
      rw [e1, List.nodup_append] at h5
      exact h5.2.2 _ hm _ (by simp) rfl
    · show ((cs.take cs.length).map _).sum ≤ _
      rw [List.take_length]
      exact h3
theorem uniP_mem {a b : List Int} {x : Int} (h : Few (a ++ b)) : x ∈ uniP a b 12 ↔ x ∈ a ++ b := by
  unfold uniP
  rw [List.mem_filter, List.mem_map, List.mem_append]
  constructor
  · rintro ⟨_, h2⟩
    simpa using h2
  · intro hx
    refine ⟨⟨x.toNat, ?_, ?_⟩, by simpa using hx⟩
    · rw [List.mem_range]
      have := h.2 x (List.mem_append.2 hx)
      omega
    · have := h.2 x (List.mem_append.2 hx)
      show (x.toNat : Int) = x
      omega
theorem uniP_sort (a b : List Int) (k : Nat) : SortI (uniP a b k) := by
  unfold uniP SortI
  refine List.Pairwise.filter _ ?_
  rw [List.pairwise_map]
  exact List.Pairwise.imp (fun h => Int.ofNat_lt.2 h) List.pairwise_lt_range
theorem SortI.nodup {l : List Int} (h : SortI l) : l.Nodup := List.Pairwise.imp (fun h e => by omega) h
theorem uniP_perm {a b : List Int} (h : Few (a ++ b)) : (uniP a b 12).Perm (a ++ b) :=
  (List.perm_ext_iff_of_nodup (uniP_sort a b 12).nodup h.1).2 fun x => uniP_mem h
theorem Few.perm {a b : List Int} (h : Few a) (hp : b.Perm a) : Few b := ⟨hp.nodup_iff.2 h.1, fun y hy => h.2 y (hp.mem_iff.1 hy)⟩
theorem Few.mid {a b c : List Int} (h : Few (a ++ (b ++ c))) : Few b := ⟨(List.nodup_append.1 (List.nodup_append.1 h.1).2.1).1, fun y hy => h.2 y (by simp [hy])⟩

/-- cells k and k + 1 are merged -/
def stepM (k : Nat) (cs : List Cel) : List Cel := cs.take k ++ uniteC (cs.getD k default) (cs.getD (k + 1) default) :: cs.drop (k + 2)
theorem split2 {cs : List Cel} {k : Nat} (hk : k + 1 < cs.length) : cs = cs.take k ++ cs.getD k default :: cs.getD (k + 1) default :: cs.drop (k + 2) := by
  conv => lhs; rw [← List.take_append_drop k cs, drop_consC (show k < cs.length by omega), drop_consC hk]
theorem stepM_length {cs : List Cel} {k : Nat} (hk : k + 1 < cs.length) : (stepM k cs).length = cs.length - 1 := by
  unfold stepM
  simp
  omega
theorem unite_one {a b : Cel} (ha : OneC a) (hb : OneC b) (hf : Few (a.1 ++ b.1)) (hs : sumN a.2 + sumN b.2 ≤ 100000) : OneC (uniteC a b) := by
  refine ⟨fun e => ?_, uniP_sort _ _ _, pile_joinG ha.2.2 hb.2.2 hs⟩
  obtain ⟨x, r, e1⟩ : ∃ x r, a.1 = x :: r := by
    cases h : a.1 with
    | nil => exact absurd h ha.1
    | cons x r => exact ⟨x, r, rfl⟩
  have : x ∈ uniP a.1 b.1 12 := (uniP_mem hf).2 (by rw [e1]; simp)
  have e2 : uniP a.1 b.1 12 = [] := e
  rw [e2] at this
  cases this
theorem totC_nonneg {cs : List Cel} (h : ∀ c ∈ cs, OneC c) : 0 ≤ totC cs := by
  induction cs with
  | nil => simp [totC]
  | cons c r ih =>
    have h1 := (pile_len (h c (by simp)).2.2).2.2.1
    have h2 := ih fun x hx => h x (by simp [hx])
    rw [totC_cons]; omega
theorem pair_ok {cs : List Cel} {k : Nat} (h : validC cs = true) (hk : k + 1 < cs.length) : OneC (cs.getD k default) ∧ OneC (cs.getD (k + 1) default) ∧ Few ((cs.getD k default).1 ++ (cs.getD (k + 1) default).1) ∧ sumN (cs.getD k default).2 + sumN (cs.getD (k + 1) default).2 ≤ 100000 := by
  rw [valid_iff] at h
  obtain ⟨h1, h2, h3⟩ := h
  have e1 : preC cs = preC (cs.take k) ++ (((cs.getD k default).1 ++ (cs.getD (k + 1) default).1) ++ preC (cs.drop (k + 2))) := by
    conv => lhs; rw [split2 hk, preC_append, preC_cons, preC_cons, ← List.append_assoc (cs.getD k default).1]
  have e2 : totC cs = totC (cs.take k) + (sumN (cs.getD k default).2 + (sumN (cs.getD (k + 1) default).2 + totC (cs.drop (k + 2)))) := by
    conv => lhs; rw [split2 hk, totC_append, totC_cons, totC_cons]
  refine ⟨h1 _ (getD_memC (by omega)), h1 _ (getD_memC hk), ?_, ?_⟩
  · rw [e1] at h2
    exact h2.mid
  · rw [e2] at h3
    have p1 := totC_nonneg (cs := cs.take k) fun x hx => h1 x (List.mem_of_mem_take hx)
    have p2 := totC_nonneg (cs := cs.drop (k + 2)) fun x hx => h1 x (List.mem_of_mem_drop hx)
    omega
theorem preC_step {cs : List Cel} {k : Nat} (h : validC cs = true) (hk : k + 1 < cs.length) : (preC (stepM k cs)).Perm (preC cs) := by
  conv => rhs; rw [split2 hk, preC_append, preC_cons, preC_cons, ← List.append_assoc (cs.getD k default).1]
  unfold stepM
  rw [preC_append, preC_cons]
  exact List.Perm.append_left _ (List.Perm.append_right _ (uniP_perm (pair_ok h hk).2.2.1))
theorem totC_step {cs : List Cel} {k : Nat} (hk : k + 1 < cs.length) : totC (stepM k cs) = totC cs := by
  conv => rhs; rw [split2 hk, totC_append, totC_cons, totC_cons]
  unfold stepM
  rw [totC_append, totC_cons]
  show _ + (sumN (joinG _ _) + _) = _
  rw [sumN_joinG]; omega
theorem valid_step {cs : List Cel} {k : Nat} (h : validC cs = true) (hk : k + 1 < cs.length) : validC (stepM k cs) = true := by
  have hp := pair_ok h hk
  have h' := valid_iff.1 h
  refine valid_iff.2 ⟨fun c hc => ?_, h'.2.1.perm (preC_step h hk), by rw [totC_step hk]; exact h'.2.2⟩
  unfold stepM at hc
  rw [List.mem_append, List.mem_cons] at hc
  rcases hc with hc | rfl | hc
  · exact h'.1 c (List.mem_of_mem_take hc)
  · exact unite_one hp.1 hp.2.1 hp.2.2.1 hp.2.2.2
  · exact h'.1 c (List.mem_of_mem_drop hc)
theorem valid_len {cs : List Cel} (h : validC cs = true) : cs.length ≤ 12 := by
  obtain ⟨h1, h2, _⟩ := valid_iff.1 h
  have : ∀ l : List Cel, (∀ c ∈ l, OneC c) → l.length ≤ (preC l).length := fun l hl => by
    induction l with
    | nil => simp
    | cons c r ih =>
      have p1 := ih fun x hx => hl x (by simp [hx])
      have p2 : 0 < c.1.length := List.length_pos_iff.2 (hl c (by simp)).1
      rw [preC_cons, List.length_append, List.length_cons]; omega
  exact Nat.le_trans (this cs h1) h2.len
/-- the first cell that is not safe, or the number of cells -/
def firstBad (least : Int) (cs : List Cel) : Nat := cs.findIdx fun c => !safeC least c
theorem firstBad_le (least : Int) (cs : List Cel) : firstBad least cs ≤ cs.length := List.findIdx_le_length
theorem firstBad_at {least : Int} {cs : List Cel} {k : Nat} (hk : k < cs.length) (h : ∀ j, j < k → safeC least (cs.getD j default) = true) (hb : safeC least (cs.getD k default) = false) : firstBad least cs = k := by
  unfold firstBad
  rw [List.findIdx_eq hk]
  rw [List.getD_eq_getElem?_getD, List.getElem?_eq_getElem hk, Option.getD_some] at hb
  refine ⟨by simp [hb], fun j hj => ?_⟩
  have := h j hj
  rw [List.getD_eq_getElem?_getD, List.getElem?_eq_getElem (by omega), Option.getD_some] at this
  simp [this]
theorem firstBad_none {least : Int} {cs : List Cel} (h : ∀ j, j < cs.length → safeC least (cs.getD j default) = true) : firstBad least cs = cs.length := by
  unfold firstBad
  rw [List.findIdx_eq_length]
  intro c hc
  obtain ⟨i, hi, rfl⟩ := List.getElem_of_mem hc
  have := h i hi
  rw [List.getD_eq_getElem?_getD, List.getElem?_eq_getElem hi, Option.getD_some] at this
  simp [this]
/-- the cells are merged till each is safe, or one is left -/
def mergeF (least : Int) : Nat → List Cel → List Cel
  | 0, cs => cs
  | n + 1, cs => if cs.length ≤ 1 then cs else if firstBad least cs = cs.length then cs else mergeF least n (stepM (min (firstBad least cs) (cs.length - 2)) cs)
def mergeC (least : Int) (cs : List Cel) : List Cel := mergeF least cs.length cs
theorem mergeC_few {least : Int} {cs : List Cel} (h : cs.length ≤ 1) : mergeC least cs = cs := by
  unfold mergeC
  cases hn : cs.length with
  | zero => rfl
  | succ n => rw [mergeF, if_pos h]
theorem mergeC_safe {least : Int} {cs : List Cel} (h : firstBad least cs = cs.length) : mergeC least cs = cs := by
  unfold mergeC
  cases hn : cs.length with
  | zero => rfl
  | succ n =>
    rw [mergeF]
    split
    · rfl
    · rfl
theorem mergeC_step {least : Int} {cs : List Cel} (h1 : 1 < cs.length) (h : firstBad least cs < cs.length) : mergeC least cs = mergeC least (stepM (min (firstBad least cs) (cs.length - 2)) cs) := by
  have e : (stepM (min (firstBad least cs) (cs.length - 2)) cs).length = cs.length - 1 := stepM_length (by omega)
  conv => rhs; unfold mergeC; rw [e]
  unfold mergeC
  obtain ⟨n, hn⟩ : ∃ n, cs.length = n + 1 := ⟨cs.length - 1, by omega⟩
  conv => lhs; rw [hn, mergeF, if_neg (by omega), if_neg (by omega)]
  rw [hn]; rfl
end Go.Proofs.Yteeamiacplfcmaa
