/-
  Plain: what merging keeps, where it ends.
-/
import Derived.Test.YteeamiacplfcmaaPCMerge
namespace Go.Proofs.Yteeamiacplfcmaa
open Go.RowKit
set_option linter.unusedVariables false
set_option linter.unusedSimpArgs false

theorem mergeF_inv {least : Int} {P : List Cel → Prop} (hP : ∀ l, validC l = true → P l → 1 < l.length → firstBad least l < l.length → P (stepM (min (firstBad least l) (l.length - 2)) l)) : ∀ (n : Nat) (cs : List Cel), validC cs = true → P cs → cs.length ≤ n → validC (mergeF least n cs) = true ∧ P (mergeF least n cs) ∧ ((mergeF least n cs).length ≤ 1 ∨ firstBad least (mergeF least n cs) = (mergeF least n cs).length)
  | 0, cs, hv, hp, hl => ⟨hv, hp, .inl (by show cs.length ≤ 1; omega)⟩
  | n + 1, cs, hv, hp, hl => by
    rw [mergeF]
    split
    · exact ⟨hv, hp, .inl (by assumption)⟩
    · rename_i h1
      split
      · exact ⟨hv, hp, .inr (by assumption)⟩
      · rename_i h2
        have h3 : firstBad least cs < cs.length := Nat.lt_of_le_of_ne (firstBad_le _ _) h2
        have h4 : min (firstBad least cs) (cs.length - 2) + 1 < cs.length := by omega
        exact mergeF_inv hP n _ (valid_step hv h4) (hP cs hv hp (by omega) h3) (by rw [stepM_length h4]; omega)
theorem mergeC_inv {least : Int} {P : List Cel → Prop} (hP : ∀ l, validC l = true → P l → 1 < l.length → firstBad least l < l.length → P (stepM (min (firstBad least l) (l.length - 2)) l)) {cs : List Cel} (hv : validC cs = true) (hp : P cs) : validC (mergeC least cs) = true ∧ P (mergeC least cs) ∧ ((mergeC least cs).length ≤ 1 ∨ firstBad least (mergeC least cs) = (mergeC least cs).length) :=
  mergeF_inv hP cs.length cs hv hp (Nat.le_refl _)
/-- how many ballots of all cells are q -/
def cntC (q : List Int) (cs : List Cel) : Int := (cs.map fun c => cnt q c.2).sum
theorem cntC_append (q : List Int) (a b : List Cel) : cntC q (a ++ b) = cntC q a + cntC q b := by simp [cntC]
theorem cntC_cons (q : List Int) (a : Cel) (b : List Cel) : cntC q (a :: b) = cnt q a.2 + cntC q b := by simp [cntC]
theorem cntC_step {q : List Int} {cs : List Cel} {k : Nat} (hk : k + 1 < cs.length) : cntC q (stepM k cs) = cntC q cs := by
  conv => rhs; rw [split2 hk, cntC_append, cntC_cons, cntC_cons]
  unfold stepM
  rw [cntC_append, cntC_cons]
  show _ + (cnt q (joinG _ _) + _) = _
  rw [cnt_joinG]; omega
theorem cnt_sumC (q : List Int) : ∀ (cs : List Cel) (acc : List Grp), cnt q (cs.foldl (fun acc c => joinG acc c.2) acc) = cnt q acc + cntC q cs
  | [], acc => by simp [cntC]
  | c :: r, acc => by rw [List.foldl_cons, cnt_sumC q r, cnt_joinG, cntC_cons]; omega
/-- what merging keeps -/
theorem mergeC_keeps {least : Int} {cs : List Cel} (hv : validC cs = true) : validC (mergeC least cs) = true ∧ ((mergeC least cs).length = 0 ↔ cs.length = 0) ∧ (preC (mergeC least cs)).length = (preC cs).length ∧ sumC (mergeC least cs) = sumC cs ∧ ((mergeC least cs).length ≤ 1 ∨ firstBad least (mergeC least cs) = (mergeC least cs).length) := by
  obtain ⟨h1, ⟨h2, h3, h4⟩, h5⟩ := mergeC_inv (least := least) (P := fun l => (l.length = 0 ↔ cs.length = 0) ∧ (preC l).length = (preC cs).length ∧ ∀ q, cntC q l = cntC q cs) (fun l hl hp h1 h2 => by
    have h4 : min (firstBad least l) (l.length - 2) + 1 < l.length := by omega
    refine ⟨?_, ?_, fun q => ?_⟩
    · rw [stepM_length h4, ← hp.1]; omega
    · rw [(preC_step hl h4).length_eq]; exact hp.2.1
    · rw [cntC_step h4]; exact hp.2.2 q) hv ⟨Iff.rfl, rfl, fun q => rfl⟩
  refine ⟨h1, h2, h3, ?_, h5⟩
  have p1 := (sumC_take h1 _ (Nat.le_refl _)).1
  have p2 := (sumC_take hv _ (Nat.le_refl _)).1
  rw [List.take_length, pile_iff] at p1 p2
  refine pile_ext p1.1 p2.1 p1.2.2.1 p2.2.2.1 fun q => ?_
  unfold sumC
  rw [cnt_sumC, cnt_sumC, h4 q]
theorem mergeC_again {least : Int} {cs : List Cel} (hv : validC cs = true) : mergeC least (mergeC least cs) = mergeC least cs := by
  rcases (mergeC_keeps (least := least) hv).2.2.2.2 with h | h
  · exact mergeC_few h
  · exact mergeC_safe h
theorem firstBad_all {least : Int} {cs : List Cel} (h : firstBad least cs = cs.length) {k : Nat} (hk : k < cs.length) : safeC least (cs.getD k default) = true := by
  have := List.findIdx_eq_length.1 h (cs.getD k default) (getD_memC hk)
  simpa using this
theorem firstBad_bad {least : Int} {cs : List Cel} (h : firstBad least cs < cs.length) : safeC least (cs.getD (firstBad least cs) default) = false := by
  have h2 : (!safeC least (cs[firstBad least cs]'h)) = true := List.findIdx_getElem (w := h)
  rw [List.getD_eq_getElem?_getD, List.getElem?_eq_getElem h, Option.getD_some]
  generalize safeC least (cs[firstBad least cs]'h) = b at h2 ⊢
  cases b with
  | false => rfl
  | true => cases h2
theorem valid_single {c : Cel} : validC [c] = true ↔ OneC c ∧ Few c.1 := by
  rw [valid_iff]
  constructor
  · rintro ⟨h1, h2, _⟩
    exact ⟨h1 c (by simp), by simpa [preC] using h2⟩
  · rintro ⟨h1, h2⟩
    refine ⟨fun x hx => ?_, by simpa [preC] using h2, ?_⟩
    · rw [List.mem_singleton] at hx; rw [hx]; exact h1
    · have := (pile_len h1.2.2).2.2.2
      simpa [totC] using this
theorem safe_iff {least : Int} {c : Cel} : safeC least c = true ↔ (OneC c ∧ Few c.1) ∧ least ≤ sumN c.2 ∧ 2 ≤ c.2.length := by
  unfold safeC
  rw [Bool.and_eq_true, Bool.and_eq_true, valid_single, decide_eq_true_eq, decide_eq_true_eq, and_assoc]
theorem addG_ge (p : List Int) (n : Int) : ∀ gs, gs.length ≤ (addG p n gs).length
  | [] => by simp [addG]
  | g :: r => by
    rw [addG]
    split
    · have := addG_ge p n r; simp; omega
    · split <;> simp
theorem joinG_ge (a : List Grp) : ∀ b, a.length ≤ (joinG a b).length := by
  intro b
  induction b generalizing a with
  | nil => exact Nat.le_refl _
  | cons g r ih => exact Nat.le_trans (addG_ge _ _ _) (ih (addG g.1 g.2 a))
theorem addG_mem_self (p : List Int) (n : Int) : ∀ gs, ∃ g ∈ addG p n gs, g.1 = p
  | [] => ⟨(p, n), by simp [addG], rfl⟩
  | g :: r => by
    rw [addG]
    split
    · obtain ⟨x, hx, e⟩ := addG_mem_self p n r
      exact ⟨x, by simp [hx], e⟩
    · split
      · rename_i e; exact ⟨(g.1, g.2 + n), by simp, e⟩
      · exact ⟨(p, n), by simp, rfl⟩
theorem addG_keys (p : List Int) (n : Int) {q : List Int} : ∀ {gs : List Grp}, (∃ g ∈ gs, g.1 = q) → ∃ g ∈ addG p n gs, g.1 = q
  | [], h => by obtain ⟨g, hg, _⟩ := h; cases hg
  | g :: r, h => by
    rw [addG]
    obtain ⟨x, hx, e⟩ := h
    rw [List.mem_cons] at hx
    split
    · rcases hx with rfl | hx
      · exact ⟨_, by simp, e⟩
      · obtain ⟨y, hy, e2⟩ := addG_keys p n ⟨x, hx, e⟩
        exact ⟨y, by simp [hy], e2⟩
    · split
      · rcases hx with rfl | hx
        · exact ⟨_, List.mem_cons_self .., e⟩
        · exact ⟨x, by simp [hx], e⟩
      · rcases hx with rfl | hx
        · exact ⟨_, by simp, e⟩
        · exact ⟨x, by simp [hx], e⟩
theorem joinG_keys : ∀ (b : List Grp) {a : List Grp} {q : List Int}, ((∃ g ∈ a, g.1 = q) ∨ ∃ g ∈ b, g.1 = q) → ∃ g ∈ joinG a b, g.1 = q
  | [], a, q, h => by
    rcases h with h | ⟨g, hg, _⟩
    · exact h
    · cases hg
  | g :: r, a, q, h => by
    refine joinG_keys r (a := addG g.1 g.2 a) ?_
    rcases h with h | ⟨x, hx, e⟩
    · exact .inl (addG_keys _ _ h)
    · rw [List.mem_cons] at hx
      rcases hx with rfl | hx
      · obtain ⟨y, hy, e2⟩ := addG_mem_self x.1 x.2 a
        exact .inl ⟨y, hy, e2.trans e⟩
      · exact .inr ⟨x, hx, e⟩
/-- two different preferences: at least two groups -/
theorem two_keys {gs : List Grp} {p q : List Int} (hp : ∃ g ∈ gs, g.1 = p) (hq : ∃ g ∈ gs, g.1 = q) (hne : p ≠ q) : 2 ≤ gs.length := by
  obtain ⟨g, hg, rfl⟩ := hp
  obtain ⟨h, hh, rfl⟩ := hq
  rcases gs with _ | ⟨a, _ | ⟨b, r⟩⟩
  · cases hg
  · simp at hg hh
    rw [hg, hh] at hne
    exact absurd rfl hne
  · simp
theorem joinG_ge2 {a b : List Grp} (hb : SortG b) (h : 2 ≤ b.length) : 2 ≤ (joinG a b).length := by
  rcases b with _ | ⟨x, _ | ⟨y, r⟩⟩
  · simp at h
  · simp at h
  · have hne : x.1 ≠ y.1 := lexLt_ne' ((List.pairwise_cons.1 hb).1 y (by simp))
    exact two_keys (joinG_keys _ (.inr ⟨x, by simp, rfl⟩)) (joinG_keys _ (.inr ⟨y, by simp, rfl⟩)) hne
/-- a merged cell is safe if one of its two is -/
theorem safe_unite {least : Int} {a b : Cel} (ha : OneC a) (hb : OneC b) (hf : Few (a.1 ++ b.1)) (hs : sumN a.2 + sumN b.2 ≤ 100000) (h : safeC least a = true ∨ safeC least b = true) : safeC least (uniteC a b) = true := by
  have h1 := (pile_len ha.2.2).2.2.1
  have h2 := (pile_len hb.2.2).2.2.1
  refine safe_iff.2 ⟨⟨unite_one ha hb hf hs, hf.perm (uniP_perm hf)⟩, ?_, ?_⟩
  · show least ≤ sumN (joinG a.2 b.2)
    rw [sumN_joinG]
    rcases h with h | h
    · have := (safe_iff.1 h).2.1; omega
    · have := (safe_iff.1 h).2.1; omega
  · show 2 ≤ (joinG a.2 b.2).length
    rcases h with h | h
    · exact Nat.le_trans (safe_iff.1 h).2.2 (joinG_ge _ _)
    · exact joinG_ge2 (pile_iff.1 hb.2.2).1 (safe_iff.1 h).2.2
theorem stepM_left {L R : List Cel} {c : Cel} {k : Nat} (hk : k + 1 < L.length) : stepM k (L ++ c :: R) = stepM k L ++ c :: R := by
  unfold stepM
  rw [List.take_append_of_le_length (by omega), List.drop_append_of_le_length (by omega)]
  have e1 : (L ++ c :: R).getD k default = L.getD k default := by
    rw [List.getD_eq_getElem?_getD, List.getElem?_append_left (by omega), List.getD_eq_getElem?_getD]
  have e2 : (L ++ c :: R).getD (k + 1) default = L.getD (k + 1) default := by
    rw [List.getD_eq_getElem?_getD, List.getElem?_append_left hk, List.getD_eq_getElem?_getD]
  rw [e1, e2]
  simp
theorem getD_right {L R : List Cel} {c : Cel} {r : Nat} : (L ++ c :: R).getD (L.length + 1 + r) default = R.getD r default := by
  rw [List.getD_eq_getElem?_getD, List.getElem?_append_right (by omega), show L.length + 1 + r - L.length = r + 1 by omega, List.getElem?_cons_succ, List.getD_eq_getElem?_getD]
theorem getD_left {L R : List Cel} {c : Cel} {k : Nat} (hk : k < L.length) : (L ++ c :: R).getD k default = L.getD k default := by
  rw [List.getD_eq_getElem?_getD, List.getElem?_append_left hk, List.getD_eq_getElem?_getD]
theorem getD_mid {L R : List Cel} {c : Cel} : (L ++ c :: R).getD L.length default = c := by
  rw [List.getD_eq_getElem?_getD, List.getElem?_append_right (Nat.le_refl _)]
  simp
theorem stepM_right {L R : List Cel} {c : Cel} {r : Nat} : stepM (L.length + 1 + r) (L ++ c :: R) = L ++ c :: stepM r R := by
  unfold stepM
  rw [getD_right, show L.length + 1 + r + 1 = L.length + 1 + (r + 1) by omega, getD_right, show L.length + 1 + r + 2 = L.length + (r + 2 + 1) by omega, List.drop_append, show L.length + 1 + r = L.length + (r + 1) by omega, List.take_append, List.take_of_length_le (show L.length ≤ L.length + (r + 1) by omega), List.drop_eq_nil_of_le (show L.length ≤ L.length + (r + 2 + 1) by omega)]
  simp
end Go.Proofs.Yteeamiacplfcmaa
