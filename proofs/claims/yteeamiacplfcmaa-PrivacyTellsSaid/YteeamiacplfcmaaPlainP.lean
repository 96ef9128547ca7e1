/-
  Plain: piles as sorted lists with numbers; what joining does.
-/
import Derived.Test.YteeamiacplfcmaaRJoin
namespace Go.Proofs.Yteeamiacplfcmaa
open Go.RowKit
set_option linter.unusedVariables false
set_option linter.unusedSimpArgs false

/-- the preferences ascend -/
def SortG (gs : List Grp) : Prop := gs.Pairwise fun a b => lexLt a.1 b.1 = true
def BalG (gs : List Grp) : Prop := ∀ g ∈ gs, ballot 7 g.1 = true
theorem SortG.of_step {gs : List Grp} (h : ∀ k, k < gs.length → 0 < k → lexLt (gs.getD (k - 1) default).1 (gs.getD k default).1 = true) : SortG gs := by
  induction gs with
  | nil => exact List.Pairwise.nil
  | cons g r ih =>
    have hr : SortG r := ih fun k hk h0 => by
      have := h (k + 1) (by simp; omega) (by omega)
      obtain ⟨j, rfl⟩ : ∃ j, k = j + 1 := ⟨k - 1, by omega⟩
      simpa using this
    refine List.Pairwise.cons (fun x hx => ?_) hr
    cases r with
    | nil => cases hx
    | cons y s =>
      have h1 : lexLt g.1 y.1 = true := by simpa using h 1 (by simp) (by omega)
      rw [List.mem_cons] at hx
      rcases hx with rfl | hx
      · exact h1
      · exact lexLt_trans h1 ((List.pairwise_cons.1 hr).1 x hx)
theorem SortG.step {gs : List Grp} (h : SortG gs) {k : Nat} (hk : k < gs.length) (h0 : 0 < k) : lexLt (gs.getD (k - 1) default).1 (gs.getD k default).1 = true := by
  have := List.pairwise_iff_getElem.1 h (k - 1) k (by omega) hk (by omega)
  rwa [List.getD_eq_getElem?_getD, List.getD_eq_getElem?_getD, List.getElem?_eq_getElem hk, List.getElem?_eq_getElem (by omega), Option.getD_some, Option.getD_some]
theorem pile_iff {gs : List Grp} : pileOk 7 gs = true ↔ SortG gs ∧ BalG gs ∧ Pos gs ∧ sumN gs ≤ 100000 := by
  constructor
  · intro h
    refine ⟨SortG.of_step fun k hk h0 => (pileOk_iff.1 h k hk).2.2.2 h0, fun g hg => ?_, pile_pos h, (pile_len h).2.2.2⟩
    obtain ⟨k, hk, rfl⟩ := List.getElem_of_mem hg
    have := (pileOk_iff.1 h k hk).1
    rwa [List.getD_eq_getElem?_getD, List.getElem?_eq_getElem hk, Option.getD_some] at this
  · rintro ⟨h1, h2, h3, h4⟩
    refine pileOk_yes fun k hk => ⟨h2 _ (getD_memG hk), h3 _ (getD_memG hk), ?_, fun h0 => h1.step hk h0⟩
    have h5 := sumN_take_le h3 (k + 1)
    rw [sumN_take hk] at h5
    omega
theorem addG_mem {p : List Int} {n : Int} {x : Grp} : ∀ {gs : List Grp}, x ∈ addG p n gs → x.1 = p ∨ ∃ g ∈ gs, g.1 = x.1
  | [], h => by simp [addG] at h; exact .inl (by rw [h])
  | g :: r, h => by
    rw [addG] at h
    split at h
    · rw [List.mem_cons] at h
      rcases h with rfl | h
      · exact .inr ⟨_, by simp, rfl⟩
      · rcases addG_mem h with h | ⟨y, hy, e⟩
        · exact .inl h
        · exact .inr ⟨y, by simp [hy], e⟩
    · split at h
      · rw [List.mem_cons] at h
        rcases h with rfl | h
        · exact .inr ⟨g, by simp, rfl⟩
        · exact .inr ⟨x, by simp [h], rfl⟩
      · rw [List.mem_cons] at h
        rcases h with rfl | h
        · exact .inl rfl
        · exact .inr ⟨x, h, rfl⟩
theorem SortG.addG {p : List Int} {n : Int} : ∀ {gs : List Grp}, SortG gs → SortG (addG p n gs)
  | [], _ => by simp [SortG, Go.Proofs.Yteeamiacplfcmaa.addG]
  | g :: r, h => by
    obtain ⟨h1, h2⟩ := List.pairwise_cons.1 h
    rw [Go.Proofs.Yteeamiacplfcmaa.addG]
    split
    · rename_i hl
      refine List.Pairwise.cons (fun x hx => ?_) (SortG.addG h2)
      rcases addG_mem hx with e | ⟨y, hy, e⟩
      · rw [e]; exact hl
      · rw [← e]; exact h1 y hy
    · split
      · exact List.Pairwise.cons h1 h2
      · rename_i hl he
        have hl2 : lexLt p g.1 = true := by
          cases k : lexLt p g.1 with
          | true => rfl
          | false => exact absurd (lexLt_conn (by simpa using hl) k) he
        refine List.Pairwise.cons (fun x hx => ?_) h
        rw [List.mem_cons] at hx
        rcases hx with rfl | hx
        · exact hl2
        · exact lexLt_trans hl2 (h1 x hx)
theorem BalG.addG {p : List Int} {n : Int} {gs : List Grp} (h : BalG gs) (hp : ballot 7 p = true) : BalG (addG p n gs) := fun x hx => by
  rcases addG_mem hx with e | ⟨y, hy, e⟩
  · rw [e]; exact hp
  · rw [← e]; exact h y hy
theorem SortG.joinG {a : List Grp} : ∀ {b : List Grp}, SortG a → SortG (joinG a b) := by
  intro b
  induction b generalizing a with
  | nil => exact fun h => h
  | cons g r ih => exact fun h => ih (a := Go.Proofs.Yteeamiacplfcmaa.addG g.1 g.2 a) h.addG
theorem BalG.joinG {a b : List Grp} (h : BalG a) (hb : BalG b) : BalG (joinG a b) := by
  induction b generalizing a with
  | nil => exact h
  | cons g r ih => exact ih (a := Go.Proofs.Yteeamiacplfcmaa.addG g.1 g.2 a) (h.addG (hb g (by simp))) fun x hx => hb x (by simp [hx])
theorem pile_joinG {a b : List Grp} (h : pileOk 7 a = true) (hb : pileOk 7 b = true) (hs : sumN a + sumN b ≤ 100000) : pileOk 7 (joinG a b) = true := by
  rw [pile_iff] at h hb ⊢
  exact ⟨h.1.joinG, h.2.1.joinG hb.2.1, h.2.2.1.joinG hb.2.2.1, by rw [sumN_joinG]; exact hs⟩
theorem pile_nil : pileOk 7 [] = true := by decide
/-- how many ballots are q -/
def cnt (q : List Int) (gs : List Grp) : Int := (gs.map fun g => if g.1 = q then g.2 else 0).sum
theorem cnt_nil (q : List Int) : cnt q [] = 0 := rfl
theorem cnt_cons (q : List Int) (g : Grp) (r : List Grp) : cnt q (g :: r) = (if g.1 = q then g.2 else 0) + cnt q r := by simp [cnt]
theorem cnt_append (q : List Int) (a b : List Grp) : cnt q (a ++ b) = cnt q a + cnt q b := by simp [cnt]
theorem cnt_perm {q : List Int} {a b : List Grp} (h : a.Perm b) : cnt q a = cnt q b := by
  induction h with
  | nil => rfl
  | cons x _ ih => rw [cnt_cons, cnt_cons, ih]
  | swap x y l => simp only [cnt_cons]; omega
  | trans _ _ h1 h2 => exact h1.trans h2
theorem cnt_addG (q p : List Int) (n : Int) : ∀ gs, cnt q (addG p n gs) = cnt q gs + if p = q then n else 0
  | [] => by rw [addG, cnt_cons, cnt_nil]; simp only []; omega
  | g :: r => by
    rw [addG]
    split
    · rw [cnt_cons, cnt_addG q p n r, cnt_cons]; omega
    · split
      · rename_i e
        rw [cnt_cons, cnt_cons, ← e]
        simp only []
        split <;> omega
      · rw [cnt_cons]; simp only []; omega
theorem cnt_joinG (q : List Int) (a b : List Grp) : cnt q (joinG a b) = cnt q a + cnt q b := by
  induction b generalizing a with
  | nil => rw [cnt_nil]; show cnt q a = _; omega
  | cons g r ih =>
    show cnt q (joinG (addG g.1 g.2 a) r) = _
    rw [ih, cnt_addG, cnt_cons]; omega
theorem cnt_zero {q : List Int} {gs : List Grp} (h : ∀ g ∈ gs, g.1 ≠ q) : cnt q gs = 0 := by
  induction gs with
  | nil => rfl
  | cons g r ih =>
    rw [cnt_cons, ih fun x hx => h x (by simp [hx]), if_neg (h g (by simp))]; rfl
theorem lexLt_ne' {a b : List Int} (h : lexLt a b = true) : a ≠ b := fun e => by
  rw [e, lexLt_irrefl] at h; cases h
/-- two piles with the same numbers are equal -/
theorem pile_ext : ∀ {a b : List Grp}, SortG a → SortG b → Pos a → Pos b → (∀ q, cnt q a = cnt q b) → a = b
  | [], [], _, _, _, _, _ => rfl
  | [], h :: s, _, hs, _, hp, hc => by
    have := hc h.1
    rw [cnt_nil, cnt_cons, if_pos rfl, cnt_zero fun x hx => (lexLt_ne' ((List.pairwise_cons.1 hs).1 x hx)).symm] at this
    have := hp h (by simp)
    omega
  | g :: r, [], hs, _, hp, _, hc => by
    have := hc g.1
    rw [cnt_nil, cnt_cons, if_pos rfl, cnt_zero fun x hx => (lexLt_ne' ((List.pairwise_cons.1 hs).1 x hx)).symm] at this
    have := hp g (by simp)
    omega
  | g :: r, h :: s, hs, hs', hp, hp', hc => by
    obtain ⟨h1, h2⟩ := List.pairwise_cons.1 hs
    obtain ⟨h3, h4⟩ := List.pairwise_cons.1 hs'
    have z1 : cnt g.1 r = 0 := cnt_zero fun x hx => (lexLt_ne' (h1 x hx)).symm
    have z2 : cnt h.1 s = 0 := cnt_zero fun x hx => (lexLt_ne' (h3 x hx)).symm
    have e1 : g.1 = h.1 := by
      refine lexLt_conn ?_ ?_
      · cases k : lexLt g.1 h.1 with
        | false => rfl
        | true =>
          have := hc g.1
          rw [cnt_cons, cnt_cons, if_pos rfl, z1, if_neg (lexLt_ne' k).symm, cnt_zero fun x hx => (lexLt_ne' (lexLt_trans k (h3 x hx))).symm] at this
          have := hp g (by simp)
          omega
      · cases k : lexLt h.1 g.1 with
        | false => rfl
        | true =>
          have := hc h.1
          rw [cnt_cons, cnt_cons, if_pos rfl, z2, if_neg (lexLt_ne' k).symm, cnt_zero fun x hx => (lexLt_ne' (lexLt_trans k (h1 x hx))).symm] at this
          have := hp' h (by simp)
          omega
    have e2 : g.2 = h.2 := by
      have := hc g.1
      rw [cnt_cons, cnt_cons, if_pos rfl, z1, if_pos e1.symm, e1, z2] at this
      omega
    have e3 : g = h := Prod.ext e1 e2
    subst e3
    rw [pile_ext h2 h4 (fun x hx => hp x (by simp [hx])) (fun x hx => hp' x (by simp [hx])) fun q => by
      have := hc q
      rw [cnt_cons, cnt_cons] at this
      omega]
/-- the pile of all ballots of the cells -/
def sumC (cs : List Cel) : List Grp := cs.foldl (fun acc c => joinG acc c.2) []
theorem sumC_snoc (cs : List Cel) (c : Cel) : sumC (cs ++ [c]) = joinG (sumC cs) c.2 := by simp [sumC]
theorem take_succC {cs : List Cel} {k : Nat} (hk : k < cs.length) : cs.take (k + 1) = cs.take k ++ [cs.getD k default] := by
  rw [List.take_add_one, List.getD_eq_getElem?_getD, List.getElem?_eq_getElem hk, Option.getD_some, Option.toList_some]
theorem sumC_take {cs : List Cel} (h : validC cs = true) : ∀ k, k ≤ cs.length → pileOk 7 (sumC (cs.take k)) = true ∧ sumN (sumC (cs.take k)) = totTo cs k
  | 0, _ => ⟨by rw [List.take_zero]; exact pile_nil, by simp [sumC, totTo, sumN]⟩
  | k + 1, hk => by
    obtain ⟨h1, h2⟩ := sumC_take h k (by omega)
    have h3 := validC_iff.1 h
    have h4 := (h3.1 k (by omega)).2.1
    have h5 := totTo_mono (i := k + 1) hk h3.1
    rw [totTo_succ (by omega)] at h5
    rw [take_succC (by omega), sumC_snoc, totTo_succ (by omega), sumN_joinG, h2]
    exact ⟨pile_joinG h1 h4 (by rw [h2]; omega), rfl⟩
end Go.Proofs.Yteeamiacplfcmaa
