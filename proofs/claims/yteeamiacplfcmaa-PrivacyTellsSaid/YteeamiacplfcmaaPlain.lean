/-
  Plain: lists of numbers in order, ballots, piles.
-/
import Derived.Test.YteeamiacplfcmaaOps
namespace Go.Proofs.Yteeamiacplfcmaa
open Go.RowKit
set_option linter.unusedVariables false
set_option linter.unusedSimpArgs false

def lexLt : List Int → List Int → Bool
  | [], [] => false
  | [], _ :: _ => true
  | _ :: _, [] => false
  | a :: ar, b :: bs => if a = b then lexLt ar bs else decide (a < b)
theorem lexLt_drop (a b : List Int) : ∀ k, k ≤ a.length → k ≤ b.length → (∀ i, i < k → a.getD i 0 = b.getD i 0) → lexLt a b = lexLt (a.drop k) (b.drop k)
  | 0, _, _, _ => rfl
  | k + 1, ha, hb, h => by
    rw [lexLt_drop a b k (by omega) (by omega) fun i hi => h i (by omega)]
    have h1 := h k (by omega)
    rw [List.getD_eq_getElem?_getD, List.getD_eq_getElem?_getD, List.getElem?_eq_getElem (by omega), List.getElem?_eq_getElem (by omega), Option.getD_some, Option.getD_some] at h1
    rw [List.drop_eq_getElem_cons (i := k) (l := a) (by omega), List.drop_eq_getElem_cons (i := k) (l := b) (by omega), lexLt, if_pos h1]
theorem lexLt_ne {a b : List Int} {k : Nat} (ha : k < a.length) (hb : k < b.length) (h : ∀ i, i < k → a.getD i 0 = b.getD i 0) (hn : a.getD k 0 ≠ b.getD k 0) : lexLt a b = decide (a.getD k 0 < b.getD k 0) := by
  rw [lexLt_drop a b k (by omega) (by omega) h]
  rw [List.getD_eq_getElem?_getD, List.getD_eq_getElem?_getD, List.getElem?_eq_getElem (by omega), List.getElem?_eq_getElem (by omega), Option.getD_some, Option.getD_some] at hn ⊢
  rw [List.drop_eq_getElem_cons (i := k) (l := a) (by omega), List.drop_eq_getElem_cons (i := k) (l := b) (by omega), lexLt, if_neg hn]
theorem lexLt_end {a b : List Int} {k : Nat} (ha : k ≤ a.length) (hb : k ≤ b.length) (h : ∀ i, i < k → a.getD i 0 = b.getD i 0) (hk : ¬ (k < a.length ∧ k < b.length)) : lexLt a b = decide (a.length < b.length) := by
  rw [lexLt_drop a b k ha hb h]
  by_cases h1 : k = a.length
  · rw [show a.drop k = [] from List.drop_eq_nil_of_le (by omega)]
    by_cases h2 : k = b.length
    · rw [show b.drop k = [] from List.drop_eq_nil_of_le (by omega), lexLt]
      exact (decide_eq_false (by omega)).symm
    · rw [List.drop_eq_getElem_cons (i := k) (l := b) (by omega), lexLt]
      exact (decide_eq_true (by omega)).symm
  · rw [show b.drop k = [] from List.drop_eq_nil_of_le (by omega), List.drop_eq_getElem_cons (i := k) (l := a) (by omega), lexLt]
    exact (decide_eq_false (by omega)).symm
theorem lexLt_irrefl : ∀ a, lexLt a a = false
  | [] => rfl
  | a :: ar => by rw [lexLt, if_pos rfl, lexLt_irrefl ar]
theorem lexLt_trans : ∀ {a b c : List Int}, lexLt a b = true → lexLt b c = true → lexLt a c = true
  | [], [], _, h, _ => by simp [lexLt] at h
  | [], _ :: _, [], _, h => by simp [lexLt] at h
  | [], _ :: _, _ :: _, _, _ => rfl
  | _ :: _, [], _, h, _ => by simp [lexLt] at h
  | _ :: _, _ :: _, [], _, h => by simp [lexLt] at h
  | a :: ar, b :: bs, c :: cs, h, k => by
    rw [lexLt] at h k ⊢
    by_cases e1 : a = b
    · subst e1
      by_cases e2 : a = c
      · subst e2
        simp only [if_true] at h k ⊢
        exact lexLt_trans h k
      · rw [if_neg e2] at k ⊢; exact k
    · rw [if_neg e1] at h
      by_cases e2 : b = c
      · subst e2
        rw [if_neg e1]; exact h
      · rw [if_neg e2] at k
        have h' := of_decide_eq_true h
        have k' := of_decide_eq_true k
        rw [if_neg (by omega)]
        exact decide_eq_true (by omega)
theorem lexLt_asymm {a b : List Int} (h : lexLt a b = true) : lexLt b a = false := by
  cases k : lexLt b a with
  | false => rfl
  | true => rw [← lexLt_irrefl a, lexLt_trans h k]
theorem lexLt_conn : ∀ {a b : List Int}, lexLt a b = false → lexLt b a = false → a = b
  | [], [], _, _ => rfl
  | [], _ :: _, h, _ => by simp [lexLt] at h
  | _ :: _, [], _, h => by simp [lexLt] at h
  | a :: ar, b :: bs, h, k => by
    rw [lexLt] at h k
    by_cases e : a = b
    · subst e
      simp only [if_true] at h k
      rw [lexLt_conn h k]
    · rw [if_neg e] at h
      rw [if_neg (fun x => e x.symm)] at k
      have := of_decide_eq_false h
      have := of_decide_eq_false k
      omega
theorem lexEq (a b : List Int) : (!lexLt a b && !lexLt b a) = decide (a = b) := by
  by_cases e : a = b
  · subst e; rw [lexLt_irrefl]; simp
  · rw [decide_eq_false e]
    cases h : lexLt a b with
    | true => rfl
    | false =>
      cases k : lexLt b a with
      | true => rfl
      | false => exact absurd (lexLt_conn h k) e
/-- the comparison of two lists: -1, 0, 1 -/
def cmpL (a b : List Int) : Int := if lexLt a b = true then -1 else if lexLt b a = true then 1 else 0
theorem cmpL_ge (a b : List Int) : decide (0 ≤ cmpL a b) = !lexLt a b := by
  unfold cmpL
  cases h : lexLt a b with
  | true => simp
  | false =>
    simp only [Bool.false_eq_true, if_false, Bool.not_false]
    split <;> exact decide_eq_true (by omega)
theorem cmpL_lt (a b : List Int) : decide (cmpL a b < 0) = lexLt a b := by
  unfold cmpL
  cases h : lexLt a b with
  | true => simp
  | false =>
    simp only [Bool.false_eq_true, if_false]
    split <;> exact decide_eq_false (by omega)

/-- l is a ballot for n candidates -/
def ballot (n : Int) (l : List Int) : Bool := decide (∀ i, i < l.length → 0 ≤ l.getD i 0 ∧ l.getD i 0 < n ∧ l.getD i 0 ∉ l.take i)
theorem ballot_no {n : Int} {l : List Int} {i : Nat} (hi : i < l.length) (h : l.getD i 0 < 0 ∨ n ≤ l.getD i 0 ∨ l.getD i 0 ∈ l.take i) : ballot n l = false :=
  decide_eq_false fun g => by
    have := g i hi
    rcases h with h | h | h
    · omega
    · omega
    · exact this.2.2 h
def sumN (gs : List Grp) : Int := (gs.map (·.2)).sum
theorem sumN_nil : sumN [] = 0 := rfl
theorem sumN_append (a b : List Grp) : sumN (a ++ b) = sumN a + sumN b := by simp [sumN]
theorem sumN_take {gs : List Grp} {k : Nat} (hk : k < gs.length) : sumN (gs.take (k + 1)) = sumN (gs.take k) + (gs.getD k default).2 := by
  rw [List.take_add_one, sumN_append, List.getElem?_eq_getElem hk, List.getD_eq_getElem?_getD, List.getElem?_eq_getElem hk]
  simp [sumN]
/-- group k of a pile is in order -/
def GrpOk (n : Int) (gs : List Grp) (k : Nat) : Prop :=
  ballot n (gs.getD k default).1 = true ∧ 1 ≤ (gs.getD k default).2 ∧ (gs.getD k default).2 ≤ 100000 - sumN (gs.take k) ∧ (0 < k → lexLt (gs.getD (k - 1) default).1 (gs.getD k default).1 = true)
instance (n : Int) (gs : List Grp) (k : Nat) : Decidable (GrpOk n gs k) := by unfold GrpOk; infer_instance
/-- gs is a pile for n candidates -/
def pileOk (n : Int) (gs : List Grp) : Bool := decide (∀ k, k < gs.length → GrpOk n gs k)
theorem pileOk_no {n : Int} {gs : List Grp} {k : Nat} (hk : k < gs.length) (h : ¬ GrpOk n gs k) : pileOk n gs = false := decide_eq_false fun g => h (g k hk)
theorem pileOk_yes {n : Int} {gs : List Grp} (h : ∀ k, k < gs.length → GrpOk n gs k) : pileOk n gs = true := decide_eq_true h
theorem pileOk_iff {n : Int} {gs : List Grp} : pileOk n gs = true ↔ ∀ k, k < gs.length → GrpOk n gs k := by unfold pileOk; simp
theorem sum_bounds {n : Int} {gs : List Grp} {k : Nat} (hk : k ≤ gs.length) (h : ∀ j, j < k → GrpOk n gs j) : (k : Int) ≤ sumN (gs.take k) ∧ sumN (gs.take k) ≤ 100000 := by
  induction k with
  | zero => simp [sumN]
  | succ k ih =>
    have h1 := ih (by omega) fun j hj => h j (by omega)
    have h2 := h k (by omega)
    rw [sumN_take (by omega)]
    unfold GrpOk at h2
    omega
theorem pile_len {n : Int} {gs : List Grp} (h : pileOk n gs = true) : gs.length ≤ 100000 ∧ (gs.length : Int) ≤ sumN gs ∧ 0 ≤ sumN gs ∧ sumN gs ≤ 100000 := by
  have := sum_bounds (Nat.le_refl _) (pileOk_iff.1 h)
  rw [List.take_length] at this
  omega
end Go.Proofs.Yteeamiacplfcmaa
