/-
  Plain: a safe cell between safe cells stays.
-/
import Derived.Test.YteeamiacplfcmaaPlainS
namespace Go.Proofs.Yteeamiacplfcmaa
open Go.RowKit
set_option linter.unusedVariables false
set_option linter.unusedSimpArgs false

def LastS (least : Int) (L : List Cel) : Prop := 0 < L.length → safeC least (L.getD (L.length - 1) default) = true
def HeadS (least : Int) (R : List Cel) : Prop := 0 < R.length → safeC least (R.getD 0 default) = true
theorem stepM_last {least : Int} {L : List Cel} {k : Nat} (hk : k + 1 < L.length) (h : LastS least L) (hu : safeC least (L.getD (k + 1) default) = true → safeC least (uniteC (L.getD k default) (L.getD (k + 1) default)) = true) : LastS least (stepM k L) := fun _ => by
  have hs := h (by omega)
  rw [stepM_length hk]
  unfold stepM
  by_cases e : k + 2 = L.length
  · rw [List.drop_eq_nil_of_le (by omega), List.getD_eq_getElem?_getD, List.getElem?_append_right (by simp; omega)]
    have e2 : L.length - 1 - 1 - (L.take k).length = 0 := by simp; omega
    rw [e2]
    rw [show L.length - 1 = k + 1 by omega] at hs
    exact hu hs
  · rw [List.getD_eq_getElem?_getD, List.getElem?_append_right (by simp; omega)]
    have e2 : L.length - 1 - 1 - (L.take k).length = (L.length - 1 - 1 - k - 1) + 1 := by simp; omega
    rw [e2, List.getElem?_cons_succ, List.getElem?_drop, show k + 2 + (L.length - 1 - 1 - k - 1) = L.length - 1 by omega, ← List.getD_eq_getElem?_getD]
    exact hs
theorem stepM_head {least : Int} {R : List Cel} {r : Nat} (hr : r + 1 < R.length) (h : HeadS least R) (hu : safeC least (R.getD r default) = true → safeC least (uniteC (R.getD r default) (R.getD (r + 1) default)) = true) : HeadS least (stepM r R) := fun _ => by
  have hs := h (by omega)
  unfold stepM
  by_cases e : r = 0
  · subst e
    exact hu hs
  · rw [List.getD_eq_getElem?_getD, List.getElem?_append_left (by simp; omega), List.getElem?_take_of_lt (by omega), ← List.getD_eq_getElem?_getD]
    exact hs
theorem mergeC_stays {least : Int} {cs : List Cel} (hv : validC cs = true) {i : Nat} (hi : i < cs.length) (hs : safeC least (cs.getD i default) = true) (hl : 0 < i → safeC least (cs.getD (i - 1) default) = true) (hr : i + 1 < cs.length → safeC least (cs.getD (i + 1) default) = true) :
    ∃ k, k < (mergeC least cs).length ∧ (mergeC least cs).getD k default = cs.getD i default := by
  generalize hc : cs.getD i default = c at hs ⊢
  obtain ⟨_, ⟨L, R, e, _, _⟩, _⟩ := mergeC_inv (least := least) (P := fun l => ∃ L R, l = L ++ c :: R ∧ LastS least L ∧ HeadS least R) (fun l hlv hp h1 h2 => by
    obtain ⟨L, R, rfl, hL, hR⟩ := hp
    have hbad := firstBad_bad h2
    have hlen : (L ++ c :: R).length = L.length + 1 + R.length := by simp; omega
    rw [hlen] at h1 h2 ⊢
    generalize firstBad least (L ++ c :: R) = k at hbad h1 h2 ⊢
    have hne : k ≠ L.length := fun e => by
      rw [e, getD_mid, hs] at hbad
      cases hbad
    rcases Nat.lt_or_ge k L.length with h3 | h3
    · rw [getD_left h3] at hbad
      have h4 : k + 1 < L.length := by
        rcases Nat.lt_or_ge (k + 1) L.length with h | h
        · exact h
        · have := hL (by omega)
          rw [show L.length - 1 = k by omega, hbad] at this
          cases this
      have hm : min k (L.length + 1 + R.length - 2) = k := by omega
      rw [hm, stepM_left h4]
      have hpo := pair_ok hlv (k := k) (by rw [hlen]; omega)
      rw [getD_left (by omega), getD_left h4] at hpo
      exact ⟨_, R, rfl, stepM_last h4 hL (fun h => safe_unite hpo.1 hpo.2.1 hpo.2.2.1 hpo.2.2.2 (.inr h)), hR⟩
    · obtain ⟨r, rfl⟩ : ∃ r, k = L.length + 1 + r := ⟨k - (L.length + 1), by omega⟩
      rw [getD_right] at hbad
      have h4 : r ≠ 0 := fun e => by
        rw [e] at hbad
        have := hR (by omega)
        rw [hbad] at this
        cases this
      obtain ⟨m, hm, hm1⟩ : ∃ m, min (L.length + 1 + r) (L.length + 1 + R.length - 2) = L.length + 1 + m ∧ m + 1 < R.length := by
        rcases Nat.lt_or_ge (r + 1) R.length with h | h
        · exact ⟨r, by omega, h⟩
        · exact ⟨R.length - 2, by omega, by omega⟩
      rw [hm, stepM_right]
      have hpo := pair_ok hlv (k := L.length + 1 + m) (by rw [hlen]; omega)
      rw [getD_right, show L.length + 1 + m + 1 = L.length + 1 + (m + 1) by omega, getD_right] at hpo
      exact ⟨L, _, rfl, hL, stepM_head hm1 hR (fun h => safe_unite hpo.1 hpo.2.1 hpo.2.2.1 hpo.2.2.2 (.inl h))⟩) hv
    ⟨cs.take i, cs.drop (i + 1), by rw [← hc, ← drop_consC hi, List.take_append_drop], fun h => by
      have e : (cs.take i).length = i := by rw [List.length_take]; omega
      rw [e] at h ⊢
      rw [List.getD_eq_getElem?_getD, List.getElem?_take_of_lt (by omega), ← List.getD_eq_getElem?_getD]
      exact hl h, fun h => by
      rw [List.length_drop] at h
      rw [List.getD_eq_getElem?_getD, List.getElem?_drop, ← List.getD_eq_getElem?_getD]
      exact hr (by omega)⟩
  refine ⟨L.length, by rw [e]; simp, ?_⟩
  rw [e, getD_mid]
end Go.Proofs.Yteeamiacplfcmaa
