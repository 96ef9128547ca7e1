/-
  What the calls leave on the disk: plain.
-/
import Derived.Test.YtlelkhonkhlflaaDoorAppend
namespace Go.Proofs.YtlelkhonkhlflaaDoor
open Go.RowKit
set_option linter.unusedVariables false
set_option linter.unusedSimpArgs false

theorem getD_set_ne {ss : List (List UInt8)} {i j : Nat} {x : List UInt8} (h : j ≠ i) : (ss.set i x).getD j [] = ss.getD j [] := by
  rw [List.getD_eq_getElem?_getD, List.getElem?_set_ne (fun e => h e.symm), ← List.getD_eq_getElem?_getD]
theorem getD_set_eq {ss : List (List UInt8)} {i : Nat} {x : List UInt8} (h : i < ss.length) : (ss.set i x).getD i [] = x := by
  rw [List.getD_eq_getElem?_getD, List.getElem?_set_self h]
  rfl
theorem putS_far {ss : List (List UInt8)} {i k : Nat} {r : List UInt8} : ∀ m, (k < i ∨ i + m ≤ k) → (putS ss i r m).getD k [] = ss.getD k []
  | 0, _ => rfl
  | m + 1, h => by rw [putS, getD_set_ne (by omega), putS_far m (by omega)]
theorem putS_at {ss : List (List UInt8)} {i : Nat} {r : List UInt8} {M k : Nat} (hl : i + M ≤ ss.length) : k < M → (putS ss i r M).getD (i + k) [] = padS ((r.drop (64 * k)).take 64) := by
  induction M with
  | zero => intro h; omega
  | succ M ih =>
    intro h
    rw [putS]
    by_cases e : k = M
    · subst e
      exact getD_set_eq (by rw [putS_length]; omega)
    · rw [getD_set_ne (by omega)]
      exact ih (by omega) (by omega)
theorem recL_same {ss tt : List (List UInt8)} {i : Nat} : ∀ m, (∀ k, i ≤ k → k < i + m → tt.getD k [] = ss.getD k []) → recL tt i m = recL ss i m
  | 0, _ => rfl
  | m + 1, h => by rw [recL, recL, recL_same m (fun k h1 h2 => h k h1 (by omega)), h (i + m) (by omega) (by omega)]
theorem recL_put {ss : List (List UInt8)} {i : Nat} {r : List UInt8} {M : Nat} (hl : i + M ≤ ss.length) : ∀ m, m ≤ M → recL (putS ss i r M) i m = r.take (64 * m) ++ List.replicate (64 * m - r.length) 0
  | 0, _ => by simp [recL]
  | m + 1, hm => by
    rw [recL, recL_put hl m (by omega), putS_at hl (by omega)]
    by_cases h : 64 * (m + 1) ≤ r.length
    · have h1 : ((r.drop (64 * m)).take 64).length = 64 := by rw [List.length_take, List.length_drop]; omega
      rw [padS, h1, show 64 * m - r.length = 0 by omega, show 64 * (m + 1) - r.length = 0 by omega, show 64 * (m + 1) = 64 * m + 64 by omega, List.take_add]
      simp
    · by_cases h2 : 64 * m ≤ r.length
      · have h1 : (r.drop (64 * m)).take 64 = r.drop (64 * m) := List.take_of_length_le (by rw [List.length_drop]; omega)
        rw [padS, h1, List.length_drop, show 64 * m - r.length = 0 by omega, List.replicate_zero, List.append_nil, List.take_of_length_le (i := 64 * (m + 1)) (by omega), ← List.append_assoc, List.take_append_drop]
        congr 2
        omega
      · rw [List.drop_of_length_le (by omega), List.take_of_length_le (i := 64 * (m + 1)) (by omega), List.take_of_length_le (i := 64 * m) (by omega), List.take_nil, padS, List.nil_append, List.length_nil, List.append_assoc, List.replicate_append_replicate]
        congr 2
        omega
theorem recL_pre {ss : List (List UInt8)} {i m : Nat} : ∀ n, ∃ t, recL ss i (m + n) = recL ss i m ++ t
  | 0 => ⟨[], by rw [Nat.add_zero, List.append_nil]⟩
  | n + 1 => by
    obtain ⟨t, h⟩ := recL_pre (ss := ss) (i := i) (m := m) n
    exact ⟨t ++ ss.getD (i + (m + n)) [], by rw [show m + (n + 1) = m + n + 1 by omega, recL, h, List.append_assoc]⟩
theorem lastAt_app {C : List Nat} {d0 : List UInt8} {es : List (List UInt8)} {b : List UInt8} : ∀ k, k ≤ es.length → lastAt C d0 (es ++ [b]) k = lastAt C d0 es k
  | 0, _ => rfl
  | k + 1, h => by
    rw [lastAt, lastAt, lastAt_app k (by omega)]
    congr 1
    rw [List.getD_eq_getElem?_getD, List.getElem?_append_left (by omega), ← List.getD_eq_getElem?_getD]
theorem getD_app {es : List (List UInt8)} {b : List UInt8} : (es ++ [b]).getD es.length [] = b := by
  rw [List.getD_eq_getElem?_getD, List.getElem?_append_right (Nat.le_refl _), Nat.sub_self]
  rfl
theorem recIs_of {C : List Nat} {last bs : List UInt8} {R t : List UInt8} (hR : R = recB C last bs ++ t) (h1 : 1 ≤ bs.length) (h2 : bs.length ≤ 200) : RecIs C last R (some (linkF C last bs, bs)) := by
  have hl := linkF_length C last bs
  subst hR
  unfold recB
  obtain ⟨d, hd⟩ : ∃ d, d = linkF C last bs := ⟨_, rfl⟩
  rw [← hd] at hl ⊢
  refine ⟨hd, by omega, h2, ?_, ?_, ?_⟩
  · rw [List.append_assoc, List.append_assoc, List.getD_eq_getElem?_getD, List.getElem?_append_right (by omega), hl]
    show (UInt8.ofNat bs.length).toNat = bs.length
    rw [UInt8.toNat_ofNat', Nat.mod_eq_of_lt (show bs.length < 2 ^ 8 by omega)]
  · rw [List.append_assoc, List.append_assoc, List.take_append_of_le_length (by omega), List.take_of_length_le (by omega)]
  · rw [List.append_assoc, List.append_assoc, show 33 = d.length + 1 by omega, List.drop_append, List.drop_of_length_le (by omega), Nat.add_sub_cancel_left]
    simp
/-- an entry is on the disk -/
theorem OnDisk.push {C : List Nat} {ss es : List (List UInt8)} {bs : List UInt8} {M : Nat} (h : OnDisk C ss es) (hk : es.length < capJ ss.length) (h1 : 1 ≤ bs.length) (h2 : bs.length ≤ 200)
    (hM : (recB C (lastAt C (shaF C (ss.getD 0 [])) es es.length) bs).length ≤ 64 * M) (hM4 : M ≤ 4) :
    OnDisk C (putS ss (4 + 4 * es.length) (recB C (lastAt C (shaF C (ss.getD 0 [])) es es.length) bs) M) (es ++ [bs]) := by
  have hcap : 4 + 4 * es.length + 4 ≤ ss.length := by unfold capJ at hk; omega
  generalize hr : recB C (lastAt C (shaF C (ss.getD 0 [])) es es.length) bs = r at hM
  have h0 : (putS ss (4 + 4 * es.length) r M).getD 0 [] = ss.getD 0 [] := putS_far M (.inl (by omega))
  refine ⟨by rw [h0]; exact h.mark, by rw [putS_length]; exact h.least, by rw [putS_length, List.length_append]; exact hk, fun k hlt => ?_, fun i hi hl => ?_⟩
  · rw [h0]
    rw [List.length_append, List.length_singleton] at hlt
    by_cases e : k = es.length
    · subst e
      rw [getD_app, lastAt_app es.length (Nat.le_refl _), lastAt, lastAt_app es.length (Nat.le_refl _), getD_app]
      obtain ⟨t, ht⟩ := recL_pre (ss := putS ss (4 + 4 * es.length) r M) (i := 4 + 4 * es.length) (m := M) (4 - M)
      rw [show M + (4 - M) = 4 by omega, recL_put (by omega) M (Nat.le_refl _), List.take_of_length_le (by omega), List.append_assoc] at ht
      exact recIs_of (t := List.replicate (64 * M - r.length) 0 ++ t) (by rw [hr]; exact ht) h1 h2
    · rw [lastAt_app k (by omega), lastAt_app (k + 1) (by omega), List.getD_eq_getElem?_getD (l := es ++ [bs]), List.getElem?_append_left (by omega), ← List.getD_eq_getElem?_getD, recL_same 4 (fun i h3 h4 => putS_far M (.inl (by omega)))]
      exact h.recs k (by omega)
  · rw [putS_length] at hl
    rw [List.length_append, List.length_singleton] at hi
    rw [putS_far M (.inr (by omega))]
    exact h.rest i (by omega) hl
theorem lastAt_push {C : List Nat} {d0 : List UInt8} {es : List (List UInt8)} {b : List UInt8} : lastAt C d0 (es ++ [b]) (es ++ [b]).length = linkF C (lastAt C d0 es es.length) b := by
  rw [List.length_append, List.length_singleton, lastAt, lastAt_app es.length (Nat.le_refl _), getD_app]
/-- a disk that was formatted -/
theorem OnDisk.fresh {C : List Nat} {n : Nat} (h8 : 8 ≤ n) : OnDisk C (((List.replicate n zeroS).set 0 (padS (headB C (List.replicate n zeroS)))).set 4 (padS [])) [] := by
  generalize hb : headB C (List.replicate n zeroS) = hd
  have hhd : ∃ d, hd = markB ++ d := ⟨_, hb.symm⟩
  obtain ⟨d, hd2⟩ := hhd
  have hln : (List.replicate n zeroS).length = n := List.length_replicate ..
  have h0 : (((List.replicate n zeroS).set 0 (padS hd)).set 4 (padS [])).getD 0 [] = padS hd := by
    rw [getD_set_ne (by omega), getD_set_eq (by omega)]
  refine ⟨by rw [h0, hd2, padS, List.append_assoc]; rfl, by rw [List.length_set, List.length_set, hln]; exact h8, Nat.zero_le _, fun k hk => absurd hk (by simp), fun i hi hl => ?_⟩
  rw [List.length_set, List.length_set, hln] at hl
  have hi4 : 4 ≤ i := by simpa using hi
  by_cases e : i = 4
  · subst e
    rw [getD_set_eq (by rw [List.length_set, hln]; omega)]
    rfl
  · rw [getD_set_ne e, getD_set_ne (by omega), List.getD_eq_getElem?_getD, List.getElem?_replicate, if_pos hl]
    rfl
theorem OnDisk.entry {C : List Nat} {ss es : List (List UInt8)} (h : OnDisk C ss es) {k : Nat} (hk : k < es.length) : 0 < (es.getD k []).length ∧ (es.getD k []).length ≤ 200 := by
  obtain ⟨_, h1, h2, _⟩ := h.recs k hk
  exact ⟨h1, h2⟩
end Go.Proofs.YtlelkhonkhlflaaDoor
