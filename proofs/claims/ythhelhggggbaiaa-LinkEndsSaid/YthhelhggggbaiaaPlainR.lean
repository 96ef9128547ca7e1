/-
  What the receiver and the reference's receiver have accepted: plain.
-/
import Derived.Test.YthhelhggggbaiaaRefRecv
namespace Go.Proofs.Ythhelhggggbaiaa
open Go.RowKit
set_option linter.unusedVariables false
set_option linter.unusedSimpArgs false

/-- the two receivers have accepted alike -/
structure Alike (L : List Msg) (H : Nat → Option (List UInt8)) (W g : Nat) (last : Int) : Prop where
  same : ∀ n : Nat, H n = HL L n
  nonneg : ∀ j, j < L.length → 0 ≤ (L.getD j zeroM).num
  got : ∀ k, k < g → (H k).isSome = true
  next : H g = none
  supp : ∀ k, g + W ≤ k → H k = none
  none_ : last = -1 → ∀ j, j < L.length → (L.getD j zeroM).last = false
  some_ : last ≠ -1 → 0 ≤ last ∧ (∃ j, j < L.length ∧ (L.getD j zeroM).last = true ∧ (L.getD j zeroM).num = last) ∧ ∀ j, j < L.length → (L.getD j zeroM).num ≤ last ∧ ((L.getD j zeroM).last = true → (L.getD j zeroM).num = last)
theorem alike_start (W : Nat) : Alike [] HA W 0 (-1) := ⟨fun n => rfl, fun j hj => absurd hj (by simp), fun k hk => absurd hk (by omega), rfl, fun k hk => rfl, fun _ j hj => absurd hj (by simp), fun h => absurd rfl h⟩
theorem hasL_at {L : List Msg} {n : Int} {m : Msg} (h : hasL L n = some m) : ∃ j, j < L.length ∧ L.getD j zeroM = m ∧ m.num = n := by
  unfold hasL at h
  have h1 := List.mem_of_find?_eq_some h
  have h2 := List.find?_some h
  obtain ⟨j, hj, rfl⟩ := List.mem_iff_getElem.1 h1
  exact ⟨j, hj, by rw [List.getD_eq_getElem?_getD, List.getElem?_eq_getElem hj]; rfl, by simpa using h2⟩
theorem hasL_of {L : List Msg} {j : Nat} (hj : j < L.length) : (hasL L (L.getD j zeroM).num).isSome = true := by
  unfold hasL
  rw [List.find?_isSome]
  refine ⟨L.getD j zeroM, ?_, by simp⟩
  rw [List.getD_eq_getElem?_getD, List.getElem?_eq_getElem hj]
  exact List.getElem_mem hj
theorem Alike.has {L : List Msg} {H : Nat → Option (List UInt8)} {W g : Nat} {last : Int} (h : Alike L H W g last) {j : Nat} (hj : j < L.length) : (H (L.getD j zeroM).num.toNat).isSome = true := by
  rw [h.same, HL, Option.isSome_map, Int.toNat_of_nonneg (h.nonneg j hj)]
  exact hasL_of hj
theorem Alike.of {L : List Msg} {H : Nat → Option (List UInt8)} {W g : Nat} {last : Int} (h : Alike L H W g last) {k : Nat} (hk : (H k).isSome = true) : ∃ j, j < L.length ∧ (L.getD j zeroM).num = (k : Int) := by
  rw [h.same, HL, Option.isSome_map] at hk
  obtain ⟨m, hm⟩ := Option.isSome_iff_exists.1 hk
  obtain ⟨j, hj, rfl, hn⟩ := hasL_at hm
  exact ⟨j, hj, hn⟩
theorem Alike.hasIs {L : List Msg} {H : Nat → Option (List UInt8)} {W g : Nat} {last : Int} (h : Alike L H W g last) (k : Nat) : (hasL L (k : Int)).isSome = (H k).isSome := by rw [h.same, HL, Option.isSome_map]
theorem Alike.numBd {L : List Msg} {H : Nat → Option (List UInt8)} {W g : Nat} {last : Int} (h : Alike L H W g last) {j : Nat} (hj : j < L.length) : (L.getD j zeroM).num < (g : Int) + (W : Int) := by
  have h1 := h.has hj
  have h2 := h.nonneg j hj
  rcases Nat.lt_or_ge (L.getD j zeroM).num.toNat (g + W) with hlt | hge
  · omega
  · rw [h.supp _ hge] at h1; cases h1
theorem Alike.lastLo {L : List Msg} {H : Nat → Option (List UInt8)} {W g : Nat} {last : Int} (h : Alike L H W g last) : -1 ≤ last := by
  by_cases e : last = -1
  · omega
  · have := (h.some_ e).1; omega
theorem Alike.lastHi {L : List Msg} {H : Nat → Option (List UInt8)} {W g : Nat} {last : Int} (h : Alike L H W g last) : last < (g : Int) + (W : Int) := by
  by_cases e : last = -1
  · omega
  · obtain ⟨_, ⟨j, hj, _, hn⟩, _⟩ := h.some_ e
    have := h.numBd hj
    omega
/-- both refuse the same messages -/
theorem Alike.ign {L : List Msg} {H : Nat → Option (List UInt8)} {W g : Nat} {last : Int} (h : Alike L H W g last) (hg : g + W ≤ 1000000) (ack lst : Bool) (num : Int) (dlen : Nat) :
    Ign W g (earlyOf H g) last ack num lst dlen ↔ RefIgn L W g ack num lst dlen := by
  unfold Ign RefIgn IgnA IgnB
  constructor
  · rintro ((h1 | h1 | h1 | h1 | ⟨h1, h2⟩) | ⟨h1, h2 | ⟨k, hk, hlt, hs⟩⟩)
    · exact .inl (.inl h1)
    · exact .inl (.inr (.inl h1))
    · exact .inl (.inr (.inr (.inl h1)))
    · exact .inl (.inr (.inr (.inr h1)))
    · obtain ⟨_, ⟨j, hj, hl, hn⟩, _⟩ := h.some_ (by omega)
      exact .inr ⟨j, hj, .inl ⟨hl, by omega⟩⟩
    · by_cases hnum : num < 0
      · exact .inl (.inr (.inl hnum))
      · obtain ⟨j, hj, hn⟩ := h.of (h.got (g - 1) (by omega))
        exact .inr ⟨j, hj, .inr ⟨h1, by omega⟩⟩
    · unfold earlyOf at hs
      split at hs
      · obtain ⟨j, hj, hn⟩ := h.of hs
        exact .inr ⟨j, hj, .inr ⟨h1, by omega⟩⟩
      · cases hs
  · rintro ((h1 | h1 | h1 | h1) | ⟨j, hj, ⟨hl, hn⟩ | ⟨h1, hn⟩⟩)
    · exact .inl (.inl h1)
    · exact .inl (.inr (.inl h1))
    · exact .inl (.inr (.inr (.inl h1)))
    · exact .inl (.inr (.inr (.inr (.inl h1))))
    · by_cases e : last = -1
      · rw [h.none_ e j hj] at hl; cases hl
      · obtain ⟨h0, _, h2⟩ := h.some_ e
        have := (h2 j hj).2 hl
        exact .inl (.inr (.inr (.inr (.inr ⟨h0, by omega⟩))))
    · by_cases hlt : (L.getD j zeroM).num < (g : Int)
      · exact .inr ⟨h1, .inl (by omega)⟩
      · have h2 := h.has hj
        have h3 := h.nonneg j hj
        have h4 := h.numBd hj
        refine .inr ⟨h1, .inr ⟨(L.getD j zeroM).num, ⟨by omega, by omega⟩, hn, ?_⟩⟩
        unfold earlyOf
        rw [if_pos (by omega)]
        exact h2
theorem exists_next (H : Nat → Option (List UInt8)) (B : Nat) (hB : H B = none) : ∃ g, (∀ k, k < g → (H k).isSome = true) ∧ H g = none ∧ g ≤ B := by
  have key : ∀ n, (∀ k, k < n → (H k).isSome = true) ∨ ∃ g, (∀ k, k < g → (H k).isSome = true) ∧ H g = none ∧ g < n := by
    intro n
    induction n with
    | zero => exact .inl fun k hk => absurd hk (by omega)
    | succ n ih =>
      rcases ih with ih | ⟨g, h1, h2, h3⟩
      · rcases hn : H n with _ | x
        · exact .inr ⟨n, ih, hn, by omega⟩
        · exact .inl fun k hk => by
            rcases Nat.lt_or_ge k n with h | h
            · exact ih k h
            · obtain rfl : k = n := by omega
              rw [hn]; rfl
      · exact .inr ⟨g, h1, h2, by omega⟩
  rcases key (B + 1) with h | ⟨g, h1, h2, h3⟩
  · have := h B (by omega)
    rw [hB] at this; cases this
  · exact ⟨g, h1, h2, by omega⟩
/-- both accept alike -/
theorem Alike.step {L : List Msg} {H : Nat → Option (List UInt8)} {W g : Nat} {last : Int} (h : Alike L H W g last) (m : Nat) (lst : Bool) (data : List UInt8) (hni : ¬ RefIgn L W g false (m : Int) lst data.length) :
    ∃ g', Alike (recvL L (m : Int) lst data) (recvH H m data) W g' (recvLast H m lst last) ∧ g ≤ g' ∧ g' ≤ g + W := by
  have hsup : recvH H m data (g + W) = none := by
    unfold recvH
    split
    · exact h.supp _ (by omega)
    · unfold putH
      rw [if_neg]
      · exact h.supp _ (by omega)
      · intro e
        exact hni (.inl (.inr (.inr (.inl (by omega)))))
  obtain ⟨g', h1, h2, h3⟩ := exists_next _ _ hsup
  have hmg : ∀ k, (H k).isSome = true → (recvH H m data k).isSome = true := fun k hk => by
    unfold recvH
    split
    · exact hk
    · unfold putH
      split
      · rfl
      · exact hk
  have hgg : g ≤ g' := by
    rcases Nat.lt_or_ge g' g with hlt | hge
    · have := hmg g' (h.got g' hlt)
      rw [h2] at this; cases this
    · exact hge
  refine ⟨g', ?_, hgg, h3⟩
  have hwin : (m : Int) < (g : Int) + (W : Int) := by
    rcases Int.lt_or_le (m : Int) ((g : Int) + (W : Int)) with hlt | hge
    · exact hlt
    · exact absurd (.inl (.inr (.inr (.inl hge)))) hni
  by_cases hkn : (H m).isSome = true
  · have e1 : recvL L (m : Int) lst data = L := by rw [recvL, if_pos (by rw [h.hasIs]; exact hkn)]
    have e2 : recvH H m data = H := by rw [recvH, if_pos hkn]
    have e3 : recvLast H m lst last = last := by rw [recvLast, if_pos hkn]
    rw [e2] at h1 h2
    rw [e1, e2, e3]
    exact ⟨h.same, h.nonneg, h1, h2, fun k hk => h.supp k (by omega), h.none_, h.some_⟩
  · have e1 : recvL L (m : Int) lst data = L ++ [⟨false, m, lst, data⟩] := by rw [recvL, if_neg (by rw [h.hasIs]; exact hkn)]
    have e2 : recvH H m data = putH H m data := by rw [recvH, if_neg hkn]
    have e3 : recvLast H m lst last = if lst then (m : Int) else last := by rw [recvLast, if_neg hkn]
    rw [e2] at h1 h2
    rw [e1, e2, e3]
    have hget : ∀ j, j < L.length → (L ++ [(⟨false, m, lst, data⟩ : Msg)]).getD j zeroM = L.getD j zeroM := fun j hj => by simp [List.getD_eq_getElem?_getD, List.getElem?_append, hj]
    have hnew : (L ++ [(⟨false, m, lst, data⟩ : Msg)]).getD L.length zeroM = ⟨false, m, lst, data⟩ := by simp [List.getD_eq_getElem?_getD]
    have hcase : ∀ j, j < (L ++ [(⟨false, m, lst, data⟩ : Msg)]).length → j < L.length ∨ j = L.length := fun j hj => by simp at hj; omega
    refine ⟨fun n => ?_, fun j hj => ?_, h1, h2, fun k hk => ?_, fun hl j hj => ?_, fun hl => ?_⟩
    · unfold HL putH hasL
      rw [List.find?_append]
      by_cases hnm : n = m
      · subst hnm
        rw [if_pos rfl]
        have hno : L.find? (fun x => decide (x.num = (n : Int))) = none := by
          rcases hq : L.find? (fun x => decide (x.num = (n : Int))) with _ | x
          · exact hq
          · have : (hasL L (n : Int)).isSome = true := by unfold hasL; rw [hq]; rfl
            rw [h.hasIs] at this
            exact absurd this hkn
        rw [hno]
        simp
      · rw [if_neg hnm, h.same, HL, hasL]
        rcases hq : L.find? (fun x => decide (x.num = (n : Int))) with _ | x
        · have : ¬ (m : Int) = (n : Int) := by omega
          rw [hq]
          simp [this]
        · rw [hq]
          simp
    · rcases hcase j hj with hj | rfl
      · rw [hget j hj]; exact h.nonneg j hj
      · rw [hnew]; show (0 : Int) ≤ (m : Int); omega
    · unfold putH
      rw [if_neg (by omega)]
      exact h.supp k (by omega)
    · cases lst
      · rcases hcase j hj with hj | rfl
        · rw [hget j hj]; exact h.none_ hl j hj
        · rw [hnew]
      · simp at hl
    · cases lst
      · obtain ⟨h0, ⟨j, hj, hjl, hjn⟩, h3⟩ := h.some_ (by simpa using hl)
        refine ⟨h0, ⟨j, by simp; omega, by rw [hget j hj]; exact hjl, by rw [hget j hj]; exact hjn⟩, fun i hi => ?_⟩
        rcases hcase i hi with hi | rfl
        · rw [hget i hi]; exact h3 i hi
        · rw [hnew]
          refine ⟨?_, fun e => by cases e⟩
          show (m : Int) ≤ last
          rcases Int.lt_or_le last (m : Int) with hlt | hge
          · exact absurd (.inr ⟨j, hj, .inl ⟨hjl, by omega⟩⟩) hni
          · exact hge
      · refine ⟨by simp, ⟨L.length, by simp, by rw [hnew], by rw [hnew]; rfl⟩, fun i hi => ?_⟩
        rcases hcase i hi with hi | rfl
        · rw [hget i hi]
          have hnb : ¬ Bars (L.getD i zeroM) (m : Int) true := fun hb => hni (.inr ⟨i, hi, hb⟩)
          unfold Bars at hnb
          have hle : (L.getD i zeroM).num ≤ (m : Int) := by
            rcases Int.lt_or_le (m : Int) (L.getD i zeroM).num with hlt | hge
            · exact absurd (.inr ⟨rfl, hlt⟩) hnb
            · exact hge
          refine ⟨hle, fun e => ?_⟩
          show (L.getD i zeroM).num = (m : Int)
          rcases Int.lt_or_le (L.getD i zeroM).num (m : Int) with hlt | hge
          · exact absurd (.inl ⟨e, hlt⟩) hnb
          · omega
        · rw [hnew]
          exact ⟨Int.le_refl _, fun _ => rfl⟩
/-- both are complete at the same time -/
theorem Alike.comp {L : List Msg} {H : Nat → Option (List UInt8)} {W g : Nat} {last : Int} (h : Alike L H W g last) : compB L g = (decide (0 ≤ last) && decide (last < (g : Int))) := by
  by_cases e : last = -1
  · rw [compB, findLast_none (h.none_ e), e]; rfl
  · obtain ⟨h0, ⟨j, hj, hjl, hjn⟩, h3⟩ := h.some_ e
    rcases hf : L.find? (fun m => m.last) with _ | x
    · rw [List.find?_eq_none] at hf
      have hm : L.getD j zeroM ∈ L := by
        rw [List.getD_eq_getElem?_getD, List.getElem?_eq_getElem hj]
        exact List.getElem_mem hj
      exact absurd hjl (hf _ hm)
    · have hx1 := List.find?_some hf
      obtain ⟨i, hi, hxi⟩ := List.mem_iff_getElem.1 (List.mem_of_find?_eq_some hf)
      have hxi' : L.getD i zeroM = x := by rw [List.getD_eq_getElem?_getD, List.getElem?_eq_getElem hi]; exact hxi
      have hxn : x.num = last := by rw [← hxi']; exact (h3 i hi).2 (by rw [hxi']; exact hx1)
      rw [compB, hf]
      simp only [hxn]
      have hgl : (g : Int) ≤ last + 1 := by
        rcases Nat.eq_zero_or_pos g with h0' | hp
        · omega
        · obtain ⟨k, hk, hkn⟩ := h.of (h.got (g - 1) (by omega))
          have := (h3 k hk).1
          omega
      rw [Bool.eq_iff_iff, decide_eq_true_eq, Bool.and_eq_true, decide_eq_true_eq, decide_eq_true_eq]
      omega
end Go.Proofs.Ythhelhggggbaiaa
