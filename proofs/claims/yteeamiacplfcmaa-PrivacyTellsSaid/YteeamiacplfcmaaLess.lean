/-
  electionref24.Has, Less, Eq, Ballot.
-/
import Derived.Test.YteeamiacplfcmaaPlain
namespace Go.Proofs.Yteeamiacplfcmaa
open Go.RowKit
set_option linter.unusedVariables false
set_option linter.unusedSimpArgs false

def iOf : Value → Int
  | .int _ z => z
  | _ => 0
theorem contains_take {l : List Int} {k : Nat} (hk : k < l.length) {x : Int} (h : x ∉ l.take k) (hn : l.getD k 0 ≠ x) : x ∉ l.take (k + 1) := by
  rw [List.take_add_one, List.getElem?_eq_getElem hk]
  rw [List.getD_eq_getElem?_getD, List.getElem?_eq_getElem hk, Option.getD_some] at hn
  simp only [Option.toList_some, List.mem_append, List.mem_singleton]
  rintro (h1 | h1)
  · exact h h1
  · exact hn h1.symm
theorem getD_mem {l : List Int} {k : Nat} (hk : k < l.length) : l.getD k 0 ∈ l := by
  rw [List.getD_eq_getElem?_getD, List.getElem?_eq_getElem hk, Option.getD_some]
  exact List.getElem_mem _
set_option maxHeartbeats 1000000 in
theorem has_any {A : Option Addr} {c : Nat} {l : List Int} {x : Int} {w : World} (h : Ints w A l) (hm : l.length ≤ 10000000) (hi : ∀ y ∈ l, InI y) (hx : InI x) :
    Calls Try.prog 35 #[.slice A l.length c, .int .i64 x] w fun e w' => e = .returned (.bool (decide (x ∈ l))) ∧ w' = w := by
  have H := hide h
  have HI := hide hi
  clear h hi
  go_enter Try.func35, Try.ntmps35
  go_wp2_with fail
  go_loopw [5] (fun i wr => ∃ k : Nat, k ≤ l.length ∧ i = .int .i64 k ∧ wr = w ∧ Hid (x ∉ l.take k)) (fun i wr => l.length - (iOf i).toNat)
  case atStart => exact ⟨0, Nat.zero_le _, rfl, rfl, by simp [Hid]⟩
  case round =>
    obtain ⟨k, hk, rfl, rfl, HX⟩ := hrel
    by_cases hlt : k < l.length
    · obtain ⟨b, off, rfl, hb, hc⟩ := H.out.at_ hlt
      have hy := HI.out _ (getD_mem hlt)
      have HC := contains_take hlt HX.out
      have HM := getD_mem hlt
      generalize l.getD k 0 = y at *
      have HM := hide HM
      have HC := hide HC
      by_cases e : y = x
      · subst e
        go_wp2_with fail
        go_ret
        have := HM.out
        exact ⟨by simp [this], rfl⟩
      · go_wp2_with fail
        go_roundw
        case rel => exact ⟨k + 1, by omega, by go_num, trivial, HC.out e⟩
        case measure => simp [iOf]; omega
    · obtain rfl : k = l.length := by omega
      have hx := HX.out
      rw [List.take_length] at hx
      have HX := hide hx
      clear hx
      go_wp2_with fail
      go_ret
      have := HX.out
      exact ⟨by simp [this], rfl⟩
set_option maxHeartbeats 1000000 in
theorem less_any {A B : Option Addr} {c d : Nat} {l m : List Int} {w : World} (h : Ints w A l) (h' : Ints w B m) (hm : l.length ≤ 10000000) (hm' : m.length ≤ 10000000) (hi : ∀ y ∈ l, InI y) (hi' : ∀ y ∈ m, InI y) :
    Calls Try.prog 29 #[.slice A l.length c, .slice B m.length d] w fun e w' => e = .returned (.bool (lexLt l m)) ∧ Drew w w' := by
  have H := hide h
  have H' := hide h'
  have HI := hide hi
  have HI' := hide hi'
  clear h hi h' hi'
  go_enter Try.func29, Try.ntmps29
  go_wp2_with fail
  go_loopw [5] (fun i wr => ∃ k : Nat, k ≤ l.length ∧ k ≤ m.length ∧ i = .int .i64 k ∧ Hid (Drew w wr) ∧ Hid (∀ i, i < k → l.getD i 0 = m.getD i 0)) (fun i wr => l.length - (iOf i).toNat)
  case atStart => exact ⟨0, Nat.zero_le _, Nat.zero_le _, rfl, Drew.refl _, by intro i hi; omega⟩
  case round =>
    obtain ⟨k, hk, hk', rfl, HB, HX⟩ := hrel
    by_cases hlt : k < l.length ∧ k < m.length
    · obtain ⟨hlt, hlt'⟩ := hlt
      obtain ⟨b, off, rfl, hb, hc⟩ := (H.out.drew HB.out).at_ hlt
      obtain ⟨b', off', rfl, hb', hc'⟩ := (H'.out.drew HB.out).at_ hlt'
      have hy := HI.out _ (getD_mem hlt)
      have hy' := HI'.out _ (getD_mem hlt')
      have HR := hide (fun hn => lexLt_ne hlt hlt' HX.out hn)
      have HN : Hid (l.getD k 0 = m.getD k 0 → ∀ i, i < k + 1 → l.getD i 0 = m.getD i 0) := fun e i hi => by
        by_cases e1 : i = k
        · rw [e1]; exact e
        · exact HX.out i (by omega)
      generalize l.getD k 0 = y at *
      generalize m.getD k 0 = z at *
      unfold InI at hy hy'
      have q0 : (k : Int) < (l.length : Int) := by omega
      have q1 : (k : Int) < (m.length : Int) := by omega
      by_cases e : y = z
      · have txy : (y != z) = false := by rw [bne_eq_false_iff_eq]; exact e
        have HN := hide (HN.out e)
        clear e
        go_upto_region 4 with fail
        go_quiet (fail)
        go_wp2_with fail
        go_roundw
        case rel => exact ⟨k + 1, by omega, by omega, by go_num, HB.out.drew _, HN.out⟩
        case measure => simp [iOf]; omega
      · have txy : (y != z) = true := by rw [bne_iff_ne]; exact e
        have HR := hide (HR.out e)
        clear e
        go_upto_region 4 with fail
        go_quiet (fail)
        go_upto_region 5 with fail
        go_quiet (fail)
        go_wp2_with fail
        go_ret
        exact ⟨by rw [HR.out]; rfl, (HB.out.drew _).drew _⟩
    · have HR := hide (lexLt_end hk hk' HX.out hlt)
      by_cases e : k < l.length
      · have q1 : ¬ ((k : Int) < (m.length : Int)) := by omega
        clear hlt
        go_wp2_with fail
        go_ret
        exact ⟨by rw [HR.out]; rfl, HB.out⟩
      · clear hlt
        go_wp2_with fail
        go_ret
        exact ⟨by rw [HR.out]; rfl, HB.out⟩
set_option maxHeartbeats 1000000 in
theorem eq_any {A B : Option Addr} {c d : Nat} {l m : List Int} {w : World} (h : Ints w A l) (h' : Ints w B m) (hm : l.length ≤ 10000000) (hm' : m.length ≤ 10000000) (hi : ∀ y ∈ l, InI y) (hi' : ∀ y ∈ m, InI y) :
    Calls Try.prog 11 #[.slice A l.length c, .slice B m.length d] w fun e w' => e = .returned (.bool (decide (l = m))) ∧ Drew w w' := by
  have H := hide h
  have H' := hide h'
  have HI := hide hi
  have HI' := hide hi'
  have HE := hide (lexEq l m)
  have HC := hide (less_any (c := c) (d := d) h h' hm hm' hi hi')
  clear h hi h' hi'
  go_enter Try.func11, Try.ntmps11
  go_wp2_with fail
  refine HC.out.mono ?_
  rintro e w1 ⟨rfl, hb⟩
  have HB := hide hb
  clear hb
  have HC2 := hide (less_any (c := d) (d := c) (H'.out.drew HB.out) (H.out.drew HB.out) hm' hm HI'.out HI.out)
  cases hq : lexLt l m with
  | true =>
    have HE2 : Hid (decide (l = m) = false) := by rw [Hid, ← HE.out, hq]; rfl
    clear hq
    go_wp2_with fail
    go_ret
    exact ⟨by rw [HE2.out]; rfl, HB.out⟩
  | false =>
    have HE2 : Hid (decide (l = m) = !lexLt m l) := by rw [Hid, ← HE.out, hq]; rfl
    clear hq
    go_wp2_with fail
    refine HC2.out.mono ?_
    rintro e w2 ⟨rfl, hb⟩
    have HB2 := hide (HB.out.trans hb)
    clear hb
    go_wp2_with fail
    go_ret
    exact ⟨by rw [HE2.out]; rfl, HB2.out⟩
set_option maxHeartbeats 1000000 in
theorem rballot_any {A : Option Addr} {c : Nat} {l : List Int} {n : Int} {w : World} (h : Ints w A l) (hm : l.length ≤ 10000000) (hc0 : l.length ≤ c) (hi : ∀ y ∈ l, InI y) (hx : InI n) :
    Calls Try.prog 50 #[.int .i64 n, .slice A l.length c] w fun e w' => e = .returned (.bool (ballot n l)) ∧ Drew w w' := by
  have H := hide h
  have HI := hide hi
  clear h hi
  go_enter Try.func50, Try.ntmps50
  go_wp2_with fail
  go_loopw [5] (fun i wr => ∃ k : Nat, k ≤ l.length ∧ i = .int .i64 k ∧ Hid (Drew w wr) ∧ Hid (∀ i, i < k → 0 ≤ l.getD i 0 ∧ l.getD i 0 < n ∧ l.getD i 0 ∉ l.take i)) (fun i wr => l.length - (iOf i).toNat)
  case atStart => exact ⟨0, Nat.zero_le _, rfl, Drew.refl _, by intro i hi; omega⟩
  case round =>
    obtain ⟨k, hk, rfl, HB, HX⟩ := hrel
    by_cases hlt : k < l.length
    · obtain ⟨b, off, rfl, hb, hc⟩ := (H.out.drew HB.out).at_ hlt
      have hy := HI.out _ (getD_mem hlt)
      have HN := hide (fun g => ballot_no (n := n) hlt g)
      have HK : Hid (0 ≤ l.getD k 0 ∧ l.getD k 0 < n ∧ l.getD k 0 ∉ l.take k → ∀ i, i < k + 1 → 0 ≤ l.getD i 0 ∧ l.getD i 0 < n ∧ l.getD i 0 ∉ l.take i) := fun e i hi => by
        by_cases e1 : i = k
        · rw [e1]; exact e
        · exact HX.out i (by omega)
      have htl : (l.take k).length = k := by rw [List.length_take]; omega
      have HT := fun wq (hq : Drew wr wq) => (has_any (A := some ⟨b, off, none⟩) (c := c) (x := l.getD k 0) (w := wq) (((H.out.drew HB.out).drew hq).take k) (by omega) (fun y hy => HI.out y (List.mem_of_mem_take hy)) hy).mono fun e w' h => (⟨h.1, h.2 ▸ Drew.refl _⟩ : _ ∧ Drew wq w')
      rw [htl] at HT
      have HT := hide HT
      generalize l.getD k 0 = y at *
      unfold InI at hy
      have q0 : (k : Int) < (l.length : Int) := by omega
      by_cases e : y < 0
      · have HN := hide (HN.out (.inl e))
        go_upto_region 4 with fail
        go_quiet (fail)
        go_wp2_with fail
        go_ret
        exact ⟨by rw [HN.out]; rfl, HB.out.drew _⟩
      · by_cases e2 : n ≤ y
        · have HN := hide (HN.out (.inr (.inl e2)))
          go_upto_region 4 with fail
          go_quiet (fail)
          go_wp2_with fail
          go_ret
          exact ⟨by rw [HN.out]; rfl, HB.out.drew _⟩
        · by_cases hq : y ∈ l.take k
          · have HN := hide (HN.out (.inr (.inr hq)))
            have HT := HT.out
            rw [decide_eq_true hq] at HT
            have HT2 := hide HT
            clear HT
            clear hq
            go_upto_region 4 with fail
            go_quiet ((go_at_call 35; exact quiet HT2.out))
            go_wp2_with fail
            go_ret
            exact ⟨by rw [HN.out]; rfl, HB.out.drew _⟩
          · have HK := hide (HK.out ⟨by omega, by omega, hq⟩)
            have HT := HT.out
            rw [decide_eq_false hq] at HT
            have HT2 := hide HT
            clear HT
            clear hq
            go_upto_region 4 with fail
            go_quiet ((go_at_call 35; exact quiet HT2.out))
            go_wp2_with fail
            go_roundw
            case rel => exact ⟨k + 1, by omega, by go_num, HB.out.drew _, HK.out⟩
            case measure => simp [iOf]; omega
    · have HR : Hid (ballot n l = true) := decide_eq_true fun i hi => HX.out i (by omega)
      go_wp2_with fail
      go_ret
      exact ⟨by rw [HR.out]; rfl, HB.out⟩
end Go.Proofs.Yteeamiacplfcmaa
