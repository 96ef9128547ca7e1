/-
  pile.isBallot, slices.Compare.
-/
import Derived.Test.YteeamiacplfcmaaLess
namespace Go.Proofs.Yteeamiacplfcmaa
open Go.RowKit
set_option linter.unusedVariables false
set_option linter.unusedSimpArgs false

theorem isnan_any (x : Int) (w : World) : Calls Try.prog 79 #[.int .i64 x] w fun e w' => e = .returned (.bool false) ∧ w' = w := by
  have t : (x != x) = false := by simp
  go_enter Try.func79, Try.ntmps79
  go_wp2_with fail
  go_ret
  exact ⟨by simp, rfl⟩
def cmpI (x y : Int) : Int := if x < y then -1 else if y < x then 1 else 0
theorem cmp_any (x y : Int) (w : World) : Calls Try.prog 72 #[.int .i64 x, .int .i64 y] w fun e w' => e = .returned (.int .i64 (cmpI x y)) ∧ w' = w := by
  have H := hide (fun z => isnan_any z w)
  unfold cmpI
  go_enter Try.func72, Try.ntmps72
  go_wp2_with fail
  refine (H.out _).mono ?_
  rintro e w1 ⟨rfl, rfl⟩
  go_wp2_with fail
  refine (H.out _).mono ?_
  rintro e w1 ⟨rfl, rfl⟩
  by_cases h1 : x < y
  · go_wp2_with fail
    go_ret
    exact ⟨by simp [h1], rfl⟩
  · by_cases h2 : y < x
    · go_wp2_with fail
      go_ret
      exact ⟨by simp [h1, h2], rfl⟩
    · go_wp2_with fail
      go_ret
      exact ⟨by simp [h1, h2], rfl⟩
set_option maxHeartbeats 1000000 in
theorem compare_any {A B : Option Addr} {c d : Nat} {l m : List Int} {w : World} (h : Ints w A l) (h' : Ints w B m) (hm : l.length ≤ 10000000) (hm' : m.length ≤ 10000000) (hi : ∀ y ∈ l, InI y) (hi' : ∀ y ∈ m, InI y) :
    Calls Try.prog 56 #[.slice A l.length c, .slice B m.length d] w fun e w' => e = .returned (.int .i64 (cmpL l m)) ∧ w' = w := by
  have H := hide h
  have H' := hide h'
  have HI := hide hi
  have HI' := hide hi'
  clear h hi h' hi'
  go_enter Try.func56, Try.ntmps56
  go_wp2_with fail
  go_loopw [11] (fun i wr => ∃ k : Nat, k ≤ l.length ∧ k ≤ m.length ∧ i = .int .i64 k ∧ wr = w ∧ Hid (∀ i, i < k → l.getD i 0 = m.getD i 0)) (fun i wr => l.length - (iOf i).toNat)
  case atStart => exact ⟨0, Nat.zero_le _, Nat.zero_le _, rfl, rfl, by intro i hi; omega⟩
  case round =>
    obtain ⟨k, hk, hk', rfl, rfl, HX⟩ := hrel
    by_cases hlt : k < l.length
    · obtain ⟨b, off, rfl, hb, hc⟩ := H.out.at_ hlt
      have hy := HI.out _ (getD_mem hlt)
      by_cases hlt' : k < m.length
      · obtain ⟨b', off', rfl, hb', hc'⟩ := H'.out.at_ hlt'
        have hy' := HI'.out _ (getD_mem hlt')
        have HR := hide (fun hn => lexLt_ne hlt hlt' HX.out hn)
        have HR' := hide (fun hn => lexLt_ne hlt' hlt (fun i hi => (HX.out i hi).symm) hn)
        have HN : Hid (l.getD k 0 = m.getD k 0 → ∀ i, i < k + 1 → l.getD i 0 = m.getD i 0) := fun e i hi => by
          by_cases e1 : i = k
          · rw [e1]; exact e
          · exact HX.out i (by omega)
        generalize l.getD k 0 = y at *
        generalize m.getD k 0 = z at *
        unfold InI at hy hy'
        go_wp2_with fail
        refine (cmp_any y z _).mono ?_
        rintro e w1 ⟨rfl, rfl⟩
        by_cases e : y = z
        · have ec : cmpI y z = 0 := by unfold cmpI; rw [e]; simp
          have HN := hide (HN.out e)
          have txy : (cmpI y z != 0) = false := by rw [ec]; rfl
          clear e
          go_wp2_with fail
          go_roundw
          case rel => exact ⟨k + 1, by omega, by omega, by go_num, trivial, HN.out⟩
          case measure => simp [iOf]; omega
        · have hr : cmpL l m = cmpI y z := by
            unfold cmpL cmpI
            rw [HR.out e, HR'.out (fun x => e x.symm)]
            simp
          have HR := hide hr
          have txy : (cmpI y z != 0) = true := by
            rw [bne_iff_ne]; unfold cmpI
            split
            · omega
            · split <;> omega
          clear e hr
          go_wp2_with fail
          go_ret
          exact ⟨by rw [HR.out]; rfl, rfl⟩
      · have hr : cmpL l m = 1 := by
          unfold cmpL
          rw [lexLt_end hk hk' HX.out (by omega), lexLt_end hk' hk (fun i hi => (HX.out i hi).symm) (by omega), decide_eq_false (by omega), decide_eq_true (by omega)]
          rfl
        have HR := hide hr
        clear hr
        go_wp2_with fail
        go_ret
        exact ⟨by rw [HR.out]; rfl, rfl⟩
    · have hr : cmpL l m = if l.length < m.length then -1 else 0 := by
        unfold cmpL
        rw [lexLt_end hk hk' HX.out (by omega), lexLt_end hk' hk (fun i hi => (HX.out i hi).symm) (by omega), decide_eq_false (show ¬ m.length < l.length by omega)]
        simp
      have HR := hide hr
      clear hr
      by_cases e : l.length < m.length
      · have HR2 : Hid (cmpL l m = -1) := by rw [Hid, HR.out, if_pos e]
        have q : (l.length : Int) < (m.length : Int) := by omega
        clear e
        go_wp2_with fail
        go_ret
        exact ⟨by rw [HR2.out]; rfl, rfl⟩
      · have HR2 : Hid (cmpL l m = 0) := by rw [Hid, HR.out, if_neg e]
        have q : ¬ (l.length : Int) < (m.length : Int) := by omega
        clear e
        go_wp2_with fail
        go_ret
        exact ⟨by rw [HR2.out]; rfl, rfl⟩
/-- which of the first n numbers are among l -/
def flags (n : Nat) (l : List Int) : Array Value := ((List.range n).map fun (i : Nat) => Value.bool (decide ((i : Int) ∈ l))).toArray
theorem flags_get {n : Nat} {l : List Int} {i : Nat} (hi : i < n) : (flags n l)[i]? = some (.bool (decide ((i : Int) ∈ l))) := by
  simp [flags, hi]
theorem flags_set {n : Nat} {l : List Int} {i : Nat} (hi : i < n) : (flags n l).setIfInBounds i (.bool true) = flags n (l ++ [(i : Int)]) := by
  apply Array.toList_inj.1
  apply List.ext_getElem?
  intro j
  simp only [flags, Array.toList_setIfInBounds, List.getElem?_set, List.length_map, List.length_range, List.getElem?_map]
  by_cases e : i = j
  · subst e
    simp [hi]
  · rw [if_neg e]
    by_cases hj : j < n
    · simp only [List.getElem?_range hj, Option.map_some, List.mem_append, List.mem_singleton]
      exact congrArg (fun b => some (Value.bool b)) (decide_eq_decide.2 ⟨Or.inl, fun h => h.resolve_right (by omega)⟩)
    · simp [List.getElem?_eq_none, hj]
theorem take_snoc {l : List Int} {k : Nat} (hk : k < l.length) : l.take k ++ [l.getD k 0] = l.take (k + 1) := by
  rw [List.take_add_one, List.getElem?_eq_getElem hk, List.getD_eq_getElem?_getD, List.getElem?_eq_getElem hk]
  rfl
set_option maxHeartbeats 1000000 in
theorem isballot_any {A : Option Addr} {c : Nat} {l : List Int} {n : Int} {w : World} (h : Ints w A l) (hm : l.length ≤ 10000000) (hi : ∀ y ∈ l, InI y) (hx : InI n) (hn7 : n ≤ 7) :
    Calls Try.prog 55 #[.int .i64 n, .slice A l.length c] w fun e w' => e = .returned (.bool (ballot n l)) ∧ Below w.heap.size w w' := by
  have H := hide h
  have HI := hide hi
  clear h hi
  go_enter Try.func55, Try.ntmps55
  go_wp2_with fail
  go_loopw [7, 10] (fun _ i wr => ∃ k : Nat, k ≤ l.length ∧ i = .int .i64 k ∧ Hid (Below w.heap.size w wr) ∧ Hid (Box wr w.heap.size 90 (flags 7 (l.take k))) ∧ Hid (∀ i, i < k → 0 ≤ l.getD i 0 ∧ l.getD i 0 < n ∧ l.getD i 0 ∉ l.take i)) (fun _ i wr => l.length - (iOf i).toNat)
  case atStart => exact ⟨0, Nat.zero_le _, rfl, (Below.refl _ _).alloc (Nat.le_refl _) _, Box.new _ _ _, by intro i hi; omega⟩
  case round =>
    obtain ⟨k, hk, rfl, HB, HG, HX⟩ := hrel
    by_cases hlt : k < l.length
    · obtain ⟨b, off, rfl, hb, hc⟩ := (H.out.below HB.out).at_ hlt
      have hy := HI.out _ (getD_mem hlt)
      have HN := hide (fun g => ballot_no (n := n) hlt g)
      have HT := hide (take_snoc hlt)
      have HK : Hid (0 ≤ l.getD k 0 ∧ l.getD k 0 < n ∧ l.getD k 0 ∉ l.take k → ∀ i, i < k + 1 → 0 ≤ l.getD i 0 ∧ l.getD i 0 < n ∧ l.getD i 0 ∉ l.take i) := fun e i hi => by
        by_cases e1 : i = k
        · rw [e1]; exact e
        · exact HX.out i (by omega)
      generalize l.getD k 0 = y at *
      unfold InI at hy
      by_cases e : y < 0
      · have HN := hide (HN.out (.inl e))
        go_wp2_with fail
        go_ret
        exact ⟨by rw [HN.out]; rfl, HB.out⟩
      · by_cases e2 : n ≤ y
        · have HN := hide (HN.out (.inr (.inl e2)))
          go_wp2_with fail
          go_ret
          exact ⟨by rw [HN.out]; rfl, HB.out⟩
        · obtain ⟨q, rfl⟩ : ∃ q : Nat, y = q := ⟨y.toNat, by omega⟩
          have hq7 : q < 7 := by omega
          have hcf := (HG.out.cell q).trans (flags_get hq7)
          have hfz := HG.out.frozen q
          by_cases hq : (q : Int) ∈ l.take k
          · have HN := hide (HN.out (.inr (.inr hq)))
            rw [decide_eq_true hq] at hcf
            clear hq
            go_wp2_with fail
            go_ret
            exact ⟨by rw [HN.out]; rfl, HB.out⟩
          · have HK := hide (HK.out ⟨by omega, by omega, hq⟩)
            rw [decide_eq_false hq] at hcf
            have HG2 := HG.out.set q (.bool true)
            rw [flags_set hq7, HT.out] at HG2
            have HG2 := hide HG2
            have HB2 := hide (HB.out.setCell (p := ⟨w.heap.size, q, none⟩) (Nat.le_refl _) (.bool true))
            clear hq
            go_wp2_with fail
            go_roundw
            case rel => exact ⟨k + 1, by omega, by go_num, HB2.out, HG2.out, HK.out⟩
            case measure => simp [iOf]; omega
    · have HR : Hid (ballot n l = true) := decide_eq_true fun i hi => HX.out i (by omega)
      go_wp2_with fail
      go_ret
      exact ⟨by rw [HR.out]; rfl, HB.out⟩
end Go.Proofs.Yteeamiacplfcmaa
