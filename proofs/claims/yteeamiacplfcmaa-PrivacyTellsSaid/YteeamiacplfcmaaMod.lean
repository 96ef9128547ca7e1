/-
  electionmake.Mod, Ballot.
-/
import Derived.Test.YteeamiacplfcmaaRMerge
import Derived.Deep.RegionHeldLaw
import Derived.Shelf.Spec.SlicesGrow
namespace Go.Proofs.Yteeamiacplfcmaa
open Go.RowKit
set_option linter.unusedVariables false
set_option linter.unusedSimpArgs false

set_option maxHeartbeats 1000000 in
theorem mod_any (x n : Int) (hn : 1 ≤ n) (hn2 : n ≤ 5000) (hx : InI x) (w : World) :
    Calls Try.prog 7 #[.int .i64 x, .int .i64 n] w fun e w' => ∃ r : Int, e = .returned (.int .i64 r) ∧ (0 ≤ r ∧ r < n) ∧ w' = w := by
  have h0 : ¬ n = 0 := by omega
  have h1 : ((n : Int) == 0) = false := by rw [beq_eq_false_iff_ne]; omega
  have r1 := Int.tmod_lt_of_pos x (show 0 < n by omega)
  have r2 : -n < x.tmod n := by
    have := Int.lt_tmod_of_pos x (show 0 < n by omega)
    omega
  have r3 := Int.tmod_lt_of_pos (x.tmod n + n) (show 0 < n by omega)
  have r4 := Int.tmod_nonneg n (show 0 ≤ x.tmod n + n by omega)
  have h2 : IntKind.i64.wrap (x.tmod n) = x.tmod n := IntWalk.i64_in _ (by omega)
  have h3 : IntKind.i64.wrap (x.tmod n + n) = x.tmod n + n := IntWalk.i64_in _ (by omega)
  have h4 : IntKind.i64.wrap ((x.tmod n + n).tmod n) = (x.tmod n + n).tmod n := IntWalk.i64_in _ (by omega)
  generalize hr : (x.tmod n + n).tmod n = r at *
  generalize hq : x.tmod n = q at *
  go_enter Try.func7, Try.ntmps7
  go_wp2_with fail
  go_ret
  exact ⟨r, rfl, ⟨r4, r3⟩, rfl⟩
theorem ballot_nil (n : Int) : ballot n [] = true := decide_eq_true fun i hi => absurd hi (by simp)
theorem ballot_snoc {n : Int} {l : List Int} {x : Int} (h : ballot n l = true) (hx : 0 ≤ x ∧ x < n) (hm : x ∉ l) : ballot n (l ++ [x]) = true := by
  have h := of_decide_eq_true h
  refine decide_eq_true fun i hi => ?_
  rw [List.length_append, List.length_singleton] at hi
  by_cases e : i < l.length
  · have e1 : (l ++ [x]).getD i 0 = l.getD i 0 := by simp [List.getD_eq_getElem?_getD, List.getElem?_append_left e]
    rw [e1, List.take_append_of_le_length (by omega)]
    exact h i e
  · obtain rfl : i = l.length := by omega
    have e1 : (l ++ [x]).getD l.length 0 = x := by simp [List.getD_eq_getElem?_getD]
    rw [e1, List.take_append_of_le_length (Nat.le_refl _), List.take_length]
    exact ⟨hx.1, hx.2, hm⟩
theorem ballot_in {n : Int} {l : List Int} (h : ballot n l = true) : ∀ y ∈ l, 0 ≤ y ∧ y < n := fun y hy => by
  have h := of_decide_eq_true h
  obtain ⟨k, hk, rfl⟩ := List.getElem_of_mem hy
  have := h k hk
  rw [List.getD_eq_getElem?_getD, List.getElem?_eq_getElem hk, Option.getD_some] at this
  exact ⟨this.1, this.2.1⟩
set_option maxHeartbeats 4000000 in
set_option maxRecDepth 100000 in
theorem mballot_any {A : Option Addr} {c : Nat} {l : List Int} {n : Int} {w : World} (h : Ints w A l) (hm : l.length ≤ 1000000) (hi : ∀ y ∈ l, InI y) (hn : 1 ≤ n) (hn2 : n ≤ 7) :
    Calls Try.prog 51 #[.int .i64 n, .slice A l.length c] w fun e w' => ∃ (v : Value) (p : List Int), e = .returned v ∧ OwnI w.heap.size w' v p ∧ ballot n p = true ∧ p.length ≤ l.length ∧ Below w.heap.size w w' := by
  have H := hide h
  have HI := hide hi
  clear h hi
  go_enter Try.func51, Try.ntmps51
  go_wp2_with fail
  go_loopw [5, 6, 7] (fun o i _ wr => ∃ k : Nat, k ≤ l.length ∧ i = .int .i64 k ∧ ∃ (v : Value) (p : List Int), o = v ∧ Hid (OwnI w.heap.size wr v p) ∧ Hid (ballot n p = true) ∧ p.length ≤ k ∧ Hid (Below w.heap.size w wr)) (fun _ i _ wr => l.length - (iOf i).toNat)
  case atStart => exact ⟨0, Nat.zero_le _, rfl, _, [], rfl, OwnI.nil _ _, ballot_nil n, by simp, Below.refl _ _⟩
  case round =>
    obtain ⟨k, hk, rfl, v, p, rfl, HO, HP, hpl, HB⟩ := hrel
    obtain ⟨Ap, cp, rfl, hcp, _⟩ := HO.out.form
    by_cases hlt : k < l.length
    · by_cases e1 : (p.length : Int) < n
      · obtain ⟨b, o, rfl, hb, hx⟩ := Ints.at_ H.out hlt
        have hx := (HB.out.cell (p := ⟨b, o + k, none⟩) hb).trans hx
        have HM := hide (mod_any (l.getD k 0) n hn (by omega) (HI.out _ (getD_memI hlt)) wr)
        have HPi : Hid (∀ y ∈ p, InI y) := fun y hy => by
          have := ballot_in HP.out y hy
          unfold InI
          omega
        have HH := hide (fun x (hx : InI x) => has_any (c := cp) (x := x) HO.out.ints (by omega) HPi.out hx)
        have HPu := hide (fun y => push_int HO.out HB.out.size (by omega) 31 y)
        generalize l.getD k 0 = z at *
        go_wp2_with fail
        refine HM.out.mono ?_
        rintro e w1 ⟨r, rfl, hr, rfl⟩
        have HHr := hide (HH.out r (by unfold InI; omega))
        by_cases e2 : r ∈ p
        · have t1 : decide (r ∈ p) = true := decide_eq_true e2
          clear e2
          rw [t1] at HHr
          go_wp2_with fail
          refine HHr.out.mono ?_
          rintro e w2 ⟨rfl, rfl⟩
          go_wp2_with fail
          go_roundw
          case rel => exact ⟨k + 1, by omega, by go_num, _, p, rfl, HO.out, HP.out, by omega, HB.out⟩
          case measure => simp [iOf]; omega
        · have t1 : decide (r ∈ p) = false := decide_eq_false e2
          have HP2 := hide (ballot_snoc HP.out hr e2)
          clear e2
          rw [t1] at HHr
          obtain ⟨A4, c4, w4, hr4, hO4, hg4, _⟩ := HPu.out r
          have HR4 := hide hr4
          have HO4 := hide hO4
          have HB4 := hide (HB.out.trans (own_by HB.out.size HO.out.lo hg4))
          clear hr4 hO4 hg4
          go_wp2_with fail
          refine HHr.out.mono ?_
          rintro e w2 ⟨rfl, rfl⟩
          go_wp2_with ((with_reducible refine wpList_gives (o := ⟨some 33, _, _, _, _, _⟩) (v := Value.slice A4 (p.length + 1) c4) (w' := w4) ?_ ?_ ?_); rfl; exact gives_append rfl rfl rfl HR4.out)
          go_roundw
          case rel => exact ⟨k + 1, by omega, by go_num, _, _, rfl, HO4.out, HP2.out, by simp; omega, HB4.out⟩
          case measure => simp [iOf]; omega
      · go_wp2_with fail
        go_ret
        first | exact ⟨_, p, rfl, HO.out, HP.out, by omega, HB.out⟩ | exact ⟨_, rfl, p, HO.out, HP.out, by omega, HB.out⟩
    · go_wp2_with fail
      go_ret
      first | exact ⟨_, p, rfl, HO.out, HP.out, by omega, HB.out⟩ | exact ⟨_, rfl, p, HO.out, HP.out, by omega, HB.out⟩
end Go.Proofs.Yteeamiacplfcmaa
