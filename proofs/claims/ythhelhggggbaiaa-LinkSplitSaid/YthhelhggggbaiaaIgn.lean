/-
  The receiver: ignored.
-/
import Derived.Test.YthhelhggggbaiaaRcv
import Derived.Deep.DeepCutAuto
namespace Go.Proofs.Ythhelhggggbaiaa
open Go.RowKit
set_option linter.unusedVariables false
set_option linter.unusedSimpArgs false

theorem i64_bd {a : Int} (h : (Lit.int .i64 a).wf = true) : InR a := by
  have hmin : IntKind.i64.min = -9223372036854775808 := rfl
  have hmax : IntKind.i64.max = 9223372036854775807 := rfl
  simp only [Lit.wf, Bool.and_eq_true, decide_eq_true_eq] at h
  unfold InR
  omega
def IgnA (W g : Nat) (last : Int) (ack : Bool) (num : Int) (dlen : Nat) : Prop := ack = true ∨ num < 0 ∨ (g : Int) + (W : Int) ≤ num ∨ 4096 < dlen ∨ (0 ≤ last ∧ last < num)
def Behind (e : Int → Option (List UInt8)) (num : Int) : Prop := ∃ k, InR k ∧ num < k ∧ (e k).isSome = true
def Ign (W g : Nat) (e : Int → Option (List UInt8)) (last : Int) (ack : Bool) (num : Int) (lst : Bool) (dlen : Nat) : Prop := IgnA W g last ack num dlen ∨ (lst = true ∧ (num < (g : Int) - 1 ∨ Behind e num))
/-- the Boolean tells whether P holds -/
def Tells (b : Bool) (P : Prop) : Prop := b = true ↔ P
theorem Tells.yes {P : Prop} (h : P) : Tells true P := ⟨fun _ => h, fun _ => rfl⟩
theorem Tells.no {P : Prop} (h : ¬ P) : Tells false P := ⟨fun e => (by cases e), fun e => absurd e h⟩
theorem Tells.true_ {P : Prop} (h : Tells true P) : P := h.1 rfl
theorem Tells.false_ {P : Prop} (h : Tells false P) : ¬ P := fun e => (by cases h.2 e)
def IgnPost (w : World) (P : Prop) (en : Ending) (w' : World) : Prop := ∃ b : Bool, en = .returned (.bool b) ∧ Tells b P ∧ Below w.heap.size w w'

set_option maxHeartbeats 3200000 in
set_option maxRecDepth 100000 in
theorem ignored_any {F : Nat → Prop} {w : World} {r W : Nat} {got : List (List UInt8)} {e : Int → Option (List UInt8)} {last : Int} {n : Nat} (h : Rcv F w r W got e last n) (hl : got.length ≤ 100000) (hW : W ≤ 8) (hlast : -1 ≤ last) (hlast2 : last ≤ 9223372036854775807)
    (ack lst : Bool) (num : Int) (hnum : InR num) (A : Option Addr) (m c : Nat) (hm : m ≤ maxLen) :
    Calls Try.prog 34 #[.pointer (some ⟨r, 0, none⟩), .agg #[.bool ack, .int .i64 num, .bool lst, .slice A m c]] w (IgnPost w (Ign W got.length e last ack num lst m)) := by
  obtain ⟨M, hM⟩ : ∃ M, M = Obj.cells #[.bool ack, .int .i64 num, .bool lst, .slice A m c] 34 := ⟨_, rfl⟩
  have HS := hide (h.kept ((Below.refl _ _).alloc (Nat.le_refl _) M))
  have HBl : Hid (Below w.heap.size w (w.alloc M)) := (Below.refl _ _).alloc (Nat.le_refl _) M
  obtain ⟨w1, hw1⟩ : ∃ w1, w1 = w.alloc M := ⟨_, rfl⟩
  rw [← hw1] at HS HBl
  have HX : Hid (Box w1 w.heap.size 34 #[.bool ack, .int .i64 num, .bool lst, .slice A m c]) := by rw [hw1, hM]; exact Box.new _ _ _
  rw [hM] at hw1
  have HW := hide hw1
  have d0 : w1.cell? ⟨w.heap.size, 0, none⟩ = some (.bool ack) := HX.out.cell 0
  have d1 : w1.cell? ⟨w.heap.size, 1, none⟩ = some (.int .i64 num) := HX.out.cell 1
  have d2 : w1.cell? ⟨w.heap.size, 2, none⟩ = some (.bool lst) := HX.out.cell 2
  have d3 : w1.cell? ⟨w.heap.size, 3, none⟩ = some (.slice A m c) := HX.out.cell 3
  obtain ⟨A0, cc, mb, hc, c0, c1, c2, c3, hf, hfr, he, _⟩ := HS.out.cells
  have HE := hide he
  unfold InR at hnum
  unfold maxLen at hm
  clear hf hfr h hM hw1 he
  go_enter Try.func34, Try.ntmps34
  go_upto_region 1 with fail
  rw [← HW.out]
  go_cut [49] (fun v wx => ∃ bb : Bool, v = .bool bb ∧ Hid (Tells bb (IgnA W got.length last ack num m)) ∧ ∃ q, wx = w1.drewN q)
  case first =>
    rcases (show ack = true ∨ (ack = false ∧ num < 0) ∨ (ack = false ∧ 0 ≤ num ∧ (got.length : Int) + (W : Int) ≤ num) ∨ (ack = false ∧ 0 ≤ num ∧ num < (got.length : Int) + (W : Int) ∧ 4096 < m) ∨ (ack = false ∧ 0 ≤ num ∧ num < (got.length : Int) + (W : Int) ∧ m ≤ 4096 ∧ 0 ≤ last ∧ last < num) ∨
      (ack = false ∧ 0 ≤ num ∧ num < (got.length : Int) + (W : Int) ∧ m ≤ 4096 ∧ 0 ≤ last ∧ num ≤ last) ∨ (ack = false ∧ 0 ≤ num ∧ num < (got.length : Int) + (W : Int) ∧ m ≤ 4096 ∧ last < 0) by cases ack <;> simp <;> omega) with rfl | ⟨rfl, h1⟩ | ⟨rfl, h1, h2⟩ | ⟨rfl, h1, h2, h3⟩ | ⟨rfl, h1, h2, h3, h4, h5⟩ | ⟨rfl, h1, h2, h3, h4, h5⟩ | ⟨rfl, h1, h2, h3, h4⟩
    · have HP : Hid (Tells true (IgnA W got.length last true num m)) := Tells.yes (by unfold IgnA; simp; try omega)
      go_quiet (fail)
      go_wp2_with fail
      go_meet
      exact ⟨_, rfl, HP, _, rfl⟩
    · have t0 : decide (num < 0) = true := decide_eq_true (by omega)
      have HP : Hid (Tells true (IgnA W got.length last false num m)) := Tells.yes (by unfold IgnA; simp; try omega)
      go_quiet (fail)
      go_wp2_with fail
      go_meet
      exact ⟨_, rfl, HP, _, rfl⟩
    · have t0 : decide (num < 0) = false := decide_eq_false (by omega)
      have t1 : decide ((got.length : Int) + (W : Int) ≤ num) = true := decide_eq_true (by omega)
      have HP : Hid (Tells true (IgnA W got.length last false num m)) := Tells.yes (by unfold IgnA; simp; try omega)
      go_quiet (fail)
      go_wp2_with fail
      go_meet
      exact ⟨_, rfl, HP, _, rfl⟩
    · have t0 : decide (num < 0) = false := decide_eq_false (by omega)
      have t1 : decide ((got.length : Int) + (W : Int) ≤ num) = false := decide_eq_false (by omega)
      have t2 : decide ((4096 : Int) < (m : Int)) = true := decide_eq_true (by omega)
      have HP : Hid (Tells true (IgnA W got.length last false num m)) := Tells.yes (by unfold IgnA; simp; try omega)
      go_quiet (fail)
      go_wp2_with fail
      go_meet
      exact ⟨_, rfl, HP, _, rfl⟩
    · have t0 : decide (num < 0) = false := decide_eq_false (by omega)
      have t1 : decide ((got.length : Int) + (W : Int) ≤ num) = false := decide_eq_false (by omega)
      have t2 : decide ((4096 : Int) < (m : Int)) = false := decide_eq_false (by omega)
      have t3 : decide (0 ≤ last) = true := decide_eq_true (by omega)
      have t4 : decide (last < num) = true := decide_eq_true (by omega)
      have HP : Hid (Tells true (IgnA W got.length last false num m)) := Tells.yes (by unfold IgnA; simp; try omega)
      go_quiet (fail)
      go_wp2_with fail
      go_meet
      exact ⟨_, rfl, HP, _, rfl⟩
    · have t0 : decide (num < 0) = false := decide_eq_false (by omega)
      have t1 : decide ((got.length : Int) + (W : Int) ≤ num) = false := decide_eq_false (by omega)
      have t2 : decide ((4096 : Int) < (m : Int)) = false := decide_eq_false (by omega)
      have t3 : decide (0 ≤ last) = true := decide_eq_true (by omega)
      have t4 : decide (last < num) = false := decide_eq_false (by omega)
      have HP : Hid (Tells false (IgnA W got.length last false num m)) := Tells.no (by unfold IgnA; simp; omega)
      go_quiet (fail)
      go_wp2_with fail
      go_meet
      exact ⟨_, rfl, HP, _, rfl⟩
    · have t0 : decide (num < 0) = false := decide_eq_false (by omega)
      have t1 : decide ((got.length : Int) + (W : Int) ≤ num) = false := decide_eq_false (by omega)
      have t2 : decide ((4096 : Int) < (m : Int)) = false := decide_eq_false (by omega)
      have t3 : decide (0 ≤ last) = false := decide_eq_false (by omega)
      have HP : Hid (Tells false (IgnA W got.length last false num m)) := Tells.no (by unfold IgnA; simp; omega)
      go_quiet (fail)
      go_wp2_with fail
      go_meet
      exact ⟨_, rfl, HP, _, rfl⟩
  case rest =>
    obtain ⟨bb, rfl, hbb, q, rfl⟩ := hcut
    cases bb
    case true =>
      have HI : Hid (Tells true (Ign W got.length e last ack num lst m)) := Tells.yes (.inl hbb.out.true_)
      go_wp2_with fail
      go_ret
      exact ⟨true, rfl, HI.out, below_drew HBl.out _⟩
    case false =>
      cases lst
      case false =>
        have HI : Hid (Tells false (Ign W got.length e last ack num false m)) := Tells.no fun e => by
          rcases e with h | ⟨h, _⟩
          · exact hbb.out.false_ h
          · cases h
        go_wp2_with fail
        go_ret
        exact ⟨false, rfl, HI.out, below_drew HBl.out _⟩
      case true =>
        by_cases h1 : num < (got.length : Int) - 1
        · have HI : Hid (Tells true (Ign W got.length e last ack num true m)) := Tells.yes (.inr ⟨rfl, .inl h1⟩)
          have t1 : decide (num < (got.length : Int) - 1) = true := decide_eq_true h1
          go_wp2_with fail
          go_quiet (fail)
          go_wp2_with fail
          go_ret
          exact ⟨true, rfl, HI.out, below_drew (below_drew HBl.out _) _⟩
        · have t1 : decide (num < (got.length : Int) - 1) = false := decide_eq_false h1
          have HN : Hid (¬ Behind e num → Tells false (Ign W got.length e last ack num true m)) := fun hb => Tells.no fun e => by
            rcases e with h | ⟨_, h | h⟩
            · exact hbb.out.false_ h
            · exact h1 h
            · exact hb h
          have HY : Hid (Behind e num → Tells true (Ign W got.length e last ack num true m)) := fun hb => Tells.yes (.inr ⟨rfl, .inr hb⟩)
          obtain ⟨D, hown, hD⟩ := HE.out
          have HOWN := hide (fun x => show (w1.drewN x).ownsMap Try.prog 3 sliceElem mb n D from hown)
          have HD := hide hD
          have HXD := hide (fun x => HX.out.drewN x)
          have HBD := hide (fun x => below_drew HBl.out x)
          clear hown hD hbb HE
          go_wp2_with fail
          go_quiet (fail)
          go_wp2_with (at_range; refine Go.wpList_range_own _ rfl _ 65 rfl 3 32 intKey Try.underlying65 sliceElem mb n D rfl (HOWN.out _) ?_; intro w0 hrg0 hg0 hs0)
          go_frame
          have HX0 := hide ((HXD.out (q + nq)).grown hg0 (by simp))
          have HB0 : Hid (Below w.heap.size w w0) := (HBD.out (q + nq)).grown hg0 (HBD.out (q + nq)).size (fun k hk => by cases hk)
          have HR0 := hide hrg0
          have hsz0 : w.heap.size < (w1.drewN (q + nq)).heap.size := (HXD.out (q + nq)).lt
          obtain ⟨rb, hrb⟩ : ∃ rb, rb = (w1.drewN (q + nq)).heap.size := ⟨_, rfl⟩
          rw [← hrb] at HR0 hsz0 ⊢
          clear hrg0 hg0 hs0 hrb c0 c1 c2 c3 d0 d1 d2 d3
          go_loopw [5] (fun _ wr => ∃ left cnt, Hid (wr.ranges Try.prog 3 sliceElem mb rb n D left cnt) ∧ Hid (Box wr w.heap.size 34 #[.bool ack, .int .i64 num, .bool true, .slice A m c]) ∧ Hid (Below w.heap.size w wr) ∧ Hid (∀ k, InR k → Maps.has D (.int .i64 k) = true → left (.int .i64 k) = false → k ≤ num)) (fun _ wr => wr.rangeLeft mb rb)
          case atStart => exact ⟨_, _, HR0, HX0, HB0, fun k hk h1 h2 => by rw [h1] at h2; cases h2⟩
          case round =>
            clear HX0 HB0 HR0
            obtain ⟨left, cnt, hR, hX, hBl, hL⟩ := hrel
            have d1 : wr.cell? ⟨w.heap.size, 1, none⟩ = some (.int .i64 num) := hX.out.cell 1
            go_wp2_with (at_next; refine Go.wpList_next_ranges _ rfl _ rfl 3 intKey sliceElem (fun x : Int => .int .i64 x) (fun x : Option Addr × Nat × Nat => .slice x.1 x.2.1 x.2.2) (fun key kl hk => by obtain ⟨x, e, _⟩ := Go.Maps.keyOf_int_inv Try.underlying3 hk; exact ⟨x, e⟩) (fun v y hv => by obtain ⟨A, n, c, e⟩ := sliceElem_shape hv; exact ⟨(A, n, c), e⟩) mb rb n D left cnt rfl hR.out ?_ ?_)
            case refine_1 =>
              intro hc0 hl0
              have HI := hide (HN.out fun ⟨k, hk, hlt, hs⟩ => by
                rcases hek : e k with _ | bs
                · rw [hek] at hs; cases hs
                · have := hL.out k hk ((HD.out k hk).2 bs hek).1 (hl0 _)
                  omega)
              go_wp2_with fail
              go_ret
              exact ⟨false, rfl, HI.out, hBl.out⟩
            case refine_2 =>
              intro x a n' c' kl y1 y2 w2 cnt2 hkey hlk hv hat hrg1 hlt hg1 hs1 hen
              obtain ⟨x', ex, rfl, hwf⟩ := Go.Maps.keyOf_int_inv Try.underlying3 hkey
              obtain rfl : x = x' := by injection ex
              have hxr : InR x := i64_bd hwf
              have hX2 := hide (hX.out.grown hg1 (fun e => by injection e with e; omega))
              have hB2 : Hid (Below w.heap.size w w2) := hBl.out.grown hg1 hBl.out.size (fun k hk => by injection hk with hk; omega)
              have d1' : w2.cell? ⟨w.heap.size, 1, none⟩ = some (.int .i64 num) := hX2.out.cell 1
              have HRG := hide hrg1
              have HRG0 := hide hR.out
              have HLT := hide hlt
              have HAT := hide hat
              have hxr' : -9223372036854775808 ≤ x ∧ x ≤ 9223372036854775807 := hxr
              clear hkey hlk hv hat hrg1 hlt hg1 hs1 ex hwf d1 hR
              by_cases hgt : num < x
              · have HI := hide (HY.out ⟨x, hxr, hgt, by
                  rcases hek : e x with _ | bs
                  · have h1 := (HD.out x hxr).1 hek
                    rw [Go.Maps.has_true_of_atKey HAT.out] at h1
                    cases h1
                  · rfl⟩)
                go_wp2_with fail
                go_ret
                exact ⟨true, rfl, HI.out, hB2.out⟩
              · have t2 : decide (num < x) = false := decide_eq_false hgt
                go_wp2_with fail
                go_roundw
                case rel =>
                  refine ⟨_, cnt2, HRG, hX2, hB2, fun k hk h1 h2 => ?_⟩
                  simp only [Bool.and_eq_false_iff, Bool.not_eq_false'] at h2
                  rcases h2 with h2 | h2
                  · exact hL.out k hk h1 h2
                  · have e := WideAt.sameKey_eq h2
                    injection e with _ e
                    omega
                case measure =>
                  rw [HRG.out.left_eq, HRG0.out.left_eq]
                  exact HLT.out
end Go.Proofs.Ythhelhggggbaiaa
