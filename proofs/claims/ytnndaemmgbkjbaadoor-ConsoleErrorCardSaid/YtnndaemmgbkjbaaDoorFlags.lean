/-
  console.flags: the flags that words name, in their order.
-/
import Derived.Test.YtnndaemmgbkjbaaDoorBits
namespace Go.Proofs.YtnndaemmgbkjbaaDoor
open Go.RowKit
set_option linter.unusedVariables false
set_option linter.unusedSimpArgs false

/-- is the first word s? then it is taken -/
def takeB (s : ByteArray) : List ByteArray → Bool × List ByteArray
  | [] => (false, [])
  | x :: r => if x.toList == s.toList then (true, r) else (false, x :: r)
theorem takeB_hit {s x : ByteArray} {r : List ByteArray} (h : (x.toList == s.toList) = true) : takeB s (x :: r) = (true, r) := if_pos h
theorem takeB_miss {s x : ByteArray} {r : List ByteArray} (h : (x.toList == s.toList) = false) : takeB s (x :: r) = (false, x :: r) := if_neg (by rw [h]; simp)
theorem takeB_le (s : ByteArray) (l : List ByteArray) : (takeB s l).2.length ≤ l.length := by
  cases l with
  | nil => exact Nat.le_refl _
  | cons x r =>
    cases h : x.toList == s.toList with
    | true => rw [takeB_hit h]; simp
    | false => rw [takeB_miss h]; exact Nat.le_refl _
theorem grown_set (w : World) (g j : Nat) (v : Value) : w.grownBy (w.setCell ⟨g, j, none⟩ v) (some g) :=
  ⟨rfl, rfl, rfl, by simp [World.setCell], fun i _ hr => Below.heap_setCell _ _ _ i fun e => hr (congrArg some e)⟩
theorem box_set1 {w : World} {g : Nat} {t : TypeId} {u : Value} (h : Box w g t #[u]) (v : Value) : Box (w.setCell ⟨g, 0, none⟩ v) g t #[v] := by
  have := h.set 0 v
  simpa using this
theorem list_set {α : Type} [Inhabited α] {enc : α → Value} {F : Nat → Prop} {w : World} {A : Option Addr} {l : List α} (h : ListIn enc F w A l) {g : Nat} (hg : ¬ F g) (j : Nat) (v : Value) : ListIn enc F (w.setCell ⟨g, j, none⟩ v) A l :=
  h.agree fun i hi => Below.heap_setCell _ _ _ i fun e => hg (by have e2 : i = g := e; rwa [e2] at hi)
set_option maxHeartbeats 2000000 in
set_option maxRecDepth 100000 in
theorem fclos_any {F : Nat → Prop} {A : Option Addr} {c bl : Nat} {l : List ByteArray} {s : ByteArray} {w : World} (h : ListIn Value.string F w A l) (hc : l.length ≤ c) (hc2 : c ≤ 1000000) (hX : Box w bl 26 #[.slice A l.length c]) (hF : ¬ F bl) :
    Calls Tryd.prog 44 #[.string s, .pointer (some ⟨bl, 0, none⟩)] w fun e w' => ∃ A' c', e = .returned (.bool (takeB s l).1) ∧ Box w' bl 26 #[.slice A' (takeB s l).2.length c'] ∧ ListIn Value.string F w' A' (takeB s l).2 ∧ (takeB s l).2.length ≤ c' ∧ c' ≤ 1000000 ∧ w.grownBy w' (some bl) := by
  have b0 := hX.cell 0
  have bf := hX.frozen 0
  simp at b0
  have HX := hide hX
  cases l with
  | nil =>
    go_enter Tryd.func44, Tryd.ntmps44
    go_wp2_with fail
    go_ret
    exact ⟨A, c, rfl, HX.out, ListIn.nil _ _ _ _, Nat.zero_le _, hc2, grown_refl _ _⟩
  | cons x r =>
    obtain ⟨b, off, rfl, hb, h0⟩ := h.at_ (k := 0) (by simp)
    obtain ⟨b', off', e, ht⟩ := h.tail
    cases e
    have h0 : w.cell? ⟨b, off, none⟩ = some (.string x) := h0
    have H := hide h
    have HT := hide ht
    rw [List.length_cons] at b0 hc HX
    have HL : Hid (r.length = 0 → r = []) := fun e => List.length_eq_zero_iff.1 e
    clear h ht hX
    cases hz : x.toList == s.toList with
    | false =>
      have hz' : (!(x.toList == s.toList)) = true := by rw [hz]; rfl
      have hl0 : ((r.length : Int) + 1 == 0) = false := beq_eq_false_iff_ne.2 (by omega)
      have HM := hide (takeB_miss (r := r) hz)
      clear hz
      go_enter Tryd.func44, Tryd.ntmps44
      go_wp2_with fail
      go_ret
      rw [HM.out]
      exact ⟨_, c, rfl, HX.out, H.out, hc, hc2, grown_refl _ _⟩
    | true =>
      have hz' : (!(x.toList == s.toList)) = false := by rw [hz]; rfl
      have hl0 : ((r.length : Int) + 1 == 0) = false := beq_eq_false_iff_ne.2 (by omega)
      have HM := hide (takeB_hit (r := r) hz)
      clear hz
      go_enter Tryd.func44, Tryd.ntmps44
      by_cases hc1 : c = 1
      · subst hc1
        obtain rfl := HL.out (by omega)
        go_wp2_with fail
        go_ret
        rw [HM.out]
        first | first | first | exact ⟨_, 0, rfl, box_set1 HX.out _, ListIn.nil _ _ _ _, Nat.zero_le _, by omega, grown_set _ _ _ _⟩ | exact ⟨rfl, _, 0, box_set1 HX.out _, ListIn.nil _ _ _ _, Nat.zero_le _, by omega, grown_set _ _ _ _⟩ | exact ⟨rfl, _, 0, box_set1 HX.out _, ListIn.nil _ _ _ _, Nat.zero_le _, by omega, grown_set _ _ _ _⟩ | exact ⟨rfl, _, 0, box_set1 HX.out _, ListIn.nil _ _ _ _, Nat.zero_le _, by omega, grown_set _ _ _ _⟩
      · have hc3 : 1 < c := by omega
        go_wp2_with fail
        go_ret
        rw [HM.out]
        exact ⟨_, c - 1, rfl, box_set1 HX.out _, list_set HT.out hF _ _, by show r.length ≤ c - 1; omega, by omega, grown_set _ _ _ _⟩
theorem flag_grow {w a b : World} {g bl : Nat} (h : w.grownBy a (some g)) (k : a.grownBy b (some bl)) (hbl : w.heap.size ≤ bl) : w.grownBy b (some g) :=
  ⟨k.os.trans h.os, k.tape.trans h.tape, k.output.trans h.output, Nat.le_trans h.size k.size, fun i hi hr => (k.block i (Nat.lt_of_lt_of_le hi h.size) (fun e => by have := Option.some.inj e; omega)).trans (h.block i hi hr)⟩
/-- the flags of send: lost, deaf, twice; nothing is left -/
def sLose : ByteArray := ⟨#[108, 111, 115, 101]⟩
def sDeaf : ByteArray := ⟨#[100, 101, 97, 102]⟩
def sTwice : ByteArray := ⟨#[116, 119, 105, 99, 101]⟩
def fl1 (l : List ByteArray) : Bool × List ByteArray := takeB sLose l
def fl2 (l : List ByteArray) : Bool × List ByteArray := takeB sDeaf (fl1 l).2
def fl3 (l : List ByteArray) : Bool × List ByteArray := takeB sTwice (fl2 l).2
set_option maxHeartbeats 4000000 in
set_option maxRecDepth 100000 in
theorem flags_any {F : Nat → Prop} {A : Option Addr} {c g : Nat} {l : List ByteArray} {t : TypeId} {cs : Array Value} {w : World} (h : ListIn Value.string F w A l) (hc : l.length ≤ c) (hc2 : c ≤ 1000000) (hX : Box w g t cs) (hcs : cs.size = 12) (hF : ¬ F g) (hF2 : ∀ i, F i → i < w.heap.size) :
    Calls Tryd.prog 25 #[.pointer (some ⟨g, 0, none⟩), .slice A l.length c] w fun e w' => e = .returned (.bool (((fl3 l).2.length : Int) == 0)) ∧ Box w' g t (((cs.setIfInBounds 8 (.bool (fl1 l).1)).setIfInBounds 9 (.bool (fl2 l).1)).setIfInBounds 10 (.bool (fl3 l).1)) ∧ w.grownBy w' (some g) := by
  have hg := hX.lt
  have hb1 : Below w.heap.size w (w.alloc (.cells #[.slice A l.length c] 26)) := (Below.refl _ _).alloc (Nat.le_refl _) _
  have hY1 := Box.new w 26 #[.slice A l.length c]
  have hX1 := hX.alloc (.cells #[.slice A l.length c] 26)
  have hL1 := h.agree (Agree.of_below hb1 hF2)
  have hnF : ¬ F w.heap.size := fun e => by have := hF2 _ e; omega
  have hne : some g ≠ some w.heap.size := fun e => by have := Option.some.inj e; omega
  have HC1 := hide (fclos_any (s := sLose) hL1 hc hc2 hY1 hnF)
  have HX1 := hide hX1
  have HG1 := hide (grown_of_below hb1 (some g))
  clear h hX hb1 hY1 hX1 hL1
  go_enter Tryd.func25, Tryd.ntmps25
  -- GEN
  have e8 : ∃ u, cs[8]? = some u := ⟨_, Array.getElem?_eq_getElem (by omega)⟩
  have e9 : ∃ u, cs[9]? = some u := ⟨_, Array.getElem?_eq_getElem (by omega)⟩
  have e10 : ∃ u, cs[10]? = some u := ⟨_, Array.getElem?_eq_getElem (by omega)⟩
  obtain ⟨u8, e8⟩ := e8
  obtain ⟨u9, e9⟩ := e9
  obtain ⟨u10, e10⟩ := e10
  go_upto_region 2 with (fail)
  go_wp2_with fail
  refine HC1.out.mono ?_
  rintro e wa0 ⟨A2, c2, rfl, hY, hL, hcl0, hcm0, hgr⟩
  have hXa := HX1.out.grown hgr hne
  have x0 := hXa.cell 8
  have xf := hXa.frozen 8
  rw [e8] at x0
  obtain ⟨wb0, hwb0⟩ : ∃ q, wa0.setCell ⟨g, 8, none⟩ (.bool (fl1 l).1) = q := ⟨_, rfl⟩
  have hXb := hXa.set 8 (.bool (fl1 l).1)
  have hYb := hY.far (p := ⟨g, 8, none⟩) (fun e => hne (congrArg some e.symm)) (.bool (fl1 l).1)
  have hLb := list_set hL hF 8 (.bool (fl1 l).1)
  have hgb := grown_set wa0 g 8 (.bool (fl1 l).1)
  rw [hwb0] at hXb hYb hLb hgb
  have HC2 := hide (fclos_any (s := sDeaf) hLb hcl0 hcm0 hYb hnF)
  have HX2 := hide hXb
  have HGa0 := hide hgr
  have HG2 := hide (grown_trans (flag_grow HG1.out hgr (by omega)) hgb)
  have HWb0 := hide hwb0
  clear hY hL hgr hXa hXb hYb hLb hgb hwb0
  go_upto_region 3 with (fail)
  rw [show wa0.setCell ⟨g, 8, none⟩ (.bool (takeB sLose l).1) = wb0 from HWb0.out]
  go_wp2_with fail
  refine HC2.out.mono ?_
  rintro e wa1 ⟨A3, c3, rfl, hY, hL, hcl1, hcm1, hgr⟩
  have hXa := HX2.out.grown hgr hne
  have x0 := hXa.cell 9
  have xf := hXa.frozen 9
  rw [Array.getElem?_setIfInBounds_ne (by decide), e9] at x0
  obtain ⟨wb1, hwb1⟩ : ∃ q, wa1.setCell ⟨g, 9, none⟩ (.bool (fl2 l).1) = q := ⟨_, rfl⟩
  have hXb := hXa.set 9 (.bool (fl2 l).1)
  have hYb := hY.far (p := ⟨g, 9, none⟩) (fun e => hne (congrArg some e.symm)) (.bool (fl2 l).1)
  have hLb := list_set hL hF 9 (.bool (fl2 l).1)
  have hgb := grown_set wa1 g 9 (.bool (fl2 l).1)
  rw [hwb1] at hXb hYb hLb hgb
  have HC3 := hide (fclos_any (s := sTwice) hLb hcl1 hcm1 hYb hnF)
  have HX3 := hide hXb
  have HGa1 := hide hgr
  have HG3 := hide (grown_trans (flag_grow HG2.out hgr (by omega)) hgb)
  have HWb1 := hide hwb1
  clear hY hL hgr hXa hXb hYb hLb hgb hwb1
  go_upto_region 4 with (fail)
  rw [show wa1.setCell ⟨g, 9, none⟩ (.bool (takeB sDeaf (takeB sLose l).2).1) = wb1 from HWb1.out]
  go_wp2_with fail
  refine HC3.out.mono ?_
  rintro e wa2 ⟨A4, c4, rfl, hY, hL, hcl2, hcm2, hgr⟩
  have hXa := HX3.out.grown hgr hne
  have x0 := hXa.cell 10
  have xf := hXa.frozen 10
  rw [Array.getElem?_setIfInBounds_ne (by decide), Array.getElem?_setIfInBounds_ne (by decide), e10] at x0
  obtain ⟨wb2, hwb2⟩ : ∃ q, wa2.setCell ⟨g, 10, none⟩ (.bool (fl3 l).1) = q := ⟨_, rfl⟩
  have hXb := hXa.set 10 (.bool (fl3 l).1)
  have hYb := hY.far (p := ⟨g, 10, none⟩) (fun e => hne (congrArg some e.symm)) (.bool (fl3 l).1)
  have hLb := list_set hL hF 10 (.bool (fl3 l).1)
  have hgb := grown_set wa2 g 10 (.bool (fl3 l).1)
  rw [hwb2] at hXb hYb hLb hgb
  have HX5 := hide hXb
  have HY5 := hide hYb
  have HGa2 := hide hgr
  have HG4 := hide (grown_trans (flag_grow HG3.out hgr (by omega)) hgb)
  have HWb2 := hide hwb2
  clear hY hL hgr hXa hXb hYb hLb hgb hwb2
  go_upto_region 5 with (fail)
  rw [show wa2.setCell ⟨g, 10, none⟩ (.bool (takeB sTwice (takeB sDeaf (takeB sLose l).2).2).1) = wb2 from HWb2.out]
  have y0 := HY5.out.cell 0
  simp at y0
  go_wp2_with fail
  go_ret
  exact ⟨rfl, HX5.out, HG4.out⟩
end Go.Proofs.YtnndaemmgbkjbaaDoor
