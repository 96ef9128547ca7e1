/-
  Memory: a list without two of its cells, with another one in their place.
-/
import Derived.Test.YteeamiacplfcmaaPlainM
namespace Go.Proofs.Yteeamiacplfcmaa
open Go.RowKit
set_option linter.unusedVariables false
set_option linter.unusedSimpArgs false

section
variable {α : Type} [Inhabited α] {E : Rel α} {F : Nat → Prop} {w : World} {b off : Nat} {xs : List α}
theorem PairsIn.takeN (h : PairsIn E F w (some ⟨b, off, none⟩) xs) (k : Nat) : PairsIn E F w (some ⟨b, off, none⟩) (xs.take k) := fun hp => by
  rw [List.length_take] at hp
  obtain ⟨b', off', e, hF, hc⟩ := h (by omega)
  refine ⟨b', off', e, hF, fun j hj => ?_⟩
  rw [List.length_take] at hj
  obtain ⟨v0, v1, h0, h1, h2⟩ := hc j (by omega)
  exact ⟨v0, v1, h0, h1, by simpa [List.getD_eq_getElem?_getD, List.getElem?_take, show j < k by omega] using h2⟩
theorem PairsIn.dropN (h : PairsIn E F w (some ⟨b, off, none⟩) xs) (k : Nat) : PairsIn E F w (some ⟨b, off + k * 2, none⟩) (xs.drop k) := fun hp => by
  rw [List.length_drop] at hp
  obtain ⟨b', off', e, hF, hc⟩ := h (by omega)
  cases e
  refine ⟨b, off + k * 2, rfl, hF, fun j hj => ?_⟩
  rw [List.length_drop] at hj
  obtain ⟨v0, v1, h0, h1, h2⟩ := hc (k + j) (by omega)
  refine ⟨v0, v1, ?_, ?_, by simpa [List.getD_eq_getElem?_getD, List.getElem?_drop] using h2⟩
  · rw [← h0]; congr 2; omega
  · rw [← h1]; congr 2; omega
end
theorem unite_sl {v0 v1 u0 u1 : Value} {a b y : Cel} {w6 w : World} (hw : Below w6.heap.size w6 w) (h : Cell2 w6 v0 v1 a) (h' : Cell2 w6 u0 u1 b) (hp : pileOk 7 a.2 = true) (hp' : pileOk 7 b.2 = true) (hs : sumN a.2 + sumN b.2 ≤ 100000) {n k : Nat} (hy : uniteC a b = y) (hn : y.1.length = n) (hk : y.2.length = k) :
    Calls Try.prog 32 #[.agg #[v0, v1], .agg #[u0, u1]] w fun e w' => ∃ Xp cp Xg cg, e = .returned (.agg #[.slice Xp n cp, .slice Xg k cg]) ∧ Hid (Cell2 w' (.slice Xp n cp) (.slice Xg k cg) y) ∧ Below w6.heap.size w6 w' ∧ ∀ g A1 n1 c1 A2 n2 c2, Box w g 34 #[.slice A1 n1 c1, .slice A2 n2 c2] → Hid (Box w' g 34 #[.slice A1 n1 c1, .slice A2 n2 c2]) ∧ w'.cell? ⟨g, 0, none⟩ = some (.slice A1 n1 c1) ∧ w'.cell? ⟨g, 1, none⟩ = some (.slice A2 n2 c2) ∧ w'.frozen? ⟨g, 0, none⟩ = false ∧ w'.frozen? ⟨g, 1, none⟩ = false ∧ g < w'.heap.size := by
  refine (unite_any (h.below hw) (h'.below hw) hp hp' hs).mono ?_
  rintro e w' ⟨x0, x1, rfl, hX, hb⟩
  rw [hy] at hX
  obtain ⟨Xp, cp, Xg, cg, e0, _, _, _, _, e1, _⟩ := id hX
  rw [hn] at e0
  rw [hk] at e1
  subst e0 e1
  refine ⟨Xp, cp, Xg, cg, rfl, hX, hw.trans (hb.mono hw.size), fun g A1 n1 c1 A2 n2 c2 hB => ?_⟩
  have hB' := hB.kept hb
  exact ⟨hB', hB'.cell 0, hB'.cell 1, hB'.frozen 0, hB'.frozen 1, hB'.lt⟩
theorem OwnA.rows {α : Type} [Inhabited α] {E : Rel α} {B : Nat} {w : World} {v : Value} {xs : List α} {ty : TypeId} (h : OwnA E ty B w v xs) (g : Nat) (hg : v.ownBlock = some g) : B ≤ g := h.2 g hg
/-- the merged cell lies in the box g8, the rest is as it was -/
def PK (w6 w8 : World) (g8 : Nat) (x0 x1 : Value) (y : Cel) : Prop := Below w6.heap.size w6 w8 ∧ CelE (fun i => i < w8.heap.size) w8 x0 x1 y ∧ Box w8 g8 34 #[x0, x1]
section
variable {w6 w7 : World} {A1 A2 : Option Addr} {n1 c1 n2 c2 : Nat} {y : Cel}
theorem pk_alloc (hb : Below w6.heap.size w6 w7) (hX : Hid (Cell2 w7 (.slice A1 n1 c1) (.slice A2 n2 c2) y)) : PK w6 (w7.alloc (.cells #[.slice A1 n1 c1, .slice A2 n2 c2] 34)) w7.heap.size (.slice A1 n1 c1) (.slice A2 n2 c2) y :=
  ⟨hb.alloc hb.size _, Cell2.below hX.out ((Below.refl _ _).alloc (Nat.le_refl _) _), Box.new _ _ _⟩
theorem pk_set {g : Nat} (hb : Below w6.heap.size w6 w7) (hX : Hid (Cell2 w7 (.slice A1 n1 c1) (.slice A2 n2 c2) y)) (hZ : Hid (Box w7 g 34 #[.slice none 0 0, .slice none 0 0])) (hg : w6.heap.size ≤ g) : PK w6 ((w7.setCell ⟨g, 0, none⟩ (.slice A1 n1 c1)).setCell ⟨g, 1, none⟩ (.slice A2 n2 c2)) g (.slice A1 n1 c1) (.slice A2 n2 c2) y := by
  refine ⟨(hb.setCell (by exact hg) _).setCell (by exact hg) _, goodC.mono (goodC.agree (cell2_has hX.out) fun i hi => ?_) fun i hi => by simpa [World.setCell] using hi.1, ?_⟩
  · have n1 : i ≠ g := fun e => hZ.out.hasI (e ▸ hi)
    exact (Below.heap_setCell _ _ _ i n1).trans (Below.heap_setCell _ _ _ i n1)
  · have := (hZ.out.set 0 (.slice A1 n1 c1)).set 1 (.slice A2 n2 c2)
    simpa using this
end
section
variable {w8 : World} {b0 off m c d : Nat} {l : List Cel} {x0 x1 : Value} {y : Cel}
theorem drop_at (P : PairsIn CelE (fun i => i < w8.heap.size) w8 (some ⟨b0, off, none⟩) l) (hl : l.length ≤ c) (hm : m + 2 ≤ l.length) : PairsIn CelE (fun i => i < w8.heap.size) w8 (if c = m + 2 then some ⟨b0, off, none⟩ else some ⟨b0, off + (m + 2) * 2, none⟩) (l.drop (m + 2)) := by
  by_cases e : c = m + 2
  · rw [List.drop_eq_nil_of_le (by omega)]; exact PairsIn.nil _ _ _ _
  · rw [if_neg e]; exact P.dropN (m + 2)
theorem tail_a (P : PairsIn CelE (fun i => i < w8.heap.size) w8 (some ⟨b0, off, none⟩) l) {Ad : Option Addr} (PD : PairsIn CelE (fun i => i < w8.heap.size) w8 Ad (l.drop (m + 2))) (hm : m + 1 < l.length) (hl : l.length ≤ 12) (hx : CelE (fun i => i < w8.heap.size) w8 x0 x1 y) :
    ∃ A6 d6 w9 A7 d7 w10 A8 d8 w11, (Builtin.append_ #[23, 23] 23 #[.slice none 0 0, .slice (some ⟨b0, off, none⟩) m c]).run Try.prog w8.drew = .ok (.slice A6 m d6) w9 ∧
      (Builtin.append_ #[23, 23] 23 #[.slice A6 m d6, .slice (some ⟨w9.heap.size, 0, none⟩) 1 1]).run Try.prog (w9.alloc (.cells #[x0, x1] 34)) = .ok (.slice A7 (m + 1) d7) w10 ∧
      (Builtin.append_ #[23, 23] 23 #[.slice A7 (m + 1) d7, .slice Ad (l.length - (m + 2)) d]).run Try.prog w10 = .ok (.slice A8 (l.length - 1) d8) w11 ∧
      OwnC w8.heap.size w11 (.slice A8 (l.length - 1) d8) (l.take m ++ y :: l.drop (m + 2)) ∧ Below w8.heap.size w8 w9 ∧ Below w8.heap.size w8 (w9.alloc (.cells #[x0, x1] 34)) ∧ Below w8.heap.size w8 w10 ∧ Below w8.heap.size w8 w11 := by
  have hb0 : Below w8.heap.size w8 w8.drew := below_drew (Below.refl _ _) 1
  obtain ⟨A6, d6, w9, hr9, hO9, hg9⟩ := OwnC.pushL (OwnA.nil CelE 34 w8.heap.size w8.drew) (Nat.le_refl _) (ys := l.take m) (by simp; omega) (G := fun i => i < w8.heap.size) (PairsIn.agree (P.takeN m) goodC (Agree.of_below hb0 fun i hi => hi)) (fun i hi => ⟨hi, fun e => by cases e⟩) 23 c
  have hb9 : Below w8.heap.size w8 w9 := hb0.trans (own_by (Nat.le_refl _) (fun g e => by cases e) hg9)
  rw [List.length_nil, Nat.zero_add, List.length_take, Nat.min_eq_left (by omega)] at hr9 hO9
  rw [List.nil_append] at hO9
  obtain ⟨A7, d7, w10, hr10, hO10, hg10, _⟩ := OwnC.push1 hO9 hb9.size (by simp; omega) (goodC.agree hx (Agree.of_below hb9 fun i hi => hi)) (fun i hi => ⟨Nat.lt_of_lt_of_le hi hb9.size, fun e => by have := hO9.2 _ e; omega⟩) 23
  have hb10 : Below w8.heap.size w8 w10 := hb9.trans (OwnA.below hO9 hb9.size hg10)
  rw [List.length_take, Nat.min_eq_left (by omega)] at hr10 hO10
  obtain ⟨A8, d8, w11, hr11, hO11, hg11⟩ := OwnC.pushL hO10 hb10.size (ys := l.drop (m + 2)) (by simp; omega) (G := fun i => i < w8.heap.size) (PairsIn.agree PD goodC (Agree.of_below hb10 fun i hi => hi)) (fun i hi => ⟨Nat.lt_of_lt_of_le hi hb10.size, fun e => by have := hO10.2 _ e; omega⟩) 23 d
  have hb11 : Below w8.heap.size w8 w11 := hb10.trans (OwnA.below hO10 hb10.size hg11)
  have e1 : (l.take m ++ [y]).length = m + 1 := by simp; omega
  rw [e1, List.length_drop, show m + 1 + (l.length - (m + 2)) = l.length - 1 by omega] at hr11 hO11
  refine ⟨A6, d6, w9, A7, d7, w10, A8, d8, w11, hr9, hr10, hr11, ?_, hb9, ?_, hb10, hb11⟩
  · rw [List.append_assoc] at hO11; exact hO11
  · exact hb9.alloc hb9.size _
theorem tail_b (P : PairsIn CelE (fun i => i < w8.heap.size) w8 (some ⟨b0, off, none⟩) l) {Ad : Option Addr} (PD : PairsIn CelE (fun i => i < w8.heap.size) w8 Ad (l.drop (m + 2))) (hm : m + 1 < l.length) (hl : l.length ≤ 12) (hx : CelE (fun i => i < w8.heap.size) w8 x0 x1 y) :
    ∃ A6 d6 w9 A7 d7 w10 A8 d8 w11, (Builtin.append_ #[23, 23] 23 #[.slice none 0 0, .slice (some ⟨b0, off, none⟩) m c]).run Try.prog (w8.drew.alloc (.cells #[x0, x1] 34)) = .ok (.slice A6 m d6) w9 ∧
      (Builtin.append_ #[23, 23] 23 #[.slice A6 m d6, .slice (some ⟨w8.drew.heap.size, 0, none⟩) 1 1]).run Try.prog w9 = .ok (.slice A7 (m + 1) d7) w10 ∧
      (Builtin.append_ #[23, 23] 23 #[.slice A7 (m + 1) d7, .slice Ad (l.length - (m + 2)) d]).run Try.prog w10 = .ok (.slice A8 (l.length - 1) d8) w11 ∧
      OwnC w8.heap.size w11 (.slice A8 (l.length - 1) d8) (l.take m ++ y :: l.drop (m + 2)) ∧ Below w8.heap.size w8 (w8.drew.alloc (.cells #[x0, x1] 34)) ∧ Below w8.heap.size w8 w9 ∧ Below w8.heap.size w8 w10 ∧ Below w8.heap.size w8 w11 := by
  have hb0 : Below w8.heap.size w8 (w8.drew.alloc (.cells #[x0, x1] 34)) := (below_drew (Below.refl _ _) 1).alloc (Nat.le_refl _) _
  have hsz : (w8.drew.alloc (.cells #[x0, x1] 34)).heap.size = w8.heap.size + 1 := by simp
  have hX : Box (w8.drew.alloc (.cells #[x0, x1] 34)) w8.drew.heap.size 34 #[x0, x1] := Box.new _ _ _
  obtain ⟨A6, d6, w9, hr9, hO9, hg9⟩ := OwnC.pushL (OwnA.nil CelE 34 (w8.heap.size + 1) (w8.drew.alloc (.cells #[x0, x1] 34))) (by omega) (ys := l.take m) (by simp; omega) (G := fun i => i < w8.heap.size) (PairsIn.agree (P.takeN m) goodC (Agree.of_below hb0 fun i hi => hi)) (fun i hi => ⟨by omega, fun e => by cases e⟩) 23 c
  have hg9' : Below (w8.heap.size + 1) (w8.drew.alloc (.cells #[x0, x1] 34)) w9 := own_by (by omega) (fun g e => by cases e) hg9
  have hb9 : Below w8.heap.size w8 w9 := hb0.trans (hg9'.mono (by omega))
  have hX9 := hX.below hg9' (Nat.lt_succ_self w8.heap.size)
  rw [List.length_nil, Nat.zero_add, List.length_take, Nat.min_eq_left (by omega)] at hr9 hO9
  rw [List.nil_append] at hO9
  have hs9 := hg9'.size
  have hPy : PairsIn CelE (fun i => i ≤ w8.heap.size) w9 (some ⟨w8.drew.heap.size, 0, none⟩) [y] := fun _ => ⟨w8.drew.heap.size, 0, rfl, Nat.le_refl w8.heap.size, fun k hk => by
    obtain rfl : k = 0 := by simpa using hk
    exact ⟨x0, x1, (hX9.cell 0).trans (by simp), (hX9.cell 1).trans (by simp), goodC.mono (goodC.agree hx (Agree.of_below hb9 fun i hi => hi)) fun i hi => Nat.le_of_lt hi⟩⟩
  obtain ⟨A7, d7, w10, hr10, hO10, hg10⟩ := OwnC.pushL hO9 (by omega) (ys := [y]) (by simp; omega) (G := fun i => i ≤ w8.heap.size) hPy (fun i hi => ⟨by omega, fun e => by have := hO9.2 _ e; omega⟩) 23 1
  have hb10 : Below w8.heap.size w8 w10 := hb9.trans ((OwnA.below hO9 (by omega) hg10).mono (by omega))
  have hs10 := hg10.size
  rw [List.length_take, Nat.min_eq_left (by omega), List.length_singleton] at hr10 hO10
  obtain ⟨A8, d8, w11, hr11, hO11, hg11⟩ := OwnC.pushL hO10 (by omega) (ys := l.drop (m + 2)) (by simp; omega) (G := fun i => i < w8.heap.size) (PairsIn.agree PD goodC (Agree.of_below hb10 fun i hi => hi)) (fun i hi => ⟨by omega, fun e => by have := hO10.2 _ e; omega⟩) 23 d
  have hb11 : Below w8.heap.size w8 w11 := hb10.trans ((OwnA.below hO10 (by omega) hg11).mono (by omega))
  have e1 : (l.take m ++ [y]).length = m + 1 := by simp; omega
  rw [e1, List.length_drop, show m + 1 + (l.length - (m + 2)) = l.length - 1 by omega] at hr11 hO11
  refine ⟨A6, d6, w9, A7, d7, w10, A8, d8, w11, hr9, hr10, hr11, ?_, hb0, hb9, hb10, hb11⟩
  rw [List.append_assoc] at hO11
  exact hO11.lower (by omega)
end
end Go.Proofs.Yteeamiacplfcmaa
