/-
  What holds in a network that carries one list of frames: plain; and a message of it that is received.
-/
import Derived.Test.YthhelhggggbaiaaBoth
namespace Go.Proofs.Ythhelhggggbaiaa
open Go.RowKit
set_option linter.unusedVariables false
set_option linter.unusedSimpArgs false

/-- the receiver has nothing but the frames -/
structure GotP (fs : List (List UInt8)) (H : Nat → Option (List UInt8)) (g : Nat) (last : Int) : Prop where
  vals : ∀ k bs, H k = some bs → k < fs.length ∧ bs = fs.getD k []
  got : ∀ k, k < g → (H k).isSome = true
  next : H g = none
  last_ : last = if (H (fs.length - 1)).isSome then ((fs.length - 1 : Nat) : Int) else -1
/-- a message of the network: a frame, or an acknowledgement of what was received -/
def GoodM (fs : List (List UInt8)) (g : Nat) (m : Msg) : Prop :=
  (m.ack = true ∧ 0 ≤ m.num ∧ m.num ≤ (g : Int) ∧ m.data = []) ∨ (m.ack = false ∧ ∃ k, k < fs.length ∧ m.num = (k : Int) ∧ m.data = fs.getD k [] ∧ m.last = decide (k = fs.length - 1))
theorem GoodM.mono {fs : List (List UInt8)} {g g' : Nat} {m : Msg} (h : GoodM fs g m) (hg : g ≤ g') : GoodM fs g' m := by
  rcases h with ⟨h1, h2, h3, h4⟩ | h
  · exact .inl ⟨h1, h2, by omega, h4⟩
  · exact .inr h
theorem gotP_start {fs : List (List UInt8)} : GotP fs HA 0 (-1) := ⟨fun k bs h => (by cases h), fun k hk => absurd hk (by omega), rfl, rfl⟩
theorem GotP.le {fs : List (List UInt8)} {H : Nat → Option (List UInt8)} {g : Nat} {last : Int} (h : GotP fs H g last) : g ≤ fs.length := by
  rcases Nat.lt_or_ge fs.length g with hlt | hge
  · obtain ⟨bs, hbs⟩ := Option.isSome_iff_exists.1 (h.got _ hlt)
    have := (h.vals _ _ hbs).1
    omega
  · exact hge
theorem GotP.gots {fs : List (List UInt8)} {H : Nat → Option (List UInt8)} {g : Nat} {last : Int} (h : GotP fs H g last) : gots H g = fs.take g := by
  have hle := h.le
  apply List.ext_getElem
  · rw [gots_length, List.length_take]; omega
  · intro i h1 h2
    rw [gots_length] at h1
    obtain ⟨bs, hbs⟩ := Option.isSome_iff_exists.1 (h.got _ h1)
    have hv := (h.vals _ _ hbs).2
    have e1 := gots_getD H g i h1
    rw [hbs, Option.getD_some, hv, List.getD_eq_getElem?_getD, List.getElem?_eq_getElem (by rw [gots_length]; exact h1), Option.getD_some] at e1
    rw [e1, List.getD_eq_getElem?_getD, List.getElem?_eq_getElem (by omega), Option.getD_some, List.getElem_take]
theorem GotP.lastBd {fs : List (List UInt8)} {H : Nat → Option (List UInt8)} {g : Nat} {last : Int} (h : GotP fs H g last) : -1 ≤ last ∧ last ≤ (fs.length : Int) := by
  rw [h.last_]
  split <;> omega
theorem GotP.whole {fs : List (List UInt8)} {H : Nat → Option (List UInt8)} {g : Nat} {last : Int} (h : GotP fs H g last) (h1 : 1 ≤ fs.length) (hg : g = fs.length) : (decide (0 ≤ last) && decide (last < (g : Int))) = true := by
  have := h.got (fs.length - 1) (by omega)
  rw [h.last_, if_pos this, Bool.and_eq_true, decide_eq_true_eq, decide_eq_true_eq]
  omega

theorem recv_good {fs : List (List UInt8)} {H : Nat → Option (List UInt8)} {g W : Nat} {last : Int} (hG : GotP fs H g last) (hn1 : 1 ≤ fs.length) (hn : fs.length ≤ 8) (hb : ∀ k, k < fs.length → (fs.getD k []).length ≤ 10) (hW1 : 1 ≤ W) (hW : W ≤ 8)
    {x : Msg} (hx : GoodM fs g x) (n : Nat) (hnn : n ≤ 10000) (c : Nat) :
    ∃ (H' : Nat → Option (List UInt8)) (g' : Nat) (last' : Int) (ok : Bool) (rn : Int), GotP fs H' g' last' ∧ g ≤ g' ∧ (ok = true → rn = (g' : Int)) ∧ (x.ack = false → x.num < (g : Int) + (W : Int) → ok = true) ∧ (x.ack = false → x.num = (g : Int) → g < g') ∧
      (∀ (F : Nat → Prop) (w : World) (r : Nat) (A : Option Addr), Rcv F w r W (Go.Proofs.Ythhelhggggbaiaa.gots H g) (earlyOf H g) last n → Bys w A x.data → Calls Try.prog 21 #[.pointer (some ⟨r, 0, none⟩), .agg #[.bool x.ack, .int .i64 x.num, .bool x.last, .slice A x.data.length c]] w (REnd F w r W H' g' last' (n + 1) ok rn)) := by
  have hle := hG.le
  have hlb := hG.lastBd
  have hnum : InR x.num := by
    unfold InR
    rcases hx with ⟨_, h1, h2, _⟩ | ⟨_, k, h1, h2, _⟩ <;> omega
  have hdl : x.data.length ≤ 10 := by
    rcases hx with ⟨_, _, _, h⟩ | ⟨_, k, h1, _, h, _⟩
    · rw [h]; simp
    · rw [h]; exact hb k h1
  by_cases hI : Ign W g (earlyOf H g) last x.ack x.num x.last x.data.length
  · refine ⟨H, g, last, false, 0, hG, Nat.le_refl _, fun e => (by cases e), fun ha hlt => ?_, fun ha hnum => ?_, fun F w r A hR hbb => ?_⟩
    · exfalso
      rcases hx with ⟨h, _⟩ | ⟨_, k, hk, hkn, hkd, hkl⟩
      · rw [ha] at h; cases h
      · rcases hI with (h1 | h1 | h1 | h1 | ⟨h1, h2⟩) | ⟨h1, h2 | ⟨j, hj, hlt2, hs⟩⟩
        · rw [ha] at h1; cases h1
        · omega
        · omega
        · omega
        · have := hG.last_
          split at this <;> omega
        · rw [hkl, decide_eq_true_eq] at h1; omega
        · rw [hkl, decide_eq_true_eq] at h1
          unfold earlyOf at hs
          split at hs
          · obtain ⟨bs, hbs⟩ := Option.isSome_iff_exists.1 hs
            have := (hG.vals _ _ hbs).1
            omega
          · cases hs
    · exfalso
      rcases hx with ⟨h, _⟩ | ⟨_, k, hk, hkn, hkd, hkl⟩
      · rw [ha] at h; cases h
      · rcases hI with (h1 | h1 | h1 | h1 | ⟨h1, h2⟩) | ⟨h1, h2 | ⟨j, hj, hlt2, hs⟩⟩
        · rw [ha] at h1; cases h1
        · omega
        · omega
        · omega
        · have := hG.last_
          split at this <;> omega
        · rw [hkl, decide_eq_true_eq] at h1; omega
        · rw [hkl, decide_eq_true_eq] at h1
          unfold earlyOf at hs
          split at hs
          · obtain ⟨bs, hbs⟩ := Option.isSome_iff_exists.1 hs
            have := (hG.vals _ _ hbs).1
            omega
          · cases hs
    · refine (receive_no hR (by rw [gots_length]; omega) hW hlb.1 (by omega) x.ack x.last x.num hnum A x.data.length c (by unfold maxLen; omega) (by rw [gots_length]; exact hI)).mono fun e w' hp => ?_
      obtain ⟨he, hB⟩ := hp
      exact ⟨he, F, (hR.kept hB).monoN (by omega), fun i hi => .inl hi, Chg.of_below hB _⟩
  · rcases hx with ⟨h, _⟩ | ⟨ha, k, hk, hkn, hkd, hkl⟩
    · exact absurd (.inl (.inl h)) hI
    · have hvals : ∀ j bs, recvH H k x.data j = some bs → j < fs.length ∧ bs = fs.getD j [] := fun j bs hj => by
        unfold recvH at hj
        split at hj
        · exact hG.vals j bs hj
        · unfold putH at hj
          split at hj
          · rename_i e
            injection hj with hj
            rw [← hj, hkd, e]
            exact ⟨hk, rfl⟩
          · exact hG.vals j bs hj
      have hsome : ∀ j, (H j).isSome = true → (recvH H k x.data j).isSome = true := fun j hj => by
        unfold recvH
        split
        · exact hj
        · unfold putH
          split
          · rfl
          · exact hj
      have hself : (recvH H k x.data k).isSome = true := by
        unfold recvH
        split
        · assumption
        · unfold putH; rw [if_pos rfl]; rfl
      have hend : recvH H k x.data fs.length = none := by
        rcases hq : recvH H k x.data fs.length with _ | bs
        · rfl
        · have := (hvals _ _ hq).1
          omega
      obtain ⟨g', hg1, hg2, hg3⟩ := exists_next _ _ hend
      have hgg : g ≤ g' := by
        rcases Nat.lt_or_ge g' g with hlt | hge
        · have := hsome _ (hG.got _ hlt)
          rw [hg2] at this; cases this
        · exact hge
      have hla : recvLast H k x.last last = if (recvH H k x.data (fs.length - 1)).isSome then ((fs.length - 1 : Nat) : Int) else -1 := by
        unfold recvLast recvH
        by_cases hs : (H k).isSome = true
        · rw [if_pos hs, if_pos hs]; exact hG.last_
        · rw [if_neg hs, if_neg hs, hkl]
          unfold putH
          by_cases e : k = fs.length - 1
          · rw [decide_eq_true e, if_pos rfl, if_pos e.symm]; simp [e]
          · have e2 : ¬ fs.length - 1 = k := fun h => e h.symm
            simp only [decide_eq_false e, if_neg e2]; exact hG.last_
      refine ⟨recvH H k x.data, g', recvLast H k x.last last, true, (g' : Int), ⟨hvals, hg1, hg2, hla⟩, hgg, fun _ => rfl, fun _ _ => rfl, fun _ he => ?_, fun F w r A hR hbb => ?_⟩
      · rcases Nat.lt_or_ge g g' with hlt | hge
        · exact hlt
        · obtain rfl : k = g' := by omega
          rw [hg2] at hself; cases hself
      · rw [ha, hkn]
        exact receive_yes hR (by omega) hW hlb.1 (by omega) (by omega) x.last k (by omega) A c x.data hbb (by omega) (by rw [← ha, ← hkn]; exact hI) hG.got g' hg1 hg2 hgg (by omega)
end Go.Proofs.Ythhelhggggbaiaa
