/-
  Both receivers take one message.
-/
import Derived.Test.YthhelhggggbaiaaPlainR
namespace Go.Proofs.Ythhelhggggbaiaa
open Go.RowKit
set_option linter.unusedVariables false
set_option linter.unusedSimpArgs false

def REnd (F : Nat → Prop) (w : World) (r W : Nat) (H : Nat → Option (List UInt8)) (g : Nat) (last : Int) (n : Nat) (ok : Bool) (rn : Int) (e : Ending) (w' : World) : Prop :=
  e = .returned (.tuple #[.agg #[.bool ok, .int .i64 rn, .bool false, .slice none 0 0], .bool ok]) ∧ ∃ F', Rcv F' w' r W (gots H g) (earlyOf H g) last n ∧ (∀ i, F' i → F i ∨ w.heap.size ≤ i) ∧ Chg F w w'
def TEnd (F : Nat → Prop) (w : World) (t W : Nat) (L : List Msg) (ok : Bool) (rn : Int) (e : Ending) (w' : World) : Prop :=
  e = .returned (.tuple #[.agg #[.bool ok, .int .i64 rn, .bool false, .slice none 0 0], .bool ok]) ∧ ∃ F', RefR F' w' t W L ∧ (∀ i, F' i → F i ∨ w.heap.size ≤ i) ∧ Chg F w w'
/-- the accepted frames are short -/
def Short (H : Nat → Option (List UInt8)) (B : Nat) : Prop := ∀ n bs, H n = some bs → bs.length ≤ B
theorem gots_short {H : Nat → Option (List UInt8)} {B g : Nat} (h : Short H B) : ∀ k, k < (gots H g).length → ((gots H g).getD k []).length ≤ B := fun k hk => by
  rw [gots_length] at hk
  rw [gots_getD _ _ _ hk]
  rcases hq : H k with _ | bs
  · simp
  · exact h k bs hq
theorem alike_HL {L : List Msg} {H : Nat → Option (List UInt8)} {W g : Nat} {last : Int} (h : Alike L H W g last) : HL L = H := funext fun n => (h.same n).symm

theorem both {L : List Msg} {H : Nat → Option (List UInt8)} {W g : Nat} {last : Int} (h : Alike L H W g last) (hW : W ≤ 8) (hg : g ≤ 10000) (hL : L.length ≤ 10000) (n : Nat) (hn : n ≤ 10000) (hsh : Short H 10)
    (ack lst : Bool) (num : Int) (hnum : InR num) (c : Nat) (data : List UInt8) (hd : data.length ≤ 10) :
    ∃ (L' : List Msg) (H' : Nat → Option (List UInt8)) (g' : Nat) (last' : Int) (ok : Bool) (rn : Int), Alike L' H' W g' last' ∧ Short H' 10 ∧ g' ≤ g + W ∧ L'.length ≤ L.length + 1 ∧
      (∀ (F : Nat → Prop) (w : World) (r : Nat) (A : Option Addr), Rcv F w r W (gots H g) (earlyOf H g) last n → Bys w A data → Calls Try.prog 21 #[.pointer (some ⟨r, 0, none⟩), .agg #[.bool ack, .int .i64 num, .bool lst, .slice A data.length c]] w (REnd F w r W H' g' last' (n + 1) ok rn)) ∧
      (∀ (F : Nat → Prop) (w : World) (t : Nat) (A : Option Addr), RefR F w t W L → Bys w A data → Calls Try.prog 24 #[.pointer (some ⟨t, 0, none⟩), .agg #[.bool ack, .int .i64 num, .bool lst, .slice A data.length c]] w (TEnd F w t W L' ok rn)) := by
  have hlo := h.lastLo
  have hhi := h.lastHi
  have hmb : ∀ k, k < L.length → InR (L.getD k zeroM).num := fun k hk => by
    have h1 := h.nonneg k hk
    have h2 := h.numBd hk
    unfold InR
    omega
  have hgot : ∀ k : Nat, k < g → (hasL L (k : Int)).isSome = true := fun k hk => by rw [h.hasIs]; exact h.got k hk
  have hnext : hasL L (g : Int) = none := by
    have := h.hasIs g
    rw [h.next] at this
    rcases hq : hasL L (g : Int) with _ | x
    · rfl
    · rw [hq] at this; cases this
  by_cases hP : RefIgn L W g ack num lst data.length
  · refine ⟨L, H, g, last, false, 0, h, hsh, by omega, by omega, fun F w r A hR hb => ?_, fun F w t A hT hb => ?_⟩
    · refine (receive_no hR (by rw [gots_length]; omega) hW hlo (by omega) ack lst num hnum A data.length c (by unfold maxLen; omega) (by rw [gots_length]; exact (h.ign (by omega) ack lst num data.length).2 hP)).mono fun e w' hp => ?_
      obtain ⟨he, hB⟩ := hp
      exact ⟨he, F, (hR.kept hB).monoN (by omega), fun i hi => .inl hi, Chg.of_below hB _⟩
    · refine (refreceive_any hT (by omega) hW ack lst num hnum A c data hb (by omega) hmb g (by omega) hgot hnext 0 (by omega) (fun hn => absurd hP hn)).mono fun e w' hp => ?_
      rcases hp with ⟨_, he, hB⟩ | ⟨hn, _⟩
      · exact ⟨he, F, hT.kept hB, fun i hi => .inl hi, Chg.of_below hB _⟩
      · exact absurd hP hn
  · have hackf : ack = false := by
      cases ack
      · rfl
      · exact absurd (.inl (.inl rfl)) hP
    subst hackf
    have hn0 : 0 ≤ num := by
      rcases Int.lt_or_le num 0 with hlt | hge
      · exact absurd (.inl (.inr (.inl hlt))) hP
      · exact hge
    obtain ⟨m, rfl⟩ := Int.eq_ofNat_of_zero_le hn0
    have hwin : (m : Int) < (g : Int) + (W : Int) := by
      rcases Int.lt_or_le (m : Int) ((g : Int) + (W : Int)) with hlt | hge
      · exact hlt
      · exact absurd (.inl (.inr (.inr (.inl hge)))) hP
    obtain ⟨g', hA', hgg, hgW⟩ := h.step m lst data hP
    have hsh' : Short (recvH H m data) 10 := fun k bs hk => by
      unfold recvH at hk
      split at hk
      · exact hsh k bs hk
      · unfold putH at hk
        split at hk
        · injection hk with hk; rw [← hk]; exact hd
        · exact hsh k bs hk
    have hrl : (recvL L (m : Int) lst data).length ≤ L.length + 1 := by
      unfold recvL
      split
      · omega
      · simp
    refine ⟨_, _, g', _, true, (g' : Int), hA', hsh', hgW, hrl, fun F w r A hR hb => ?_, fun F w t A hT hb => ?_⟩
    · exact receive_yes hR (by omega) hW hlo (by omega) (by omega) lst m (by omega) A c data hb (by omega) (fun hi => hP ((h.ign (by omega) false lst (m : Int) data.length).1 hi)) h.got g' hA'.got hA'.next hgg (by omega)
    · refine (refreceive_any hT (by omega) hW false lst (m : Int) hnum A c data hb (by omega) hmb g (by omega) hgot hnext g' (by omega) (fun _ => ⟨fun k hk => by rw [hA'.hasIs]; exact hA'.got k hk, by
        have := hA'.hasIs g'
        rw [hA'.next] at this
        rcases hq : hasL (recvL L (m : Int) lst data) (g' : Int) with _ | x
        · rfl
        · rw [hq] at this; cases this⟩)).mono fun e w' hp => ?_
      rcases hp with ⟨hn, _⟩ | ⟨_, hacc⟩
      · exact absurd hn hP
      · exact hacc
end Go.Proofs.Ythhelhggggbaiaa
