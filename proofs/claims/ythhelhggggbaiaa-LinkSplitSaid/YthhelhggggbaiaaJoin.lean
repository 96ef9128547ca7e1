/-
  Join: the concatenation of the frames.
-/
import Derived.Test.YthhelhggggbaiaaShelf
import Derived.Test.YthhelhggggbaiaaSplitW
namespace Go.Proofs.Ythhelhggggbaiaa
open Go.ChangeShapes Go.WideShapes Go.ChangeAt Go.RowKit
set_option linter.unusedVariables false
set_option linter.unusedSimpArgs false

theorem holds_of_bysIn {F : Nat → Prop} {w : World} {A : Option Addr} {bs : List UInt8} (c : Nat) (h : BysIn F w A bs) : Lib.HoldsBytes w (.slice A bs.length c) bs := by
  refine ⟨A, c, rfl, fun e => ?_, fun a ha i x hx => ?_⟩
  · by_cases hp : 0 < bs.length
    · obtain ⟨b, off, e2, _⟩ := h hp
      rw [e] at e2
      cases e2
    · exact List.length_eq_zero_iff.1 (by omega)
  · have hi : i < bs.length := (List.getElem?_eq_some_iff.1 hx).1
    obtain ⟨b, off, e2, _, hc⟩ := h (by omega)
    rw [ha] at e2
    injection e2 with e2
    subst e2
    rw [add_off, hc i hi, List.getD_eq_getElem?_getD, hx]
    rfl
theorem parts_of_frIn {F : Nat → Prop} {w : World} {b off : Nat} {fs : List (List UInt8)} (h : FrIn F w (some ⟨b, off, none⟩) fs) (hp : 0 < fs.length) : ∃ vs, Lib.PartsAt w ⟨b, off, none⟩ vs fs := by
  obtain ⟨b2, o2, e, _, hc⟩ := h hp
  injection e with e
  injection e with e1 e2
  subst e1 e2
  have key : ∀ k, ∃ v : Value, k < fs.length → w.cell? ⟨b, off + k, none⟩ = some v ∧ Lib.HoldsBytes w v (fs.getD k []) := fun k => by
    by_cases hk : k < fs.length
    · obtain ⟨Ak, ck, h1, h2, h3⟩ := hc k hk
      exact ⟨_, fun _ => ⟨h1, holds_of_bysIn ck h2⟩⟩
    · exact ⟨.int .u8 0, fun h => absurd h hk⟩
  obtain ⟨f, hf⟩ := Classical.axiomOfChoice key
  have hlen : ((List.range fs.length).map f).length = fs.length := by simp
  refine ⟨(List.range fs.length).map f, hlen, fun i v hv => ?_, fun i v l hv hl => ?_⟩
  · have hi : i < fs.length := by rw [← hlen]; exact (List.getElem?_eq_some_iff.1 hv).1
    rw [add_off, (hf i hi).1]
    rw [List.getElem?_map, List.getElem?_range hi] at hv
    exact hv
  · have hi : i < fs.length := (List.getElem?_eq_some_iff.1 hl).1
    rw [List.getElem?_map, List.getElem?_range hi] at hv
    injection hv with hv
    have h2 := (hf i hi).2
    rw [List.getD_eq_getElem?_getD, hl] at h2
    rw [← hv]
    exact h2
theorem lens_flat (fs : List (List UInt8)) : Lib.lens fs = fs.flatten.length := by rw [List.length_flatten]; rfl
theorem join_flat (fs : List (List UInt8)) : Lib.join fs [] = fs.flatten := by
  unfold Lib.join
  induction fs with
  | nil => rfl
  | cons x r ih =>
    cases r with
    | nil => simp [List.intercalate, List.intersperse]
    | cons y s =>
      simp only [List.intercalate, List.intersperse, List.flatten_cons, List.nil_append] at ih ⊢
      rw [ih]
theorem bys_of_fresh {B : Nat} {w : World} {v : Value} {l : List UInt8} (h : Lib.FreshBytes B w v l) : ∃ A c, v = .slice A l.length c ∧ Bys w A l ∧ l.length ≤ c := by
  obtain ⟨g, cap, zs, rfl, _, hlc, _, hz, hr, hb, hc, _⟩ := h
  refine ⟨_, cap, rfl, fun hp => ⟨g, 0, rfl, ?_, fun k hk => ?_⟩, hlc⟩
  · exact World.block_lt_of_cell? w _ (hc 0 (by omega))
  · rw [Nat.zero_add, hc k (by omega)]
    have hkz : k < zs.length := by omega
    have e1 : zs.getD k 0 = zs[k] := by simp [hkz]
    have hb2 : l.getD k 0 = UInt8.ofNat zs[k].toNat := by
      rw [← hb]
      unfold Lib.bytesOf
      simp [List.getD_eq_getElem?_getD, hkz, hk]
    have h3 := hr _ (List.getElem_mem hkz)
    rw [e1, hb2]
    unfold u8v
    rw [UInt8.toNat_ofNat', Nat.mod_eq_of_lt (by omega)]
    congr 2
    omega
def JoinPost (w : World) (fs : List (List UInt8)) (e : Ending) (w' : World) : Prop :=
  ∃ A c, e = .returned (.slice A fs.flatten.length c) ∧ Bys w' A fs.flatten ∧ Below w.heap.size w w'
theorem bytesJoin {F : Nat → Prop} (A : Option Addr) (c : Nat) (fs : List (List UInt8)) (w : World) (hf : FrIn F w A fs) (hc : fs.length ≤ c) (h1 : 1 ≤ fs.length) (hm : fs.length ≤ 100000) (hs : fs.flatten.length ≤ 100000) :
    Calls Try.prog 39 #[.slice A fs.length c, .slice none 0 0] w (JoinPost w fs) := by
  obtain ⟨b, off, rfl, hF, hcell⟩ := hf (by omega)
  have hfs : FrIn F w (some ⟨b, off, none⟩) fs := hf
  by_cases h2 : 2 ≤ fs.length
  · obtain ⟨vs, hv⟩ := parts_of_frIn hfs (by omega)
    refine (Try.bytes_Join_many b off fs.length c vs fs (.slice none 0 0) [] w rfl h2 hv hc ⟨none, 0, rfl, fun _ => rfl, fun a ha => (by cases ha)⟩ (by omega) (by rw [lens_flat, List.length_nil, Nat.zero_mul]; omega)).mono fun e w' h => ?_
    obtain ⟨v', rfl, h3, h4⟩ := h
    rw [join_flat] at h3
    obtain ⟨A2, c2, rfl, h5, _⟩ := bys_of_fresh h3
    exact ⟨A2, c2, rfl, h5, h4⟩
  · obtain ⟨l0, rfl⟩ : ∃ l0, fs = [l0] := by
      cases fs with
      | nil => simp at h1
      | cons x r =>
        cases r with
        | nil => exact ⟨x, rfl⟩
        | cons y s => simp at h2
    have hfl : [l0].flatten = l0 := by simp
    unfold JoinPost
    rw [hfl]
    rw [hfl] at hs
    obtain ⟨Ak, ck, g1, g2, g3⟩ := hcell 0 (by simp)
    have g1' : w.cell? ⟨b, off, none⟩ = some (.slice Ak l0.length ck) := g1
    have g2' : BysIn F w Ak l0 := g2
    by_cases h0 : 0 < l0.length
    · obtain ⟨b2, o2, rfl, hF2, hc2⟩ := g2' h0
      refine (Try.bytes_Join_one b off c ⟨b2, o2, none⟩ ck l0 (.slice none 0 0) w g1' (fun i x hx => ?_) h0 (by omega)).mono fun e w' h => ?_
      · have hi : i < l0.length := (List.getElem?_eq_some_iff.1 hx).1
        rw [add_off, hc2 i hi, List.getD_eq_getElem?_getD, hx]
        rfl
      · obtain ⟨v', rfl, h3, h4⟩ := h
        obtain ⟨A2, c2, rfl, h5, _⟩ := bys_of_fresh h3
        exact ⟨A2, c2, rfl, h5, h4⟩
    · obtain rfl := List.length_eq_zero_iff.1 (show l0.length = 0 by omega)
      refine (Try.bytes_Join_one_empty b off c Ak ck (.slice none 0 0) w g1').mono fun e w' h => ?_
      obtain ⟨rfl, rfl⟩ := h
      exact ⟨none, 0, rfl, fun h => absurd h (by simp), Below.refl _ _⟩
theorem join_any {F : Nat → Prop} (A : Option Addr) (c : Nat) (fs : List (List UInt8)) (w : World) (hf : FrIn F w A fs) (hc : fs.length ≤ c) (h1 : 1 ≤ fs.length) (hm : fs.length ≤ 100000) (hs : fs.flatten.length ≤ 100000) :
    Calls Try.prog 30 #[.slice A fs.length c] w (JoinPost w fs) := by
  have HJ := bytesJoin A c fs w hf hc h1 hm hs
  unfold JoinPost at HJ ⊢
  clear hf hs
  generalize fs.flatten = ys at HJ ⊢
  have HJ := hide HJ
  go_enter Try.func30, Try.ntmps30
  go_wp2_with fail
  refine HJ.out.mono ?_
  rintro e w1 ⟨A2, c2, rfl, hb, hB⟩
  have HB := hide hb
  have HBL := hide hB
  clear hb hB
  go_wp2_with fail
  go_ret
  exact ⟨A2, c2, rfl, HB.out, HBL.out⟩
end Go.Proofs.Ythhelhggggbaiaa
