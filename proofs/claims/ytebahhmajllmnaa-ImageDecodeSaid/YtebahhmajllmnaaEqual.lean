/-
  bytes.Equal of two slices that are not empty; the bytes that begin an encoding.
-/
import Derived.Test.YtebahhmajllmnaaRefEnc
namespace Go.Proofs.Ytebahhmajllmnaa
open Go.RowKit
set_option linter.unusedVariables false
set_option linter.unusedSimpArgs false

theorem conv_bys (A : Option Addr) (c : Nat) (bs : List UInt8) (w : World) (h : Bys w A bs) (hp : 0 < bs.length) : (convert 22 9 (.slice A bs.length c)).run Try.prog w = .ok (.string ⟨bs.toArray⟩) w := by
  obtain ⟨b, off, rfl, _, hc⟩ := h hp
  have hx : (bs.map fun x => (x.toNat : Int)).length = bs.length := by simp
  rw [run_convert_bytes_arg (P := Try.prog) w 22 5 Try.underlying22 Try.underlying5 b off bs.length c (bs.map fun x => (x.toNat : Int)) hx (fun i hi => by
    rw [hc i hi]
    simp [u8v, hi]) 9 Try.underlying9]
  congr 2
  unfold strOfNums
  rw [List.map_map]
  congr 2
  have e : ((fun n : Int => UInt8.ofNat n.toNat) ∘ fun x : UInt8 => (x.toNat : Int)) = id := by
    funext x
    simp
  rw [e, List.map_id]
theorem equal_any (A B : Option Addr) (c d : Nat) (xs ys : List UInt8) (w : World) (hx : Bys w A xs) (hy : Bys w B ys) (hp : 0 < xs.length) (hq : 0 < ys.length) :
    Calls Try.prog 49 #[.slice A xs.length c, .slice B ys.length d] w fun e w' => e = .returned (.bool (xs == ys)) ∧ w' = w := by
  have h1 := conv_bys A c xs w hx hp
  have h2 := conv_bys B d ys w hy hq
  clear hx hy hp hq
  go_enter Try.func49, Try.ntmps49
  go_wp2_with fail
  go_ret
  exact ⟨rfl, rfl⟩
theorem or_bytes (x y : Nat) (hx : x ≤ 255) (hy : y ≤ 255) : bits BinOp.or IntKind.i64 ((x : Int) * 256) (y : Int) = ((x * 256 + y : Nat) : Int) := by
  have h : x * 256 ||| y = x * 256 + y := by
    have := Nat.two_pow_add_eq_or_of_lt (i := 8) (b := y) (by omega) x
    rw [Nat.mul_comm] at this
    exact this.symm
  have e : ∀ z : Nat, z < 2 ^ 64 → (BitVec.ofInt 64 (z : Int)).toNat = z := fun z hz => by
    rw [BitVec.ofInt_natCast, BitVec.toNat_ofNat, Nat.mod_eq_of_lt hz]
  show IntKind.i64.wrap ((BitVec.ofInt 64 ((x : Int) * 256) ||| BitVec.ofInt 64 (y : Int)).toNat : Int) = _
  rw [BitVec.toNat_or, show (x : Int) * 256 = ((x * 256 : Nat) : Int) by simp, e _ (by omega), e _ (by omega), h]
  exact IntWalk.i64_in _ (by omega)
/-- what is read must have this encoding -/
def decEnd (W H : Nat) (b : List UInt8) : Option Dec → Option (Nat × Nat × (Nat → Bool))
  | none => none
  | some e => if encode W H e.f = b then some (W, H, e.f) else none
/-- the bytes of an encoding: 'none' where they encode nothing -/
def decodeB (b : List UInt8) : Option (Nat × Nat × (Nat → Bool)) :=
  if b.length < 4 then none else
  let W := (b.getD 0 0).toNat * 256 + (b.getD 1 0).toNat
  let H := (b.getD 2 0).toNat * 256 + (b.getD 3 0).toNat
  if 1 ≤ W ∧ W ≤ 512 ∧ 1 ≤ H ∧ H ≤ 512 then
    decEnd W H b (decGo (W * H) (some ⟨0, false, fun _ => false⟩) (b.drop 4))
  else none
def DecPost (w : World) (b : List UInt8) (e : Ending) (w' : World) : Prop :=
  match decodeB b with
  | none => e = .returned (.tuple #[zeroIm, .bool false]) ∧ Below w.heap.size w w'
  | some (W, H, f) => Fresh2 w W H (pack (W * H) f) (.bool true) e w'
theorem dec_none {w : World} {b : List UInt8} (h : decodeB b = none) {e : Ending} {w' : World} (h1 : e = .returned (.tuple #[zeroIm, .bool false])) (h2 : Below w.heap.size w w') : DecPost w b e w' := by
  unfold DecPost
  rw [h]
  exact ⟨h1, h2⟩
theorem dec_some {w : World} {b : List UInt8} {W H : Nat} {f : Nat → Bool} (h : decodeB b = some (W, H, f)) {e : Ending} {w' : World} (h1 : Fresh2 w W H (pack (W * H) f) (.bool true) e w') : DecPost w b e w' := by
  unfold DecPost
  rw [h]
  exact h1
theorem decGo_cons (n : Nat) (d : Dec) (b : List UInt8) {k : Nat} (hk : k < b.length) : decGo n (some d) (b.drop k) = decGo n (d.step n (b.getD k 0).toNat) (b.drop (k + 1)) := by
  rw [List.drop_eq_getElem_cons hk]
  show decGo n (d.step n (b[k]).toNat) _ = _
  simp [hk]
theorem dec_short {w : World} {b : List UInt8} (h : b.length < 4) {e : Ending} {w' : World} (h1 : e = .returned (.tuple #[zeroIm, .bool false])) (h2 : Below w.heap.size w w') : DecPost w b e w' := by
  unfold DecPost
  rw [show decodeB b = none by unfold decodeB; rw [if_pos h]]
  exact ⟨h1, h2⟩
end Go.Proofs.Ytebahhmajllmnaa
