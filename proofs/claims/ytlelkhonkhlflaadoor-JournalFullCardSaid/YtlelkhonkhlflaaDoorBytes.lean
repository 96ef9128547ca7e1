/-
  bytes.Equal, bytes.HasPrefix, bytes.Count of a byte.
-/
import Derived.Test.YtlelkhonkhlflaaDoorLink
import Derived.Shelf.Bytes.SlCountOne
import Derived.Lib.SlBytesConst
namespace Go.Proofs.YtlelkhonkhlflaaDoor
open Go.RowKit
set_option linter.unusedVariables false
set_option linter.unusedSimpArgs false

theorem conv_bys (A : Option Addr) (c : Nat) (bs : List UInt8) (w : World) (h : Bys w A bs) (hp : 0 < bs.length) : (convert 22 9 (.slice A bs.length c)).run Tryd.prog w = .ok (.string ⟨bs.toArray⟩) w := by
  obtain ⟨b, off, rfl, _, hc⟩ := h hp
  have hx : (bs.map fun x => (x.toNat : Int)).length = bs.length := by simp
  rw [run_convert_bytes_arg (P := Tryd.prog) w 22 5 Tryd.underlying22 Tryd.underlying5 b off bs.length c (bs.map fun x => (x.toNat : Int)) hx (fun i hi => by
    rw [hc i hi]
    simp [u8v, hi]) 9 Tryd.underlying9]
  congr 2
  unfold strOfNums
  rw [List.map_map]
  congr 2
  have e : ((fun n : Int => UInt8.ofNat n.toNat) ∘ fun x : UInt8 => (x.toNat : Int)) = id := by
    funext x
    simp
  rw [e, List.map_id]
theorem equal_any (A B : Option Addr) (c d : Nat) (xs ys : List UInt8) (w : World) (hx : Bys w A xs) (hy : Bys w B ys) (hp : 0 < xs.length) (hq : 0 < ys.length) :
    Calls Tryd.prog 45 #[.slice A xs.length c, .slice B ys.length d] w fun e w' => e = .returned (.bool (xs == ys)) ∧ w' = w := by
  have h1 := conv_bys A c xs w hx hp
  have h2 := conv_bys B d ys w hy hq
  clear hx hy hp hq
  go_enter Tryd.func45, Tryd.ntmps45
  go_wp2_with fail
  go_ret
  exact ⟨rfl, rfl⟩
/-- the first bytes -/
theorem bys_take {w : World} {A : Option Addr} {us : List UInt8} (h : Bys w A us) (n : Nat) : Bys w A (us.take n) := fun hp => by
  rw [List.length_take] at hp
  obtain ⟨b, off, e, hlt, hc⟩ := h (by omega)
  refine ⟨b, off, e, hlt, fun k hk => ?_⟩
  rw [List.length_take] at hk
  rw [hc k (by omega), List.getD_eq_getElem?_getD, List.getD_eq_getElem?_getD, List.getElem?_take_of_lt (by omega)]
theorem bys_drop {w : World} {b off : Nat} {us : List UInt8} (h : Bys w (some ⟨b, off, none⟩) us) (n : Nat) : Bys w (some ⟨b, off + n, none⟩) (us.drop n) := fun hp => by
  rw [List.length_drop] at hp
  obtain ⟨b', off', e, hlt, hc⟩ := h (by omega)
  injection e with e
  injection e with e1 e2 e3
  subst e1
  subst e2
  refine ⟨b, off + n, rfl, hlt, fun k hk => ?_⟩
  rw [List.length_drop] at hk
  rw [Nat.add_assoc, hc (n + k) (by omega), List.getD_eq_getElem?_getD, List.getD_eq_getElem?_getD, List.getElem?_drop]
theorem hasPrefix_any (A B : Option Addr) (c d : Nat) (xs ys : List UInt8) (w : World) (hx : Bys w A xs) (hy : Bys w B ys) (hl : ys.length ≤ xs.length) (hc : xs.length ≤ c) (hp : 0 < ys.length) (hm : xs.length ≤ 1000000) :
    Calls Tryd.prog 32 #[.slice A xs.length c, .slice B ys.length d] w fun e w' => e = .returned (.bool (xs.take ys.length == ys)) ∧ w' = w := by
  have hE := equal_any A B c d (xs.take ys.length) ys w (bys_take hx _) hy (by rw [List.length_take]; omega) hp
  rw [List.length_take, show min ys.length xs.length = ys.length by omega] at hE
  have HE := hide hE
  obtain ⟨b, off, rfl, _, _⟩ := hx (by omega)
  generalize hr : (xs.take ys.length == ys) = r at HE
  have HR := hide hr
  clear hE hx hy hr
  go_enter Tryd.func32, Tryd.ntmps32
  go_wp2_with fail
  refine HE.out.mono ?_
  rintro en w1 ⟨rfl, rfl⟩
  go_wp2_with fail
  go_ret
  exact ⟨rfl, rfl⟩
theorem countByte_zeros (n : Nat) : Lib.countByte (Lib.bytesOf (List.replicate n (0 : Int))) ((0 : Int).toNat.toUInt8) = n := by
  unfold Lib.countByte Lib.bytesOf
  rw [List.map_replicate]
  exact List.count_replicate_self
set_option maxRecDepth 100000 in
theorem count_zero (b off c b2 d n : Nat) (w : World) (hx : Bys w (some ⟨b, off, none⟩) (List.replicate n 0)) (hn : 0 < n) (h2 : w.cell? ⟨b2, 0, none⟩ = some (.int .u8 0)) :
    Calls Tryd.prog 49 #[.slice (some ⟨b, off, none⟩) n c, .slice (some ⟨b2, 0, none⟩) 1 d] w fun e w' => e = .returned (.int .i64 (n : Int)) ∧ w' = w := by
  have HC := hide (Lib.run_countSlice (P := Tryd.prog) w b off n c (List.replicate n (0 : Int)) (List.length_replicate ..) (fun i hi => by
    obtain ⟨b', off', e, hlt, hc⟩ := hx (by rw [List.length_replicate]; exact hn)
    injection e with e
    injection e with e1 e2 e3
    rw [e1, e2, hc i (by rw [List.length_replicate]; exact hi)]
    simp [u8v, List.getD_eq_getElem?_getD, List.getElem?_replicate, hi]) 0)
  rw [countByte_zeros] at HC
  clear hx
  go_enter Tryd.func49, Tryd.ntmps49
  go_wp2_with fail
  rw [run_callFunc_extern Tryd.func57 (by kernel_rfl) (by kernel_rfl) (by kernel_rfl) (e := Extern.BytealgCount.count) (by kernel_rfl), HC.out]
  simp only [Result.andThen]
  rw [Oper.upon_value]
  go_wp2_with fail
  go_ret
  exact ⟨rfl, rfl⟩
end Go.Proofs.YtlelkhonkhlflaaDoor
