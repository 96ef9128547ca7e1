/-
  digest.number: the bytes of a number, the most significant first.
-/
import Derived.Test.YtlelkhonkhlflaaDoorRot
import Derived.Test.YtlelkhonkhlflaaDoorKeys
import Derived.Maps.AppendAt
namespace Go.Proofs.YtlelkhonkhlflaaDoor
open Go.RowKit
set_option linter.unusedVariables false
set_option linter.unusedSimpArgs false

theorem gives_append {w w' : World} {o : Oper} {a : Act} {v : Value} {x y : Operand} {t1 t2 : TypeId} {xv yv : Value} (ho : o.op = .call { callee := .builtin .append, args := #[x, y], argTypes := #[t1, t2] }) (hx : a.eval x = xv) (hy : a.eval y = yv) (h : (Builtin.append_ #[t1, t2] o.type #[xv, yv]).run Tryd.prog w = .ok v w') : Gives o a w v w' := by
  unfold Gives execOp
  simp only [ho, resolve, invoke, builtin, Sem.run_bind, Sem.run_pure, Result.andThen_ok, List.map_toArray, List.map_cons, List.map_nil, hx, hy, h]
/-- a slice of bytes of the program's own, in a block not below B -/
def OwnBy (B : Nat) (w : World) (v : Value) (bs : List UInt8) : Prop := w.ownsRow B 5 1 v bs.length (bs.map u8v)
theorem OwnBy.nil (B : Nat) (w : World) : OwnBy B w (.slice none 0 0) [] := World.ownsRow_nil w _ _ 1
theorem OwnBy.form {B : Nat} {w : World} {v : Value} {bs : List UInt8} (h : OwnBy B w v bs) : ∃ A c, v = .slice A bs.length c ∧ bs.length ≤ c := by
  rcases h.2 with ⟨rfl, hn⟩ | ⟨g, cap, cur, rfl, _, _, hc, _⟩
  · exact ⟨none, 0, by rw [hn], by omega⟩
  · exact ⟨_, cap, rfl, hc⟩
theorem OwnBy.bys {B : Nat} {w : World} {A : Option Addr} {c : Nat} {bs : List UInt8} (h : OwnBy B w (.slice A bs.length c) bs) : Bys w A bs := fun hp => by
  obtain ⟨g, cap, hv, hg, hR, _⟩ := own_row h hp
  injection hv with e1 e2 e3
  rw [e1]
  exact hR.bys hp
theorem own_by {B : Nat} {w w' : World} {v v' : Value} (hB : B ≤ w.heap.size) (hlo : ∀ g, v.ownBlock = some g → B ≤ g) (hg : w.grownBy w' v.ownBlock) : Below B w w' :=
  ⟨hg.os, hg.tape, hg.output, hg.size, fun i hi => hg.block i (by omega) (fun e => by have := hlo i e.symm; omega)⟩
theorem OwnBy.lo {B : Nat} {w : World} {v : Value} {bs : List UInt8} (h : OwnBy B w v bs) : ∀ g, v.ownBlock = some g → B ≤ g := fun g e => by
  rcases h.2 with ⟨rfl, hn⟩ | ⟨g', cap, cur, rfl, hb, _⟩
  · cases e
  · have e' : g' = g := by injection e
    omega
theorem OwnBy.kept {B : Nat} {w w' : World} {v : Value} {bs : List UInt8} (h : OwnBy B w v bs) (hb : Below w.heap.size w w') : OwnBy B w' v bs := ownsRow_of h fun g _ hg => hb.block g hg
theorem push_byte {B : Nat} {w : World} {v : Value} {bs : List UInt8} (h : OwnBy B w v bs) (hB : B ≤ w.heap.size) (hl : bs.length ≤ 1000000) (ty : TypeId) (y : UInt8) :
    ∃ A c w', (Builtin.append_ #[22, 22] ty #[v, .slice (some ⟨w.heap.size, 0, none⟩) 1 1]).run Tryd.prog (w.alloc (.cells #[u8v y] 5)) = .ok (.slice A (bs.length + 1) c) w' ∧ OwnBy B w' (.slice A (bs.length + 1) c) (bs ++ [y]) ∧ Below B w w' := by
  obtain ⟨i0, hi, hz0, hz1, hz2⟩ := info_parts u8info
  have hB1 : Below w.heap.size w (w.alloc (.cells #[u8v y] 5)) := (Below.refl _ _).alloc (Nat.le_refl _) _
  have h1 := h.kept hB1
  have hs1 : (w.alloc (.cells #[u8v y] 5)).heap.size = w.heap.size + 1 := by simp
  have hnews : ∀ j u, ([u8v y] : List Value)[j]? = some u → (w.alloc (.cells #[u8v y] 5)).cell? ((⟨w.heap.size, 0, none⟩ : Addr).add j) = some u := World.news_of_block (heap_alloc_new _ _)
  obtain ⟨v', w', hr, ho, hg, _, _⟩ := run_append_own_at (P := Tryd.prog) (w.alloc (.cells #[u8v y] 5)) B 22 ty 5 i0 (.int .u8 0) 1 1 Tryd.underlying22 hi hz0 hz1 hz2 rfl (by decide) v bs.length (bs.map u8v) h1 ⟨w.heap.size, 0, none⟩ 1 1 [u8v y] (by rfl) hnews (by intro u hu; simp at hu; subst hu; rfl) (by unfold maxLen; omega) (by omega) (by omega)
  have ho' : OwnBy B w' v' (bs ++ [y]) := by
    unfold OwnBy
    rw [List.length_append, List.map_append]
    exact ho
  obtain ⟨A, c, rfl, _⟩ := ho'.form
  rw [List.length_append] at hr ho'
  exact ⟨A, c, w', hr, ho', (hB1.mono hB).trans (own_by (v' := v) (by omega) h.lo hg)⟩
/-- the bytes of n, the most significant first -/
def beB (n : Nat) : Nat → List UInt8
  | 0 => []
  | k + 1 => UInt8.ofNat (n / 2 ^ (8 * k) % 256) :: beB n k
theorem beB_length (n : Nat) : ∀ k, (beB n k).length = k
  | 0 => rfl
  | k + 1 => by rw [beB, List.length_cons, beB_length]
def NumPost (B : Nat) (w : World) (bs : List UInt8) (en : Ending) (w' : World) : Prop := ∃ A c, en = .returned (.slice A bs.length c) ∧ OwnBy B w' (.slice A bs.length c) bs ∧ Below B w w'
set_option maxHeartbeats 1600000 in
set_option maxRecDepth 100000 in
theorem number_any {B : Nat} {w : World} {A : Option Addr} {c : Nat} {bs : List UInt8} (h : OwnBy B w (.slice A bs.length c) bs) (hB : B ≤ w.heap.size) (hl : bs.length ≤ 500000) (n : Nat) (hn : n < 18446744073709551616) (size : Nat) (hs : size ≤ 8) :
    Calls Tryd.prog 48 #[.slice A bs.length c, .int .u64 (n : Int), .int .i64 (size : Int)] w (NumPost B w (bs ++ beB n size)) := by
  have HO := hide h
  clear h
  go_enter Tryd.func48, Tryd.ntmps48
  go_wp2_with fail
  go_loopw [0, 7] (fun v i wr => ∃ k : Nat, k ≤ size ∧ i = .int .i64 ((k : Int) - 1) ∧ ∃ xs A c, v = .slice A xs.length c ∧ Hid (bs ++ beB n size = xs ++ beB n k) ∧ Hid (OwnBy B wr (.slice A xs.length c) xs) ∧ Hid (Below B w wr) ∧ xs.length ≤ 500008) (fun _ i _ => (iOf i + 1).toNat)
  case atStart => exact ⟨size, Nat.le_refl _, rfl, bs, A, c, rfl, rfl, HO, Below.refl _ _, by omega⟩
  case round =>
    obtain ⟨k, hk, rfl, xs, A', c', rfl, HE, HOr, HBr, hxl⟩ := hrel
    have hsr := HBr.out.size
    by_cases h0 : k = 0
    · subst h0
      have t1 : decide (0 ≤ ((0 : Nat) : Int) - 1) = false := decide_eq_false (by omega)
      have e0 : bs ++ beB n size = xs := by rw [HE.out]; exact List.append_nil xs
      have HE0 := hide e0
      clear e0
      go_wp2_with fail
      go_ret
      rw [HE0.out]
      exact ⟨A', c', rfl, HOr.out, HBr.out⟩
    · obtain ⟨k, rfl⟩ : ∃ j, k = j + 1 := ⟨k - 1, by omega⟩
      have t1 : decide (0 ≤ ((k + 1 : Nat) : Int) - 1) = true := decide_eq_true (by omega)
      obtain ⟨A2, c2, w2, hr, hO2, hB2⟩ := push_byte HOr.out (Nat.le_trans hB hsr) (by omega) 22 (UInt8.ofNat (n / 2 ^ (8 * k) % 256))
      have ey : u8v (UInt8.ofNat (n / 2 ^ (8 * k) % 256)) = .int .u8 ((n : Int) / 2 ^ (8 * k) % 256) := by
        unfold u8v
        rw [UInt8.toNat_ofNat', Nat.mod_eq_of_lt (show n / 2 ^ (8 * k) % 256 < 2 ^ 8 by omega)]
        congr 1
      rw [ey] at hr
      have HR := hide hr
      have HO2 : Hid (OwnBy B w2 (.slice A2 (xs ++ [UInt8.ofNat (n / 2 ^ (8 * k) % 256)]).length c2) (xs ++ [UInt8.ofNat (n / 2 ^ (8 * k) % 256)])) := by rw [List.length_append]; exact hO2
      have HB2 := hide (HBr.out.trans hB2)
      have HE2 : Hid (bs ++ beB n size = (xs ++ [UInt8.ofNat (n / 2 ^ (8 * k) % 256)]) ++ beB n k) := by rw [Hid, HE.out, beB, List.append_assoc]; rfl
      have hl2 : (xs ++ [UInt8.ofNat (n / 2 ^ (8 * k) % 256)]).length ≤ 500008 := by
        have h1 := congrArg List.length HE2.out
        rw [List.length_append, List.length_append, beB_length, beB_length] at h1
        omega
      have hl3 : (xs ++ [UInt8.ofNat (n / 2 ^ (8 * k) % 256)]).length = xs.length + 1 := by rw [List.length_append]; rfl
      have HL3 := hide hl3
      clear hr hO2 hB2 ey hl3
      go_wp2_with ((with_reducible refine wpList_gives (o := ⟨some 21, _, _, _, _, _⟩) (v := .slice A2 (xs.length + 1) c2) (w' := w2) ?_ ?_ ?_); rfl; exact gives_append rfl rfl rfl HR.out)
      go_roundw
      case rel => exact ⟨k, by omega, by first | trivial | go_num | (congr 1; omega), _, A2, c2, by rw [HL3.out], HE2, HO2, HB2, hl2⟩
      case measure => simp [iOf]
end Go.Proofs.YtlelkhonkhlflaaDoor
