/-
  DiskFuse: a disk with a fuse of the length n executes exactly n Writes and Syncs, and is dead after the next one: for every number and every list of calls.
-/
import Derived.Test.YtcmchnddnglnfaaFrame
import Derived.Laws.BitsLemmas
namespace Go.Proofs.Ytcmchnddnglnfaa.lawFuse
open Go.ChangeShapes Go.WideShapes Go.ChangeAt Go.RowKit
set_option linter.unusedVariables false
set_option linter.unusedSimpArgs false

/-- the fuse and the death of a disk with a fuse of the length n, behind k calls -/
def FuseAt (n k : Nat) (fuse : Int) (dead : Bool) : Prop := (k ≤ n → fuse = (n : Int) - k ∧ dead = false) ∧ (n < k → dead = true)
def StepPost (F : Nat → Prop) (w : World) (s n k : Nat) (en : Ending) (w' : World) : Prop :=
  en = .returned (.int .i64 (if k < n then 0 else 12)) ∧ Chg F w w' ∧ ∃ ss e fuse dead, ss.length = 2 ∧ Dsk F w' s ss e fuse dead ∧ FuseAt n (k + 1) fuse dead
section
variable {F : Nat → Prop} {w : World} {s n k : Nat} {ss : List (List UInt8)} {e : Nat → Option (List UInt8)} {fuse : Int} {dead : Bool}
theorem burn_at (hf : FuseAt n k fuse dead) (h : k < n) : FuseAt n (k + 1) (burnF fuse) dead := by
  obtain ⟨rfl, rfl⟩ := hf.1 (by omega)
  refine ⟨fun _ => ⟨?_, rfl⟩, fun h' => by omega⟩
  unfold burnF
  rw [if_pos (by omega)]
  omega
theorem sync_step (hn : n ≤ 15) (h : Dsk F w s ss e fuse dead) (hl : ss.length = 2) (hf : FuseAt n k fuse dead) : Calls Try.prog 14 #[.pointer (some ⟨s, 0, none⟩)] w (StepPost F w s n k) := by
  rcases Nat.lt_trichotomy k n with h1 | h1 | h1
  · have hb := burn_at hf h1
    obtain ⟨hf1, rfl⟩ := hf.1 (by omega)
    refine (sync_ok h (by omega) (by omega) (by omega)).mono ?_
    rintro en w' ⟨rfl, hC, hD⟩
    exact ⟨by rw [if_pos h1], hC, ss, _, _, _, hl, hD, hb⟩
  · subst h1
    obtain ⟨hf1, rfl⟩ := hf.1 (by omega)
    obtain rfl : fuse = 0 := by omega
    refine (sync_burnt h).mono ?_
    rintro en w' ⟨rfl, hC, hD⟩
    exact ⟨by rw [if_neg (by omega)], hC, ss, _, _, _, hl, hD, ⟨fun h => by omega, fun _ => rfl⟩⟩
  · obtain rfl := hf.2 h1
    refine (sync_dead h).mono ?_
    rintro en w' ⟨rfl, rfl⟩
    exact ⟨by rw [if_neg (by omega)], Chg.refl _ _, ss, _, _, _, hl, h, ⟨fun h => by omega, fun _ => rfl⟩⟩
theorem write_step (hn : n ≤ 15) (h : Dsk F w s ss e fuse dead) (hl : ss.length = 2) (hf : FuseAt n k fuse dead) (i : Nat) (hi : i < 2) (b c : Nat) (bs : List UInt8) (hb : Bys w (some ⟨b, 0, none⟩) bs) (hF : ¬ F b) (hm : bs.length ≤ 64) :
    Calls Try.prog 9 #[.pointer (some ⟨s, 0, none⟩), .int .i64 (i : Int), .slice (some ⟨b, 0, none⟩) bs.length c] w (StepPost F w s n k) := by
  rcases Nat.lt_trichotomy k n with h1 | h1 | h1
  · have hb' := burn_at hf h1
    obtain ⟨hf1, rfl⟩ := hf.1 (by omega)
    refine (write_box h (by omega) (by omega) (by omega) i (by omega) b c bs hb hF hm).mono ?_
    rintro en w' ⟨rfl, hC, hD⟩
    exact ⟨by rw [if_pos h1], hC, _, _, _, _, by rw [List.length_set]; exact hl, hD, hb'⟩
  · subst h1
    obtain ⟨hf1, rfl⟩ := hf.1 (by omega)
    obtain rfl : fuse = 0 := by omega
    refine (write_burnt h i (by omega) _ bs.length c hm).mono ?_
    rintro en w' ⟨rfl, hC, hD⟩
    exact ⟨by rw [if_neg (by omega)], hC, ss, _, _, _, hl, hD, ⟨fun h => by omega, fun _ => rfl⟩⟩
  · obtain rfl := hf.2 h1
    refine (write_err h (i : Int) 12 (by unfold chkE; rw [if_pos rfl]) (by omega) _ bs.length c).mono ?_
    rintro en w' ⟨rfl, rfl⟩
    exact ⟨by rw [if_neg (by omega)], Chg.refl _ _, ss, _, _, _, hl, h, ⟨fun h => by omega, fun _ => rfl⟩⟩
end
theorem and15 (n : Int) : bits .and .i64 n 15 = n % 16 := by
  have h15 : (BitVec.ofInt 64 15).toNat = 2 ^ 4 - 1 := by decide
  have key : (BitVec.ofInt 64 n &&& BitVec.ofInt 64 15).toNat = (n % ((2 ^ 64 : Nat) : Int)).toNat % 2 ^ 4 := by
    rw [BitVec.toNat_and, BitVec.toNat_ofInt, h15, Nat.and_two_pow_sub_one_eq_mod]
  show IntKind.i64.wrap ((BitVec.ofInt 64 n &&& BitVec.ofInt 64 15).toNat : Nat) = n % 16
  rw [key, IntKind.wrap_i64]
  omega
theorem and1 (n : Int) : bits .and .i64 n 1 = n % 2 := by
  have h1 : (BitVec.ofInt 64 1).toNat = 2 ^ 1 - 1 := by decide
  have key : (BitVec.ofInt 64 n &&& BitVec.ofInt 64 1).toNat = (n % ((2 ^ 64 : Nat) : Int)).toNat % 2 ^ 1 := by
    rw [BitVec.toNat_and, BitVec.toNat_ofInt, h1, Nat.and_two_pow_sub_one_eq_mod]
  show IntKind.i64.wrap ((BitVec.ofInt 64 n &&& BitVec.ofInt 64 1).toNat : Nat) = n % 2
  rw [key, IntKind.wrap_i64]
  omega
set_option maxHeartbeats 3200000 in
set_option maxRecDepth 100000 in
theorem walk (a : Int) (A : Option Addr) (c : Nat) (ks : List Bool) (W : World) (hk : BoolsIn (fun i => i < W.heap.size) W A ks) (hm : ks.length ≤ maxLen) : Calls Try.prog 7 #[.int .i64 a, .slice A ks.length c] W fun e W' => e = .returned (.bool true) ∧ Below W.heap.size W W' := by
  have HK := hide hk
  clear hk
  go_enter Try.func7, Try.ntmps7
  go_wp2_with fail
  refine (new_ok 2 W (by omega) (by omega)).mono ?_
  rintro en w1 ⟨s, rfl, hB1, hD1⟩
  have HB1 := hide hB1
  have HD1 := hide hD1
  clear hB1 hD1
  go_wp2_with fail
  have e15 := and15 a
  rw [e15]
  obtain ⟨n, hn⟩ : ∃ n : Nat, a % 16 = (n : Int) := ⟨(a % 16).toNat, by omega⟩
  have hn15 : n ≤ 15 := by omega
  rw [hn]
  refine (fuse_any HD1.out (n : Int)).mono ?_
  rw [show max (n : Int) (-1) = (n : Int) by omega]
  rintro en w2 ⟨rfl, hC2, hD2⟩
  have HB2 : Hid (Below W.heap.size W w2) := HB1.out.trans (hC2.below (fun i hi e => by have := HD1.out.mem.1; omega) HB1.out.size)
  have HD2 := hide hD2
  have hsz2 := hC2.size
  clear hC2 hD2 e15 hn
  have hlt1 := HB1.out.size
  have hlt2 := HB2.out.size
  go_wp2_with fail
  go_loopw [6] (fun i wr => ∃ k : Nat, k ≤ ks.length ∧ k ≤ 30 ∧ i = .int .i64 k ∧ w1.heap.size ≤ wr.heap.size ∧ Hid (Below W.heap.size W wr) ∧ ∃ ss e fuse dead, ss.length = 2 ∧ Hid (Dsk (fun i => W.heap.size ≤ i ∧ i < w1.heap.size) wr s ss e fuse dead) ∧ FuseAt n k fuse dead) (fun i _ => ks.length - (iOf i).toNat)
  case atStart => exact ⟨0, by omega, by omega, rfl, hsz2, HB2, _, _, _, _, List.length_replicate .., HD2, ⟨fun _ => ⟨by omega, rfl⟩, fun h => by omega⟩⟩
  case round =>
    obtain ⟨k, hk1, hk2, rfl, hw1, HBr, ss, e, fuse, dead, hl, HDr, hfu⟩ := hrel
    have HKr := hide (HK.out.agree (Agree.of_below HBr.out (fun i hi => hi)))
    have hszr := HBr.out.size
    by_cases hlt : k < ks.length ∧ k < 30
    · obtain ⟨h1, h2⟩ := hlt
      obtain ⟨b, off, rfl, _, hc⟩ := HKr.out (by omega)
      have q := hc k h1
      have HFU := hide hfu
      have HL := hide hl
      clear hc hfu hl
      have t30 : decide (k < 30) = true := decide_eq_true h2
      have t30' : decide ((k : Int) < 30) = true := decide_eq_true (by omega)
      cases hb : ks.getD k false with
      | true =>
        rw [hb] at q
        go_wp2_with fail
        refine (sync_step hn15 HDr.out HL.out HFU.out).mono ?_
        rintro en w3 ⟨rfl, hC3, ss3, e3, fuse3, dead3, hl3, hD3, hfu3⟩
        have HB3 : Hid (Below W.heap.size W w3) := HBr.out.trans (hC3.below (fun i hi e => by omega) HBr.out.size)
        have HD3 := hide hD3
        have hsz3 : w1.heap.size ≤ w3.heap.size := by have := hC3.size; omega
        clear hC3 hD3
        rcases Nat.lt_or_ge k n with hnk | hnk
        · rw [if_pos hnk]
          obtain ⟨hfu4, rfl⟩ := hfu3.1 (by omega)
          have HFU3 := hide hfu3
          clear hfu3 hfu4
          go_wp2_with fail
          refine (dead_any HD3.out).mono ?_
          rintro en wx ⟨rfl, rfl⟩
          go_wp2_with fail
          go_roundw
          case rel => exact ⟨k + 1, by omega, by omega, by go_num, hsz3, HB3, _, _, _, _, hl3, HD3, HFU3.out⟩
          case measure => simp [iOf]; omega
        · rw [if_neg (show ¬ k < n by omega)]
          obtain rfl := hfu3.2 (by omega)
          have HFU3 := hide hfu3
          clear hfu3
          go_wp2_with fail
          refine (dead_any HD3.out).mono ?_
          rintro en wx ⟨rfl, rfl⟩
          go_wp2_with fail
          go_roundw
          case rel => exact ⟨k + 1, by omega, by omega, by go_num, hsz3, HB3, _, _, _, _, hl3, HD3, HFU3.out⟩
          case measure => simp [iOf]; omega
      | false =>
        rw [hb] at q
        have e1 := and1 (k : Int)
        have HBx : Hid (Below W.heap.size W (wr.alloc (.cells #[.int .u8 (k : Int)] 5))) := HBr.out.alloc HBr.out.size _
        have HDx := hide (HDr.out.kept ((Below.refl _ _).alloc (Nat.le_refl _) (.cells #[.int .u8 (k : Int)] 5)))
        have HBY : Hid (Bys (wr.alloc (.cells #[.int .u8 (k : Int)] 5)) (some ⟨wr.heap.size, 0, none⟩) [UInt8.ofNat k]) := fun _ => ⟨wr.heap.size, 0, rfl, by simp, fun j hj => by
          obtain rfl : j = 0 := by have : j < 1 := hj; omega
          rw [(Box.new wr 5 #[.int .u8 (k : Int)]).cell 0]
          show some (Value.int .u8 (k : Int)) = some (u8v (UInt8.ofNat k))
          unfold u8v
          rw [UInt8.toNat_ofNat', Nat.mod_eq_of_lt (by omega)]⟩
        have HFx : Hid (¬ (W.heap.size ≤ wr.heap.size ∧ wr.heap.size < w1.heap.size)) := fun h => by omega
        have hs8 : (wr.alloc (.cells #[.int .u8 (k : Int)] 5)).heap.size = wr.heap.size + 1 := by simp
        go_wp2_with fail
        rw [show (k : Int) % 2 = ((k % 2 : Nat) : Int) by omega]
        refine (write_step hn15 HDx.out HL.out HFU.out (k % 2) (by omega) wr.heap.size 1 [UInt8.ofNat k] HBY.out HFx.out (by simp)).mono ?_
        rintro en w3 ⟨rfl, hC3, ss3, e3, fuse3, dead3, hl3, hD3, hfu3⟩
        have HB3 : Hid (Below W.heap.size W w3) := HBx.out.trans (hC3.below (fun i hi e => by omega) HBx.out.size)
        have HD3 := hide hD3
        have hsz3 : w1.heap.size ≤ w3.heap.size := by have := hC3.size; omega
        clear hC3 hD3
        rcases Nat.lt_or_ge k n with hnk | hnk
        · rw [if_pos hnk]
          obtain ⟨hfu4, rfl⟩ := hfu3.1 (by omega)
          have HFU3 := hide hfu3
          clear hfu3 hfu4
          go_wp2_with fail
          refine (dead_any HD3.out).mono ?_
          rintro en wx ⟨rfl, rfl⟩
          go_wp2_with fail
          go_roundw
          case rel => exact ⟨k + 1, by omega, by omega, by go_num, hsz3, HB3, _, _, _, _, hl3, HD3, HFU3.out⟩
          case measure => simp [iOf]; omega
        · rw [if_neg (show ¬ k < n by omega)]
          obtain rfl := hfu3.2 (by omega)
          have HFU3 := hide hfu3
          clear hfu3
          go_wp2_with fail
          refine (dead_any HD3.out).mono ?_
          rintro en wx ⟨rfl, rfl⟩
          go_wp2_with fail
          go_roundw
          case rel => exact ⟨k + 1, by omega, by omega, by go_num, hsz3, HB3, _, _, _, _, hl3, HD3, HFU3.out⟩
          case measure => simp [iOf]; omega
    · have h3 : k = ks.length ∨ (k < ks.length ∧ k = 30) := by omega
      rcases h3 with rfl | ⟨h3, rfl⟩
      all_goals
        go_wp2_with fail
        refine (awake_any wr).mono ?_
        rintro en w4 ⟨rfl, hB4⟩
        have HB4 := hide (HBr.out.trans (hB4.mono HBr.out.size))
        clear hB4
        go_wp2_with fail
        go_ret
        exact ⟨rfl, HB4.out⟩

set_option maxRecDepth 100000 in
theorem lifted (os : Os) (started : os.Started) (H : Type) (enc : TypeId × Value → H) :
    ReturnsInHanded {} Try.checked os 7 .any (Rows.diskFuseSpec.pre6 enc Try.prog Try.f7 Rows.diskFuseRow.domain false) (Rows.diskFuseSpec.post enc Try.prog Try.f7 false true false false) := by
  refine returnsInHanded_of_change (C := Try.checked) own started (by kernel_rfl) Try.func7
    (ChangeSpec.witness6 (enc := enc) (C := Try.checked) false ⟨#[], #[.int .i64 0, .slice none 0 0], []⟩ 8 (by kernel_rfl) (by kernel_rfl) (by kernel_rfl) (by kernel_rfl)) ?_
  intro W base args ds gs before hval0 hW hcnd _
  have hval : ∀ (j : Nat) t v, Try.f7.params[j]? = some t → args[j]? = some v → Value.okWide Try.prog W .any base t v := hval0
  have hW' := hW
  obtain ⟨p, q, hA0, hV, rfl, hfz, hnd⟩ := hW
  have hA : DataW.TrodAll enc Try.prog W 0 (fun _ => true) true Try.f7.params.toList args.toList ds p := hA0
  rw [Try.params7] at hA hval
  obtain ⟨v0, vs0, d0, ds0, p0, q0, hargs, rfl, rfl, h0, r0⟩ := trodAll_cons hA
  obtain ⟨v1, vs1, d1, ds1, p1, q1, rfl, rfl, rfl, h1, r1⟩ := trodAll_cons r0
  obtain ⟨rfl, rfl, rfl⟩ := trodAll_nil r1
  obtain rfl : args = #[v0, v1] := by cases args; simp_all
  obtain ⟨a0, rfl, _, _, w0⟩ := open_int Try.underlying3 (hval 0 3 v0 rfl rfl) h0
  obtain ⟨A1, c1, ks1, rfl, hk1, hm1, hcp1⟩ := open_bools (hval 1 30 v1 rfl rfl) h1
  refine (walk a0 A1 c1 ks1 W hk1 hm1).mono fun e W' ⟨he, hb⟩ => ?_
  subst he
  exact ⟨_, rfl, post_law hW' rfl hb (by rw [Try.params7]; exact params_ok (by kernel_rfl)) rfl rfl⟩

theorem over : Rows.diskFuseRow.holds Try.pinned (OpenSpec.ofChange Rows.diskFuseSpec) :=
  OpenClaim.holds_of_wide 7 Try.f7 rfl rfl rfl rfl rfl rfl rfl ⟨rfl, rfl, rfl, rfl, rfl⟩ rfl rfl rfl rfl rfl (by kernel_rfl) Try.func7 (by kernel_rfl)
    (of_decide_eq_true (by kernel_rfl)) (by unfold Func.isWrapper; first | (rw [if_pos (by decide +kernel)]; kernel_rfl) | (rw [if_neg (by decide +kernel)]; exact ⟨rfl, rfl⟩))
    (fun os started H enc _ => lifted os started H enc)

theorem proved : Rows.DiskFuseSaid := over
end Go.Proofs.Ytcmchnddnglnfaa.lawFuse
