/-
  console.number: the number that a word denotes.
-/
import Derived.Test.YtnndaemmgbkjbaaDoorLib
namespace Go.Proofs.YtnndaemmgbkjbaaDoor
open Go.RowKit
set_option linter.unusedVariables false
set_option linter.unusedSimpArgs false

def isDig (b : UInt8) : Bool := decide (48 ≤ b.toNat) && decide (b.toNat ≤ 57)
/-- the number that digits denote -/
def decVal (l : List UInt8) : Int := l.foldl (fun n b => 10 * n + ((b.toNat : Int) - 48)) 0
def numOk (l : List UInt8) : Bool := decide (l ≠ []) && decide (l.length ≤ 6) && !(decide (l.head? = some 48) && decide (1 < l.length)) && l.all isDig
def numV (s : ByteArray) : Int × Bool := if numOk s.data.toList = true then (decVal s.data.toList, true) else (0, false)
theorem decVal_snoc (l : List UInt8) (b : UInt8) : decVal (l ++ [b]) = 10 * decVal l + ((b.toNat : Int) - 48) := by simp [decVal]
theorem decVal_bd {s : List UInt8} (ha : s.all isDig = true) : ∀ k, k ≤ s.length → 0 ≤ decVal (s.take k) ∧ decVal (s.take k) < 10 ^ k
  | 0, _ => by simp [decVal]
  | k + 1, hk => by
    have h1 := decVal_bd ha k (by omega)
    have h2 : isDig s[k] = true := List.all_eq_true.1 ha _ (List.getElem_mem _)
    unfold isDig at h2
    simp only [Bool.and_eq_true, decide_eq_true_eq] at h2
    rw [List.take_add_one, List.getElem?_eq_getElem (by omega), Option.toList_some, decVal_snoc, Int.pow_succ]
    omega
theorem take_snocB {s : List UInt8} {k : Nat} {b : UInt8} (h : s[k]? = some b) : s.take (k + 1) = s.take k ++ [b] := by
  rw [List.take_add_one, h]
  rfl
theorem bget {s : ByteArray} {k : Nat} (h : k < s.size) : s.data.toList[k]? = some (s[k]'h) := by
  rw [List.getElem?_eq_getElem (by rw [← Lib.size_eq]; exact h)]
  rfl
theorem isEmpty_false {s : ByteArray} (h : 0 < s.size) : s.toList.isEmpty = false := by
  rw [Lib.toList_data]
  rw [Lib.size_eq] at h
  cases hl : s.data.toList with
  | nil => rw [hl] at h; simp at h
  | cons a l => rfl
theorem isEmpty_true {s : ByteArray} (h : s.size = 0) : s.toList.isEmpty = true := by
  rw [Lib.toList_data]
  rw [Lib.size_eq] at h
  rw [List.length_eq_zero_iff.1 h]
  rfl
theorem numV_no {s : ByteArray} (h : numOk s.data.toList = false) : numV s = (0, false) := by unfold numV; rw [if_neg (by rw [h]; simp)]
theorem numOk_empty {s : ByteArray} (h : s.size = 0) : numOk s.data.toList = false := by
  rw [Lib.size_eq] at h
  rw [List.length_eq_zero_iff.1 h]
  rfl
theorem numOk_long {s : ByteArray} (h : 6 < s.size) : numOk s.data.toList = false := by
  rw [Lib.size_eq] at h
  unfold numOk
  rw [decide_eq_false (p := s.data.toList.length ≤ 6) (by omega)]
  simp
theorem head_get {s : ByteArray} (h : 0 < s.size) : s.data.toList.head? = some (s[0]'h) := by
  rw [List.head?_eq_getElem?]
  exact bget h
theorem numOk_zero {s : ByteArray} (h : 1 < s.size) (h0 : (s[0]'(by omega)).toNat = 48) : numOk s.data.toList = false := by
  have e : s.data.toList.head? = some 48 := by
    rw [head_get (by omega)]
    congr 1
    exact UInt8.toNat_inj.1 h0
  rw [Lib.size_eq] at h
  unfold numOk
  rw [decide_eq_true (p := s.data.toList.head? = some 48) e, decide_eq_true (p := 1 < s.data.toList.length) h]
  simp
theorem numOk_bad {s : ByteArray} {k : Nat} (h : k < s.size) (hb : isDig (s[k]'h) = false) : numOk s.data.toList = false := by
  have : s.data.toList.all isDig = false := by
    rw [List.all_eq_false]
    refine ⟨s[k]'h, ?_, by rw [hb]; simp⟩
    exact List.mem_of_getElem? (bget h)
  unfold numOk
  rw [this]
  simp
theorem numOk_good {s : ByteArray} (h1 : 0 < s.size) (h2 : s.size ≤ 6) (h3 : ¬ ((s[0]'h1).toNat = 48 ∧ 1 < s.size)) (ha : s.data.toList.all isDig = true) : numV s = (decVal s.data.toList, true) := by
  have hs := Lib.size_eq s
  unfold numV
  rw [if_pos]
  unfold numOk
  rw [ha, decide_eq_true (p := s.data.toList ≠ []) (fun e => by rw [e, List.length_nil] at hs; omega), decide_eq_true (p := s.data.toList.length ≤ 6) (by omega)]
  simp only [Bool.true_and, Bool.and_true, Bool.not_eq_true']
  rw [Bool.and_eq_false_iff]
  by_cases h : 1 < s.size
  · left
    refine decide_eq_false fun e => h3 ⟨?_, h⟩
    rw [head_get h1] at e
    injection e with e
    rw [e]
    rfl
  · right
    exact decide_eq_false (by omega)
theorem digits_step {s : ByteArray} {k : Nat} (h : k < s.size) (ha : (s.data.toList.take k).all isDig = true) (hb : isDig (s[k]'h) = true) : (s.data.toList.take (k + 1)).all isDig = true := by
  rw [take_snocB (bget h), List.all_append, ha]
  simp [hb]
theorem dec_step {s : ByteArray} {k : Nat} (h : k < s.size) : decVal (s.data.toList.take (k + 1)) = 10 * decVal (s.data.toList.take k) + (((s[k]'h).toNat : Int) - 48) := by
  rw [take_snocB (bget h), decVal_snoc]
theorem dec_bound {s : List UInt8} {k : Nat} (h6 : k ≤ 6) (hk : k ≤ s.length) (ha : (s.take k).all isDig = true) : 0 ≤ decVal (s.take k) ∧ decVal (s.take k) < 1000000 := by
  have h := decVal_bd ha k (by rw [List.length_take]; omega)
  rw [List.take_take, Nat.min_self] at h
  have hp : (10 : Int) ^ k ≤ 10 ^ 6 := by
    have : (10 : Nat) ^ k ≤ 10 ^ 6 := Nat.pow_le_pow_right (by decide) h6
    exact_mod_cast this
  exact ⟨h.1, by omega⟩
set_option maxHeartbeats 2000000 in
set_option maxRecDepth 100000 in
theorem number_any {s : ByteArray} {w : World} (hs : s.size ≤ 1000000) :
    Calls Tryd.prog 23 #[.string s] w fun e w' => e = .returned (.tuple #[.int .i64 (numV s).1, .bool (numV s).2]) ∧ w' = w := by
  go_enter Tryd.func23, Tryd.ntmps23
  go_upto_region 1 with (fail)
  go_cut [22] (fun v wx => ∃ bb : Bool, v = .bool bb ∧ Hid (bb = true → numV s = (0, false)) ∧ Hid (bb = false → 0 < s.size ∧ s.size ≤ 6 ∧ (s.data.toList.all isDig = true → numV s = (decVal s.data.toList, true))) ∧ wx = w)
  case first =>
    by_cases h0 : s.size = 0
    · have e := isEmpty_true h0
      have hn := hide (numV_no (numOk_empty h0))
      go_wp2_with fail
      go_meet
      exact ⟨true, rfl, fun _ => hn.out, (fun h => by cases h), rfl⟩
    have e := isEmpty_false (s := s) (by omega)
    by_cases h6 : 6 < s.size
    · have hn := hide (numV_no (numOk_long h6))
      go_wp2_with fail
      go_meet
      exact ⟨true, rfl, fun _ => hn.out, (fun h => by cases h), rfl⟩
    have hpos : 0 < s.size := by omega
    by_cases h48 : (s[0]'hpos).toNat = 48
    · have h48' : ((s[0]'hpos).toNat : Int) = 48 := by omega
      by_cases h1 : 1 < s.size
      · have hn := hide (numV_no (numOk_zero h1 h48))
        clear h48
        go_wp2_with fail
        go_meet
        exact ⟨true, by simp; omega, fun _ => hn.out, (fun h => by cases h), rfl⟩
      · have hg := hide (fun h => numOk_good hpos (by omega) (fun q => h1 q.2) h)
        clear h48
        go_wp2_with fail
        go_meet
        exact ⟨false, by simp; omega, (fun h => by cases h), (fun _ => ⟨hpos, by omega, hg.out⟩), rfl⟩
    · have h48' : ¬ ((s[0]'hpos).toNat : Int) = 48 := by omega
      have hg := hide (fun h => numOk_good hpos (by omega) (fun q => h48 q.1) h)
      clear h48
      go_wp2_with fail
      go_meet
      exact ⟨false, by simp; omega, (fun h => by cases h), (fun _ => ⟨hpos, by omega, hg.out⟩), rfl⟩
  case rest =>
    obtain ⟨bb, rfl, hT, hF, rfl⟩ := hcut
    cases bb with
    | true =>
      have hn := hide (hT.out rfl)
      clear hT hF
      go_wp2_with fail
      go_ret2
      exact ⟨by rw [hn.out]; rfl, rfl⟩
    | false =>
      obtain ⟨hpos, h6, hG⟩ := hF.out rfl
      have hsz := Lib.size_eq s
      have HSz := hide hsz
      have HG := hide hG
      clear hT hF hG hsz
      go_wp2_with fail
      go_loopw [4, 5, 25] (fun n _ i wq => ∃ k : Nat, k ≤ s.size ∧ i = .int .i64 k ∧ n = .int .i64 (decVal (s.data.toList.take k)) ∧ Hid ((s.data.toList.take k).all isDig = true) ∧ wq = wc) (fun _ _ i _ => s.size - (iOf i).toNat)
      case atStart => exact ⟨0, Nat.zero_le _, rfl, by simp [decVal], (by rw [Hid]; rfl), rfl⟩
      case round =>
        obtain ⟨k, hk, rfl, rfl, HA, rfl⟩ := hrel
        have hbd := dec_bound (s := s.data.toList) (k := k) (by omega) (by have := HSz.out; omega) HA.out
        by_cases hlt : k < s.size
        · have hst := dec_step hlt
          have HST := hide (fun h => digits_step hlt HA.out h)
          have HBad := hide (fun h => numV_no (numOk_bad hlt h))
          have hx : 0 ≤ ((s[k]'hlt).toNat : Int) ∧ ((s[k]'hlt).toNat : Int) ≤ 255 := ⟨by omega, by have := (s[k]'hlt).toNat_lt; omega⟩
          by_cases hdig : isDig (s[k]'hlt) = true
          · have hd := hdig
            unfold isDig at hd
            simp only [Bool.and_eq_true, decide_eq_true_eq] at hd
            have hw1 : IntKind.u8.wrap (((s[k]'hlt).toNat : Int) - 48) = ((s[k]'hlt).toNat : Int) - 48 := IntWalk.u8_in _ (by omega)
            have HD := hide (HST.out hdig)
            have HSt := hide hst
            clear HBad HST hst hdig
            go_wp2_with fail
            go_roundw
            case rel => exact ⟨k + 1, by omega, by go_num, by rw [HSt.out], HD.out, by first | rfl | trivial⟩
            case measure => simp [iOf]; omega
          · have hn := hide (HBad.out (by simpa using hdig))
            have hd : (s[k]'hlt).toNat < 48 ∨ 57 < (s[k]'hlt).toNat := by
              unfold isDig at hdig
              simp only [Bool.and_eq_true, decide_eq_true_eq] at hdig
              omega
            clear HBad HST hst hdig
            rcases hd with hd | hd
            · go_wp2_with fail
              go_ret2
              exact ⟨by rw [hn.out]; rfl, rfl⟩
            · go_wp2_with fail
              go_ret2
              exact ⟨by rw [hn.out]; rfl, rfl⟩
        · obtain rfl : k = s.size := by omega
          have hn := hide (HG.out (by have := HA.out; rwa [HSz.out, List.take_length] at this))
          have hv : decVal (s.data.toList.take s.size) = decVal s.data.toList := by rw [HSz.out, List.take_length]
          rw [hv]
          clear hv
          go_wp2_with fail
          go_ret2
          exact ⟨by rw [hn.out]; rfl, rfl⟩
end Go.Proofs.YtnndaemmgbkjbaaDoor
