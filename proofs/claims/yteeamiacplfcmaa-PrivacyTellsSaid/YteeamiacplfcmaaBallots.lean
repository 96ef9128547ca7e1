/-
  electionmake.Ballots.
-/
import Derived.Test.YteeamiacplfcmaaLists
namespace Go.Proofs.Yteeamiacplfcmaa
open Go.RowKit
set_option linter.unusedVariables false
set_option linter.unusedSimpArgs false

/-- ballots for n candidates, short ones -/
def AllB (n : Int) (ls : List (List Int)) : Prop := ∀ l ∈ ls, ballot n l = true ∧ l.length ≤ 12
theorem Ints.takeN {w : World} {A : Option Addr} {l : List Int} (h : Ints w A l) (k : Nat) : Ints w A (l.take k) := IntsIn.take h k
theorem ballots_step {B p0 : Nat} {w w1 wq : World} {v : Value} {ls : List (List Int)} {n : Int} {Ak : Option Addr} {ck m : Nat} {q : List Int} {b off : Nat} {u : Value} (hB : B ≤ w1.heap.size) (hO : OwnLL B w1 v ls) (hb : Below B w w1) (hx : ls.length ≤ 1000) (hq : Ints w1 Ak q) (hm : m ≤ 12) (hmq : m ≤ q.length) (hqi : ∀ y ∈ q, InI y) (hn : 1 ≤ n) (hn2 : n ≤ 7) (hA : AllB n ls)
    (h0 : w1.cell? ⟨b, off, none⟩ = some u) (hg : b < w1.heap.size) (hne : v.ownBlock ≠ some b) (hd : Drew w1 wq) :
    Calls Try.prog 51 #[.int .i64 n, .slice Ak m ck] wq fun e w2 => ∃ (A' : Option Addr) (c' l' : Nat) (A4 : Option Addr) (d4 : Nat) (w4 : World) (p : List Int), e = .returned (.slice A' l' c') ∧ w2.cell? ⟨b, off, none⟩ = some u ∧
      Hid ((Builtin.append_ #[45, 45] 45 #[v, .slice (some ⟨w2.heap.size, 0, none⟩) 1 1]).run Try.prog (w2.alloc (.cells #[.slice A' l' c'] 31)) = .ok (.slice A4 (ls.length + 1) d4) w4) ∧ Hid (OwnLL B w4 (.slice A4 (ls.length + 1) d4) (ls ++ [p])) ∧ Hid (Below B w w4) ∧ Hid (AllB n (ls ++ [p])) ∧
      w4.cell? ⟨b, off, none⟩ = some u := by
  have hlen : (q.take m).length = m := by rw [List.length_take]; omega
  have hcall := mballot_any (c := ck) ((hq.takeN m).drew hd) (by omega) (fun y hy => hqi y (List.mem_of_mem_take hy)) hn hn2
  rw [hlen] at hcall
  refine hcall.mono ?_
  rintro e w2 ⟨vp, p, rfl, hI, hbp, hpl, hb2⟩
  obtain ⟨A', c', rfl, hc', hIn, _⟩ := hI.form
  have hsq : w1.heap.size ≤ wq.heap.size := hd.below.size
  have hB2 : Below w1.heap.size w1 w2 := hd.below.trans (hb2.mono hsq)
  have c0 := (hB2.cell (p := ⟨b, off, none⟩) hg).trans h0
  have hO2 := hO.kept hB2
  have hlo : ∀ g, v.ownBlock = some g → B ≤ g ∧ g < w1.heap.size := fun g e => by
    obtain ⟨_, _, _, _, hq⟩ := hO.shape
    exact hq g e
  obtain ⟨A4, d4, w4, hr4, hO4, hg4⟩ := OwnLL.push1 hO2 (Nat.le_trans hB hB2.size) (by omega) (Ak := A') (ck := c') hc' (hIn.mono fun i hi => ⟨hi.1, fun e => by have := (hlo i e).2; have := hi.2.1; omega⟩) 45
  exact ⟨A', c', _, A4, d4, w4, p, rfl, c0, hr4, hO4, (hb.trans (hB2.mono hB)).trans (own_by (Nat.le_trans hB hB2.size) (fun g e => (hlo g e).1) hg4), fun l hl => by
    rw [List.mem_append, List.mem_singleton] at hl
    rcases hl with hl | rfl
    · exact hA l hl
    · exact ⟨hbp, by omega⟩, hg4.cell c0 (fun e => hne e.symm)⟩
set_option maxHeartbeats 8000000 in
set_option maxRecDepth 100000 in
theorem mballots_any {A : Option Addr} {c : Nat} {ls : List (List Int)} {n : Int} {w : World} (h : RowsIn w A ls) (hl : ls.length ≤ 9223372036854775807) (hn : 1 ≤ n) (hn2 : n ≤ 7) :
    Calls Try.prog 42 #[.int .i64 n, .slice A ls.length c, .int .i64 12] w fun e w' => ∃ (v : Value) (ps : List (List Int)), e = .returned v ∧ OwnLL w.heap.size w' v ps ∧ AllB n ps ∧ ps.length ≤ 12 ∧ Below w.heap.size w w' := by
  have H := hide h
  clear h
  go_enter Try.func42, Try.ntmps42
  go_wp2_with fail
  go_loopw [7, 8] (fun o i wr => ∃ k : Nat, k ≤ ls.length ∧ k ≤ 12 ∧ i = .int .i64 k ∧ ∃ (v : Value) (ps : List (List Int)), o = v ∧ ps.length = k ∧ Hid (OwnLL w.heap.size wr v ps) ∧ Hid (AllB n ps) ∧ Hid (Below w.heap.size w wr)) (fun _ i wr => 12 - (iOf i).toNat)
  case atStart => exact ⟨0, Nat.zero_le _, by omega, rfl, _, [], rfl, rfl, OwnLL.nil _ _, (fun l hl => by cases hl), Below.refl _ _⟩
  case round =>
    obtain ⟨k, hk, hk12, rfl, v, ps, rfl, hpk, HO, HA, HB⟩ := hrel
    by_cases hlt : k < ls.length
    · by_cases h12 : k < 12
      · obtain ⟨b, off, Ak, ck, rfl, hb, h0, hck, hql, hqi, hqA⟩ := H.out.at_ hlt
        have h0 := (HB.out.cell (p := ⟨b, off + k, none⟩) hb).trans h0
        have hsw := HB.out.size
        obtain ⟨m, hm, hm12, hmq⟩ : ∃ m : Nat, m = min (ls.getD k []).length 12 ∧ m ≤ 12 ∧ m ≤ (ls.getD k []).length := ⟨_, rfl, by omega, by omega⟩
        have hmn : min (((ls.getD k []).length : Nat) : Int) 12 = (m : Int) := by omega
        have hlo : u7.ownBlock ≠ some b := fun e => by
          obtain ⟨_, _, _, _, hq⟩ := HO.out.shape
          have := (hq b e).1
          omega
        have HC := hide (fun wq (hd : Drew wr wq) => ballots_step (p0 := 0) (ck := ck) (m := m) (u := .slice Ak (ls.getD k []).length ck) hsw HO.out HB.out (by omega) (hqA.below HB.out) hm12 hmq hqi hn hn2 HA.out h0 (by omega) hlo hd)
        rw [hpk] at HC
        have q1 : (0 : Int) ≤ (m : Int) := by omega
        have q2 : (m : Int) ≤ (ck : Int) := by omega
        have q3 : m ≤ ck := by omega
        clear hm hqA hqi
        generalize (ls.getD k []).length = nq at *
        go_wp2_with fail
        go_region_held_law (fun w' => w'.cell? ⟨b, off + k, none⟩ = some (.slice Ak nq ck))
          (first | assumption | go_keep)
          (first | (go_at_call 51; refine (HC.out _ ((Drew.refl _).drew 1)).mono ?_; rintro e w2 ⟨A', c', l', A4, d4, w4, p, rfl, hS2, hr4, hO4, hb4, hA4, hS4⟩) | (refine step_gives rfl (gives_append rfl rfl rfl hr4.out) ?_))
        go_wp2_with fail
        go_roundw
        case rel => exact ⟨k + 1, by omega, by omega, by go_num, _, ps ++ [p], rfl, by simp [hpk], hO4.out, hA4.out, hb4.out⟩
        case measure => simp [iOf]; omega
      · go_wp2_with fail
        go_ret
        first | exact ⟨_, ps, rfl, HO.out, HA.out, by omega, HB.out⟩ | exact ⟨_, rfl, ps, HO.out, HA.out, by omega, HB.out⟩
    · go_wp2_with fail
      go_ret
      first | exact ⟨_, ps, rfl, HO.out, HA.out, by omega, HB.out⟩ | exact ⟨_, rfl, ps, HO.out, HA.out, by omega, HB.out⟩
end Go.Proofs.Yteeamiacplfcmaa
