/-
  Cells of any lengths among the arguments: opened; electionmake.Short and short: whether they are few and small.
-/
import Derived.Test.YteeamiacplfcmaaAwake
import Derived.Test.YteeamiacplfcmaaFrame
namespace Go.Proofs.Yteeamiacplfcmaa
open Go.ChangeShapes Go.WideShapes Go.ChangeAt Go.RowKit
set_option linter.unusedVariables false
set_option linter.unusedSimpArgs false

/-- a group, a cell of any length -/
def GrpW : Rel Grp := fun F w v0 v1 x => ∃ A c, v0 = .slice A x.1.length c ∧ x.1.length ≤ c ∧ x.1.length ≤ 9223372036854775807 ∧ (∀ y ∈ x.1, InI y) ∧ InI x.2 ∧ IntsIn F w A x.1 ∧ v1 = .int .i64 x.2
def CelW : Rel Cel := fun F w v0 v1 x => ∃ A c B d, v0 = .slice A x.1.length c ∧ x.1.length ≤ c ∧ x.1.length ≤ 9223372036854775807 ∧ (∀ y ∈ x.1, InI y) ∧ IntsIn F w A x.1 ∧ v1 = .slice B x.2.length d ∧ x.2.length ≤ d ∧ x.2.length ≤ 9223372036854775807 ∧ PairsIn GrpW F w B x.2
/-- v is a Bool; true tells P -/
def Says (v : Value) (P : Prop) : Prop := ∃ b : Bool, v = .bool b ∧ (b = true → P)
theorem says_no (P : Prop) : Says (.bool false) P := ⟨false, rfl, fun h => by cases h⟩
theorem says_yes {P : Prop} (h : P) : Says (.bool true) P := ⟨true, rfl, fun _ => h⟩
def ShortG (gs : List Grp) : Prop := (∀ g ∈ gs, g.1.length ≤ 12) ∧ gs.length ≤ 60
def ShortC (cs : List Cel) : Prop := (∀ c ∈ cs, c.1.length ≤ 14 ∧ ShortG c.2) ∧ cs.length ≤ 14
theorem grps_of {F : Nat → Prop} {w : World} {A : Option Addr} {gs : List Grp} (h : PairsIn GrpW F w A gs) (hs : ShortG gs) : PairsIn GrpE F w A gs := fun hp => by
  obtain ⟨b, off, e, hF, hc⟩ := h hp
  refine ⟨b, off, e, hF, fun k hk => ?_⟩
  obtain ⟨v0, v1, h0, h1, A2, c2, g0, g1, g2, g3⟩ := hc k hk
  exact ⟨v0, v1, h0, h1, A2, c2, g0, g1, by have := hs.1 _ (getD_memG hk); omega, g3⟩
theorem cels_of {w : World} {A : Option Addr} {cs : List Cel} (h : PairsIn CelW (All w) w A cs) (hs : ShortC cs) : Cels w A cs := fun hp => by
  obtain ⟨b, off, e, hF, hc⟩ := h hp
  refine ⟨b, off, e, hF, fun k hk => ?_⟩
  obtain ⟨v0, v1, h0, h1, A2, c2, B2, d2, g0, g1, g2, g3, g4, g5, g6, g7, g8⟩ := hc k hk
  obtain ⟨s1, s2⟩ := hs.1 _ (getD_memC hk)
  exact ⟨v0, v1, h0, h1, A2, c2, B2, d2, g0, g1, by omega, g3, g4, g5, g6, by have := s2.2; omega, grps_of g8 s2⟩

section
variable {H : Type} {enc : TypeId × Value → H}
theorem take1 {cs : List Value} {j n : Nat} (h : cs.length = n) (hj : j < n) : ∃ v, (cs.drop j).take 1 = [v] ∧ cs[j]? = some v := by
  refine ⟨cs[j]'(by omega), ?_, List.getElem?_eq_getElem (by omega)⟩
  rw [List.drop_eq_getElem_cons (by omega)]
  rfl
/-- a slice of elements of two cells, opened -/
theorem open_pairs {α : Type} [Inhabited α] {E : Rel α} {ts te : TypeId} {W : World} (hs : Try.prog.underlying ts = some (.slice te)) (hc : Try.prog.cellsOf te = 2)
    (hel : ∀ {n : Nat} {cs : List Value} {y : DataW H × List MemPlace}, DataW.trod enc Try.prog W 0 (fun _ => true) true n te cs = some y → ∃ v0 v1 x, cs[0]? = some v0 ∧ cs[1]? = some v1 ∧ E (All W) W v0 v1 x)
    {fuel : Nat} {v : Value} {x : DataW H × List MemPlace} (h : DataW.trod enc Try.prog W 0 (fun _ => true) true fuel ts [v] = some x) :
    ∃ A c xs, v = .slice A xs.length c ∧ PairsIn E (All W) W A xs ∧ xs.length ≤ maxLen ∧ xs.length ≤ c := by
  rcases Go.Deep.open_slice hs h with ⟨e, _⟩ | ⟨a, len, cap, m, n, D, Pl, e, _, hlc, hcm, hm, _, hi⟩
  · cases e
    exact ⟨none, 0, [], rfl, PairsIn.nil _ _ _ _, Nat.zero_le _, Nat.le_refl _⟩
  · cases e
    have hm' : m = cap := hm
    rw [hc] at hi
    have key : ∀ i, ∃ x : α, i < len → ∃ v0 v1, W.cell? (a.add (i * 2)) = some v0 ∧ W.cell? (a.add (i * 2 + 1)) = some v1 ∧ E (All W) W v0 v1 x := fun i => by
      by_cases hlt : i < len
      · obtain ⟨cs', hcs, ht⟩ := hi i (by omega)
        obtain ⟨v0, v1, x, g0, g1, g2⟩ := hel ht
        obtain ⟨_, _, hat⟩ := World.cells?_some hcs
        refine ⟨x, fun _ => ⟨v0, v1, ?_, ?_, g2⟩⟩
        · have := hat 0 (by omega)
          rw [Go.Deep.add_add] at this
          exact this.trans g0
        · rw [← Go.Deep.add_add, hat 1 (by omega), g1]
      · exact ⟨default, fun h => absurd h hlt⟩
    obtain ⟨f, hf2⟩ := Classical.axiomOfChoice key
    have hlen : ((List.range len).map f).length = len := by simp
    have hget : ∀ k, k < len → ((List.range len).map f).getD k default = f k := fun k hk => by simp [List.getD_eq_getElem?_getD, hk]
    refine ⟨some a, cap, (List.range len).map f, by rw [hlen], fun hp => ?_, by omega, by omega⟩
    rw [hlen] at hp
    obtain ⟨b, off, spot⟩ := a
    have hspot : spot = none := by
      obtain ⟨v0, v1, h1, _⟩ := hf2 0 hp
      simpa [Addr.add] using World.cell?_spot h1
    subst hspot
    obtain ⟨_, _, h1, _⟩ := hf2 0 hp
    refine ⟨b, off, rfl, ?_, fun k hk => ?_⟩
    · have := World.block_lt_of_cell? W _ h1
      rwa [show ((⟨b, off, none⟩ : Addr).add (0 * 2)).block = b from by unfold Addr.add; split <;> rfl] at this
    · rw [hlen] at hk
      obtain ⟨v0, v1, g0, g1, g2⟩ := hf2 k hk
      rw [hget k hk]
      rw [add_plain] at g0 g1
      exact ⟨v0, v1, g0, by rw [Nat.add_assoc]; exact g1, g2⟩
theorem cellsGrp : Try.prog.cellsOf 52 = 2 := by kernel_rfl
theorem cellsCel : Try.prog.cellsOf 34 = 2 := by kernel_rfl
theorem cellsGrps : Try.prog.cellsOf 32 = 1 := by kernel_rfl
theorem open_grp {W : World} {fuel : Nat} {cs : List Value} {x : DataW H × List MemPlace} (h : DataW.trod enc Try.prog W 0 (fun _ => true) true fuel 52 cs = some x) :
    ∃ v0 v1 g, cs[0]? = some v0 ∧ cs[1]? = some v1 ∧ GrpW (All W) W v0 v1 g := by
  obtain ⟨y0, y1, n, _, hl, h0, h1⟩ := trod_struct2 Try.underlying52 h
  rw [cellsGrp] at hl
  obtain ⟨v0, e0, g0⟩ := take1 hl (j := 0) (by omega)
  obtain ⟨v1, e1, g1⟩ := take1 hl (j := 1) (by omega)
  have h0' : DataW.trod enc Try.prog W 0 (fun _ => true) true n 31 ((cs.drop 0).take (Try.prog.cellsOf 31)) = some y0 := h0
  have h1' : DataW.trod enc Try.prog W 0 (fun _ => true) true n 3 ((cs.drop 1).take (Try.prog.cellsOf 3)) = some y1 := h1
  rw [cellsInts, e0] at h0'
  rw [cellsInt, e1] at h1'
  obtain ⟨A, c, l, rfl, hI, hm, hc, hi⟩ := open_ints0 h0'
  obtain ⟨a1, q1, _, hw1⟩ := DataW.trod_int Try.underlying3 h1'
  cases q1
  exact ⟨_, _, (l, a1), g0, g1, A, c, rfl, hc, by have := maxLen_le; simp only []; omega, hi, i64_bd hw1, hI, rfl⟩
theorem open_cel {W : World} {fuel : Nat} {cs : List Value} {x : DataW H × List MemPlace} (h : DataW.trod enc Try.prog W 0 (fun _ => true) true fuel 34 cs = some x) :
    ∃ v0 v1 g, cs[0]? = some v0 ∧ cs[1]? = some v1 ∧ CelW (All W) W v0 v1 g := by
  obtain ⟨y0, y1, n, _, hl, h0, h1⟩ := trod_struct2 Try.underlying34 h
  rw [cellsCel] at hl
  obtain ⟨v0, e0, g0⟩ := take1 hl (j := 0) (by omega)
  obtain ⟨v1, e1, g1⟩ := take1 hl (j := 1) (by omega)
  have h0' : DataW.trod enc Try.prog W 0 (fun _ => true) true n 31 ((cs.drop 0).take (Try.prog.cellsOf 31)) = some y0 := h0
  have h1' : DataW.trod enc Try.prog W 0 (fun _ => true) true n 32 ((cs.drop 1).take (Try.prog.cellsOf 32)) = some y1 := h1
  rw [cellsInts, e0] at h0'
  rw [cellsGrps, e1] at h1'
  obtain ⟨A, c, l, rfl, hI, hm, hc, hi⟩ := open_ints0 h0'
  obtain ⟨B, d, gs, rfl, hP, hm2, hd⟩ := open_pairs (E := GrpW) Try.underlying32 cellsGrp open_grp h1'
  have hmx := maxLen_le
  exact ⟨_, _, (l, gs), g0, g1, A, c, B, d, rfl, hc, by simp only []; omega, hi, hI, rfl, hd, by simp only []; omega, hP⟩
set_option maxRecDepth 100000 in
theorem open_cells {r : Reach} {b0 : Nat} {W : World} {v : Value} {d : DataW H} {p : List MemPlace} (hv : Value.okWide Try.prog W r b0 23 v) (h : DataW.Trod enc Try.prog W 0 (fun _ => true) true 23 v d p) :
    ∃ A c cs, v = .slice A cs.length c ∧ PairsIn CelW (All W) W A cs ∧ cs.length ≤ 9223372036854775807 := by
  obtain ⟨a0, n0, c0, rfl⟩ := okWide_slice Try.underlying23 hv
  obtain ⟨fuel, hf⟩ := h
  obtain ⟨A, c, cs, e, hP, hm, _⟩ := open_pairs (E := CelW) Try.underlying23 cellsCel open_cel (show DataW.trod enc Try.prog W 0 (fun _ => true) true fuel 23 [.slice a0 n0 c0] = some (d, p) from hf)
  exact ⟨A, c, cs, e, hP, Nat.le_trans hm maxLen_le⟩
end
set_option maxHeartbeats 4000000 in
theorem shortg_any {A : Option Addr} {c : Nat} {gs : List Grp} {w : World} (h : PairsIn GrpW (All w) w A gs) (hm : gs.length ≤ 9223372036854775807) :
    Calls Try.prog 31 #[.slice A gs.length c] w fun e w' => ∃ v : Value, e = .returned v ∧ Says v (ShortG gs) ∧ Drew w w' := by
  have H := hide h
  clear h
  go_enter Try.func31, Try.ntmps31
  go_wp2_with fail
  go_loopw [3] (fun i wr => ∃ k : Nat, k ≤ gs.length ∧ i = .int .i64 k ∧ Hid (∀ g ∈ gs.take k, g.1.length ≤ 12) ∧ wr = w) (fun i _ => gs.length - (iOf i).toNat)
  case atStart => exact ⟨0, Nat.zero_le _, rfl, (fun g hg => by cases hg), rfl⟩
  case round =>
    obtain ⟨k, hk, rfl, HS, rfl⟩ := hrel
    by_cases hlt : k < gs.length
    · obtain ⟨b, off, v0, v1, rfl, hb, q0, q1, A2, c2, rfl, hc2, hm2, -, -, -, rfl⟩ := PairsIn.at_ H.out hlt
      have hst : Hid ((gs.getD k default).1.length ≤ 12 → ∀ g ∈ gs.take (k + 1), g.1.length ≤ 12) := fun h g hg => by
        rw [take_succG hlt, List.mem_append, List.mem_singleton] at hg
        rcases hg with hg | rfl
        · exact HS.out g hg
        · exact h
      generalize (gs.getD k default).1.length = n at *
      by_cases h12 : n ≤ 12
      · go_wp2_with fail
        go_roundw
        case rel => exact ⟨k + 1, by omega, by go_num, hst.out h12, by first | rfl | trivial⟩
        case measure => simp [iOf]; omega
      · go_wp2_with fail
        go_ret
        exact ⟨.bool false, rfl, says_no _, Drew.refl _⟩
    · obtain rfl : k = gs.length := by omega
      by_cases h60 : gs.length ≤ 60
      · go_wp2_with fail
        go_ret
        refine ⟨.bool true, by simp; omega, says_yes ⟨?_, h60⟩, Drew.refl _⟩
        have := HS.out
        rwa [List.take_length] at this
      · go_wp2_with fail
        go_ret
        exact ⟨.bool false, by simp; omega, says_no _, Drew.refl _⟩
set_option maxHeartbeats 4000000 in
theorem short_any {A : Option Addr} {c : Nat} {cs : List Cel} {w : World} (h : PairsIn CelW (All w) w A cs) (hm : cs.length ≤ 9223372036854775807) :
    Calls Try.prog 14 #[.slice A cs.length c] w fun e w' => ∃ v : Value, e = .returned v ∧ Says v (ShortC cs) ∧ Drew w w' := by
  have H := hide h
  clear h
  go_enter Try.func14, Try.ntmps14
  go_wp2_with fail
  go_loopw [3] (fun i wr => ∃ k : Nat, k ≤ cs.length ∧ i = .int .i64 k ∧ Hid (∀ g ∈ cs.take k, g.1.length ≤ 14 ∧ ShortG g.2) ∧ Hid (Drew w wr)) (fun i _ => cs.length - (iOf i).toNat)
  case atStart => exact ⟨0, Nat.zero_le _, rfl, (fun g hg => by cases hg), Drew.refl _⟩
  case round =>
    obtain ⟨k, hk, rfl, HS, HD⟩ := hrel
    by_cases hlt : k < cs.length
    · obtain ⟨b, off, v0, v1, rfl, hb, q0, q1, A2, c2, B2, d2, rfl, hc2, hm2, -, -, rfl, hd2, hn2, hP⟩ := PairsIn.at_ H.out hlt
      have q0 := (HD.out.below.cell (p := ⟨b, off + k * 2, none⟩) hb).trans q0
      have q1 := (HD.out.below.cell (p := ⟨b, off + k * 2 + 1, none⟩) hb).trans q1
      have hP2 : PairsIn GrpW (All wr) wr B2 (cs.getD k default).2 := by
        intro hp
        obtain ⟨b', off', e, hF, hc⟩ := hP hp
        refine ⟨b', off', e, Nat.lt_of_lt_of_le hF HD.out.below.size, fun j hj => ?_⟩
        obtain ⟨u0, u1, p0, p1, A3, c3, r0, r1, r2, r3, r4, r5, r6⟩ := hc j hj
        exact ⟨u0, u1, (HD.out.below.cell (p := ⟨b', off' + j * 2, none⟩) hF).trans p0, (HD.out.below.cell (p := ⟨b', off' + j * 2 + 1, none⟩) hF).trans p1, A3, c3, r0, r1, r2, r3, r4, Ints.below r5 HD.out.below, r6⟩
      have HG := hide (shortg_any (c := d2) hP2 hn2)
      have hst : Hid ((cs.getD k default).1.length ≤ 14 → ShortG (cs.getD k default).2 → ∀ g ∈ cs.take (k + 1), g.1.length ≤ 14 ∧ ShortG g.2) := fun h h' g hg => by
        rw [take_succC hlt, List.mem_append, List.mem_singleton] at hg
        rcases hg with hg | rfl
        · exact HS.out g hg
        · exact ⟨h, h'⟩
      clear hP hP2
      generalize cs.getD k default = cc at *
      by_cases h14 : cc.1.length ≤ 14
      · go_wp2_with fail
        refine HG.out.mono ?_
        rintro e w1 ⟨_, rfl, ⟨bb, rfl, hbb⟩, hd1⟩
        have HBB := hide (fun (v : Bool) (h : v = bb) (h' : v = true) => hbb (h ▸ h'))
        have HD1 := hide (HD.out.trans hd1)
        clear hbb hd1
        cases bb with
        | true =>
          go_wp2_with fail
          go_roundw
          case rel => exact ⟨k + 1, by omega, by go_num, hst.out h14 (HBB.out _ rfl rfl), HD1.out⟩
          case measure => simp [iOf]; omega
        | false =>
          go_wp2_with fail
          go_ret
          exact ⟨.bool false, rfl, says_no _, HD1.out⟩
      · go_wp2_with fail
        go_ret
        exact ⟨.bool false, rfl, says_no _, HD.out⟩
    · obtain rfl : k = cs.length := by omega
      by_cases h60 : cs.length ≤ 14
      · go_wp2_with fail
        go_ret
        refine ⟨.bool true, by simp; omega, says_yes ⟨?_, h60⟩, HD.out⟩
        have := HS.out
        rwa [List.take_length] at this
      · go_wp2_with fail
        go_ret
        exact ⟨.bool false, by simp; omega, says_no _, HD.out⟩
end Go.Proofs.Yteeamiacplfcmaa
