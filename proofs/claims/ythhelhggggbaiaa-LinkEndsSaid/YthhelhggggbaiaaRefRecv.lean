/-
  The reference's receiver: Receive.
-/
import Derived.Test.YthhelhggggbaiaaRComp
import Derived.Deep.DeepCutAuto
namespace Go.Proofs.Ythhelhggggbaiaa
open Go.RowKit
set_option linter.unusedVariables false
set_option linter.unusedSimpArgs false
attribute [local go_sem ↓] Go.wp_at_zero Go.wp_at_succ

theorem RefR.push {F : Nat → Prop} {w w3 : World} {t W : Nat} {L : List Msg} {v v' : Value} {As : Nat → Option Addr} {Cs : Nat → Nat} (hbox : Box w t 51 #[.int .i64 (W : Int), v]) (hO : OwnMs (fun i => F i ∧ i ≠ t) w v L As Cs) (hF : F t) (hl : Lt F w)
    {m : Msg} {A : Option Addr} {c : Nat} (hb : BysIn (fun i => F i ∧ i ≠ t ∧ v.ownBlock ≠ some i) w A m.data) (hc : m.data.length ≤ c)
    (ho : w3.ownsRow 0 34 4 v' (L.length + 1) (msVals L As Cs ++ [.bool m.ack, .int .i64 m.num, .bool m.last, .slice A m.data.length c])) (hg : w.grownBy w3 v.ownBlock) (hor : v'.ownBlock = v.ownBlock ∨ v'.ownBlock = some w.heap.size) :
    RefR (fun i => F i ∨ v'.ownBlock = some i) (w3.setCell ⟨t, 1, none⟩ v') t W (L ++ [m]) := by
  have hlt := hl t hF
  have hvt : v.ownBlock ≠ some t := fun e => (hO.2.1 t e).2 rfl
  have hvt' : v'.ownBlock ≠ some t := by
    rcases hor with e | e <;> rw [e]
    · exact hvt
    · intro e; injection e with e; omega
  have hG := hO.push (v' := v') (fun i hi => hl i hi.1) (hb.mono fun i hi => ⟨⟨hi.1, hi.2.1⟩, hi.2.2⟩) hc ho hg hor
  have ha : Agree (fun i => F i ∧ v.ownBlock ≠ some i) w w3 := fun i hi => hg.block i (hl i hi.1) fun e => hi.2 e.symm
  have ha2 : Agree (fun i => i ≠ t) w3 (w3.setCell ⟨t, 1, none⟩ v') := fun i hi => Below.heap_setCell _ _ _ _ hi
  refine ⟨⟨v', _, _, ((hbox.agree ha ⟨hF, hvt⟩).set 1 v'), ⟨ownsRow_heap hG.1 fun g e => ha2 g fun e2 => hvt' (e2 ▸ e), fun g e => ⟨.inr e, fun e2 => hvt' (e2 ▸ e)⟩, fun k hk => ?_⟩⟩, .inl hF, fun i hi => ?_⟩
  · obtain ⟨g1, g2⟩ := hG.2.2 k hk
    refine ⟨(g1.agree (ha2.mono fun i hi e2 => ?_)).mono fun i hi => ⟨⟨?_, ?_⟩, hi.2⟩, g2⟩
    · subst e2
      rcases hi.1 with h1 | h1
      · exact h1.2 rfl
      · exact hvt' h1
    · rcases hi.1 with h1 | h1
      · exact .inl h1.1
      · exact .inr h1
    · rcases hi.1 with h1 | h1
      · exact h1.2
      · exact fun e => hvt' (e ▸ h1)
  · have : i < w3.heap.size := by
      rcases hi with hi | hi
      · exact Nat.lt_of_lt_of_le (hl i hi) hg.size
      · exact ownsRow_lt ho i hi
    simpa [World.setCell] using this

def IgnB (W g : Nat) (ack : Bool) (num : Int) (dlen : Nat) : Prop := ack = true ∨ num < 0 ∨ (g : Int) + (W : Int) ≤ num ∨ 4096 < dlen
def Bars (x : Msg) (num : Int) (lst : Bool) : Prop := (x.last = true ∧ x.num < num) ∨ (lst = true ∧ num < x.num)
def RefIgn (L : List Msg) (W g : Nat) (ack : Bool) (num : Int) (lst : Bool) (dlen : Nat) : Prop := IgnB W g ack num dlen ∨ ∃ j, j < L.length ∧ Bars (L.getD j zeroM) num lst
def recvL (L : List Msg) (num : Int) (lst : Bool) (data : List UInt8) : List Msg := if (hasL L num).isSome then L else L ++ [⟨false, num, lst, data⟩]
/-- what the reference's Receive leaves where the message is accepted -/
def RefAcc (F : Nat → Prop) (w : World) (t W : Nat) (L : List Msg) (g : Nat) (en : Ending) (w' : World) : Prop :=
  en = .returned (.tuple #[.agg #[.bool true, .int .i64 (g : Int), .bool false, .slice none 0 0], .bool true]) ∧ ∃ F', RefR F' w' t W L ∧ (∀ i, F' i → F i ∨ w.heap.size ≤ i) ∧ Chg F w w'
/-- .. or not -/
def RefPost (F : Nat → Prop) (w : World) (t W : Nat) (L : List Msg) (g' : Nat) (num : Int) (lst : Bool) (data : List UInt8) (P : Prop) (en : Ending) (w' : World) : Prop :=
  (P ∧ NoMsg w en w') ∨ (¬ P ∧ RefAcc F w t W (recvL L num lst data) g' en w')

/-- what the calls of Receive hold on to -/
def QSt (F : Nat → Prop) (w : World) (t W : Nat) (L : List Msg) (wx : World) : Prop :=
  ∃ F', RefR F' wx t W L ∧ (∀ i, F' i → F i ∨ w.heap.size + 2 ≤ i) ∧ Chg F w wx ∧ Box wx (w.heap.size + 1) 34 #[.bool false, .int .i64 0, .bool false, .slice none 0 0]

set_option maxHeartbeats 6400000 in
set_option maxRecDepth 100000 in
theorem refreceive_any {F : Nat → Prop} {w : World} {t W : Nat} {L : List Msg} (h : RefR F w t W L) (hL' : L.length ≤ 99999) (hW : W ≤ 8) (ack lst : Bool) (num : Int) (hnum : InR num) (A : Option Addr) (c : Nat) (data : List UInt8) (hd : Bys w A data) (hdl : data.length ≤ 1000000) (hmb : ∀ k, k < L.length → InR (L.getD k zeroM).num)
    (g : Nat) (hg : g ≤ 100000) (h1 : ∀ k : Nat, k < g → (hasL L (k : Int)).isSome = true) (h2 : hasL L (g : Int) = none)
    (g' : Nat) (hg' : g' ≤ 100000) (hx' : ¬ RefIgn L W g ack num lst data.length → (∀ k : Nat, k < g' → (hasL (recvL L num lst data) (k : Int)).isSome = true) ∧ hasL (recvL L num lst data) (g' : Int) = none) :
    Calls Try.prog 24 #[.pointer (some ⟨t, 0, none⟩), .agg #[.bool ack, .int .i64 num, .bool lst, .slice A data.length c]] w (RefPost F w t W L g' num lst data (RefIgn L W g ack num lst data.length)) := by
  obtain ⟨M, hM⟩ : ∃ M, M = Obj.cells #[.bool ack, .int .i64 num, .bool lst, .slice A data.length c] 34 := ⟨_, rfl⟩
  obtain ⟨w1, hw1⟩ : ∃ w1, w1 = (w.alloc M).alloc (.cells #[.bool false, .int .i64 0, .bool false, .slice none 0 0] 34) := ⟨_, rfl⟩
  have HBl : Hid (Below w.heap.size w w1) := by rw [hw1]; exact ((Below.refl _ _).alloc (Nat.le_refl _) _).alloc (by simp) _
  have HX : Hid (Box w1 w.heap.size 34 #[.bool ack, .int .i64 num, .bool lst, .slice A data.length c]) := by rw [hw1, hM]; exact (Box.new _ _ _).alloc _
  have HZ : Hid (Box w1 (w.heap.size + 1) 34 #[.bool false, .int .i64 0, .bool false, .slice none 0 0]) := by
    have hz := Box.new (w.alloc M) 34 #[.bool false, .int .i64 0, .bool false, .slice none 0 0]
    rw [World.size_alloc] at hz
    rw [hw1]
    exact hz
  rw [hM] at hw1
  have HW := hide hw1
  have hsz1 : w.heap.size + 2 = w1.heap.size := by rw [hw1]; simp
  have HSZ := hide hsz1
  have hs2 : w.heap.size + 2 ≤ w1.heap.size := by omega
  clear hM hw1 hsz1
  have hL : L.length ≤ 100000 := by omega
  have HR1 := hide (h.kept HBl.out)
  have HLT := hide h.lt
  have htw := h.here
  have hFt := h.mem
  have HD1 := hide (hd.below HBl.out)
  have HG := hide (fun (v : World) (hv : RefR F v t W L) => got_any hv hL g hg h1 h2)
  have hrl : (recvL L num lst data).length ≤ 100000 := by
    unfold recvL
    split
    · omega
    · simp; omega
  have hL : L.length ≤ 100000 := by omega
  have HX' := hide hx'
  have HMB := hide hmb
  obtain ⟨i0, hi, hz0, hz1, hz2⟩ := info_parts msginfo
  have x0 : w1.cell? ⟨w.heap.size, 0, none⟩ = some (.bool ack) := HX.out.cell 0
  have x1 : w1.cell? ⟨w.heap.size, 1, none⟩ = some (.int .i64 num) := HX.out.cell 1
  have x2 : w1.cell? ⟨w.heap.size, 2, none⟩ = some (.bool lst) := HX.out.cell 2
  have x3 : w1.cell? ⟨w.heap.size, 3, none⟩ = some (.slice A data.length c) := HX.out.cell 3
  unfold InR at hnum
  clear h h1 h2 hx' hd hmb
  go_enter Try.func24, Try.ntmps24
  go_upto_region 1 with fail
  rw [← HW.out]
  go_wp2_with fail
  refine (HG.out _ HR1.out).mono ?_
  rintro en w2 ⟨rfl, hB2⟩
  have HB2 := hide (HBl.out.trans (hB2.mono HBl.out.size))
  have HR2 := hide (HR1.out.kept hB2)
  have HX2 := hide (HX.out.kept hB2)
  have HZ2 := hide (HZ.out.kept hB2)
  have HD2 := hide (HD1.out.below hB2)
  have hs3 : w.heap.size + 2 ≤ w2.heap.size := Nat.le_trans hs2 hB2.size
  obtain ⟨AL0, cL0, hcL0, c0, -⟩ := HR2.out.cells
  clear hB2 x0 x1 x2 x3
  have x0 : w2.cell? ⟨w.heap.size, 0, none⟩ = some (.bool ack) := HX2.out.cell 0
  have x1 : w2.cell? ⟨w.heap.size, 1, none⟩ = some (.int .i64 num) := HX2.out.cell 1
  have x2 : w2.cell? ⟨w.heap.size, 2, none⟩ = some (.bool lst) := HX2.out.cell 2
  have x3 : w2.cell? ⟨w.heap.size, 3, none⟩ = some (.slice A data.length c) := HX2.out.cell 3
  go_upto_region 2 with fail
  go_cut [36] (fun v wx => ∃ bb : Bool, v = .bool bb ∧ Hid (Tells bb (IgnB W g ack num data.length)) ∧ ∃ q, wx = w2.drewN q)
  case first =>
    rcases (show ack = true ∨ (ack = false ∧ num < 0) ∨ (ack = false ∧ 0 ≤ num ∧ (g : Int) + (W : Int) ≤ num) ∨ (ack = false ∧ 0 ≤ num ∧ num < (g : Int) + (W : Int) ∧ 4096 < data.length) ∨ (ack = false ∧ 0 ≤ num ∧ num < (g : Int) + (W : Int) ∧ data.length ≤ 4096) by cases ack <;> simp <;> omega) with rfl | ⟨rfl, h1⟩ | ⟨rfl, h1, h2⟩ | ⟨rfl, h1, h2, h3⟩ | ⟨rfl, h1, h2, h3⟩
    · have HP : Hid (Tells true (IgnB W g true num data.length)) := Tells.yes (by unfold IgnB; simp; try omega)
      go_quiet (fail)
      go_wp2_with fail
      go_meet
      exact ⟨_, rfl, HP, _, rfl⟩
    · have t0 : decide (num < 0) = true := decide_eq_true (by omega)
      have HP : Hid (Tells true (IgnB W g false num data.length)) := Tells.yes (by unfold IgnB; simp; try omega)
      go_quiet (fail)
      go_wp2_with fail
      go_meet
      exact ⟨_, rfl, HP, _, rfl⟩
    · have t0 : decide (num < 0) = false := decide_eq_false (by omega)
      have t1 : decide ((g : Int) + (W : Int) ≤ num) = true := decide_eq_true (by omega)
      have HP : Hid (Tells true (IgnB W g false num data.length)) := Tells.yes (by unfold IgnB; simp; try omega)
      go_quiet (fail)
      go_wp2_with fail
      go_meet
      exact ⟨_, rfl, HP, _, rfl⟩
    · have t0 : decide (num < 0) = false := decide_eq_false (by omega)
      have t1 : decide ((g : Int) + (W : Int) ≤ num) = false := decide_eq_false (by omega)
      have t2 : decide ((4096 : Int) < (data.length : Int)) = true := decide_eq_true (by omega)
      have HP : Hid (Tells true (IgnB W g false num data.length)) := Tells.yes (by unfold IgnB; simp; try omega)
      go_quiet (fail)
      go_wp2_with fail
      go_meet
      exact ⟨_, rfl, HP, _, rfl⟩
    · have t0 : decide (num < 0) = false := decide_eq_false (by omega)
      have t1 : decide ((g : Int) + (W : Int) ≤ num) = false := decide_eq_false (by omega)
      have t2 : decide ((4096 : Int) < (data.length : Int)) = false := decide_eq_false (by omega)
      have HP : Hid (Tells false (IgnB W g false num data.length)) := Tells.no (by unfold IgnB; simp; omega)
      go_quiet (fail)
      go_wp2_with fail
      go_meet
      exact ⟨_, rfl, HP, _, rfl⟩
  case rest =>
    obtain ⟨bb, rfl, hbb, q, rfl⟩ := hcut
    clear c0 x0 x1 x2 x3
    cases bb
    case true =>
      have HI : Hid (RefIgn L W g ack num lst data.length) := .inl hbb.out.true_
      have HBB := hide HB2.out
      have z0 : w2.cell? ⟨w.heap.size + 1, 0, none⟩ = some (.bool false) := HZ2.out.cell 0
      have z1 : w2.cell? ⟨w.heap.size + 1, 1, none⟩ = some (.int .i64 0) := HZ2.out.cell 1
      have z2 : w2.cell? ⟨w.heap.size + 1, 2, none⟩ = some (.bool false) := HZ2.out.cell 2
      have z3 : w2.cell? ⟨w.heap.size + 1, 3, none⟩ = some (.slice none 0 0) := HZ2.out.cell 3
      have e0 := HZ2.out.frozen 0
      have e1 := HZ2.out.frozen 1
      have e2 := HZ2.out.frozen 2
      have e3 := HZ2.out.frozen 3
      go_wp2_with fail
      refine bodyPost_ret (v := .tuple #[.agg #[.bool false, .int .i64 0, .bool false, .slice none 0 0], .bool false]) (by simp [results, Try.results24, go_sem, z0, z1, z2, z3]) rfl (.inl ⟨HI.out, rfl, ?_⟩)
      first | exact below_drew HBB.out _ | exact Below.set4 (below_drew HBB.out _) (by omega) _ _ _ _
    case false =>
      obtain ⟨v, As, Cs, hBox, hOwn⟩ := HR2.out.box
      obtain ⟨AL, cL, rfl, hcL, _, hMS⟩ := hOwn.shape
      have HMS := hide (hMS.mono (fun i (hi : F i ∧ i ≠ t) => hi.1))
      have q1 : w2.cell? ⟨t, 1, none⟩ = some (.slice AL L.length cL) := hBox.cell 1
      have HBoxA := hide hBox
      have HOwnA := hide hOwn
      clear hBox hOwn hMS
      go_wp2_with fail
      clear q1
      go_loopw [8, 43] (fun _ i wr => ∃ k : Nat, k ≤ L.length ∧ i = .int .i64 k ∧ Hid (Below w2.heap.size w2 wr) ∧ Hid (∀ j, j < k → ¬ Bars (L.getD j zeroM) num lst)) (fun _ i wr => L.length - (intOf i).toNat)
      case atStart => exact ⟨0, Nat.zero_le _, rfl, below_drew (Below.refl _ _) _, fun j hj => absurd hj (by omega)⟩
      case round =>
        obtain ⟨k, hk, rfl, hB, hno⟩ := hrel
        have HXr := hide (HX2.out.kept hB.out)
        have HZr := hide (HZ2.out.kept hB.out)
        have x0 : wr.cell? ⟨w.heap.size, 0, none⟩ = some (.bool ack) := HXr.out.cell 0
        have x1 : wr.cell? ⟨w.heap.size, 1, none⟩ = some (.int .i64 num) := HXr.out.cell 1
        have x2 : wr.cell? ⟨w.heap.size, 2, none⟩ = some (.bool lst) := HXr.out.cell 2
        have x3 : wr.cell? ⟨w.heap.size, 3, none⟩ = some (.slice A data.length c) := HXr.out.cell 3
        by_cases hlt : k < L.length
        · obtain ⟨b, off, Ak, ck, rfl, hFb, hm⟩ := (HMS.out.agree (Agree.of_below hB.out (fun i hi => Nat.lt_of_lt_of_le (HLT.out i hi) (by omega)))).at_ hlt
          have hmr := HMB.out k hlt
          obtain ⟨m, hme⟩ : ∃ m, m = L.getD k zeroM := ⟨_, rfl⟩
          rw [← hme] at hm hmr
          obtain ⟨y0, y1, y2, y3, hby, hck⟩ := hm
          have hi0 : (0 : Int) ≤ (k : Int) := by omega
          have hi1 : (k : Int) < (L.length : Int) := by omega
          have HME := hide hme
          obtain ⟨v3, hv3⟩ : ∃ v3, v3 = wr.alloc (.cells #[.bool m.ack, .int .i64 m.num, .bool m.last, .slice Ak m.data.length ck] 34) := ⟨_, rfl⟩
          have hq3 : Below wr.heap.size wr v3 := by rw [hv3]; exact (Below.refl _ _).alloc (Nat.le_refl _) _
          have HB3 := hide (below_then hB.out hq3)
          have HBB := hide (HB2.out.trans (HB3.out.mono HB2.out.size))
          have HM3 : Hid (Box v3 wr.heap.size 34 #[.bool m.ack, .int .i64 m.num, .bool m.last, .slice Ak m.data.length ck]) := by rw [hv3]; exact Box.new _ _ _
          have HX3 := hide (HXr.out.kept hq3)
          have HZ3 := hide (HZr.out.kept hq3)
          have HV3 := hide hv3
          have HNX : Hid (¬ Bars m num lst → ∀ j, j < k + 1 → ¬ Bars (L.getD j zeroM) num lst) := fun hb j hj => by
            rcases Nat.lt_or_ge j k with h | h
            · exact hno.out j h
            · obtain rfl : j = k := by omega
              rw [← HME.out]
              exact hb
          have HIX : Hid (Bars m num lst → RefIgn L W g ack num lst data.length) := fun hb => .inr ⟨k, hlt, by rw [← HME.out]; exact hb⟩
          clear hby hme hq3 hv3 x0 x1 x2 x3
          go_upto_region 7 with fail
          rw [← HV3.out]
          clear y0 y1 y2 y3
          have x1 : v3.cell? ⟨w.heap.size, 1, none⟩ = some (.int .i64 num) := HX3.out.cell 1
          have x2 : v3.cell? ⟨w.heap.size, 2, none⟩ = some (.bool lst) := HX3.out.cell 2
          have y1 : v3.cell? ⟨wr.heap.size, 1, none⟩ = some (.int .i64 m.num) := HM3.out.cell 1
          have y2 : v3.cell? ⟨wr.heap.size, 2, none⟩ = some (.bool m.last) := HM3.out.cell 2
          cases hla : m.last
          case true =>
            rw [hla] at y2
            by_cases ha : m.num < num
            · have ta : decide (m.num < num) = true := decide_eq_true ha
              have HI := hide (HIX.out (by unfold Bars; simp [hla]; try omega))
              have z0 : v3.cell? ⟨w.heap.size + 1, 0, none⟩ = some (.bool false) := HZ3.out.cell 0
              have z1 : v3.cell? ⟨w.heap.size + 1, 1, none⟩ = some (.int .i64 0) := HZ3.out.cell 1
              have z2 : v3.cell? ⟨w.heap.size + 1, 2, none⟩ = some (.bool false) := HZ3.out.cell 2
              have z3 : v3.cell? ⟨w.heap.size + 1, 3, none⟩ = some (.slice none 0 0) := HZ3.out.cell 3
              have e0 := HZ3.out.frozen 0
              have e1 := HZ3.out.frozen 1
              have e2 := HZ3.out.frozen 2
              have e3 := HZ3.out.frozen 3
              go_wp2_with fail
              refine bodyPost_ret (v := .tuple #[.agg #[.bool false, .int .i64 0, .bool false, .slice none 0 0], .bool false]) (by simp [results, Try.results24, go_sem, z0, z1, z2, z3]) rfl (.inl ⟨HI.out, rfl, ?_⟩)
              first | exact HBB.out | exact Below.set4 HBB.out (by omega) _ _ _ _
            · have ta : decide (m.num < num) = false := decide_eq_false ha
              cases lst
              case false =>
                have HN := hide (HNX.out (by unfold Bars; simp [hla]; try omega))
                go_wp2_with fail
                go_roundw
                case rel => exact ⟨k + 1, by omega, by go_num, HB3.out, HN.out⟩
                case measure => simp [intOf]; omega
              case true =>
                by_cases hb : num < m.num
                · have tb : decide (num < m.num) = true := decide_eq_true hb
                  have HI := hide (HIX.out (by unfold Bars; simp [hla]; try omega))
                  have z0 : v3.cell? ⟨w.heap.size + 1, 0, none⟩ = some (.bool false) := HZ3.out.cell 0
                  have z1 : v3.cell? ⟨w.heap.size + 1, 1, none⟩ = some (.int .i64 0) := HZ3.out.cell 1
                  have z2 : v3.cell? ⟨w.heap.size + 1, 2, none⟩ = some (.bool false) := HZ3.out.cell 2
                  have z3 : v3.cell? ⟨w.heap.size + 1, 3, none⟩ = some (.slice none 0 0) := HZ3.out.cell 3
                  have e0 := HZ3.out.frozen 0
                  have e1 := HZ3.out.frozen 1
                  have e2 := HZ3.out.frozen 2
                  have e3 := HZ3.out.frozen 3
                  go_wp2_with fail
                  refine bodyPost_ret (v := .tuple #[.agg #[.bool false, .int .i64 0, .bool false, .slice none 0 0], .bool false]) (by simp [results, Try.results24, go_sem, z0, z1, z2, z3]) rfl (.inl ⟨HI.out, rfl, ?_⟩)
                  first | exact HBB.out | exact Below.set4 HBB.out (by omega) _ _ _ _
                · have tb : decide (num < m.num) = false := decide_eq_false hb
                  have HN := hide (HNX.out (by unfold Bars; simp [hla]; try omega))
                  go_wp2_with fail
                  go_roundw
                  case rel => exact ⟨k + 1, by omega, by go_num, HB3.out, HN.out⟩
                  case measure => simp [intOf]; omega
          case false =>
            rw [hla] at y2
            cases lst
            case false =>
              have HN := hide (HNX.out (by unfold Bars; simp [hla]; try omega))
              go_wp2_with fail
              go_roundw
              case rel => exact ⟨k + 1, by omega, by go_num, HB3.out, HN.out⟩
              case measure => simp [intOf]; omega
            case true =>
              by_cases hb : num < m.num
              · have tb : decide (num < m.num) = true := decide_eq_true hb
                have HI := hide (HIX.out (by unfold Bars; simp [hla]; try omega))
                have z0 : v3.cell? ⟨w.heap.size + 1, 0, none⟩ = some (.bool false) := HZ3.out.cell 0
                have z1 : v3.cell? ⟨w.heap.size + 1, 1, none⟩ = some (.int .i64 0) := HZ3.out.cell 1
                have z2 : v3.cell? ⟨w.heap.size + 1, 2, none⟩ = some (.bool false) := HZ3.out.cell 2
                have z3 : v3.cell? ⟨w.heap.size + 1, 3, none⟩ = some (.slice none 0 0) := HZ3.out.cell 3
                have e0 := HZ3.out.frozen 0
                have e1 := HZ3.out.frozen 1
                have e2 := HZ3.out.frozen 2
                have e3 := HZ3.out.frozen 3
                go_wp2_with fail
                refine bodyPost_ret (v := .tuple #[.agg #[.bool false, .int .i64 0, .bool false, .slice none 0 0], .bool false]) (by simp [results, Try.results24, go_sem, z0, z1, z2, z3]) rfl (.inl ⟨HI.out, rfl, ?_⟩)
                first | exact HBB.out | exact Below.set4 HBB.out (by omega) _ _ _ _
              · have tb : decide (num < m.num) = false := decide_eq_false hb
                have HN := hide (HNX.out (by unfold Bars; simp [hla]; try omega))
                go_wp2_with fail
                go_roundw
                case rel => exact ⟨k + 1, by omega, by go_num, HB3.out, HN.out⟩
                case measure => simp [intOf]; omega

        · obtain rfl : k = L.length := by omega
          have HNI : Hid (¬ RefIgn L W g ack num lst data.length) := fun e => by
            rcases e with h | ⟨j, hj, hb⟩
            · exact hbb.out.false_ h
            · exact hno.out j hj hb
          have hackf : ack = false := by
            cases ack
            · rfl
            · exact absurd (.inl rfl) hbb.out.false_
          have HRr := hide (HR2.out.kept hB.out)
          have HBr := hide (HB2.out.trans (hB.out.mono HB2.out.size))
          have HDr := hide (HD2.out.below hB.out)
          have HHC := hide (has_any HRr.out hL num)
          have HACK := hide hackf
          clear hackf
          go_wp2_with fail
          refine HHC.out.mono ?_
          rintro en w4 hpost
          obtain ⟨mm, Am, cm, okk, rfl, hB4, hokk⟩ : ∃ mm Am cm okk, en = .returned (.tuple #[.agg #[.bool (Msg.ack mm), .int .i64 mm.num, .bool mm.last, .slice Am mm.data.length cm], .bool okk]) ∧ Below wr.heap.size wr w4 ∧ okk = (hasL L num).isSome := by
            rcases hpost with ⟨hnone, he, hB4⟩ | ⟨m, Am, cm, hsome, he, _, _, hB4⟩
            · exact ⟨zeroM, none, 0, false, he, hB4, by rw [hnone]; rfl⟩
            · exact ⟨m, Am, cm, true, he, hB4, by rw [hsome]; rfl⟩
          obtain ⟨v4, hv4⟩ : ∃ v4, v4 = w4.alloc (.cells #[.bool mm.ack, .int .i64 mm.num, .bool mm.last, .slice Am mm.data.length cm] 34) := ⟨_, rfl⟩
          have hq4 : Below wr.heap.size wr v4 := by rw [hv4]; exact hB4.alloc hB4.size _
          have HR4 := hide (HRr.out.kept hq4)
          have HX4 := hide (HXr.out.kept hq4)
          have HZ4 := hide (HZr.out.kept hq4)
          have HB4 := hide (HBr.out.trans (hq4.mono HBr.out.size))
          have HD4 := hide (HDr.out.below hq4)
          have HO4 := hide (HOwnA.out.agree (Agree.of_below (below_then hB.out hq4) (fun i hi => Nat.lt_of_lt_of_le (HLT.out i hi.1) (by omega))))
          have HT4 : Hid (Box v4 t 51 #[.int .i64 (W : Int), .slice AL L.length cL]) := HBoxA.out.kept (below_then hB.out hq4)
          have hwr4 : w.heap.size + 2 ≤ v4.heap.size := Nat.le_trans hs3 (Nat.le_trans hB.out.size hq4.size)
          have HV4 := hide hv4
          have HOKK := hide hokk
          clear hB4 hokk hpost hq4 hv4 x0 x1 x2 x3
          go_upto_if 77 with fail
          rw [← HV4.out]
          go_cut [] (fun wx => Hid (QSt F w t W (recvL L num lst data) wx))
          case first =>
            cases okk
            case true =>
              have HREC : Hid (recvL L num lst data = L) := by rw [Hid, recvL, if_pos HOKK.out.symm]
              go_wp2_with fail
              go_meet
              rw [HREC.out]
              exact ⟨F, HR4.out, fun i hi => .inl hi, Chg.of_below HB4.out _, HZ4.out⟩
            case false =>
              have HREC : Hid (recvL L num lst data = L ++ [⟨ack, num, lst, data⟩]) := by rw [Hid, recvL, if_neg (by rw [← HOKK.out]; simp), HACK.out]
              have x3 : v4.cell? ⟨w.heap.size, 3, none⟩ = some (.slice A data.length c) := HX4.out.cell 3
              have xf := HX4.out.frozen 3
              go_upto_region 12 with fail
              go_wp2_with (at_builtin; refine wpList_append_copy rfl _ _ rfl none A c data rfl rfl HD4.out hdl ?_; intro D d w5 hD hB5; have x3 : w5.cell? ⟨w.heap.size, 3, none⟩ = some (.slice A data.length c) := (HX4.out.kept hB5).cell 3; have xf := (HX4.out.kept hB5).frozen 3; have HDN := hide hD; have HB5 := hide hB5; clear hD hB5)
              obtain ⟨w3, hw3⟩ : ∃ w3, w3 = w5.setCell ⟨w.heap.size, 3, none⟩ (.slice D data.length d) := ⟨_, rfl⟩
              rw [← hw3]
              have hch3 : Chg (fun i => i = w.heap.size) w5 w3 := by rw [hw3]; exact Chg.set1 _ _ _ _
              have HX3 : Hid (Box w3 w.heap.size 34 #[.bool ack, .int .i64 num, .bool lst, .slice D data.length d]) := by rw [hw3]; exact (HX4.out.kept HB5.out).set 3 _
              have HZ3 : Hid (Box w3 (w.heap.size + 1) 34 #[.bool false, .int .i64 0, .bool false, .slice none 0 0]) := (hch3.block _ (by have := HB5.out.size; omega) (by omega)).trans (HZ4.out.kept HB5.out)
              have HBox : Hid (Box w3 t 51 #[.int .i64 (W : Int), .slice AL L.length cL]) := (hch3.block _ (by have := HB5.out.size; omega) (by omega)).trans (HT4.out.kept HB5.out)
              have HOwn := hide ((HO4.out.agree (Agree.of_below HB5.out (fun i hi => Nat.lt_of_lt_of_le (HLT.out i hi.1) (by omega)))).agree (Agree.of_chg hch3 (fun i hi => Nat.lt_of_lt_of_le (HLT.out i hi.1) (by have := HB5.out.size; omega)) (fun i hi e => by have := HLT.out i hi.1; omega)))
              have HDD : Hid (BysIn (fun i => w.heap.size + 2 ≤ i ∧ i < w3.heap.size) w3 D data) := (HDN.out.bysIn.agree (Agree.of_chg hch3 (fun i hi => hi.2) (fun i hi e => by omega))).mono (fun i hi => ⟨by omega, Nat.lt_of_lt_of_le hi.2 hch3.size⟩)
              have HCW : Hid (Chg F w w3) := (((Chg.of_below HB4.out F).trans (Chg.of_below HB5.out (fun _ => False)) (fun _ _ e => e.elim)).trans hch3 (fun i hi e => by omega))
              have hlF : ∀ i, F i → i < w3.heap.size := fun i hi => by have := HLT.out i hi; have := HB5.out.size; have := hch3.size; omega
              have q1 : w3.cell? ⟨t, 1, none⟩ = some (.slice AL L.length cL) := HBox.out.cell 1
              have htl : t < w3.heap.size := HBox.out.lt
              have hmo : (Value.slice AL L.length cL).ownBlock ≠ some w.heap.size := fun e => by have := HLT.out _ (HOwn.out.2.1 _ e).1; omega
              have hto : (Value.slice AL L.length cL).ownBlock ≠ some t := fun e => (HOwn.out.2.1 _ e).2 rfl
              have hdd := HDN.out.1
              have hk63 : L.length + 1 ≤ maxLen := by unfold maxLen; omega
              have hw3s : w.heap.size + 2 ≤ w3.heap.size := by have := HB5.out.size; have := hch3.size; omega
              clear x3 xf hw3 hch3
              go_upto_region 13 with fail
              refine wp_region_held_drew (S := fun v => Box v w.heap.size 34 #[.bool ack, .int .i64 num, .bool lst, .slice D data.length d]) (by kernel_rfl) (HX3.out.drew) (fun hH => ?_)
              obtain ⟨v0, hv0⟩ : ∃ v0, v0 = w3.drew := ⟨_, rfl⟩
              rw [← hv0] at hH ⊢
              have HV0 : Hid (Below w3.heap.size w3 v0) := by rw [hv0]; exact (Below.refl _ _).drew
              clear hv0
              refine wpAnyH_take (i := 0) (v := ?xv0) (by simp only [List.getElem?_toArray, List.getElem?_cons_succ, List.getElem?_cons_zero]; exact rfl) (by kernel_rfl) (by kernel_rfl) (by kernel_rfl) ?xq0 ?xy0 hH ?xr0
              case xq0 => exact fun _ _ _ h => h
              case xy0 =>
                refine Or.inl ⟨by rfl, fun v hv => ?_⟩
                go_simp
                rfl
              try simp only [Act.put, List.setIfInBounds_toArray, List.set_cons_zero, List.set_cons_succ]
              refine wpAnyH_take (i := 1) (v := ?xv1) (by simp only [List.getElem?_toArray, List.getElem?_cons_succ, List.getElem?_cons_zero]; exact rfl) (by kernel_rfl) (by kernel_rfl) (by kernel_rfl) ?xq1 ?xy1 hH ?xr1
              case xq1 => exact fun _ _ _ h => h
              case xy1 =>
                refine Or.inl ⟨by rfl, fun v hv => ?_⟩
                go_simp
                rfl
              try simp only [Act.put, List.setIfInBounds_toArray, List.set_cons_zero, List.set_cons_succ]
              refine wpAnyH_take (i := 2) (v := ?xv2) (by simp only [List.getElem?_toArray, List.getElem?_cons_succ, List.getElem?_cons_zero]; exact rfl) (by kernel_rfl) (by kernel_rfl) (by kernel_rfl) ?xq2 ?xy2 hH ?xr2
              case xq2 => exact fun _ _ _ h => h
              case xy2 =>
                refine Or.inl ⟨by rfl, fun v hv => ?_⟩
                go_simp
                rfl
              try simp only [Act.put, List.setIfInBounds_toArray, List.set_cons_zero, List.set_cons_succ]
              refine wpAnyH_take (i := 3) (v := ?xv3) (by simp only [List.getElem?_toArray, List.getElem?_cons_succ, List.getElem?_cons_zero]; exact rfl) (by kernel_rfl) (by kernel_rfl) (by kernel_rfl) ?xq3 ?xy3 hH ?xr3
              case xq3 => exact fun _ _ _ h => h
              case xy3 =>
                refine Or.inl ⟨by rfl, fun v hv => ?_⟩
                go_simp
                rfl
              try simp only [Act.put, List.setIfInBounds_toArray, List.set_cons_zero, List.set_cons_succ]
              refine wpAnyH_take (i := 5) (v := ?xv5) (by simp only [List.getElem?_toArray, List.getElem?_cons_succ, List.getElem?_cons_zero]; exact rfl) (by kernel_rfl) (by kernel_rfl) (by kernel_rfl) ?xq5 ?xy5 hH ?xr5
              case xq5 => exact fun _ _ _ h => h
              case xy5 =>
                refine Or.inl ⟨by rfl, fun v hv => ?_⟩
                have y0 : v.cell? ⟨w.heap.size, 0, none⟩ = some (.bool ack) := Box.cell hv 0; have y1 : v.cell? ⟨w.heap.size, 1, none⟩ = some (.int .i64 num) := Box.cell hv 1; have y2 : v.cell? ⟨w.heap.size, 2, none⟩ = some (.bool lst) := Box.cell hv 2; have y3 : v.cell? ⟨w.heap.size, 3, none⟩ = some (.slice D data.length d) := Box.cell hv 3
                go_simp
                rfl
              try simp only [Act.put, List.setIfInBounds_toArray, List.set_cons_zero, List.set_cons_succ]
              refine wpAnyH_ready (rs := [4, 6]) (by kernel_rfl) (by simp) ?_
              refine AllReadyH.cons (by simp only [List.getElem?_toArray, List.getElem?_cons_succ, List.getElem?_cons_zero]; exact rfl) (fun K hK => ?xb4) (AllReadyH.cons (by simp only [List.getElem?_toArray, List.getElem?_cons_succ, List.getElem?_cons_zero]; exact rfl) (fun K hK => ?xb6) (AllReadyH.nil))
              case xb4 =>
                have yt := (HV0.out.cell (p := ⟨t, 1, none⟩) htl).trans q1
                go_simp
                have hN := hH
                clear yt
                refine hK.out _ _ hN (fun hH' => ?_)
                clear hK hH hN K
                have hH := hH'
                clear hH'
                try simp only [Act.put, List.setIfInBounds_toArray, List.set_cons_zero, List.set_cons_succ]
                refine wpAnyH_ready (rs := [6]) (by kernel_rfl) (by simp) ?_
                refine AllReadyH.cons (by simp only [List.getElem?_toArray, List.getElem?_cons_succ, List.getElem?_cons_zero]; exact rfl) (fun K hK => ?_) AllReadyH.nil
                go_simp
                obtain ⟨v1, hv1⟩ : ∃ x, x = v0.alloc (.cells #[.bool ack, .int .i64 num, .bool lst, .slice D data.length d] 34) := ⟨_, rfl⟩
                rw [← hv1]
                have hBv1 : Below v0.heap.size v0 v1 := below_eq ((Below.refl _ _).alloc (Nat.le_refl _) _) hv1
                have HN1 : Hid (∀ j u, ([.bool ack, .int .i64 num, .bool lst, .slice D data.length d] : List Value)[j]? = some u → v1.cell? ((⟨v0.heap.size, 0, none⟩ : Addr).add j) = some u) := by rw [hv1]; exact World.news_of_block (heap_alloc_new _ _)
                have hN := Box.kept hH hBv1
                have HV1 := hide (below_then HV0.out hBv1)
                clear hv1 hBv1
                refine hK.out _ _ hN (fun hH' => ?_)
                clear hK hH hN K
                have hH := hH'
                clear hH'
                try simp only [Act.put, List.setIfInBounds_toArray, List.set_cons_zero, List.set_cons_succ]
                refine wpAnyH_ready (rs := [7]) (by kernel_rfl) (by simp) ?_
                refine AllReadyH.cons (by simp only [List.getElem?_toArray, List.getElem?_cons_succ, List.getElem?_cons_zero]; exact rfl) (fun K hK => ?_) AllReadyH.nil
                have HO := hide (ownsRow_heap (w' := v1) HOwn.out.1 (fun g e => HV1.out.block g (hlF g (HOwn.out.2.1 g e).1)))
                refine step_append_lies _ (by rfl) _ _ _ (by rfl) 0 34 i0 (.agg #[.bool false, .int .i64 0, .bool false, .slice none 0 0]) 4 48 Try.underlying23 hi hz0 hz1 hz2 rfl (by decide) (.slice AL L.length cL) L.length (msVals L As Cs) (by rfl) HO.out ⟨v0.heap.size, 0, none⟩ 1 1 [.bool ack, .int .i64 num, .bool lst, .slice D data.length d] (by rfl) rfl HN1.out (by intro u hu; simp at hu; rcases hu with rfl | rfl | rfl | rfl <;> rfl) (by decide) hk63 (by omega) (Nat.zero_le _) v1.heap.size rfl ?_
                intro g7 cap7 v2 hown hgrow hat hlt7
                have HOW := hide hown
                have HGR := hide hgrow
                have HAT := hide hat
                have hN := Box.grown hH hgrow (fun e => hmo e.symm)
                clear hown hgrow hat hlt7
                refine hK.out _ _ hN (fun hH' => ?_)
                clear hK hH hN K
                have hH := hH'
                clear hH'
                try simp only [Act.put, List.setIfInBounds_toArray, List.set_cons_zero, List.set_cons_succ]
                refine wpAnyH_take (i := 8) (v := ?xc4v8) (by simp only [List.getElem?_toArray, List.getElem?_cons_succ, List.getElem?_cons_zero]; exact rfl) (by kernel_rfl) (by kernel_rfl) (by kernel_rfl) ?xc4q8 ?xc4y8 hH ?xc4r8
                case xc4q8 => exact fun _ _ _ h => h
                case xc4y8 =>
                  refine Or.inl ⟨by rfl, fun v hv => ?_⟩
                  go_simp
                  rfl
                try simp only [Act.put, List.setIfInBounds_toArray, List.set_cons_zero, List.set_cons_succ]
                refine wpAnyH_take (i := 9) (v := ?xc4v9) (by simp only [List.getElem?_toArray, List.getElem?_cons_succ, List.getElem?_cons_zero]; exact rfl) (by kernel_rfl) (by kernel_rfl) (by kernel_rfl) ?xc4q9 ?xc4y9 hH ?xc4r9
                case xc4q9 => exact fun _ _ _ h => h
                case xc4y9 =>
                  refine Or.inl ⟨by rfl, fun v hv => ?_⟩
                  go_simp
                  rfl
                try simp only [Act.put, List.setIfInBounds_toArray, List.set_cons_zero, List.set_cons_succ]
                refine wpAnyH_ready (rs := [10]) (by kernel_rfl) (by simp) ?_
                refine AllReadyH.cons (by simp only [List.getElem?_toArray, List.getElem?_cons_succ, List.getElem?_cons_zero]; exact rfl) (fun K hK => ?_) AllReadyH.nil
                have hbt := (HBox.out.kept HV1.out).grown HGR.out (fun e => hto e.symm)
                have yt : v2.cell? ⟨t, 1, none⟩ = some (.slice AL L.length cL) := hbt.cell 1
                have yf := hbt.frozen 1
                go_simp
                have hN := Box.far hH (p := ⟨t, 1, none⟩) (by show w.heap.size ≠ t; omega) (.slice (some ⟨g7, 0, none⟩) (L.length + 1) cap7)
                clear yt yf hbt
                refine hK.out _ _ hN (fun hH' => ?_)
                clear hK hH hN K
                have hH := hH'
                clear hH'
                try simp only [Act.put, List.setIfInBounds_toArray, List.set_cons_zero, List.set_cons_succ]
                refine wpAnyH_done (by kernel_rfl) ?_ _
                clear hH
                go_wp2_with fail
                go_meet
                have hPA := (HV1.out)
                have HOv1 : OwnMs (fun i => F i ∧ i ≠ t) v1 (.slice AL L.length cL) L As Cs := HOwn.out.agree (Agree.of_below HV1.out (fun i hi => hlF i hi.1))
                have hP := RefR.push (F := fun i => F i ∨ w.heap.size + 2 ≤ i ∧ i < v1.heap.size) (m := ⟨ack, num, lst, data⟩) (HBox.out.kept HV1.out) (HOv1.mono (fun i hi => ⟨.inl hi.1, hi.2⟩)) (.inl hFt) (fun i hi => by rcases hi with hi | hi; exact Nat.lt_of_lt_of_le (hlF i hi) HV1.out.size; exact hi.2) (A := D) (c := d) (HDD.out.agree (Agree.of_below HV1.out (fun i hi => hi.2)) |>.mono (fun i hi => ⟨.inr ⟨hi.1, Nat.lt_of_lt_of_le hi.2 HV1.out.size⟩, by omega, fun e => by have := hlF i (HOwn.out.2.1 i e).1; have := HLT.out i (HOwn.out.2.1 i e).1; omega⟩)) hdd HOW.out HGR.out (HAT.out.imp (fun e => e.symm) (fun e => by rw [e]; rfl))
                have hch : Chg F w3 (v2.setCell ⟨t, 1, none⟩ (.slice (some ⟨g7, 0, none⟩) (L.length + 1) cap7)) := ((Chg.of_below HV1.out F).trans (Chg.of_grown HGR.out) (fun i _ e => (HOwn.out.2.1 i e).1)).setCell (fun _ => hFt) 1 _
                rw [HREC.out]
                refine ⟨_, hP, fun i hi => ?_, HCW.out.trans hch (fun i _ e => e), (hch.block (w.heap.size + 1) (by omega) (fun e => by have := HLT.out _ e; omega)).trans HZ3.out⟩
                rcases hi with hi | hi
                · exact hi.imp id (fun h => h.1)
                · rcases HAT.out with e | e
                  · have hi' : g7 = i := by injection hi
                    rw [← hi']; exact .inl (HOwn.out.2.1 g7 e).1
                  · have hi' : g7 = i := by injection hi
                    have := HV1.out.size; exact .inr (by omega)
              case xb6 =>
                go_simp
                obtain ⟨v1, hv1⟩ : ∃ x, x = v0.alloc (.cells #[.bool ack, .int .i64 num, .bool lst, .slice D data.length d] 34) := ⟨_, rfl⟩
                rw [← hv1]
                have hBv1 : Below v0.heap.size v0 v1 := below_eq ((Below.refl _ _).alloc (Nat.le_refl _) _) hv1
                have HN1 : Hid (∀ j u, ([.bool ack, .int .i64 num, .bool lst, .slice D data.length d] : List Value)[j]? = some u → v1.cell? ((⟨v0.heap.size, 0, none⟩ : Addr).add j) = some u) := by rw [hv1]; exact World.news_of_block (heap_alloc_new _ _)
                have hN := Box.kept hH hBv1
                have HV1 := hide (below_then HV0.out hBv1)
                clear hv1 hBv1
                refine hK.out _ _ hN (fun hH' => ?_)
                clear hK hH hN K
                have hH := hH'
                clear hH'
                try simp only [Act.put, List.setIfInBounds_toArray, List.set_cons_zero, List.set_cons_succ]
                refine wpAnyH_ready (rs := [4]) (by kernel_rfl) (by simp) ?_
                refine AllReadyH.cons (by simp only [List.getElem?_toArray, List.getElem?_cons_succ, List.getElem?_cons_zero]; exact rfl) (fun K hK => ?_) AllReadyH.nil
                have yt := (HV1.out.cell (p := ⟨t, 1, none⟩) htl).trans q1
                go_simp
                have hN := hH
                clear yt
                refine hK.out _ _ hN (fun hH' => ?_)
                clear hK hH hN K
                have hH := hH'
                clear hH'
                try simp only [Act.put, List.setIfInBounds_toArray, List.set_cons_zero, List.set_cons_succ]
                refine wpAnyH_ready (rs := [7]) (by kernel_rfl) (by simp) ?_
                refine AllReadyH.cons (by simp only [List.getElem?_toArray, List.getElem?_cons_succ, List.getElem?_cons_zero]; exact rfl) (fun K hK => ?_) AllReadyH.nil
                have HO := hide (ownsRow_heap (w' := v1) HOwn.out.1 (fun g e => HV1.out.block g (hlF g (HOwn.out.2.1 g e).1)))
                refine step_append_lies _ (by rfl) _ _ _ (by rfl) 0 34 i0 (.agg #[.bool false, .int .i64 0, .bool false, .slice none 0 0]) 4 48 Try.underlying23 hi hz0 hz1 hz2 rfl (by decide) (.slice AL L.length cL) L.length (msVals L As Cs) (by rfl) HO.out ⟨v0.heap.size, 0, none⟩ 1 1 [.bool ack, .int .i64 num, .bool lst, .slice D data.length d] (by rfl) rfl HN1.out (by intro u hu; simp at hu; rcases hu with rfl | rfl | rfl | rfl <;> rfl) (by decide) hk63 (by omega) (Nat.zero_le _) v1.heap.size rfl ?_
                intro g7 cap7 v2 hown hgrow hat hlt7
                have HOW := hide hown
                have HGR := hide hgrow
                have HAT := hide hat
                have hN := Box.grown hH hgrow (fun e => hmo e.symm)
                clear hown hgrow hat hlt7
                refine hK.out _ _ hN (fun hH' => ?_)
                clear hK hH hN K
                have hH := hH'
                clear hH'
                try simp only [Act.put, List.setIfInBounds_toArray, List.set_cons_zero, List.set_cons_succ]
                refine wpAnyH_take (i := 8) (v := ?xc6v8) (by simp only [List.getElem?_toArray, List.getElem?_cons_succ, List.getElem?_cons_zero]; exact rfl) (by kernel_rfl) (by kernel_rfl) (by kernel_rfl) ?xc6q8 ?xc6y8 hH ?xc6r8
                case xc6q8 => exact fun _ _ _ h => h
                case xc6y8 =>
                  refine Or.inl ⟨by rfl, fun v hv => ?_⟩
                  go_simp
                  rfl
                try simp only [Act.put, List.setIfInBounds_toArray, List.set_cons_zero, List.set_cons_succ]
                refine wpAnyH_take (i := 9) (v := ?xc6v9) (by simp only [List.getElem?_toArray, List.getElem?_cons_succ, List.getElem?_cons_zero]; exact rfl) (by kernel_rfl) (by kernel_rfl) (by kernel_rfl) ?xc6q9 ?xc6y9 hH ?xc6r9
                case xc6q9 => exact fun _ _ _ h => h
                case xc6y9 =>
                  refine Or.inl ⟨by rfl, fun v hv => ?_⟩
                  go_simp
                  rfl
                try simp only [Act.put, List.setIfInBounds_toArray, List.set_cons_zero, List.set_cons_succ]
                refine wpAnyH_ready (rs := [10]) (by kernel_rfl) (by simp) ?_
                refine AllReadyH.cons (by simp only [List.getElem?_toArray, List.getElem?_cons_succ, List.getElem?_cons_zero]; exact rfl) (fun K hK => ?_) AllReadyH.nil
                have hbt := (HBox.out.kept HV1.out).grown HGR.out (fun e => hto e.symm)
                have yt : v2.cell? ⟨t, 1, none⟩ = some (.slice AL L.length cL) := hbt.cell 1
                have yf := hbt.frozen 1
                go_simp
                have hN := Box.far hH (p := ⟨t, 1, none⟩) (by show w.heap.size ≠ t; omega) (.slice (some ⟨g7, 0, none⟩) (L.length + 1) cap7)
                clear yt yf hbt
                refine hK.out _ _ hN (fun hH' => ?_)
                clear hK hH hN K
                have hH := hH'
                clear hH'
                try simp only [Act.put, List.setIfInBounds_toArray, List.set_cons_zero, List.set_cons_succ]
                refine wpAnyH_done (by kernel_rfl) ?_ _
                clear hH
                go_wp2_with fail
                go_meet
                have hPA := (HV1.out)
                have HOv1 : OwnMs (fun i => F i ∧ i ≠ t) v1 (.slice AL L.length cL) L As Cs := HOwn.out.agree (Agree.of_below HV1.out (fun i hi => hlF i hi.1))
                have hP := RefR.push (F := fun i => F i ∨ w.heap.size + 2 ≤ i ∧ i < v1.heap.size) (m := ⟨ack, num, lst, data⟩) (HBox.out.kept HV1.out) (HOv1.mono (fun i hi => ⟨.inl hi.1, hi.2⟩)) (.inl hFt) (fun i hi => by rcases hi with hi | hi; exact Nat.lt_of_lt_of_le (hlF i hi) HV1.out.size; exact hi.2) (A := D) (c := d) (HDD.out.agree (Agree.of_below HV1.out (fun i hi => hi.2)) |>.mono (fun i hi => ⟨.inr ⟨hi.1, Nat.lt_of_lt_of_le hi.2 HV1.out.size⟩, by omega, fun e => by have := hlF i (HOwn.out.2.1 i e).1; have := HLT.out i (HOwn.out.2.1 i e).1; omega⟩)) hdd HOW.out HGR.out (HAT.out.imp (fun e => e.symm) (fun e => by rw [e]; rfl))
                have hch : Chg F w3 (v2.setCell ⟨t, 1, none⟩ (.slice (some ⟨g7, 0, none⟩) (L.length + 1) cap7)) := ((Chg.of_below HV1.out F).trans (Chg.of_grown HGR.out) (fun i _ e => (HOwn.out.2.1 i e).1)).setCell (fun _ => hFt) 1 _
                rw [HREC.out]
                refine ⟨_, hP, fun i hi => ?_, HCW.out.trans hch (fun i _ e => e), (hch.block (w.heap.size + 1) (by omega) (fun e => by have := HLT.out _ e; omega)).trans HZ3.out⟩
                rcases hi with hi | hi
                · exact hi.imp id (fun h => h.1)
                · rcases HAT.out with e | e
                  · have hi' : g7 = i := by injection hi
                    rw [← hi']; exact .inl (HOwn.out.2.1 g7 e).1
                  · have hi' : g7 = i := by injection hi
                    have := HV1.out.size; exact .inr (by omega)
          case rest =>
            obtain ⟨F', hR', hsub, hch, hZ⟩ := hcut.out
            have HR' := hide hR'
            have HSB := hide hsub
            have HCH := hide hch
            have HZ5 := hide hZ
            have HGC := hide (got_any hR' hrl g' hg' (HX'.out HNI.out).1 (HX'.out HNI.out).2)
            have hF1 : ¬ F' (w.heap.size + 1) := fun h => by
              rcases hsub _ h with h1 | h1
              · have := HLT.out _ h1; omega
              · omega
            clear hcut hR' hsub hch hZ
            go_wp2_with fail
            refine HGC.out.mono ?_
            rintro en w6 ⟨rfl, hB6⟩
            have HR6 := hide (HR'.out.kept hB6)
            have HC6 : Hid (Chg F w w6) := HCH.out.trans (Chg.of_below hB6 (fun _ => False)) (fun _ _ e => e.elim)
            have HZ6 := hide (HZ5.out.kept hB6)
            clear hB6
            have z0 : w6.cell? ⟨w.heap.size + 1, 0, none⟩ = some (.bool false) := HZ6.out.cell 0
            have z1 : w6.cell? ⟨w.heap.size + 1, 1, none⟩ = some (.int .i64 0) := HZ6.out.cell 1
            have z2 : w6.cell? ⟨w.heap.size + 1, 2, none⟩ = some (.bool false) := HZ6.out.cell 2
            have z3 : w6.cell? ⟨w.heap.size + 1, 3, none⟩ = some (.slice none 0 0) := HZ6.out.cell 3
            have e0 := HZ6.out.frozen 0
            have e1 := HZ6.out.frozen 1
            have e2 := HZ6.out.frozen 2
            have e3 := HZ6.out.frozen 3
            go_wp2_with fail
            refine bodyPost_ret (v := .tuple #[.agg #[.bool true, .int .i64 (g' : Int), .bool false, .slice none 0 0], .bool true]) (by simp [results, Try.results24, go_sem, z0, z1, z2, z3]) rfl (.inr ⟨HNI.out, rfl, F', ?_, fun i hi => (HSB.out i hi).imp id (fun h => by omega), ?_⟩)
            · refine HR6.out.agree (fun i hi => ?_) (by simp [World.setCell])
              have hne : i ≠ w.heap.size + 1 := fun e => hF1 (e ▸ hi)
              first | exact rfl | rw [Below.heap_setCell _ _ _ _ hne, Below.heap_setCell _ _ _ _ hne, Below.heap_setCell _ _ _ _ hne, Below.heap_setCell _ _ _ _ hne]
            · exact (((HC6.out.setCell (fun h => absurd h (by omega)) _ _).setCell (fun h => absurd h (by omega)) _ _).setCell (fun h => absurd h (by omega)) _ _).setCell (fun h => absurd h (by omega)) _ _
end Go.Proofs.Ythhelhggggbaiaa
