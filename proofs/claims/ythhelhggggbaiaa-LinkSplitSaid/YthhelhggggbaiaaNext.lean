/-
  The senders: Next.
-/
import Derived.Test.YthhelhggggbaiaaSnd
import Derived.Deep.DeepCutAuto
namespace Go.Proofs.Ythhelhggggbaiaa
open Go.RowKit
set_option linter.unusedVariables false
set_option linter.unusedSimpArgs false
attribute [local go_sem ↓] Go.wp_at_zero Go.wp_at_succ

def nextAt (n W base nxt : Nat) : Nat := if nxt < base ∨ min (base + W) n ≤ nxt then base else nxt
theorem nextAt_lt {n W base nxt : Nat} (hb : base < n) : nextAt n W base nxt < n := by
  unfold nextAt
  split <;> omega
def NextPost (T : TypeId) (F : Nat → Prop) (w : World) (s : Nat) (fs : List (List UInt8)) (W base a : Nat) (l : Bool) (e : Ending) (w' : World) : Prop :=
  ∃ D d, e = .returned (.tuple #[.agg #[.bool false, .int .i64 (a : Int), .bool l, .slice D (fs.getD a []).length d], .bool true]) ∧
    NewB w.heap.size w' D d (fs.getD a []) ∧ Chg (fun i => i = s) w w' ∧ Snd T F w' s fs W base (a + 1)
def NoMsg (w : World) (e : Ending) (w' : World) : Prop := e = .returned (.tuple #[.agg #[.bool false, .int .i64 0, .bool false, .slice none 0 0], .bool false]) ∧ Below w.heap.size w w'

/-- the next frame's number is written -/
theorem Snd.setNext {T : TypeId} {F : Nat → Prop} {w : World} {s : Nat} {fs : List (List UInt8)} {W base nxt : Nat} (h : Snd T F w s fs W base nxt) (a : Nat) : Snd T F (w.setCell ⟨s, 3, none⟩ (.int .i64 (a : Int))) s fs W base a := by
  obtain ⟨A, c, h1, h2, h3⟩ := h.box
  refine ⟨⟨A, c, h1, h2.set 3 _, h3.agree fun i hi => Below.heap_setCell _ _ _ _ hi.2⟩, h.mem, h.lt.size (by simp [World.setCell])⟩
theorem Snd.setBase {T : TypeId} {F : Nat → Prop} {w : World} {s : Nat} {fs : List (List UInt8)} {W base nxt : Nat} (h : Snd T F w s fs W base nxt) (a : Nat) : Snd T F (w.setCell ⟨s, 2, none⟩ (.int .i64 (a : Int))) s fs W a nxt := by
  obtain ⟨A, c, h1, h2, h3⟩ := h.box
  refine ⟨⟨A, c, h1, h2.set 2 _, h3.agree fun i hi => Below.heap_setCell _ _ _ _ hi.2⟩, h.mem, h.lt.size (by simp [World.setCell])⟩
theorem Snd.here {T : TypeId} {F : Nat → Prop} {w : World} {s : Nat} {fs : List (List UInt8)} {W base nxt : Nat} (h : Snd T F w s fs W base nxt) : s < w.heap.size := h.lt s h.mem
theorem Snd.far {T : TypeId} {F : Nat → Prop} {w : World} {s : Nat} {fs : List (List UInt8)} {W base nxt : Nat} (h : Snd T F w s fs W base nxt) {p : Addr} (hp : ¬ F p.block) (u : Value) : Snd T F (w.setCell p u) s fs W base nxt :=
  h.agree (fun i hi => Below.heap_setCell _ _ _ _ fun e => hp (e ▸ hi)) (by simp [World.setCell])
/-- four cells are written -/
theorem Box.set4 {w : World} {g : Nat} {t : TypeId} {a b c d : Value} (h : Box w g t #[a, b, c, d]) (a' b' c' d' : Value) :
    Box ((((w.setCell ⟨g, 0, none⟩ a').setCell ⟨g, 1, none⟩ b').setCell ⟨g, 2, none⟩ c').setCell ⟨g, 3, none⟩ d') g t #[a', b', c', d'] := (((h.set 0 a').set 1 b').set 2 c').set 3 d'
theorem Below.set4 {B : Nat} {w w' : World} {g : Nat} (h : Below B w w') (hg : B ≤ g) (a' b' c' d' : Value) :
    Below B w ((((w'.setCell ⟨g, 0, none⟩ a').setCell ⟨g, 1, none⟩ b').setCell ⟨g, 2, none⟩ c').setCell ⟨g, 3, none⟩ d') := ((((h.setCell hg a').setCell hg b').setCell hg c').setCell hg d')
theorem NewB.set4 {B : Nat} {w : World} {D : Option Addr} {d : Nat} {bs : List UInt8} {g : Nat} (h : NewB B w D d bs) {t : TypeId} {cs : Array Value} (hb : Box w g t cs) (ht : t ≠ 5) (a' b' c' d' : Value) :
    NewB B ((((w.setCell ⟨g, 0, none⟩ a').setCell ⟨g, 1, none⟩ b').setCell ⟨g, 2, none⟩ c').setCell ⟨g, 3, none⟩ d') D d bs :=
  ⟨h.1, fun hp => by
    obtain ⟨k, e, hB, hlt, hr⟩ := h.2 hp
    have hne : k ≠ g := fun e => by
      subst e
      obtain ⟨r, hr⟩ := hr
      unfold Box at hb
      rw [hb] at hr
      injection hr with hr
      injection hr with h1 h2
      exact ht h2
    exact ⟨k, e, hB, by simpa [World.setCell] using hlt, (((hr.far hne _).far hne _).far hne _).far hne _⟩⟩
theorem below_eq {B : Nat} {a b c : World} (h : Below B a b) (e : c = b) : Below B a c := e ▸ h
/-- what a region leaves that makes a message -/
def Made (w0 : World) (a : Nat) (l : Bool) (bs : List UInt8) (g : Nat) (v : World) : Prop :=
  ∃ D d, Box v g 34 #[.bool false, .int .i64 (a : Int), .bool l, .slice D bs.length d] ∧ NewB w0.heap.size v D d bs ∧ Below w0.heap.size w0 v ∧ w0.heap.size ≤ g

theorem next_done {F : Nat → Prop} {w : World} {s : Nat} {fs : List (List UInt8)} {W base nxt : Nat} (h : Snd 64 F w s fs W base nxt) (hb : base = fs.length) (hn : fs.length ≤ 1000) :
    Calls Try.prog 12 #[.pointer (some ⟨s, 0, none⟩)] w (NoMsg w) := by
  have H := hide (fun o => h.kept ((Below.refl _ _).alloc (Nat.le_refl _) o))
  have HB := hide hb
  have ha0 := (H.out (.cells #[.bool false, .int .i64 0, .bool false, .slice none 0 0] 34)).cells
  obtain ⟨A, c, hc, c0, c1, c2, c3, hf, hfr⟩ := ha0
  rw [hb] at c2
  clear h hb hf hfr
  go_enter Try.func12, Try.ntmps12
  go_wp2_with fail
  refine (done_yes (H.out _) HB.out hn).mono ?_
  rintro e w1 ⟨rfl, n, rfl⟩
  go_wp2_with fail
  refine bodyPost_ret (v := .tuple #[.agg #[.bool false, .int .i64 0, .bool false, .slice none 0 0], .bool false]) (by simp [results, Try.results12, go_sem]) rfl ⟨rfl, ?_⟩
  first | exact Below.set4 (below_drew ((Below.refl _ _).alloc (Nat.le_refl _) _) _) (Nat.le_refl _) _ _ _ _ | exact (Below.refl _ _).alloc (Nat.le_refl _) _

set_option maxHeartbeats 3200000 in
set_option maxRecDepth 100000 in
theorem next_more {F : Nat → Prop} {w : World} {s : Nat} {fs : List (List UInt8)} {W base nxt : Nat} (h : Snd 64 F w s fs W base nxt) (hb : base < fs.length) (hn : fs.length ≤ 1000) (hW : W ≤ 8) (hx : nxt ≤ 1000) (hbd : ∀ k, k < fs.length → (fs.getD k []).length ≤ 4096) :
    Calls Try.prog 12 #[.pointer (some ⟨s, 0, none⟩)] w (NextPost 64 F w s fs W base (nextAt fs.length W base nxt) (decide (nextAt fs.length W base nxt = fs.length - 1))) := by
  have H := hide (fun o => h.kept ((Below.refl _ _).alloc (Nat.le_refl _) o))
  have HBD := hide hbd
  have hsw := h.here
  have HLT := hide h.lt
  clear h hbd
  go_enter Try.func12, Try.ntmps12
  go_wp2_with fail
  refine (done_no (H.out _) hb hn).mono ?_
  rintro e w1 ⟨rfl, n, rfl⟩
  obtain ⟨w1, hw1⟩ : ∃ w1, w1 = (w.alloc (.cells #[.bool false, .int .i64 0, .bool false, .slice none 0 0] 34)).drewN n := ⟨_, rfl⟩
  have HB1 : Hid (Below w.heap.size w w1) := by rw [hw1]; exact below_drew ((Below.refl _ _).alloc (Nat.le_refl _) _) _
  have HX1 : Hid (Box w1 w.heap.size 34 #[.bool false, .int .i64 0, .bool false, .slice none 0 0]) := by rw [hw1]; exact (Box.new _ _ _).drewN _
  have HS1 : Hid (Snd 64 F w1 s fs W base nxt) := by rw [hw1]; exact (H.out _).kept (below_drew (Below.refl _ _) _)
  rw [← hw1]
  clear hw1 H
  obtain ⟨A, c, hc, c0, c1, c2, c3, hf, hfr⟩ := HS1.out.cells
  have f3 := hf 3
  clear hf hfr
  go_upto_region 4 with fail
  go_cut [40] (fun v wx => ∃ bb : Bool, v = .bool bb ∧ Hid (bb = decide (nxt < base ∨ min (base + W) fs.length ≤ nxt)) ∧ ∃ q, wx = w1.drewN q)
  case first =>
    by_cases h1 : nxt < base
    · go_quiet (fail)
      go_wp2_with fail
      go_meet
      exact ⟨_, rfl, (decide_eq_true (Or.inl h1)).symm, _, rfl⟩
    · go_quiet (fail)
      go_wp2_with fail
      all_goals
        go_meet
        refine ⟨_, rfl, ?_, _, rfl⟩
        rw [Hid, decide_eq_decide]
        omega
  case rest =>
    obtain ⟨bb, rfl, hbb, q, rfl⟩ := hcut
    go_upto_if 40 with fail
    obtain ⟨a, ha⟩ : ∃ a, a = nextAt fs.length W base nxt := ⟨_, rfl⟩
    have HA := hide ha
    have hal : a < fs.length := by rw [ha]; exact nextAt_lt hb
    rw [← ha]
    clear ha
    go_cut [] (fun wx => Hid (Snd 64 F wx s fs W base a) ∧ Hid (Box wx w.heap.size 34 #[.bool false, .int .i64 0, .bool false, .slice none 0 0]) ∧ Hid (Chg (fun i => i = s) w wx))
    case first =>
      cases bb
      case true =>
        have hav : Hid (base = a) := by rw [Hid, HA.out, nextAt, if_pos (of_decide_eq_true hbb.out.symm)]
        go_wp2_with fail
        go_meet
        rw [← hav.out]
        have hne : w.heap.size ≠ s := by omega
        exact ⟨(HS1.out.kept (below_drew (Below.refl _ _) q)).setNext base, (HX1.out.drewN q).far hne _, ((Chg.of_below HB1.out (fun i => i = s)).drewN q).setCell (fun _ => rfl) _ _⟩
      case false =>
        have hav : Hid (nxt = a) := by rw [Hid, HA.out, nextAt, if_neg (of_decide_eq_false hbb.out.symm)]
        go_wp2_with fail
        go_meet
        rw [← hav.out]
        exact ⟨HS1.out.kept (below_drew (Below.refl _ _) q), HX1.out.drewN q, (Chg.of_below HB1.out (fun i => i = s)).drewN q⟩
    case rest =>
      obtain ⟨HS2, HX2, HC2⟩ := hcut
      obtain ⟨w2, hw2⟩ : ∃ w2, w2 = wc := ⟨_, rfl⟩
      rw [← hw2] at HS2 HX2 HC2 ⊢
      clear hw2 c0 c1 c2 c3 f3 hbb HS1 HX1 HB1
      obtain ⟨A, c, hc, c0, c1, c2, c3, hf, hfr⟩ := HS2.out.cells
      obtain ⟨b, off, Ak, ck, rfl, hFb, cA, hby, hck⟩ := hfr.at_ hal
      have HBY := hide (hby.bys fun i hi => HS2.out.lt i hi.1)
      have hfl : (fs.getD a []).length ≤ 1000000 := by have := HBD.out a hal; omega
      have hs2 := HS2.out.here
      have hb2 := HS2.out.lt b hFb.1
      clear hby hf hfr
      obtain ⟨fk, hfk⟩ : ∃ fk, fk = fs.getD a [] := ⟨_, rfl⟩
      rw [← hfk] at cA hck HBY hfl
      have HFK := hide hfk
      clear hfk
      go_upto_region 6 with fail
      go_cut [5] (fun m wx => ∃ g, m = .pointer (some ⟨g, 0, none⟩) ∧ Hid (Made w2 a (decide (a = fs.length - 1)) fk g wx))
      case first =>
        have hia : (a : Int) < (fs.length : Int) := by omega
        have hia0 : (0 : Int) ≤ (a : Int) := by omega
        have hsub : (1 : Int) ≤ (fs.length : Int) := by omega
        have HEQ : Hid (((a : Int) == IntKind.i64.wrap ((fs.length : Int) - 1)) = decide (a = fs.length - 1)) := by rw [Hid, IntWalk.i64_in _ (by omega), Bool.eq_iff_iff, beq_iff_eq, decide_eq_true_eq]; omega
        refine wp_region_held_drew (S := fun v => Below w2.heap.size w2 v) (by kernel_rfl) ((Below.refl _ _).drew) (fun hH => ?_)
        obtain ⟨v0, hv0⟩ : ∃ v0, v0 = w2.drew := ⟨_, rfl⟩
        rw [← hv0] at hH ⊢
        clear hv0
        refine wpAnyH_take (i := 0) (v := ?xv0) (by simp only [List.getElem?_toArray, List.getElem?_cons_succ, List.getElem?_cons_zero]; exact rfl) (by kernel_rfl) (by kernel_rfl) (by kernel_rfl) ?xq0 ?xy0 hH ?xr0
        case xq0 => exact fun _ _ _ h => h
        case xy0 =>
          refine Or.inl ⟨by rfl, fun v hv => ?_⟩
          go_simp
          rfl
        try simp only [Act.put, List.setIfInBounds_toArray, List.set_cons_zero, List.set_cons_succ]
        refine wpAnyH_take (i := 1) (v := ?xv1) (by simp only [List.getElem?_toArray, List.getElem?_cons_succ, List.getElem?_cons_zero]; exact rfl) (by kernel_rfl) (by kernel_rfl) (by kernel_rfl) ?xq1 ?xy1 hH ?xr1
        case xq1 => exact fun _ _ _ h => h
        case xy1 =>
          refine Or.inl ⟨by rfl, fun v hv => ?_⟩
          go_simp
          rfl
        try simp only [Act.put, List.setIfInBounds_toArray, List.set_cons_zero, List.set_cons_succ]
        refine wpAnyH_take (i := 2) (v := ?xv2) (by simp only [List.getElem?_toArray, List.getElem?_cons_succ, List.getElem?_cons_zero]; exact rfl) (by kernel_rfl) (by kernel_rfl) (by kernel_rfl) ?xq2 ?xy2 hH ?xr2
        case xq2 => exact fun _ _ _ h => h
        case xy2 =>
          refine Or.inl ⟨by rfl, fun v hv => ?_⟩
          go_simp
          rfl
        try simp only [Act.put, List.setIfInBounds_toArray, List.set_cons_zero, List.set_cons_succ]
        refine wpAnyH_take (i := 3) (v := ?xv3) (by simp only [List.getElem?_toArray, List.getElem?_cons_succ, List.getElem?_cons_zero]; exact rfl) (by kernel_rfl) (by kernel_rfl) (by kernel_rfl) ?xq3 ?xy3 hH ?xr3
        case xq3 => exact fun _ _ _ h => h
        case xy3 =>
          refine Or.inl ⟨by rfl, fun v hv => ?_⟩
          have y0 := (hv.cell (p := ⟨s, 0, none⟩) hs2).trans c0; have y3 := (hv.cell (p := ⟨s, 3, none⟩) hs2).trans c3; have yA := (hv.cell (p := ⟨b, off + a, none⟩) hb2).trans cA
          go_simp
          rfl
        try simp only [Act.put, List.setIfInBounds_toArray, List.set_cons_zero, List.set_cons_succ]
        refine wpAnyH_take (i := 4) (v := ?xv4) (by simp only [List.getElem?_toArray, List.getElem?_cons_succ, List.getElem?_cons_zero]; exact rfl) (by kernel_rfl) (by kernel_rfl) (by kernel_rfl) ?xq4 ?xy4 hH ?xr4
        case xq4 => exact fun _ _ _ h => h
        case xy4 =>
          refine Or.inl ⟨by rfl, fun v hv => ?_⟩
          go_simp
          rfl
        try simp only [Act.put, List.setIfInBounds_toArray, List.set_cons_zero, List.set_cons_succ]
        refine wpAnyH_take (i := 5) (v := ?xv5) (by simp only [List.getElem?_toArray, List.getElem?_cons_succ, List.getElem?_cons_zero]; exact rfl) (by kernel_rfl) (by kernel_rfl) (by kernel_rfl) ?xq5 ?xy5 hH ?xr5
        case xq5 => exact fun _ _ _ h => h
        case xy5 =>
          refine Or.inl ⟨by rfl, fun v hv => ?_⟩
          go_simp
          rfl
        try simp only [Act.put, List.setIfInBounds_toArray, List.set_cons_zero, List.set_cons_succ]
        refine wpAnyH_take (i := 6) (v := ?xv6) (by simp only [List.getElem?_toArray, List.getElem?_cons_succ, List.getElem?_cons_zero]; exact rfl) (by kernel_rfl) (by kernel_rfl) (by kernel_rfl) ?xq6 ?xy6 hH ?xr6
        case xq6 => exact fun _ _ _ h => h
        case xy6 =>
          refine Or.inl ⟨by rfl, fun v hv => ?_⟩
          go_simp
          rfl
        try simp only [Act.put, List.setIfInBounds_toArray, List.set_cons_zero, List.set_cons_succ]
        refine wpAnyH_take (i := 7) (v := ?xv7) (by simp only [List.getElem?_toArray, List.getElem?_cons_succ, List.getElem?_cons_zero]; exact rfl) (by kernel_rfl) (by kernel_rfl) (by kernel_rfl) ?xq7 ?xy7 hH ?xr7
        case xq7 => exact fun _ _ _ h => h
        case xy7 =>
          refine Or.inl ⟨by rfl, fun v hv => ?_⟩
          have y0 := (hv.cell (p := ⟨s, 0, none⟩) hs2).trans c0; have y3 := (hv.cell (p := ⟨s, 3, none⟩) hs2).trans c3; have yA := (hv.cell (p := ⟨b, off + a, none⟩) hb2).trans cA
          go_simp
          rfl
        try simp only [Act.put, List.setIfInBounds_toArray, List.set_cons_zero, List.set_cons_succ]
        refine wpAnyH_take (i := 8) (v := ?xv8) (by simp only [List.getElem?_toArray, List.getElem?_cons_succ, List.getElem?_cons_zero]; exact rfl) (by kernel_rfl) (by kernel_rfl) (by kernel_rfl) ?xq8 ?xy8 hH ?xr8
        case xq8 => exact fun _ _ _ h => h
        case xy8 =>
          refine Or.inl ⟨by rfl, fun v hv => ?_⟩
          go_simp
          rfl
        try simp only [Act.put, List.setIfInBounds_toArray, List.set_cons_zero, List.set_cons_succ]
        refine wpAnyH_take (i := 9) (v := ?xv9) (by simp only [List.getElem?_toArray, List.getElem?_cons_succ, List.getElem?_cons_zero]; exact rfl) (by kernel_rfl) (by kernel_rfl) (by kernel_rfl) ?xq9 ?xy9 hH ?xr9
        case xq9 => exact fun _ _ _ h => h
        case xy9 =>
          refine Or.inl ⟨by rfl, fun v hv => ?_⟩
          go_simp
          rfl
        try simp only [Act.put, List.setIfInBounds_toArray, List.set_cons_zero, List.set_cons_succ]
        refine wpAnyH_take (i := 10) (v := ?xv10) (by simp only [List.getElem?_toArray, List.getElem?_cons_succ, List.getElem?_cons_zero]; exact rfl) (by kernel_rfl) (by kernel_rfl) (by kernel_rfl) ?xq10 ?xy10 hH ?xr10
        case xq10 => exact fun _ _ _ h => h
        case xy10 =>
          refine Or.inl ⟨by rfl, fun v hv => ?_⟩
          go_simp
          rfl
        try simp only [Act.put, List.setIfInBounds_toArray, List.set_cons_zero, List.set_cons_succ]
        refine wpAnyH_take (i := 12) (v := ?xv12) (by simp only [List.getElem?_toArray, List.getElem?_cons_succ, List.getElem?_cons_zero]; exact rfl) (by kernel_rfl) (by kernel_rfl) (by kernel_rfl) ?xq12 ?xy12 hH ?xr12
        case xq12 => exact fun _ _ _ h => h
        case xy12 =>
          refine Or.inl ⟨by rfl, fun v hv => ?_⟩
          go_simp
          rfl
        try simp only [Act.put, List.setIfInBounds_toArray, List.set_cons_zero, List.set_cons_succ]
        refine wpAnyH_take (i := 13) (v := ?xv13) (by simp only [List.getElem?_toArray, List.getElem?_cons_succ, List.getElem?_cons_zero]; exact rfl) (by kernel_rfl) (by kernel_rfl) (by kernel_rfl) ?xq13 ?xy13 hH ?xr13
        case xq13 => exact fun _ _ _ h => h
        case xy13 =>
          refine Or.inl ⟨by rfl, fun v hv => ?_⟩
          go_simp
          rfl
        try simp only [Act.put, List.setIfInBounds_toArray, List.set_cons_zero, List.set_cons_succ]
        refine wpAnyH_take (i := 14) (v := ?xv14) (by simp only [List.getElem?_toArray, List.getElem?_cons_succ, List.getElem?_cons_zero]; exact rfl) (by kernel_rfl) (by kernel_rfl) (by kernel_rfl) ?xq14 ?xy14 hH ?xr14
        case xq14 => exact fun _ _ _ h => h
        case xy14 =>
          refine Or.inl ⟨by rfl, fun v hv => ?_⟩
          go_simp
          rfl
        try simp only [Act.put, List.setIfInBounds_toArray, List.set_cons_zero, List.set_cons_succ]
        refine wpAnyH_take (i := 15) (v := ?xv15) (by simp only [List.getElem?_toArray, List.getElem?_cons_succ, List.getElem?_cons_zero]; exact rfl) (by kernel_rfl) (by kernel_rfl) (by kernel_rfl) ?xq15 ?xy15 hH ?xr15
        case xq15 => exact fun _ _ _ h => h
        case xy15 =>
          refine Or.inl ⟨by rfl, fun v hv => ?_⟩
          have y0 := (hv.cell (p := ⟨s, 0, none⟩) hs2).trans c0; have y3 := (hv.cell (p := ⟨s, 3, none⟩) hs2).trans c3; have yA := (hv.cell (p := ⟨b, off + a, none⟩) hb2).trans cA
          go_simp
          rfl
        try simp only [Act.put, List.setIfInBounds_toArray, List.set_cons_zero, List.set_cons_succ]
        refine wpAnyH_take (i := 16) (v := ?xv16) (by simp only [List.getElem?_toArray, List.getElem?_cons_succ, List.getElem?_cons_zero]; exact rfl) (by kernel_rfl) (by kernel_rfl) (by kernel_rfl) ?xq16 ?xy16 hH ?xr16
        case xq16 => exact fun _ _ _ h => h
        case xy16 =>
          refine Or.inl ⟨by rfl, fun v hv => ?_⟩
          go_simp
          rfl
        try simp only [Act.put, List.setIfInBounds_toArray, List.set_cons_zero, List.set_cons_succ]
        refine wpAnyH_take (i := 17) (v := ?xv17) (by simp only [List.getElem?_toArray, List.getElem?_cons_succ, List.getElem?_cons_zero]; exact rfl) (by kernel_rfl) (by kernel_rfl) (by kernel_rfl) ?xq17 ?xy17 hH ?xr17
        case xq17 => exact fun _ _ _ h => h
        case xy17 =>
          refine Or.inl ⟨by rfl, fun v hv => ?_⟩
          go_simp
          rfl
        try simp only [Act.put, List.setIfInBounds_toArray, List.set_cons_zero, List.set_cons_succ]
        refine wpAnyH_take (i := 18) (v := ?xv18) (by simp only [List.getElem?_toArray, List.getElem?_cons_succ, List.getElem?_cons_zero]; exact rfl) (by kernel_rfl) (by kernel_rfl) (by kernel_rfl) ?xq18 ?xy18 hH ?xr18
        case xq18 => exact fun _ _ _ h => h
        case xy18 =>
          refine Or.inl ⟨by rfl, fun v hv => ?_⟩
          go_simp
          rfl
        try simp only [Act.put, List.setIfInBounds_toArray, List.set_cons_zero, List.set_cons_succ]
        refine wpAnyH_take (i := 19) (v := ?xv19) (by simp only [List.getElem?_toArray, List.getElem?_cons_succ, List.getElem?_cons_zero]; exact rfl) (by kernel_rfl) (by kernel_rfl) (by kernel_rfl) ?xq19 ?xy19 hH ?xr19
        case xq19 => exact fun _ _ _ h => h
        case xy19 =>
          refine Or.inl ⟨by rfl, fun v hv => ?_⟩
          have y0 := (hv.cell (p := ⟨s, 0, none⟩) hs2).trans c0; have y3 := (hv.cell (p := ⟨s, 3, none⟩) hs2).trans c3; have yA := (hv.cell (p := ⟨b, off + a, none⟩) hb2).trans cA
          go_simp
          rfl
        try simp only [Act.put, List.setIfInBounds_toArray, List.set_cons_zero, List.set_cons_succ]
        refine wpAnyH_take (i := 20) (v := ?xv20) (by simp only [List.getElem?_toArray, List.getElem?_cons_succ, List.getElem?_cons_zero]; exact rfl) (by kernel_rfl) (by kernel_rfl) (by kernel_rfl) ?xq20 ?xy20 hH ?xr20
        case xq20 => exact fun _ _ _ h => h
        case xy20 =>
          refine Or.inl ⟨by rfl, fun v hv => ?_⟩
          go_simp
          rfl
        try simp only [Act.put, List.setIfInBounds_toArray, List.set_cons_zero, List.set_cons_succ]
        refine wpAnyH_take (i := 21) (v := ?xv21) (by simp only [List.getElem?_toArray, List.getElem?_cons_succ, List.getElem?_cons_zero]; exact rfl) (by kernel_rfl) (by kernel_rfl) (by kernel_rfl) ?xq21 ?xy21 hH ?xr21
        case xq21 => exact fun _ _ _ h => h
        case xy21 =>
          refine Or.inl ⟨by rfl, fun v hv => ?_⟩
          have y0 := (hv.cell (p := ⟨s, 0, none⟩) hs2).trans c0; have y3 := (hv.cell (p := ⟨s, 3, none⟩) hs2).trans c3; have yA := (hv.cell (p := ⟨b, off + a, none⟩) hb2).trans cA
          go_simp
          rfl
        try simp only [Act.put, List.setIfInBounds_toArray, List.set_cons_zero, List.set_cons_succ]
        refine wpAnyH_ready (rs := [11, 24]) (by kernel_rfl) (by simp) ?_
        refine AllReadyH.cons (by simp only [List.getElem?_toArray, List.getElem?_cons_succ, List.getElem?_cons_zero]; exact rfl) (fun K hK => ?xb11) (AllReadyH.cons (by simp only [List.getElem?_toArray, List.getElem?_cons_succ, List.getElem?_cons_zero]; exact rfl) (fun K hK => ?xb24) (AllReadyH.nil))
        case xb11 =>
          go_simp
          obtain ⟨v1, hv1⟩ : ∃ x, x = v0.alloc (.cells #[] 5) := ⟨_, rfl⟩
          rw [← hv1]
          have hBv1 : Below v0.heap.size v0 v1 := below_eq ((Below.refl _ _).alloc (Nat.le_refl _) _) hv1
          have hN := below_then hH hBv1
          clear hv1 hBv1
          refine hK.out _ _ hN (fun hH' => ?_)
          clear hK hH hN K
          have hH := hH'
          clear hH'
          try simp only [Act.put, List.setIfInBounds_toArray, List.set_cons_zero, List.set_cons_succ]
          refine wpAnyH_ready (rs := [22, 24]) (by kernel_rfl) (by simp) ?_
          refine AllReadyH.cons (by simp only [List.getElem?_toArray, List.getElem?_cons_succ, List.getElem?_cons_zero]; exact rfl) (fun K hK => ?xc11b22) (AllReadyH.cons (by simp only [List.getElem?_toArray, List.getElem?_cons_succ, List.getElem?_cons_zero]; exact rfl) (fun K hK => ?xc11b24) (AllReadyH.nil))
          case xc11b22 =>
            refine step_append_copy (by rfl) _ _ (by rfl) _ Ak ck fk (by rfl) (by rfl) ((HBY.out).below hH) hfl ?_
            intro D d v2 hnew hBv2
            have HD := hide (hnew.mono hH.size)
            have hcap := hnew.1
            have hN := below_then hH hBv2
            clear hnew hBv2
            refine hK.out _ _ hN (fun hH' => ?_)
            clear hK hH hN K
            have hH := hH'
            clear hH'
            try simp only [Act.put, List.setIfInBounds_toArray, List.set_cons_zero, List.set_cons_succ]
            refine wpAnyH_take (i := 23) (v := ?xc11c22v23) (by simp only [List.getElem?_toArray, List.getElem?_cons_succ, List.getElem?_cons_zero]; exact rfl) (by kernel_rfl) (by kernel_rfl) (by kernel_rfl) ?xc11c22q23 ?xc11c22y23 hH ?xc11c22r23
            case xc11c22q23 => exact fun _ _ _ h => h
            case xc11c22y23 =>
              refine Or.inl ⟨by rfl, fun v hv => ?_⟩
              go_simp
              rfl
            try simp only [Act.put, List.setIfInBounds_toArray, List.set_cons_zero, List.set_cons_succ]
            refine wpAnyH_ready (rs := [24]) (by kernel_rfl) (by simp) ?_
            refine AllReadyH.cons (by simp only [List.getElem?_toArray, List.getElem?_cons_succ, List.getElem?_cons_zero]; exact rfl) (fun K hK => ?_) AllReadyH.nil
            go_simp
            obtain ⟨v3, hv3⟩ : ∃ x, x = v2.alloc (.cells #[.bool false, .int .i64 0, .bool false, .slice none 0 0] 34) := ⟨_, rfl⟩
            rw [← hv3]
            have hBv3 : Below v2.heap.size v2 v3 := below_eq ((Below.refl _ _).alloc (Nat.le_refl _) _) hv3
            have HM : Hid (Box v3 v2.heap.size 34 #[.bool false, .int .i64 0, .bool false, .slice none 0 0]) := by rw [hv3]; exact Box.new _ _ _
            have hgm : w2.heap.size ≤ v2.heap.size := hH.size
            have hN := below_then hH hBv3
            have HD := hide (HD.out.kept (below_eq ((Below.refl _ _).alloc (Nat.le_refl _) _) hv3))
            clear hv3 hBv3
            refine hK.out _ _ hN (fun hH' => ?_)
            clear hK hH hN K
            have hH := hH'
            clear hH'
            try simp only [Act.put, List.setIfInBounds_toArray, List.set_cons_zero, List.set_cons_succ]
            refine wpAnyH_ready (rs := [25]) (by kernel_rfl) (by simp) ?_
            refine AllReadyH.cons (by simp only [List.getElem?_toArray, List.getElem?_cons_succ, List.getElem?_cons_zero]; exact rfl) (fun K hK => ?_) AllReadyH.nil
            go_simp
            have m0 := HM.out.cell 0
            have m1 := HM.out.cell 1
            have m2 := HM.out.cell 2
            have m3 := HM.out.cell 3
            have n0 := HM.out.frozen 0
            have n1 := HM.out.frozen 1
            have n2 := HM.out.frozen 2
            have n3 := HM.out.frozen 3
            go_simp
            rw [HEQ.out]
            have HFin : Hid (Made w2 a (decide (a = fs.length - 1)) fk v2.heap.size ((((v3.setCell ⟨v2.heap.size, 0, none⟩ (.bool false)).setCell ⟨v2.heap.size, 1, none⟩ (.int .i64 (a : Int))).setCell ⟨v2.heap.size, 2, none⟩ (.bool (decide (a = fs.length - 1)))).setCell ⟨v2.heap.size, 3, none⟩ (.slice D fk.length d))) := ⟨D, d, HM.out.set4 _ _ _ _, HD.out.set4 HM.out (by decide) _ _ _ _, Below.set4 hH hgm _ _ _ _, hgm⟩
            have hN := HFin.out.choose_spec.choose_spec.2.2.1
            refine hK.out _ _ hN (fun hH' => ?_)
            clear hK hH hN K
            have hH := hH'
            clear hH'
            try simp only [Act.put, List.setIfInBounds_toArray, List.set_cons_zero, List.set_cons_succ]
            refine wpAnyH_done (by kernel_rfl) ?_ _
            go_wp2_with fail
            go_meet
            exact ⟨_, rfl, HFin⟩
          case xc11b24 =>
            go_simp
            obtain ⟨v2, hv2⟩ : ∃ x, x = v1.alloc (.cells #[.bool false, .int .i64 0, .bool false, .slice none 0 0] 34) := ⟨_, rfl⟩
            rw [← hv2]
            have hBv2 : Below v1.heap.size v1 v2 := below_eq ((Below.refl _ _).alloc (Nat.le_refl _) _) hv2
            have HM : Hid (Box v2 v1.heap.size 34 #[.bool false, .int .i64 0, .bool false, .slice none 0 0]) := by rw [hv2]; exact Box.new _ _ _
            have hgm : w2.heap.size ≤ v1.heap.size := hH.size
            have hN := below_then hH hBv2
            clear hv2 hBv2
            refine hK.out _ _ hN (fun hH' => ?_)
            clear hK hH hN K
            have hH := hH'
            clear hH'
            try simp only [Act.put, List.setIfInBounds_toArray, List.set_cons_zero, List.set_cons_succ]
            refine wpAnyH_ready (rs := [22]) (by kernel_rfl) (by simp) ?_
            refine AllReadyH.cons (by simp only [List.getElem?_toArray, List.getElem?_cons_succ, List.getElem?_cons_zero]; exact rfl) (fun K hK => ?_) AllReadyH.nil
            refine step_append_copy (by rfl) _ _ (by rfl) _ Ak ck fk (by rfl) (by rfl) ((HBY.out).below hH) hfl ?_
            intro D d v3 hnew hBv3
            have HD := hide (hnew.mono hH.size)
            have hcap := hnew.1
            have HM := hide (HM.out.kept hBv3)
            have hN := below_then hH hBv3
            clear hnew hBv3
            refine hK.out _ _ hN (fun hH' => ?_)
            clear hK hH hN K
            have hH := hH'
            clear hH'
            try simp only [Act.put, List.setIfInBounds_toArray, List.set_cons_zero, List.set_cons_succ]
            refine wpAnyH_take (i := 23) (v := ?xc11c24v23) (by simp only [List.getElem?_toArray, List.getElem?_cons_succ, List.getElem?_cons_zero]; exact rfl) (by kernel_rfl) (by kernel_rfl) (by kernel_rfl) ?xc11c24q23 ?xc11c24y23 hH ?xc11c24r23
            case xc11c24q23 => exact fun _ _ _ h => h
            case xc11c24y23 =>
              refine Or.inl ⟨by rfl, fun v hv => ?_⟩
              go_simp
              rfl
            try simp only [Act.put, List.setIfInBounds_toArray, List.set_cons_zero, List.set_cons_succ]
            refine wpAnyH_ready (rs := [25]) (by kernel_rfl) (by simp) ?_
            refine AllReadyH.cons (by simp only [List.getElem?_toArray, List.getElem?_cons_succ, List.getElem?_cons_zero]; exact rfl) (fun K hK => ?_) AllReadyH.nil
            go_simp
            have m0 := HM.out.cell 0
            have m1 := HM.out.cell 1
            have m2 := HM.out.cell 2
            have m3 := HM.out.cell 3
            have n0 := HM.out.frozen 0
            have n1 := HM.out.frozen 1
            have n2 := HM.out.frozen 2
            have n3 := HM.out.frozen 3
            go_simp
            rw [HEQ.out]
            have HFin : Hid (Made w2 a (decide (a = fs.length - 1)) fk v1.heap.size ((((v3.setCell ⟨v1.heap.size, 0, none⟩ (.bool false)).setCell ⟨v1.heap.size, 1, none⟩ (.int .i64 (a : Int))).setCell ⟨v1.heap.size, 2, none⟩ (.bool (decide (a = fs.length - 1)))).setCell ⟨v1.heap.size, 3, none⟩ (.slice D fk.length d))) := ⟨D, d, HM.out.set4 _ _ _ _, HD.out.set4 HM.out (by decide) _ _ _ _, Below.set4 hH hgm _ _ _ _, hgm⟩
            have hN := HFin.out.choose_spec.choose_spec.2.2.1
            refine hK.out _ _ hN (fun hH' => ?_)
            clear hK hH hN K
            have hH := hH'
            clear hH'
            try simp only [Act.put, List.setIfInBounds_toArray, List.set_cons_zero, List.set_cons_succ]
            refine wpAnyH_done (by kernel_rfl) ?_ _
            go_wp2_with fail
            go_meet
            exact ⟨_, rfl, HFin⟩
        case xb24 =>
          go_simp
          obtain ⟨v1, hv1⟩ : ∃ x, x = v0.alloc (.cells #[.bool false, .int .i64 0, .bool false, .slice none 0 0] 34) := ⟨_, rfl⟩
          rw [← hv1]
          have hBv1 : Below v0.heap.size v0 v1 := below_eq ((Below.refl _ _).alloc (Nat.le_refl _) _) hv1
          have HM : Hid (Box v1 v0.heap.size 34 #[.bool false, .int .i64 0, .bool false, .slice none 0 0]) := by rw [hv1]; exact Box.new _ _ _
          have hgm : w2.heap.size ≤ v0.heap.size := hH.size
          have hN := below_then hH hBv1
          clear hv1 hBv1
          refine hK.out _ _ hN (fun hH' => ?_)
          clear hK hH hN K
          have hH := hH'
          clear hH'
          try simp only [Act.put, List.setIfInBounds_toArray, List.set_cons_zero, List.set_cons_succ]
          refine wpAnyH_ready (rs := [11]) (by kernel_rfl) (by simp) ?_
          refine AllReadyH.cons (by simp only [List.getElem?_toArray, List.getElem?_cons_succ, List.getElem?_cons_zero]; exact rfl) (fun K hK => ?_) AllReadyH.nil
          go_simp
          obtain ⟨v2, hv2⟩ : ∃ x, x = v1.alloc (.cells #[] 5) := ⟨_, rfl⟩
          rw [← hv2]
          have hBv2 : Below v1.heap.size v1 v2 := below_eq ((Below.refl _ _).alloc (Nat.le_refl _) _) hv2
          have HM := hide (HM.out.kept hBv2)
          have hN := below_then hH hBv2
          clear hv2 hBv2
          refine hK.out _ _ hN (fun hH' => ?_)
          clear hK hH hN K
          have hH := hH'
          clear hH'
          try simp only [Act.put, List.setIfInBounds_toArray, List.set_cons_zero, List.set_cons_succ]
          refine wpAnyH_ready (rs := [22]) (by kernel_rfl) (by simp) ?_
          refine AllReadyH.cons (by simp only [List.getElem?_toArray, List.getElem?_cons_succ, List.getElem?_cons_zero]; exact rfl) (fun K hK => ?_) AllReadyH.nil
          refine step_append_copy (by rfl) _ _ (by rfl) _ Ak ck fk (by rfl) (by rfl) ((HBY.out).below hH) hfl ?_
          intro D d v3 hnew hBv3
          have HD := hide (hnew.mono hH.size)
          have hcap := hnew.1
          have HM := hide (HM.out.kept hBv3)
          have hN := below_then hH hBv3
          clear hnew hBv3
          refine hK.out _ _ hN (fun hH' => ?_)
          clear hK hH hN K
          have hH := hH'
          clear hH'
          try simp only [Act.put, List.setIfInBounds_toArray, List.set_cons_zero, List.set_cons_succ]
          refine wpAnyH_take (i := 23) (v := ?xc24v23) (by simp only [List.getElem?_toArray, List.getElem?_cons_succ, List.getElem?_cons_zero]; exact rfl) (by kernel_rfl) (by kernel_rfl) (by kernel_rfl) ?xc24q23 ?xc24y23 hH ?xc24r23
          case xc24q23 => exact fun _ _ _ h => h
          case xc24y23 =>
            refine Or.inl ⟨by rfl, fun v hv => ?_⟩
            go_simp
            rfl
          try simp only [Act.put, List.setIfInBounds_toArray, List.set_cons_zero, List.set_cons_succ]
          refine wpAnyH_ready (rs := [25]) (by kernel_rfl) (by simp) ?_
          refine AllReadyH.cons (by simp only [List.getElem?_toArray, List.getElem?_cons_succ, List.getElem?_cons_zero]; exact rfl) (fun K hK => ?_) AllReadyH.nil
          go_simp
          have m0 := HM.out.cell 0
          have m1 := HM.out.cell 1
          have m2 := HM.out.cell 2
          have m3 := HM.out.cell 3
          have n0 := HM.out.frozen 0
          have n1 := HM.out.frozen 1
          have n2 := HM.out.frozen 2
          have n3 := HM.out.frozen 3
          go_simp
          rw [HEQ.out]
          have HFin : Hid (Made w2 a (decide (a = fs.length - 1)) fk v0.heap.size ((((v3.setCell ⟨v0.heap.size, 0, none⟩ (.bool false)).setCell ⟨v0.heap.size, 1, none⟩ (.int .i64 (a : Int))).setCell ⟨v0.heap.size, 2, none⟩ (.bool (decide (a = fs.length - 1)))).setCell ⟨v0.heap.size, 3, none⟩ (.slice D fk.length d))) := ⟨D, d, HM.out.set4 _ _ _ _, HD.out.set4 HM.out (by decide) _ _ _ _, Below.set4 hH hgm _ _ _ _, hgm⟩
          have hN := HFin.out.choose_spec.choose_spec.2.2.1
          refine hK.out _ _ hN (fun hH' => ?_)
          clear hK hH hN K
          have hH := hH'
          clear hH'
          try simp only [Act.put, List.setIfInBounds_toArray, List.set_cons_zero, List.set_cons_succ]
          refine wpAnyH_done (by kernel_rfl) ?_ _
          go_wp2_with fail
          go_meet
          exact ⟨_, rfl, HFin⟩
      case rest =>
        obtain ⟨g, rfl, hMade⟩ := hcut
        obtain ⟨D, d, hM, hD, hBl, hg⟩ := hMade.out
        have HM := hide hM
        have HD := hide hD
        have HB2 := hide hBl
        have HS3 := hide (HS2.out.kept hBl)
        have HX3 := hide (HX2.out.kept hBl)
        clear hM hD hBl hMade c0 c1 c2 c3 cA
        obtain ⟨A3, c3, hc3, d0, d1, d2, d3, hf, hfr⟩ := HS3.out.cells
        have f3 := hf 3
        clear hf hfr hc3
        have m0 : wc.cell? ⟨g, 0, none⟩ = some (.bool false) := HM.out.cell 0
        have m1 : wc.cell? ⟨g, 1, none⟩ = some (.int .i64 (a : Int)) := HM.out.cell 1
        have m2 : wc.cell? ⟨g, 2, none⟩ = some (.bool (decide (a = fs.length - 1))) := HM.out.cell 2
        have m3 : wc.cell? ⟨g, 3, none⟩ = some (.slice D fk.length d) := HM.out.cell 3
        have x0 : wc.cell? ⟨w.heap.size, 0, none⟩ = some (.bool false) := HX3.out.cell 0
        have x1 : wc.cell? ⟨w.heap.size, 1, none⟩ = some (.int .i64 0) := HX3.out.cell 1
        have x2 : wc.cell? ⟨w.heap.size, 2, none⟩ = some (.bool false) := HX3.out.cell 2
        have x3 : wc.cell? ⟨w.heap.size, 3, none⟩ = some (.slice none 0 0) := HX3.out.cell 3
        have e0 := HX3.out.frozen 0
        have e1 := HX3.out.frozen 1
        have e2 := HX3.out.frozen 2
        have e3 := HX3.out.frozen 3
        have hgs : g ≠ s := by omega
        have hws : w.heap.size ≠ s := by omega
        have hwl := HX2.out.lt
        have hgw : g ≠ w.heap.size := by omega
        go_wp2_with fail
        rw [← HA.out]
        refine bodyPost_ret (v := .tuple #[.agg #[.bool false, .int .i64 (a : Int), .bool (decide (a = fs.length - 1)), .slice D fk.length d], .bool true]) (by simp [results, Try.results12, go_sem, x0, x1, x2, x3, hws]) rfl ?_
        unfold NextPost
        rw [← HFK.out]
        have hwF : ¬ F w.heap.size := fun h => absurd (HLT.out _ h) (Nat.lt_irrefl _)
        refine ⟨D, d, rfl, ?_, ?_, ?_⟩
        · exact (((((HD.out.far hs2 _).far hwl _).far hwl _).far hwl _).far hwl _).mono HC2.out.size
        · have hc2 : Chg (fun i => i = s) w wc := HC2.out.trans (Chg.of_below HB2.out (fun _ => False)) (fun _ _ e => e.elim)
          exact ((((hc2.setCell (fun _ => rfl) _ _).setCell (fun h => absurd h (Nat.lt_irrefl _)) _ _).setCell (fun h => absurd h (Nat.lt_irrefl _)) _ _).setCell (fun h => absurd h (Nat.lt_irrefl _)) _ _).setCell (fun h => absurd h (Nat.lt_irrefl _)) _ _
        · exact ((((HS3.out.setNext (a + 1)).far hwF _).far hwF _).far hwF _).far hwF _

theorem refnext_done {F : Nat → Prop} {w : World} {s : Nat} {fs : List (List UInt8)} {W base nxt : Nat} (h : Snd 31 F w s fs W base nxt) (hb : base = fs.length) (hn : fs.length ≤ 1000) :
    Calls Try.prog 13 #[.pointer (some ⟨s, 0, none⟩)] w (NoMsg w) := by
  have H := hide (fun o => h.kept ((Below.refl _ _).alloc (Nat.le_refl _) o))
  have HB := hide hb
  have ha0 := (H.out (.cells #[.bool false, .int .i64 0, .bool false, .slice none 0 0] 34)).cells
  obtain ⟨A, c, hc, c0, c1, c2, c3, hf, hfr⟩ := ha0
  rw [hb] at c2
  clear h hb hf hfr
  go_enter Try.func13, Try.ntmps13
  go_wp2_with fail
  refine bodyPost_ret (v := .tuple #[.agg #[.bool false, .int .i64 0, .bool false, .slice none 0 0], .bool false]) (by simp [results, Try.results13, go_sem]) rfl ⟨rfl, ?_⟩
  first | exact Below.set4 ((Below.refl _ _).alloc (Nat.le_refl _) _) (Nat.le_refl _) _ _ _ _ | exact (Below.refl _ _).alloc (Nat.le_refl _) _

set_option maxHeartbeats 3200000 in
set_option maxRecDepth 100000 in
theorem refnext_more {F : Nat → Prop} {w : World} {s : Nat} {fs : List (List UInt8)} {W base nxt : Nat} (h : Snd 31 F w s fs W base nxt) (hb : base < fs.length) (hn : fs.length ≤ 1000) (hW : W ≤ 8) (hx : nxt ≤ 1000) (hbd : ∀ k, k < fs.length → (fs.getD k []).length ≤ 4096) :
    Calls Try.prog 13 #[.pointer (some ⟨s, 0, none⟩)] w (NextPost 31 F w s fs W base (nextAt fs.length W base nxt) (decide (nextAt fs.length W base nxt = fs.length - 1))) := by
  have H := hide (fun o => h.kept ((Below.refl _ _).alloc (Nat.le_refl _) o))
  have HBD := hide hbd
  have hsw := h.here
  have HLT := hide h.lt
  clear h hbd
  obtain ⟨A, c, hc, c0, c1, c2, c3, hf, hfr⟩ := (H.out (.cells #[.bool false, .int .i64 0, .bool false, .slice none 0 0] 34)).cells
  have t0 : ((base : Int) == (fs.length : Int)) = false := beq_eq_false_iff_ne.2 (by omega)
  clear hf hfr
  go_enter Try.func13, Try.ntmps13
  go_upto_region 4 with fail
  obtain ⟨w1, hw1⟩ : ∃ w1, w1 = (w.alloc (.cells #[.bool false, .int .i64 0, .bool false, .slice none 0 0] 34)).drewN 0 := ⟨_, rfl⟩
  have HB1 : Hid (Below w.heap.size w w1) := by rw [hw1]; exact below_drew ((Below.refl _ _).alloc (Nat.le_refl _) _) _
  have HX1 : Hid (Box w1 w.heap.size 34 #[.bool false, .int .i64 0, .bool false, .slice none 0 0]) := by rw [hw1]; exact (Box.new _ _ _).drewN _
  have HS1 : Hid (Snd 31 F w1 s fs W base nxt) := by rw [hw1]; exact (H.out _).kept (below_drew (Below.refl _ _) _)
  rw [show w.alloc (.cells #[.bool false, .int .i64 0, .bool false, .slice none 0 0] 34) = w1 from hw1.symm]
  clear hw1 H c0 c1 c2 c3
  obtain ⟨A, c, hc, c0, c1, c2, c3, hf, hfr⟩ := HS1.out.cells
  have f3 := hf 3
  clear hf hfr
  go_cut [44] (fun v wx => ∃ bb : Bool, v = .bool bb ∧ Hid (bb = decide (nxt < base ∨ min (base + W) fs.length ≤ nxt)) ∧ ∃ q, wx = w1.drewN q)
  case first =>
    by_cases h1 : nxt < base
    · go_quiet (fail)
      go_wp2_with fail
      go_meet
      exact ⟨_, rfl, (decide_eq_true (Or.inl h1)).symm, _, rfl⟩
    · go_quiet (fail)
      go_wp2_with fail
      all_goals
        go_meet
        refine ⟨_, rfl, ?_, _, rfl⟩
        rw [Hid, decide_eq_decide]
        omega
  case rest =>
    obtain ⟨bb, rfl, hbb, q, rfl⟩ := hcut
    go_upto_if 44 with fail
    obtain ⟨a, ha⟩ : ∃ a, a = nextAt fs.length W base nxt := ⟨_, rfl⟩
    have HA := hide ha
    have hal : a < fs.length := by rw [ha]; exact nextAt_lt hb
    rw [← ha]
    clear ha
    go_cut [] (fun wx => Hid (Snd 31 F wx s fs W base a) ∧ Hid (Box wx w.heap.size 34 #[.bool false, .int .i64 0, .bool false, .slice none 0 0]) ∧ Hid (Chg (fun i => i = s) w wx))
    case first =>
      cases bb
      case true =>
        have hav : Hid (base = a) := by rw [Hid, HA.out, nextAt, if_pos (of_decide_eq_true hbb.out.symm)]
        go_wp2_with fail
        go_meet
        rw [← hav.out]
        have hne : w.heap.size ≠ s := by omega
        exact ⟨(HS1.out.kept (below_drew (Below.refl _ _) q)).setNext base, (HX1.out.drewN q).far hne _, ((Chg.of_below HB1.out (fun i => i = s)).drewN q).setCell (fun _ => rfl) _ _⟩
      case false =>
        have hav : Hid (nxt = a) := by rw [Hid, HA.out, nextAt, if_neg (of_decide_eq_false hbb.out.symm)]
        go_wp2_with fail
        go_meet
        rw [← hav.out]
        exact ⟨HS1.out.kept (below_drew (Below.refl _ _) q), HX1.out.drewN q, (Chg.of_below HB1.out (fun i => i = s)).drewN q⟩
    case rest =>
      obtain ⟨HS2, HX2, HC2⟩ := hcut
      obtain ⟨w2, hw2⟩ : ∃ w2, w2 = wc := ⟨_, rfl⟩
      rw [← hw2] at HS2 HX2 HC2 ⊢
      clear hw2 c0 c1 c2 c3 f3 hbb HS1 HX1 HB1
      obtain ⟨A, c, hc, c0, c1, c2, c3, hf, hfr⟩ := HS2.out.cells
      obtain ⟨b, off, Ak, ck, rfl, hFb, cA, hby, hck⟩ := hfr.at_ hal
      have HBY := hide (hby.bys fun i hi => HS2.out.lt i hi.1)
      have hfl : (fs.getD a []).length ≤ 1000000 := by have := HBD.out a hal; omega
      have hs2 := HS2.out.here
      have hb2 := HS2.out.lt b hFb.1
      clear hby hf hfr
      obtain ⟨fk, hfk⟩ : ∃ fk, fk = fs.getD a [] := ⟨_, rfl⟩
      rw [← hfk] at cA hck HBY hfl
      have HFK := hide hfk
      clear hfk
      go_upto_region 6 with fail
      go_cut [5] (fun m wx => ∃ g, m = .pointer (some ⟨g, 0, none⟩) ∧ Hid (Made w2 a (decide (a = fs.length - 1)) fk g wx))
      case first =>
        have hia : (a : Int) < (fs.length : Int) := by omega
        have hia0 : (0 : Int) ≤ (a : Int) := by omega
        have hsub : (1 : Int) ≤ (fs.length : Int) := by omega
        have HEQ : Hid (((a : Int) == IntKind.i64.wrap ((fs.length : Int) - 1)) = decide (a = fs.length - 1)) := by rw [Hid, IntWalk.i64_in _ (by omega), Bool.eq_iff_iff, beq_iff_eq, decide_eq_true_eq]; omega
        refine wp_region_held_drew (S := fun v => Below w2.heap.size w2 v) (by kernel_rfl) ((Below.refl _ _).drew) (fun hH => ?_)
        obtain ⟨v0, hv0⟩ : ∃ v0, v0 = w2.drew := ⟨_, rfl⟩
        rw [← hv0] at hH ⊢
        clear hv0
        refine wpAnyH_take (i := 0) (v := ?xv0) (by simp only [List.getElem?_toArray, List.getElem?_cons_succ, List.getElem?_cons_zero]; exact rfl) (by kernel_rfl) (by kernel_rfl) (by kernel_rfl) ?xq0 ?xy0 hH ?xr0
        case xq0 => exact fun _ _ _ h => h
        case xy0 =>
          refine Or.inl ⟨by rfl, fun v hv => ?_⟩
          go_simp
          rfl
        try simp only [Act.put, List.setIfInBounds_toArray, List.set_cons_zero, List.set_cons_succ]
        refine wpAnyH_take (i := 1) (v := ?xv1) (by simp only [List.getElem?_toArray, List.getElem?_cons_succ, List.getElem?_cons_zero]; exact rfl) (by kernel_rfl) (by kernel_rfl) (by kernel_rfl) ?xq1 ?xy1 hH ?xr1
        case xq1 => exact fun _ _ _ h => h
        case xy1 =>
          refine Or.inl ⟨by rfl, fun v hv => ?_⟩
          go_simp
          rfl
        try simp only [Act.put, List.setIfInBounds_toArray, List.set_cons_zero, List.set_cons_succ]
        refine wpAnyH_take (i := 2) (v := ?xv2) (by simp only [List.getElem?_toArray, List.getElem?_cons_succ, List.getElem?_cons_zero]; exact rfl) (by kernel_rfl) (by kernel_rfl) (by kernel_rfl) ?xq2 ?xy2 hH ?xr2
        case xq2 => exact fun _ _ _ h => h
        case xy2 =>
          refine Or.inl ⟨by rfl, fun v hv => ?_⟩
          go_simp
          rfl
        try simp only [Act.put, List.setIfInBounds_toArray, List.set_cons_zero, List.set_cons_succ]
        refine wpAnyH_take (i := 3) (v := ?xv3) (by simp only [List.getElem?_toArray, List.getElem?_cons_succ, List.getElem?_cons_zero]; exact rfl) (by kernel_rfl) (by kernel_rfl) (by kernel_rfl) ?xq3 ?xy3 hH ?xr3
        case xq3 => exact fun _ _ _ h => h
        case xy3 =>
          refine Or.inl ⟨by rfl, fun v hv => ?_⟩
          have y0 := (hv.cell (p := ⟨s, 0, none⟩) hs2).trans c0; have y3 := (hv.cell (p := ⟨s, 3, none⟩) hs2).trans c3; have yA := (hv.cell (p := ⟨b, off + a, none⟩) hb2).trans cA
          go_simp
          rfl
        try simp only [Act.put, List.setIfInBounds_toArray, List.set_cons_zero, List.set_cons_succ]
        refine wpAnyH_take (i := 4) (v := ?xv4) (by simp only [List.getElem?_toArray, List.getElem?_cons_succ, List.getElem?_cons_zero]; exact rfl) (by kernel_rfl) (by kernel_rfl) (by kernel_rfl) ?xq4 ?xy4 hH ?xr4
        case xq4 => exact fun _ _ _ h => h
        case xy4 =>
          refine Or.inl ⟨by rfl, fun v hv => ?_⟩
          go_simp
          rfl
        try simp only [Act.put, List.setIfInBounds_toArray, List.set_cons_zero, List.set_cons_succ]
        refine wpAnyH_take (i := 5) (v := ?xv5) (by simp only [List.getElem?_toArray, List.getElem?_cons_succ, List.getElem?_cons_zero]; exact rfl) (by kernel_rfl) (by kernel_rfl) (by kernel_rfl) ?xq5 ?xy5 hH ?xr5
        case xq5 => exact fun _ _ _ h => h
        case xy5 =>
          refine Or.inl ⟨by rfl, fun v hv => ?_⟩
          go_simp
          rfl
        try simp only [Act.put, List.setIfInBounds_toArray, List.set_cons_zero, List.set_cons_succ]
        refine wpAnyH_take (i := 6) (v := ?xv6) (by simp only [List.getElem?_toArray, List.getElem?_cons_succ, List.getElem?_cons_zero]; exact rfl) (by kernel_rfl) (by kernel_rfl) (by kernel_rfl) ?xq6 ?xy6 hH ?xr6
        case xq6 => exact fun _ _ _ h => h
        case xy6 =>
          refine Or.inl ⟨by rfl, fun v hv => ?_⟩
          go_simp
          rfl
        try simp only [Act.put, List.setIfInBounds_toArray, List.set_cons_zero, List.set_cons_succ]
        refine wpAnyH_take (i := 7) (v := ?xv7) (by simp only [List.getElem?_toArray, List.getElem?_cons_succ, List.getElem?_cons_zero]; exact rfl) (by kernel_rfl) (by kernel_rfl) (by kernel_rfl) ?xq7 ?xy7 hH ?xr7
        case xq7 => exact fun _ _ _ h => h
        case xy7 =>
          refine Or.inl ⟨by rfl, fun v hv => ?_⟩
          have y0 := (hv.cell (p := ⟨s, 0, none⟩) hs2).trans c0; have y3 := (hv.cell (p := ⟨s, 3, none⟩) hs2).trans c3; have yA := (hv.cell (p := ⟨b, off + a, none⟩) hb2).trans cA
          go_simp
          rfl
        try simp only [Act.put, List.setIfInBounds_toArray, List.set_cons_zero, List.set_cons_succ]
        refine wpAnyH_take (i := 8) (v := ?xv8) (by simp only [List.getElem?_toArray, List.getElem?_cons_succ, List.getElem?_cons_zero]; exact rfl) (by kernel_rfl) (by kernel_rfl) (by kernel_rfl) ?xq8 ?xy8 hH ?xr8
        case xq8 => exact fun _ _ _ h => h
        case xy8 =>
          refine Or.inl ⟨by rfl, fun v hv => ?_⟩
          go_simp
          rfl
        try simp only [Act.put, List.setIfInBounds_toArray, List.set_cons_zero, List.set_cons_succ]
        refine wpAnyH_take (i := 9) (v := ?xv9) (by simp only [List.getElem?_toArray, List.getElem?_cons_succ, List.getElem?_cons_zero]; exact rfl) (by kernel_rfl) (by kernel_rfl) (by kernel_rfl) ?xq9 ?xy9 hH ?xr9
        case xq9 => exact fun _ _ _ h => h
        case xy9 =>
          refine Or.inl ⟨by rfl, fun v hv => ?_⟩
          go_simp
          rfl
        try simp only [Act.put, List.setIfInBounds_toArray, List.set_cons_zero, List.set_cons_succ]
        refine wpAnyH_take (i := 10) (v := ?xv10) (by simp only [List.getElem?_toArray, List.getElem?_cons_succ, List.getElem?_cons_zero]; exact rfl) (by kernel_rfl) (by kernel_rfl) (by kernel_rfl) ?xq10 ?xy10 hH ?xr10
        case xq10 => exact fun _ _ _ h => h
        case xy10 =>
          refine Or.inl ⟨by rfl, fun v hv => ?_⟩
          go_simp
          rfl
        try simp only [Act.put, List.setIfInBounds_toArray, List.set_cons_zero, List.set_cons_succ]
        refine wpAnyH_take (i := 11) (v := ?xv11) (by simp only [List.getElem?_toArray, List.getElem?_cons_succ, List.getElem?_cons_zero]; exact rfl) (by kernel_rfl) (by kernel_rfl) (by kernel_rfl) ?xq11 ?xy11 hH ?xr11
        case xq11 => exact fun _ _ _ h => h
        case xy11 =>
          refine Or.inl ⟨by rfl, fun v hv => ?_⟩
          go_simp
          rfl
        try simp only [Act.put, List.setIfInBounds_toArray, List.set_cons_zero, List.set_cons_succ]
        refine wpAnyH_take (i := 12) (v := ?xv12) (by simp only [List.getElem?_toArray, List.getElem?_cons_succ, List.getElem?_cons_zero]; exact rfl) (by kernel_rfl) (by kernel_rfl) (by kernel_rfl) ?xq12 ?xy12 hH ?xr12
        case xq12 => exact fun _ _ _ h => h
        case xy12 =>
          refine Or.inl ⟨by rfl, fun v hv => ?_⟩
          go_simp
          rfl
        try simp only [Act.put, List.setIfInBounds_toArray, List.set_cons_zero, List.set_cons_succ]
        refine wpAnyH_take (i := 13) (v := ?xv13) (by simp only [List.getElem?_toArray, List.getElem?_cons_succ, List.getElem?_cons_zero]; exact rfl) (by kernel_rfl) (by kernel_rfl) (by kernel_rfl) ?xq13 ?xy13 hH ?xr13
        case xq13 => exact fun _ _ _ h => h
        case xy13 =>
          refine Or.inl ⟨by rfl, fun v hv => ?_⟩
          go_simp
          rfl
        try simp only [Act.put, List.setIfInBounds_toArray, List.set_cons_zero, List.set_cons_succ]
        refine wpAnyH_take (i := 14) (v := ?xv14) (by simp only [List.getElem?_toArray, List.getElem?_cons_succ, List.getElem?_cons_zero]; exact rfl) (by kernel_rfl) (by kernel_rfl) (by kernel_rfl) ?xq14 ?xy14 hH ?xr14
        case xq14 => exact fun _ _ _ h => h
        case xy14 =>
          refine Or.inl ⟨by rfl, fun v hv => ?_⟩
          have y0 := (hv.cell (p := ⟨s, 0, none⟩) hs2).trans c0; have y3 := (hv.cell (p := ⟨s, 3, none⟩) hs2).trans c3; have yA := (hv.cell (p := ⟨b, off + a, none⟩) hb2).trans cA
          go_simp
          rfl
        try simp only [Act.put, List.setIfInBounds_toArray, List.set_cons_zero, List.set_cons_succ]
        refine wpAnyH_take (i := 15) (v := ?xv15) (by simp only [List.getElem?_toArray, List.getElem?_cons_succ, List.getElem?_cons_zero]; exact rfl) (by kernel_rfl) (by kernel_rfl) (by kernel_rfl) ?xq15 ?xy15 hH ?xr15
        case xq15 => exact fun _ _ _ h => h
        case xy15 =>
          refine Or.inl ⟨by rfl, fun v hv => ?_⟩
          go_simp
          rfl
        try simp only [Act.put, List.setIfInBounds_toArray, List.set_cons_zero, List.set_cons_succ]
        refine wpAnyH_take (i := 16) (v := ?xv16) (by simp only [List.getElem?_toArray, List.getElem?_cons_succ, List.getElem?_cons_zero]; exact rfl) (by kernel_rfl) (by kernel_rfl) (by kernel_rfl) ?xq16 ?xy16 hH ?xr16
        case xq16 => exact fun _ _ _ h => h
        case xy16 =>
          refine Or.inl ⟨by rfl, fun v hv => ?_⟩
          go_simp
          rfl
        try simp only [Act.put, List.setIfInBounds_toArray, List.set_cons_zero, List.set_cons_succ]
        refine wpAnyH_take (i := 17) (v := ?xv17) (by simp only [List.getElem?_toArray, List.getElem?_cons_succ, List.getElem?_cons_zero]; exact rfl) (by kernel_rfl) (by kernel_rfl) (by kernel_rfl) ?xq17 ?xy17 hH ?xr17
        case xq17 => exact fun _ _ _ h => h
        case xy17 =>
          refine Or.inl ⟨by rfl, fun v hv => ?_⟩
          go_simp
          rfl
        try simp only [Act.put, List.setIfInBounds_toArray, List.set_cons_zero, List.set_cons_succ]
        refine wpAnyH_take (i := 18) (v := ?xv18) (by simp only [List.getElem?_toArray, List.getElem?_cons_succ, List.getElem?_cons_zero]; exact rfl) (by kernel_rfl) (by kernel_rfl) (by kernel_rfl) ?xq18 ?xy18 hH ?xr18
        case xq18 => exact fun _ _ _ h => h
        case xy18 =>
          refine Or.inl ⟨by rfl, fun v hv => ?_⟩
          have y0 := (hv.cell (p := ⟨s, 0, none⟩) hs2).trans c0; have y3 := (hv.cell (p := ⟨s, 3, none⟩) hs2).trans c3; have yA := (hv.cell (p := ⟨b, off + a, none⟩) hb2).trans cA
          go_simp
          rfl
        try simp only [Act.put, List.setIfInBounds_toArray, List.set_cons_zero, List.set_cons_succ]
        refine wpAnyH_take (i := 19) (v := ?xv19) (by simp only [List.getElem?_toArray, List.getElem?_cons_succ, List.getElem?_cons_zero]; exact rfl) (by kernel_rfl) (by kernel_rfl) (by kernel_rfl) ?xq19 ?xy19 hH ?xr19
        case xq19 => exact fun _ _ _ h => h
        case xy19 =>
          refine Or.inl ⟨by rfl, fun v hv => ?_⟩
          go_simp
          rfl
        try simp only [Act.put, List.setIfInBounds_toArray, List.set_cons_zero, List.set_cons_succ]
        refine wpAnyH_take (i := 20) (v := ?xv20) (by simp only [List.getElem?_toArray, List.getElem?_cons_succ, List.getElem?_cons_zero]; exact rfl) (by kernel_rfl) (by kernel_rfl) (by kernel_rfl) ?xq20 ?xy20 hH ?xr20
        case xq20 => exact fun _ _ _ h => h
        case xy20 =>
          refine Or.inl ⟨by rfl, fun v hv => ?_⟩
          have y0 := (hv.cell (p := ⟨s, 0, none⟩) hs2).trans c0; have y3 := (hv.cell (p := ⟨s, 3, none⟩) hs2).trans c3; have yA := (hv.cell (p := ⟨b, off + a, none⟩) hb2).trans cA
          go_simp
          rfl
        try simp only [Act.put, List.setIfInBounds_toArray, List.set_cons_zero, List.set_cons_succ]
        refine wpAnyH_ready (rs := [21, 23]) (by kernel_rfl) (by simp) ?_
        refine AllReadyH.cons (by simp only [List.getElem?_toArray, List.getElem?_cons_succ, List.getElem?_cons_zero]; exact rfl) (fun K hK => ?xb21) (AllReadyH.cons (by simp only [List.getElem?_toArray, List.getElem?_cons_succ, List.getElem?_cons_zero]; exact rfl) (fun K hK => ?xb23) (AllReadyH.nil))
        case xb21 =>
          refine step_append_copy (by rfl) _ _ (by rfl) _ Ak ck fk (by rfl) (by rfl) ((HBY.out).below hH) hfl ?_
          intro D d v1 hnew hBv1
          have HD := hide (hnew.mono hH.size)
          have hcap := hnew.1
          have hN := below_then hH hBv1
          clear hnew hBv1
          refine hK.out _ _ hN (fun hH' => ?_)
          clear hK hH hN K
          have hH := hH'
          clear hH'
          try simp only [Act.put, List.setIfInBounds_toArray, List.set_cons_zero, List.set_cons_succ]
          refine wpAnyH_take (i := 22) (v := ?xc21v22) (by simp only [List.getElem?_toArray, List.getElem?_cons_succ, List.getElem?_cons_zero]; exact rfl) (by kernel_rfl) (by kernel_rfl) (by kernel_rfl) ?xc21q22 ?xc21y22 hH ?xc21r22
          case xc21q22 => exact fun _ _ _ h => h
          case xc21y22 =>
            refine Or.inl ⟨by rfl, fun v hv => ?_⟩
            go_simp
            rfl
          try simp only [Act.put, List.setIfInBounds_toArray, List.set_cons_zero, List.set_cons_succ]
          refine wpAnyH_ready (rs := [23]) (by kernel_rfl) (by simp) ?_
          refine AllReadyH.cons (by simp only [List.getElem?_toArray, List.getElem?_cons_succ, List.getElem?_cons_zero]; exact rfl) (fun K hK => ?_) AllReadyH.nil
          go_simp
          obtain ⟨v2, hv2⟩ : ∃ x, x = v1.alloc (.cells #[.bool false, .int .i64 0, .bool false, .slice none 0 0] 34) := ⟨_, rfl⟩
          rw [← hv2]
          have hBv2 : Below v1.heap.size v1 v2 := below_eq ((Below.refl _ _).alloc (Nat.le_refl _) _) hv2
          have HM : Hid (Box v2 v1.heap.size 34 #[.bool false, .int .i64 0, .bool false, .slice none 0 0]) := by rw [hv2]; exact Box.new _ _ _
          have hgm : w2.heap.size ≤ v1.heap.size := hH.size
          have hN := below_then hH hBv2
          have HD := hide (HD.out.kept (below_eq ((Below.refl _ _).alloc (Nat.le_refl _) _) hv2))
          clear hv2 hBv2
          refine hK.out _ _ hN (fun hH' => ?_)
          clear hK hH hN K
          have hH := hH'
          clear hH'
          try simp only [Act.put, List.setIfInBounds_toArray, List.set_cons_zero, List.set_cons_succ]
          refine wpAnyH_ready (rs := [24]) (by kernel_rfl) (by simp) ?_
          refine AllReadyH.cons (by simp only [List.getElem?_toArray, List.getElem?_cons_succ, List.getElem?_cons_zero]; exact rfl) (fun K hK => ?_) AllReadyH.nil
          go_simp
          have m0 := HM.out.cell 0
          have m1 := HM.out.cell 1
          have m2 := HM.out.cell 2
          have m3 := HM.out.cell 3
          have n0 := HM.out.frozen 0
          have n1 := HM.out.frozen 1
          have n2 := HM.out.frozen 2
          have n3 := HM.out.frozen 3
          go_simp
          rw [HEQ.out]
          have HFin : Hid (Made w2 a (decide (a = fs.length - 1)) fk v1.heap.size ((((v2.setCell ⟨v1.heap.size, 0, none⟩ (.bool false)).setCell ⟨v1.heap.size, 1, none⟩ (.int .i64 (a : Int))).setCell ⟨v1.heap.size, 2, none⟩ (.bool (decide (a = fs.length - 1)))).setCell ⟨v1.heap.size, 3, none⟩ (.slice D fk.length d))) := ⟨D, d, HM.out.set4 _ _ _ _, HD.out.set4 HM.out (by decide) _ _ _ _, Below.set4 hH hgm _ _ _ _, hgm⟩
          have hN := HFin.out.choose_spec.choose_spec.2.2.1
          refine hK.out _ _ hN (fun hH' => ?_)
          clear hK hH hN K
          have hH := hH'
          clear hH'
          try simp only [Act.put, List.setIfInBounds_toArray, List.set_cons_zero, List.set_cons_succ]
          refine wpAnyH_done (by kernel_rfl) ?_ _
          go_wp2_with fail
          go_meet
          exact ⟨_, rfl, HFin⟩
        case xb23 =>
          go_simp
          obtain ⟨v1, hv1⟩ : ∃ x, x = v0.alloc (.cells #[.bool false, .int .i64 0, .bool false, .slice none 0 0] 34) := ⟨_, rfl⟩
          rw [← hv1]
          have hBv1 : Below v0.heap.size v0 v1 := below_eq ((Below.refl _ _).alloc (Nat.le_refl _) _) hv1
          have HM : Hid (Box v1 v0.heap.size 34 #[.bool false, .int .i64 0, .bool false, .slice none 0 0]) := by rw [hv1]; exact Box.new _ _ _
          have hgm : w2.heap.size ≤ v0.heap.size := hH.size
          have hN := below_then hH hBv1
          clear hv1 hBv1
          refine hK.out _ _ hN (fun hH' => ?_)
          clear hK hH hN K
          have hH := hH'
          clear hH'
          try simp only [Act.put, List.setIfInBounds_toArray, List.set_cons_zero, List.set_cons_succ]
          refine wpAnyH_ready (rs := [21]) (by kernel_rfl) (by simp) ?_
          refine AllReadyH.cons (by simp only [List.getElem?_toArray, List.getElem?_cons_succ, List.getElem?_cons_zero]; exact rfl) (fun K hK => ?_) AllReadyH.nil
          refine step_append_copy (by rfl) _ _ (by rfl) _ Ak ck fk (by rfl) (by rfl) ((HBY.out).below hH) hfl ?_
          intro D d v2 hnew hBv2
          have HD := hide (hnew.mono hH.size)
          have hcap := hnew.1
          have HM := hide (HM.out.kept hBv2)
          have hN := below_then hH hBv2
          clear hnew hBv2
          refine hK.out _ _ hN (fun hH' => ?_)
          clear hK hH hN K
          have hH := hH'
          clear hH'
          try simp only [Act.put, List.setIfInBounds_toArray, List.set_cons_zero, List.set_cons_succ]
          refine wpAnyH_take (i := 22) (v := ?xc23v22) (by simp only [List.getElem?_toArray, List.getElem?_cons_succ, List.getElem?_cons_zero]; exact rfl) (by kernel_rfl) (by kernel_rfl) (by kernel_rfl) ?xc23q22 ?xc23y22 hH ?xc23r22
          case xc23q22 => exact fun _ _ _ h => h
          case xc23y22 =>
            refine Or.inl ⟨by rfl, fun v hv => ?_⟩
            go_simp
            rfl
          try simp only [Act.put, List.setIfInBounds_toArray, List.set_cons_zero, List.set_cons_succ]
          refine wpAnyH_ready (rs := [24]) (by kernel_rfl) (by simp) ?_
          refine AllReadyH.cons (by simp only [List.getElem?_toArray, List.getElem?_cons_succ, List.getElem?_cons_zero]; exact rfl) (fun K hK => ?_) AllReadyH.nil
          go_simp
          have m0 := HM.out.cell 0
          have m1 := HM.out.cell 1
          have m2 := HM.out.cell 2
          have m3 := HM.out.cell 3
          have n0 := HM.out.frozen 0
          have n1 := HM.out.frozen 1
          have n2 := HM.out.frozen 2
          have n3 := HM.out.frozen 3
          go_simp
          rw [HEQ.out]
          have HFin : Hid (Made w2 a (decide (a = fs.length - 1)) fk v0.heap.size ((((v2.setCell ⟨v0.heap.size, 0, none⟩ (.bool false)).setCell ⟨v0.heap.size, 1, none⟩ (.int .i64 (a : Int))).setCell ⟨v0.heap.size, 2, none⟩ (.bool (decide (a = fs.length - 1)))).setCell ⟨v0.heap.size, 3, none⟩ (.slice D fk.length d))) := ⟨D, d, HM.out.set4 _ _ _ _, HD.out.set4 HM.out (by decide) _ _ _ _, Below.set4 hH hgm _ _ _ _, hgm⟩
          have hN := HFin.out.choose_spec.choose_spec.2.2.1
          refine hK.out _ _ hN (fun hH' => ?_)
          clear hK hH hN K
          have hH := hH'
          clear hH'
          try simp only [Act.put, List.setIfInBounds_toArray, List.set_cons_zero, List.set_cons_succ]
          refine wpAnyH_done (by kernel_rfl) ?_ _
          go_wp2_with fail
          go_meet
          exact ⟨_, rfl, HFin⟩
      case rest =>
        obtain ⟨g, rfl, hMade⟩ := hcut
        obtain ⟨D, d, hM, hD, hBl, hg⟩ := hMade.out
        have HM := hide hM
        have HD := hide hD
        have HB2 := hide hBl
        have HS3 := hide (HS2.out.kept hBl)
        have HX3 := hide (HX2.out.kept hBl)
        clear hM hD hBl hMade c0 c1 c2 c3 cA
        obtain ⟨A3, c3, hc3, d0, d1, d2, d3, hf, hfr⟩ := HS3.out.cells
        have f3 := hf 3
        clear hf hfr hc3
        have m0 : wc.cell? ⟨g, 0, none⟩ = some (.bool false) := HM.out.cell 0
        have m1 : wc.cell? ⟨g, 1, none⟩ = some (.int .i64 (a : Int)) := HM.out.cell 1
        have m2 : wc.cell? ⟨g, 2, none⟩ = some (.bool (decide (a = fs.length - 1))) := HM.out.cell 2
        have m3 : wc.cell? ⟨g, 3, none⟩ = some (.slice D fk.length d) := HM.out.cell 3
        have x0 : wc.cell? ⟨w.heap.size, 0, none⟩ = some (.bool false) := HX3.out.cell 0
        have x1 : wc.cell? ⟨w.heap.size, 1, none⟩ = some (.int .i64 0) := HX3.out.cell 1
        have x2 : wc.cell? ⟨w.heap.size, 2, none⟩ = some (.bool false) := HX3.out.cell 2
        have x3 : wc.cell? ⟨w.heap.size, 3, none⟩ = some (.slice none 0 0) := HX3.out.cell 3
        have e0 := HX3.out.frozen 0
        have e1 := HX3.out.frozen 1
        have e2 := HX3.out.frozen 2
        have e3 := HX3.out.frozen 3
        have hgs : g ≠ s := by omega
        have hws : w.heap.size ≠ s := by omega
        have hwl := HX2.out.lt
        have hgw : g ≠ w.heap.size := by omega
        go_wp2_with fail
        rw [← HA.out]
        refine bodyPost_ret (v := .tuple #[.agg #[.bool false, .int .i64 (a : Int), .bool (decide (a = fs.length - 1)), .slice D fk.length d], .bool true]) (by simp [results, Try.results13, go_sem, x0, x1, x2, x3, hws]) rfl ?_
        unfold NextPost
        rw [← HFK.out]
        have hwF : ¬ F w.heap.size := fun h => absurd (HLT.out _ h) (Nat.lt_irrefl _)
        refine ⟨D, d, rfl, ?_, ?_, ?_⟩
        · exact (((((HD.out.far hs2 _).far hwl _).far hwl _).far hwl _).far hwl _).mono HC2.out.size
        · have hc2 : Chg (fun i => i = s) w wc := HC2.out.trans (Chg.of_below HB2.out (fun _ => False)) (fun _ _ e => e.elim)
          exact ((((hc2.setCell (fun _ => rfl) _ _).setCell (fun h => absurd h (Nat.lt_irrefl _)) _ _).setCell (fun h => absurd h (Nat.lt_irrefl _)) _ _).setCell (fun h => absurd h (Nat.lt_irrefl _)) _ _).setCell (fun h => absurd h (Nat.lt_irrefl _)) _ _
        · exact ((((HS3.out.setNext (a + 1)).far hwF _).far hwF _).far hwF _).far hwF _
end Go.Proofs.Ythhelhggggbaiaa
