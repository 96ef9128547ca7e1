/-
  Split: the walk.
-/
import Derived.Test.YthhelhggggbaiaaSplit
import Derived.Test.YthhelhggggbaiaaCopyLaw
namespace Go.Proofs.Ythhelhggggbaiaa
open Go.ChangeShapes Go.WideShapes Go.ChangeAt Go.RowKit
set_option linter.unusedVariables false
set_option linter.unusedSimpArgs false

theorem push_step {w wr v1 v2 : World} {v v' : Value} {fs : List (List UInt8)} {vals : List Value} {Ak : Option Addr} {ck k : Nat} {ys : List UInt8} (hG : GotsV (fun i => i < wr.heap.size) wr v fs vals) (hkl : fs.length = k) (hB : Below wr.heap.size wr v1) (hby : BysIn (fun b => b < v1.heap.size ∧ v.ownBlock ≠ some b) v1 Ak ys) (hyc : ys.length ≤ ck)
    (hVB : ∀ g, v.ownBlock = some g → w.heap.size ≤ g) (ho : v2.ownsRow 0 32 1 v' (k + 1) (vals ++ [.slice Ak ys.length ck])) (hg : v1.grownBy v2 v.ownBlock) (hat : v'.ownBlock = v.ownBlock ∨ v'.ownBlock = some v1.heap.size) (hbl : Below w.heap.size w wr) :
    Gots (fun i => i < v2.heap.size) v2 v' (fs ++ [ys]) ∧ (∀ g, v'.ownBlock = some g → w.heap.size ≤ g) ∧ Below w.heap.size w v2 := by
  subst hkl
  have ha : Agree (fun i => i < wr.heap.size) wr v1 := Agree.of_below hB fun i hi => hi
  have hs1 := hB.size
  have hs0 := hbl.size
  have hG1 : GotsV (fun i => i < v1.heap.size) v1 v fs vals := ⟨ownsRow_heap hG.1 fun g e => ha g (hG.2.2.1 g e), hG.2.1, fun g e => Nat.lt_of_lt_of_le (hG.2.2.1 g e) hs1, fun k hk => by
    obtain ⟨Ak, ck, g1, g2, g3⟩ := hG.2.2.2 k hk
    exact ⟨Ak, ck, g1, (g2.agree (ha.mono fun i hi => hi.1)).mono fun i hi => ⟨Nat.lt_of_lt_of_le hi.1 hs1, hi.2⟩, g3⟩⟩
  refine ⟨(hG1.push (n := v1.heap.size) (fun i hi => hi) hby hyc ho hg rfl hat).mono fun i hi => ?_, fun g e => ?_, ?_⟩
  · rcases hi with hi | hi
    · have := hg.size; omega
    · exact ownsRow_lt ho i hi
  · rcases hat with h | h
    · exact hVB g (h ▸ e)
    · rw [h] at e; injection e with e; omega
  · exact (hbl.trans (hB.mono hs0)).grown hg (by omega) (fun j hj => hVB j hj)
theorem split_none (A : Option Addr) (n c : Nat) (size : Int) (w : World) (h : ¬ (1 ≤ size ∧ size ≤ 4096)) : Calls Try.prog 29 #[.slice A n c, .int .i64 size] w fun e w' => e = .returned (.slice none 0 0) ∧ Below w.heap.size w w' := by
  rcases (show size < 1 ∨ (1 ≤ size ∧ 4096 < size) by omega) with h1 | ⟨h1, h2⟩
  · have t : decide (size < 1) = true := decide_eq_true h1
    go_enter Try.func29, Try.ntmps29
    go_wp2_with fail
    go_ret
    exact ⟨rfl, Below.refl _ _⟩
  · have t : decide (size < 1) = false := decide_eq_false (by omega)
    have t2 : decide ((4096 : Int) < size) = true := decide_eq_true h2
    go_enter Try.func29, Try.ntmps29
    go_wp2_with fail
    go_ret
    exact ⟨rfl, Below.refl _ _⟩
/-- as Cloned, with the room -/
def CloneC (w : World) (bs : List UInt8) (e : Ending) (w' : World) : Prop :=
  ∃ g c, w.heap.size ≤ g ∧ e = .returned (.slice (some ⟨g, 0, none⟩) bs.length c) ∧ Row w' g bs ∧ Below w.heap.size w w' ∧ bs.length ≤ c
set_option maxHeartbeats 400000 in
theorem clone_cap (b off c : Nat) (bs : List UInt8) (w : World) (hb : Bys w (some ⟨b, off, none⟩) bs) (hl : 0 < bs.length) (hm : bs.length ≤ 1000000) :
    Calls Try.prog 38 #[.slice (some ⟨b, off, none⟩) bs.length c] w (CloneC w bs) := by
  have qT : ∀ (w : World) (a : Option Addr) (n c n' c' : Nat), (binOp .eql 32 (.slice a n c) (.slice none n' c')).run Try.prog w = .ok (.bool a.isNone) w := fun w a n c n' c' => Lib.run_eql_slice_nil w _ _ a n c n' c' Try.underlying32
  obtain ⟨i0, hi, hz0, hz1, hz2⟩ := info_parts u8info
  have hlen : (bs.map u8v).length = bs.length * 1 := by simp
  have HN := hide ((news_of_bys hb).alloc (.cells #[] 5))
  have hown : Hid ((w.alloc (.cells #[] 5)).ownsRow w.heap.size 5 1 (.slice (some ⟨w.heap.size, 0, none⟩) 0 0) 0 []) :=
    ⟨rfl, .inr ⟨w.heap.size, 0, #[], rfl, Nat.le_refl _, heap_alloc_new w _, Nat.le_refl _, Nat.zero_le _, rfl, rfl⟩⟩
  clear hb
  go_enter Try.func38, Try.ntmps38
  go_wp2_with (at_builtin; refine wpList_append_own _ rfl (.tmp 5) (.tmp 6) 32 rfl w.heap.size 5 i0 (.int .u8 0) 1 1 Try.underlying32 hi hz0 hz1 hz2 rfl (by decide) _ 0 [] rfl hown.out ⟨b, off, none⟩ bs.length c (bs.map u8v) rfl hlen HN.out one_byte (by unfold maxLen; omega) (by omega) (by simp) ?_; intro v1 w1 hown1 hg1 hiff)
  have hx : w1.ownsRow w.heap.size 5 1 v1 bs.length (bs.map u8v) := by simpa using hown1
  obtain ⟨g, cap, hv, hg, hrow⟩ := own_row hx hl
  have hcap : bs.length ≤ cap := by
    rcases hx.2 with ⟨h3, _⟩ | ⟨g', cap', cur, hv', _, _, h1, _⟩
    · rw [hv] at h3; cases h3
    · rw [hv] at hv'
      injection hv' with e1 e2 e3
      omega
  go_ret
  refine ⟨g, cap, hg, by rw [← hv]; rfl, hrow, ?_, hcap⟩
  exact ((Below.refl _ _).alloc (Nat.le_refl _) (.cells #[] 5)).grown hg1 (by simp) (fun k hk => by have hk' : some w.heap.size = some k := hk; injection hk' with hk'; omega)

theorem last_facts {wr w1 : World} {fs : List (List UInt8)} {vals : List Value} {A' : Option Addr} {c' k d : Nat} {D : Option Addr} {rs : List UInt8} {o : Obj} (hG : GotsV (fun i => i < wr.heap.size) wr (.slice A' k c') fs vals) (hkl : fs.length = k)
    (how : ∀ g, (Value.slice A' k c').ownBlock = some g → g < wr.heap.size ∧ g < wr.heap.size) (hD : NewB (wr.alloc o).heap.size w1 D d rs) (hB : Below (wr.alloc o).heap.size (wr.alloc o) w1) :
    Hid ((w1.alloc (Obj.cells #[.slice D rs.length d] 32)).ownsRow 0 32 1 (.slice A' k c') k vals) ∧
    Hid (BysIn (fun b => b < (w1.alloc (Obj.cells #[.slice D rs.length d] 32)).heap.size ∧ (Value.slice A' k c').ownBlock ≠ some b) (w1.alloc (Obj.cells #[.slice D rs.length d] 32)) D rs) ∧
    Hid (Below wr.heap.size wr (w1.alloc (Obj.cells #[.slice D rs.length d] 32))) ∧ Hid (rs.length ≤ d) := by
  have h0 := hB.size
  simp at h0
  have hB1 : Below wr.heap.size wr w1 := below_box hB
  have hB2 : Below wr.heap.size wr (w1.alloc (Obj.cells #[.slice D rs.length d] 32)) := hB1.alloc hB1.size _
  have hD2 := hD.kept ((Below.refl _ _).alloc (Nat.le_refl _) (Obj.cells #[.slice D rs.length d] 32))
  subst hkl
  refine ⟨ownsRow_heap hG.1 fun i e => hB2.block i (how i e).2, hD2.bysIn.mono fun i hi => ⟨hi.2, fun e => ?_⟩, hB2, hD.1⟩
  have h1 := (how i e).2
  have h2 := hi.1
  simp at h2
  omega
def SplSt (w : World) (bs : List UInt8) (size : Nat) (b v : Value) (wr : World) : Prop :=
  ∃ (k p m : Nat) (Ab : Option Addr) (cb : Nat), p = k * size ∧ m + p = bs.length ∧ (0 < k → 0 < m) ∧ b = .slice Ab m cb ∧ m ≤ cb ∧ BysIn (fun i => i < w.heap.size) wr Ab (bs.drop p) ∧ Gots (fun i => i < wr.heap.size) wr v (splitK bs size k) ∧ (∀ g, v.ownBlock = some g → w.heap.size ≤ g) ∧ Below w.heap.size w wr ∧ k ≤ bs.length
def lenOfV : Value → Nat
  | .slice _ n _ => n
  | _ => 0
set_option maxHeartbeats 3200000 in
theorem split_any (A : Option Addr) (c : Nat) (bs : List UInt8) (size : Nat) (w : World) (hb : Bys w A bs) (hl : bs.length ≤ 1000) (hc : bs.length ≤ c) (h1 : 1 ≤ size) (h2 : size ≤ 4096) :
    Calls Try.prog 29 #[.slice A bs.length c, .int .i64 (size : Int)] w (SplitPost w bs size) := by
  obtain ⟨i0, hi, hz0, hz1, hz2⟩ := info_parts sliceinfo
  have HS0 : Hid (SplSt w bs size (.slice A bs.length c) (.slice none 0 0) w) := ⟨0, 0, bs.length, A, c, by simp, rfl, fun h => absurd h (by omega), rfl, hc, BysIn.of_bys hb, Gots.nil _ _, fun g e => (by cases e), Below.refl _ _, Nat.zero_le _⟩
  have t1 : decide ((size : Int) < 1) = false := decide_eq_false (by omega)
  have t2 : decide ((4096 : Int) < (size : Int)) = false := decide_eq_false (by omega)
  clear hb
  go_enter Try.func29, Try.ntmps29
  go_wp2_with fail
  go_loopw [0, 5] (fun b v wr => Hid (SplSt w bs size b v wr) ∧ ∃ Ab m cb, b = .slice Ab m cb ∧ m ≤ 1000) (fun b _ _ => lenOfV b)
  case atStart => exact ⟨HS0, A, bs.length, c, rfl, hl⟩
  case round =>
    clear HS0
    obtain ⟨HS, Ab, m, cb, rfl, _⟩ := hrel
    obtain ⟨k, p, m2, Ab2, cb2, hp, hm, hk0, he, hmc, hby, hgo, hvb, hbl, hkb⟩ := HS.out
    injection he with e1 e2 e3
    subst e1 e2 e3
    obtain ⟨rs, hrs⟩ : ∃ rs, rs = bs.drop p := ⟨_, rfl⟩
    have hrl : rs.length = m := by rw [hrs, List.length_drop]; omega
    have HP := hide hp
    have HRS := hide hrs
    have HBL := hide hbl
    have HVB := hide hvb
    obtain ⟨A', c', rfl, hc', hown, _⟩ := hgo.shape
    have HKL : Hid ((splitK bs size k).length = k) := splitK_length bs size k
    rw [HKL.out] at hc' HVB hgo hown ⊢
    obtain ⟨vals, hG⟩ := hgo
    have HG := hide hG
    rw [← hrs] at hby
    have HBY := hide hby
    have HOW := hide hown
    clear hp hrs hbl hvb hG hby hown HS
    by_cases hlt : size < m
    · have hlti : (size : Int) < (m : Int) := by omega
      have t3 : decide ((size : Int) < (m : Int)) = true := decide_eq_true hlti
      have q1 : (0 : Int) ≤ (size : Int) := by omega
      have q2 : size ≤ cb := by omega
      have q3 : (size : Int) ≤ (cb : Int) := by omega
      have q4 : ¬ cb = size := by omega
      have q5 : size ≤ m := by omega
      obtain ⟨bb, off, rfl, hbb, hcell⟩ := HBY.out (by omega)
      have HTL : Hid ((rs.take size).length = size) := by rw [Hid, List.length_take]; omega
      have HTK : Hid (Bys wr (some ⟨bb, off, none⟩) (rs.take size)) := (bysIn_take HBY.out size).bys fun i (hi : i < w.heap.size) => Nat.lt_of_lt_of_le hi HBL.out.size
      clear hcell
      have HCL := hide (clone_cap bb off cb (rs.take size) wr HTK.out (by rw [HTL.out]; omega) (by rw [HTL.out]; omega))
      rw [HTL.out] at HCL
      go_wp2_with fail
      refine HCL.out.mono ?_
      rintro e w1 ⟨g, c1, hg, rfl, hrow, hB1, hc1⟩
      rw [HTL.out]
      have HROW := hide hrow
      have HB1 := hide hB1
      clear hrow hB1
      obtain ⟨O, hO⟩ : ∃ O, O = Obj.cells #[.slice (some ⟨g, 0, none⟩) size c1] 32 := ⟨_, rfl⟩
      have hB2 : Below wr.heap.size wr (w1.alloc O) := HB1.out.alloc HB1.out.size _
      have HOV : Hid ((w1.alloc O).ownsRow 0 32 1 (.slice A' k c') k vals) := by
        have h := ownsRow_heap (w' := w1.alloc O) HG.out.1 fun i e => hB2.block i (HOW.out i e).2
        rw [HKL.out] at h
        exact h
      have HBR : Hid (BysIn (fun b => b < (w1.alloc O).heap.size ∧ (Value.slice A' k c').ownBlock ≠ some b) (w1.alloc O) (some ⟨g, 0, none⟩) (rs.take size)) :=
        BysIn.of_row (HROW.out.kept ((Below.refl _ _).alloc (Nat.le_refl _) O)) ⟨by have := HROW.out.lt; simp; omega, fun e => by have := (HOW.out g e).2; omega⟩
      have HB2 := hide hB2
      have hcc : (rs.take size).length ≤ c1 := hc1
      rw [hO] at HOV HBR HB2
      clear hB2 hO O
      have hk63 : k + 1 ≤ maxLen := by unfold maxLen; omega
      go_wp2_with (at_builtin; refine wpList_append_own_at _ rfl _ _ 22 rfl 0 32 i0 (.slice none 0 0) 1 24 Try.underlying22 hi hz0 hz1 hz2 rfl (by decide) (.slice A' k c') k vals rfl HOV.out ⟨w1.heap.size, 0, none⟩ 1 1 [.slice (some ⟨g, 0, none⟩) size c1] rfl rfl (cell_one_new _ _ _) (by intro u hu; simp at hu; subst hu; rfl) hk63 (by omega) (Nat.zero_le _) ?_; intro u w6 ho hgr hn hor)
      obtain ⟨hGo, hVB', hBL'⟩ := push_step (w := w) HG.out HKL.out HB2.out HBR.out hcc HVB.out (by rw [HTL.out]; exact ho) hgr hor HBL.out
      have hks : (k + 1) * size = k * size + size := Nat.succ_mul k size
      have hkp := HP.out
      have hk1 : k + 1 ≤ (k + 1) * size := Nat.le_mul_of_pos_right _ h1
      go_roundw
      case measure => simp only [lenOfV]; omega
      case rel =>
        refine ⟨⟨k + 1, p + size, m - size, _, _, by omega, by omega, fun _ => by omega, rfl, by omega, ?_, ?_, hVB', hBL', by omega⟩, _, _, _, rfl, by omega⟩
        · intro hq
          obtain ⟨b3, o3, e3, hF3, hc3⟩ := HBY.out (by omega)
          injection e3 with e3
          injection e3 with e4 e5
          subst e4 e5
          refine ⟨_, _, rfl, hF3, fun j hj => ?_⟩
          have hj2 : j < m - size := by rw [List.length_drop] at hj; omega
          rw [World.cell?_of_block ((hBL'.block _ hF3).trans (HBL.out.block _ hF3).symm), Nat.add_assoc, hc3 (size + j) (by omega), HRS.out]
          simp [List.getD_eq_getElem?_getD, List.getElem?_drop, Nat.add_assoc]
        · rw [splitK_succ, ← hkp, ← HRS.out]
          exact hGo
    · have t3 : decide ((size : Int) < (m : Int)) = false := decide_eq_false (by omega)
      have HRB : Hid (Bys wr Ab rs) := HBY.out.bys fun i (hi : i < w.heap.size) => Nat.lt_of_lt_of_le hi HBL.out.size
      obtain ⟨w0, hw0⟩ : ∃ w0, w0 = wr.alloc (.cells #[] 5) := ⟨_, rfl⟩
      subst hrl
      have HR0 := hide (HRB.out.below ((Below.refl _ _).alloc (Nat.le_refl _) (.cells #[] 5)))
      have HLF := hide (fun D d w1 => last_facts (D := D) (d := d) (w1 := w1) (rs := rs) (o := .cells #[] 5) HG.out HKL.out HOW.out)
      have hk63 : k + 1 ≤ maxLen := by unfold maxLen; omega
      clear hw0
      go_wp2_with (first | (at_builtin; refine wpList_append_copy rfl _ _ rfl (some ⟨wr.heap.size, 0, none⟩) Ab cb rs rfl rfl HR0.out (by omega) ?_; intro D d w1 hD hB1; obtain ⟨HOV, HBR, HB2, HD⟩ := HLF.out D d w1 hD hB1; clear hD hB1 HLF) | (at_builtin; refine wpList_append_own_at _ rfl _ _ 22 rfl 0 32 i0 (.slice none 0 0) 1 24 Try.underlying22 hi hz0 hz1 hz2 rfl (by decide) (.slice A' k c') k vals rfl HOV.out ⟨w1.heap.size, 0, none⟩ 1 1 [.slice D rs.length d] rfl rfl (cell_one_new _ _ _) (by intro u hu; simp at hu; subst hu; rfl) hk63 (by omega) (Nat.zero_le _) ?_; intro u w6 ho hgr hn hor; have Ho := hide ho; have Hgr := hide hgr; have Hn := hide hn; have Hor := hide hor; clear ho hgr hn hor))
      obtain ⟨hGo, hVB', hBL'⟩ := push_step (w := w) HG.out HKL.out HB2.out HBR.out HD.out HVB.out Ho.out Hgr.out Hor.out HBL.out
      have hks : (k + 1) * size = k * size + size := Nat.succ_mul k size
      have hkp := HP.out
      rw [HRS.out, hkp] at hGo
      change Gots _ _ _ (splitL bs size k) at hGo
      obtain ⟨A2, c2, rfl, hc2, _, hfr⟩ := hGo.shape
      go_ret
      exact ⟨A2, c2, k, rfl, ⟨fun h => by have := hk0 h; omega, by omega⟩, hfr, hc2, hBL'⟩
end Go.Proofs.Ythhelhggggbaiaa
