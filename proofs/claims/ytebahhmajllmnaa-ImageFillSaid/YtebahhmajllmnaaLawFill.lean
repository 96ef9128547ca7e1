/-
  Fill and Count agree with the reference, for every rectangle, and the image itself is not changed: the law ImageFill returns true for every input.
-/
import Derived.Test.YtebahhmajllmnaaRefCount
import Derived.Deep.RegionHeld3
namespace Go.Proofs.Ytebahhmajllmnaa.lawFill
open Go.ChangeShapes Go.WideShapes Go.ChangeAt Go.RowKit Go.Joins Go.Proofs.Ytebahhmajllmnaa
set_option linter.unusedVariables false
set_option linter.unusedSimpArgs false

theorem cells34 : Try.prog.cellsOf 34 = 4 := by kernel_rfl
theorem open_rect {H : Type} {enc : TypeId × Value → H} {r : Reach} {b0 : Nat} {W : World} {v : Value} {d : DataW H} {p : List MemPlace} (hv : Value.okWide Try.prog W r b0 34 v) (h : DataW.Trod enc Try.prog W 0 (fun _ => true) true 34 v d p) :
    ∃ x y ww hh, v = .agg #[.int .i64 x, .int .i64 y, .int .i64 ww, .int .i64 hh] ∧ (-9223372036854775808 ≤ x ∧ x ≤ 9223372036854775807 ∧ -9223372036854775808 ≤ ww ∧ ww ≤ 9223372036854775807) ∧ (-9223372036854775808 ≤ y ∧ y ≤ 9223372036854775807 ∧ -9223372036854775808 ≤ hh ∧ hh ≤ 9223372036854775807) := by
  obtain ⟨c0, c1, c2, c3, y0, y1, y2, y3, n, rfl, _, _, hy0, hy1, hy2, hy3⟩ := open_agg4 Try.underlying34 (by kernel_rfl) cells34 hv h
  obtain ⟨a0, e0, _, w0⟩ := DataW.trod_int Try.underlying3 hy0
  obtain ⟨a1, e1, _, w1⟩ := DataW.trod_int Try.underlying3 hy1
  obtain ⟨a2, e2, _, w2⟩ := DataW.trod_int Try.underlying3 hy2
  obtain ⟨a3, e3, _, w3⟩ := DataW.trod_int Try.underlying3 hy3
  cases e0
  cases e1
  cases e2
  cases e3
  have := i64_bd w0
  have := i64_bd w1
  have := i64_bd w2
  have := i64_bd w3
  exact ⟨a0, a1, a2, a3, rfl, by omega, by omega⟩

theorem walk_no (W H : Int) (A : Option Addr) (c : Nat) (bs : List UInt8) (x y ww hh : Int) (on : Bool) (w : World) (hb : Bys w A bs) (hm : bs.length ≤ maxLen) (hs : smallB W H bs = false) :
    Calls Try.prog 6 #[.agg #[.int .i64 W, .int .i64 H, .slice A bs.length c], .agg #[.int .i64 x, .int .i64 y, .int .i64 ww, .int .i64 hh], .bool on] w fun e w' => e = .returned (.bool true) ∧ Below w.heap.size w w' := by
  have HS := hide hs
  have HB := hide hb
  clear hs hb
  go_enter Try.func6, Try.ntmps6
  go_wp2_with fail
  refine (small_any _ _ _ _ bs _ ((HB.out.alloc _).alloc _) hm).mono ?_
  rw [HS.out]
  rintro e w1 ⟨rfl, hb1⟩
  have B1 := hide (below_box (below_box hb1))
  clear hb1
  go_wp2_with fail
  refine (awake_any _).mono ?_
  rintro e w2 ⟨rfl, hb2⟩
  have B2 := hide hb2
  clear hb2
  go_wp2_with fail
  go_ret
  exact ⟨rfl, below_then B1.out B2.out⟩

/-- the image, the rectangle, and that nothing old has turned -/
def St (w : World) (W H : Nat) (A : Option Addr) (c : Nat) (bs : List UInt8) (x y ww hh : Int) (v : World) : Prop :=
  ImgSt w w.heap.size W H A c bs v ∧ Box v (w.heap.size + 1) 34 #[.int .i64 x, .int .i64 y, .int .i64 ww, .int .i64 hh]
section
variable {w v v' : World} {W H : Nat} {A : Option Addr} {c : Nat} {bs : List UInt8} {x y ww hh : Int}
theorem St.next (h : St w W H A c bs x y ww hh v) (hb : Below v.heap.size v v') : St w W H A c bs x y ww hh v' := ⟨h.1.next hb, h.2.kept hb⟩
theorem St.cells (h : St w W H A c bs x y ww hh v) : v.cell? ⟨w.heap.size, 0, none⟩ = some (.int .i64 (W : Int)) ∧ v.cell? ⟨w.heap.size, 1, none⟩ = some (.int .i64 (H : Int)) ∧ v.cell? ⟨w.heap.size, 2, none⟩ = some (.slice A bs.length c) ∧
    v.cell? ⟨w.heap.size + 1, 0, none⟩ = some (.int .i64 x) ∧ v.cell? ⟨w.heap.size + 1, 1, none⟩ = some (.int .i64 y) ∧ v.cell? ⟨w.heap.size + 1, 2, none⟩ = some (.int .i64 ww) ∧ v.cell? ⟨w.heap.size + 1, 3, none⟩ = some (.int .i64 hh) :=
  ⟨h.1.1.cell 0, h.1.1.cell 1, h.1.1.cell 2, h.2.cell 0, h.2.cell 1, h.2.cell 2, h.2.cell 3⟩
end

def Fs (w : World) (W H : Nat) (A : Option Addr) (c : Nat) (bs bj : List UInt8) (x y ww hh : Int) (wg O8 jg jc : Nat) (v : World) : Prop :=
  St w W H A c bs x y ww hh v ∧ Row v wg bs ∧ Row v jg bj ∧ Box v O8 24 #[.int .i64 (W : Int), .int .i64 (H : Int), .slice (some ⟨jg, 0, none⟩) bj.length jc]
section
variable {w v v' : World} {W H : Nat} {A : Option Addr} {c : Nat} {bs bj : List UInt8} {x y ww hh : Int} {wg O8 jg jc : Nat}
theorem Fs.next (h : Fs w W H A c bs bj x y ww hh wg O8 jg jc v) (hb : Below v.heap.size v v') : Fs w W H A c bs bj x y ww hh wg O8 jg jc v' :=
  ⟨h.1.next hb, h.2.1.kept hb, h.2.2.1.kept hb, h.2.2.2.kept hb⟩
theorem Fs.cells (h : Fs w W H A c bs bj x y ww hh wg O8 jg jc v) : v.cell? ⟨w.heap.size, 0, none⟩ = some (.int .i64 (W : Int)) ∧ v.cell? ⟨w.heap.size, 1, none⟩ = some (.int .i64 (H : Int)) ∧ v.cell? ⟨w.heap.size, 2, none⟩ = some (.slice A bs.length c) ∧
    v.cell? ⟨w.heap.size + 1, 0, none⟩ = some (.int .i64 x) ∧ v.cell? ⟨w.heap.size + 1, 1, none⟩ = some (.int .i64 y) ∧ v.cell? ⟨w.heap.size + 1, 2, none⟩ = some (.int .i64 ww) ∧ v.cell? ⟨w.heap.size + 1, 3, none⟩ = some (.int .i64 hh) ∧
    v.cell? ⟨O8, 0, none⟩ = some (.int .i64 (W : Int)) ∧ v.cell? ⟨O8, 1, none⟩ = some (.int .i64 (H : Int)) ∧ v.cell? ⟨O8, 2, none⟩ = some (.slice (some ⟨jg, 0, none⟩) bj.length jc) :=
  ⟨h.1.1.1.cell 0, h.1.1.1.cell 1, h.1.1.1.cell 2, h.1.2.cell 0, h.1.2.cell 1, h.1.2.cell 2, h.1.2.cell 3, h.2.2.2.cell 0, h.2.2.2.cell 1, h.2.2.2.cell 2⟩
end

set_option maxHeartbeats 6400000 in
theorem walk_yes (W H : Nat) (A : Option Addr) (c : Nat) (f : Nat → Bool) (x y ww hh : Int) (on : Bool) (w : World) (hb : Bys w A (pack (W * H) f)) (hW1 : 1 ≤ W) (hW : W ≤ 24) (hH1 : 1 ≤ H) (hH : H ≤ 24)
    (hx : -9223372036854775808 ≤ x ∧ x ≤ 9223372036854775807 ∧ -9223372036854775808 ≤ ww ∧ ww ≤ 9223372036854775807)
    (hy : -9223372036854775808 ≤ y ∧ y ≤ 9223372036854775807 ∧ -9223372036854775808 ≤ hh ∧ hh ≤ 9223372036854775807) :
    Calls Try.prog 6 #[.agg #[.int .i64 (W : Int), .int .i64 (H : Int), .slice A (pack (W * H) f).length c], .agg #[.int .i64 x, .int .i64 y, .int .i64 ww, .int .i64 hh], .bool on] w fun e w' => e = .returned (.bool true) ∧ Below w.heap.size w w' := by
  have hm := len_pack_max f (show W ≤ 512 by omega) (show H ≤ 512 by omega)
  have hlb := len_pack_bd f (show W ≤ 512 by omega) (show H ≤ 512 by omega)
  have hl0 : 0 < (pack (W * H) f).length := by rw [length_pack]; have : 1 ≤ W * H := Nat.mul_pos hW1 hH1; omega
  have HS : Hid (smallB W H (pack (W * H) f) = true) := by
    unfold Hid smallB
    rw [validB_pack f hW1 (by omega) hH1 (by omega), decide_eq_true (by omega), decide_eq_true (by omega)]
    rfl
  have HA := hide (fun w => awake_any w)
  have HF : Hid (∀ v, Bys v A (pack (W * H) f) → Calls Try.prog 21 #[.agg #[.int .i64 (W : Int), .int .i64 (H : Int), .slice A (pack (W * H) f).length c], .int .i64 x, .int .i64 y, .int .i64 ww, .int .i64 hh, .bool on] v (Fresh v W H (pack (W * H) fun j => if inR W x y ww hh j then on else f j))) :=
    fun v hb => fill_any W H A c f x y ww hh on v hb hW1 (by omega) hH1 (by omega) hx.1 hx.2.1 hx.2.2.1 hx.2.2.2 hy.1 hy.2.1 hy.2.2.1 hy.2.2.2
  have HRF : Hid (∀ v, Bys v A (pack (W * H) f) → Calls Try.prog 24 #[.agg #[.int .i64 (W : Int), .int .i64 (H : Int), .slice A (pack (W * H) f).length c], .int .i64 x, .int .i64 y, .int .i64 ww, .int .i64 hh, .bool on] v (Fresh v W H (pack (W * H) fun j => if inR W x y ww hh j then on else f j))) :=
    fun v hb => reffill_any W H A c f x y ww hh on v hb hW1 (by omega) hH1 (by omega) hx hy
  obtain ⟨n, hn⟩ : ∃ n, n = cnt (W * H) fun j => inR W x y ww hh j && f j := ⟨_, rfl⟩
  have HC : Hid (∀ v, Bys v A (pack (W * H) f) → Calls Try.prog 22 #[.agg #[.int .i64 (W : Int), .int .i64 (H : Int), .slice A (pack (W * H) f).length c], .int .i64 x, .int .i64 y, .int .i64 ww, .int .i64 hh] v fun e v' => e = .returned (.int .i64 (n : Int)) ∧ Below v.heap.size v v') :=
    fun v hb => by rw [hn]; exact count_any W H A c f x y ww hh v hb hW1 (by omega) hH1 (by omega) hx.1 hx.2.1 hx.2.2.1 hx.2.2.2 hy.1 hy.2.1 hy.2.2.1 hy.2.2.2
  have HRC : Hid (∀ v, Bys v A (pack (W * H) f) → Calls Try.prog 25 #[.agg #[.int .i64 (W : Int), .int .i64 (H : Int), .slice A (pack (W * H) f).length c], .int .i64 x, .int .i64 y, .int .i64 ww, .int .i64 hh] v fun e v' => e = .returned (.int .i64 (n : Int)) ∧ Below v.heap.size v v') :=
    fun v hb => by rw [hn]; exact refcount_any W H A c f x y ww hh v hb hW1 (by omega) hH1 (by omega) hx hy
  obtain ⟨bj, hbj⟩ : ∃ bj, bj = pack (W * H) fun j => if inR W x y ww hh j then on else f j := ⟨_, rfl⟩
  have HJ0 : Hid (on = false → ∀ B d v, Bys v B bj → Calls Try.prog 22 #[.agg #[.int .i64 (W : Int), .int .i64 (H : Int), .slice B bj.length d], .int .i64 x, .int .i64 y, .int .i64 ww, .int .i64 hh] v fun e v' => e = .returned (.int .i64 0) ∧ Below v.heap.size v v') := by
    intro hon B d v hb
    rw [hbj] at hb ⊢
    have h := count_any W H B d _ x y ww hh v hb hW1 (by omega) hH1 (by omega) hx.1 hx.2.1 hx.2.2.1 hx.2.2.2 hy.1 hy.2.1 hy.2.2.1 hy.2.2.2
    have e0 : (cnt (W * H) fun j => inR W x y ww hh j && (if inR W x y ww hh j then on else f j)) = 0 := by
      rw [cnt_congr (q := fun _ => false) fun j hj => by cases hi : inR W x y ww hh j <;> simp [hon]]
      unfold cnt
      simp
    rw [e0] at h
    exact h
  have hlj : bj.length ≤ maxLen := by rw [hbj]; exact len_pack_max _ (by omega) (by omega)
  rw [← hbj] at HF HRF
  clear hn hbj hx hy
  have S0 : Hid (St w W H A c (pack (W * H) f) x y ww hh ((w.alloc (.cells #[.int .i64 (W : Int), .int .i64 (H : Int), .slice A (pack (W * H) f).length c] 24)).alloc (.cells #[.int .i64 x, .int .i64 y, .int .i64 ww, .int .i64 hh] 34))) := by
    refine ⟨(ImgSt.start hb).alloc _, ?_⟩
    have h := Box.new (w.alloc (.cells #[.int .i64 (W : Int), .int .i64 (H : Int), .slice A (pack (W * H) f).length c] 24)) 34 #[.int .i64 x, .int .i64 y, .int .i64 ww, .int .i64 hh]
    rw [World.size_alloc] at h
    exact h
  have HAd := hide (addr_of_pack hb (Nat.mul_pos hW1 hH1))
  obtain ⟨b, off, _, rfl, _, _, _, _⟩ := hb.at_ (k := 0) hl0
  clear hb
  generalize pack (W * H) f = bs at *
  obtain ⟨i0, hi, hz0, hz1, hz2⟩ := info_parts u8info
  have hlen : (bs.map u8v).length = bs.length * 1 := by simp
  go_enter Try.func6, Try.ntmps6
  go_wp2_with fail
  refine (small_any _ _ _ _ bs _ S0.out.1.2.1 hm).mono ?_
  rw [HS.out]
  rintro e w1 ⟨rfl, hb1⟩
  have S1 := hide (S0.out.next hb1)
  obtain ⟨q0, q1, q2, q3, q4, q5, q6⟩ := S1.out.cells
  have HN := hide (news_of_bys S1.out.1.2.1)
  clear hb1 S0
  go_wp2_with (at_builtin; refine wpList_append_own _ rfl (.const (.slice none 0 0)) (.tmp 15) 22 rfl w.heap.size 5 i0 (.int .u8 0) 1 1 Try.underlying22 hi hz0 hz1 hz2 rfl (by decide) (.slice none 0 0) 0 [] rfl (World.ownsRow_nil _ _ _ _) ⟨b, off, none⟩ bs.length c (bs.map u8v) rfl hlen HN.out one_byte (by unfold maxLen; omega) (by omega) S1.out.1.2.2.size ?_; intro v1 w2 hown1 hg1 hiff; have hx1 : w2.ownsRow w.heap.size 5 1 v1 bs.length (bs.map u8v) := (by simpa using hown1); obtain ⟨wg, wc, hv1, hwg, hwrow⟩ := own_row hx1 hl0; rw [hv1]; have hbw : Below w1.heap.size w1 w2 := (Below.refl _ _).grown hg1 (Nat.le_refl _) (fun k hk => by cases hk); have S2 := hide (S1.out.next hbw); have RW := hide hwrow; clear hown1 hg1 hiff hx1 hwrow hbw S1 HN q0 q1 q2 q3 q4 q5 q6 hv1; obtain ⟨q0, q1, q2, q3, q4, q5, q6⟩ := S2.out.cells)
  go_wp2_with fail
  refine (HF.out _ S2.out.1.2.1).mono ?_
  rintro e w3 ⟨jg, jc, hjg, rfl, hjrow, hb3⟩
  have FS : Hid (Fs w W H (some ⟨b, off, none⟩) c bs bj x y ww hh wg w3.heap.size jg jc (w3.alloc (.cells #[.int .i64 (W : Int), .int .i64 (H : Int), .slice (some ⟨jg, 0, none⟩) bj.length jc] 24))) :=
    ⟨(S2.out.next hb3).next ((Below.refl _ _).alloc (Nat.le_refl _) _), (RW.out.kept hb3).alloc _, hjrow.alloc _, Box.new _ _ _⟩
  clear q0 q1 q2 q3 q4 q5 q6
  obtain ⟨p0, p1, p2, p3, p4, p5, p6⟩ := (S2.out.next hb3).cells
  have n1 : w.heap.size < w3.heap.size := (S2.out.next hb3).1.1.lt
  have n2 : w.heap.size + 1 < w3.heap.size := (S2.out.next hb3).2.lt
  clear hjrow hb3 S2 RW
  go_wp2_with fail
  refine (HC.out _ FS.out.1.1.2.1).mono ?_
  rintro e w4 ⟨rfl, hb4⟩
  have S := hide (FS.out.next hb4)
  clear p0 p1 p2 p3 p4 p5 p6 hb4 FS HF HC
  obtain ⟨q0, q1, q2, q3, q4, q5, q6, q7, q8, q9⟩ := S.out.cells
  have S' := hide (S.out.next ((Below.refl _ _).drew)); clear S; have S := hide S'.out; clear S'
  cases on
  · go_wp2_with fail
    refine wp_region_held_drew (S := fun v => Fs w W H (some ⟨b, off, none⟩) c bs bj x y ww hh wg w3.heap.size jg jc v) (by kernel_rfl) (S.out) (fun hH => ?_)
    refine wpAnyH_ready (rs := [0]) (by kernel_rfl) (by simp) ?_
    refine AllReadyH.cons (by simp only [List.getElem?_toArray, List.getElem?_cons_succ, List.getElem?_cons_zero]; exact rfl) (fun K hK => ?_) AllReadyH.nil
    go_simp
    refine (HA.out _).mono ?_
    rintro e w5 ⟨rfl, hb1⟩
    have hN := hH.next hb1
    clear hb1
    refine hK.out _ _ hN (fun hH' => ?_)
    clear hK hH hN K
    have hH := hH'
    clear hH'
    try simp only [Act.put, List.setIfInBounds_toArray, List.set_cons_zero, List.set_cons_succ]
    refine wpAnyH_take (i := 1) (v := ?fv1) (by simp only [List.getElem?_toArray, List.getElem?_cons_succ, List.getElem?_cons_zero]; exact rfl) (by kernel_rfl) (by kernel_rfl) (by kernel_rfl) ?fq1 ?fy1 hH ?fr1
    case fq1 => exact fun _ _ _ h => h
    case fy1 =>
      refine Or.inl ⟨by rfl, fun v hv => ?_⟩
      go_simp
      rfl
    try simp only [Act.put, List.setIfInBounds_toArray, List.set_cons_zero, List.set_cons_succ]
    refine wpAnyH_take (i := 2) (v := ?fv2) (by simp only [List.getElem?_toArray, List.getElem?_cons_succ, List.getElem?_cons_zero]; exact rfl) (by kernel_rfl) (by kernel_rfl) (by kernel_rfl) ?fq2 ?fy2 hH ?fr2
    case fq2 => exact fun _ _ _ h => h
    case fy2 =>
      refine Or.inl ⟨by rfl, fun v hv => ?_⟩
      go_simp
      rfl
    try simp only [Act.put, List.setIfInBounds_toArray, List.set_cons_zero, List.set_cons_succ]
    refine wpAnyH_take (i := 3) (v := ?fv3) (by simp only [List.getElem?_toArray, List.getElem?_cons_succ, List.getElem?_cons_zero]; exact rfl) (by kernel_rfl) (by kernel_rfl) (by kernel_rfl) ?fq3 ?fy3 hH ?fr3
    case fq3 => exact fun _ _ _ h => h
    case fy3 =>
      refine Or.inl ⟨by rfl, fun v hv => ?_⟩
      go_simp
      rfl
    try simp only [Act.put, List.setIfInBounds_toArray, List.set_cons_zero, List.set_cons_succ]
    refine wpAnyH_take (i := 4) (v := ?fv4) (by simp only [List.getElem?_toArray, List.getElem?_cons_succ, List.getElem?_cons_zero]; exact rfl) (by kernel_rfl) (by kernel_rfl) (by kernel_rfl) ?fq4 ?fy4 hH ?fr4
    case fq4 => exact fun _ _ _ h => h
    case fy4 =>
      refine Or.inl ⟨by rfl, fun v hv => ?_⟩
      obtain ⟨q0, q1, q2, q3, q4, q5, q6, q7, q8, q9⟩ := Fs.cells hv
      go_simp
      rfl
    try simp only [Act.put, List.setIfInBounds_toArray, List.set_cons_zero, List.set_cons_succ]
    refine wpAnyH_ready (rs := [5]) (by kernel_rfl) (by simp) ?_
    refine AllReadyH.cons (by simp only [List.getElem?_toArray, List.getElem?_cons_succ, List.getElem?_cons_zero]; exact rfl) (fun K hK => ?_) AllReadyH.nil
    go_simp
    refine (eq04_any _ _ _ _ bs bs _ hH.2.1.bys hH.1.1.2.1 hm hm).mono ?_
    rw [beq_self_eq_true]
    rintro e w5 ⟨rfl, hb1⟩
    have hN := hH.next hb1
    clear hb1
    refine hK.out _ _ hN (fun hH' => ?_)
    clear hK hH hN K
    have hH := hH'
    clear hH'
    try simp only [Act.put, List.setIfInBounds_toArray, List.set_cons_zero, List.set_cons_succ]
    refine wpAnyH_take (i := 6) (v := ?fv6) (by simp only [List.getElem?_toArray, List.getElem?_cons_succ, List.getElem?_cons_zero]; exact rfl) (by kernel_rfl) (by kernel_rfl) (by kernel_rfl) ?fq6 ?fy6 hH ?fr6
    case fq6 => exact fun _ _ _ h => h
    case fy6 =>
      refine Or.inl ⟨by rfl, fun v hv => ?_⟩
      go_simp
      rfl
    try simp only [Act.put, List.setIfInBounds_toArray, List.set_cons_zero, List.set_cons_succ]
    refine wpAnyH_take (i := 7) (v := ?fv7) (by simp only [List.getElem?_toArray, List.getElem?_cons_succ, List.getElem?_cons_zero]; exact rfl) (by kernel_rfl) (by kernel_rfl) (by kernel_rfl) ?fq7 ?fy7 hH ?fr7
    case fq7 => exact fun _ _ _ h => h
    case fy7 =>
      refine Or.inl ⟨by rfl, fun v hv => ?_⟩
      go_simp
      rfl
    try simp only [Act.put, List.setIfInBounds_toArray, List.set_cons_zero, List.set_cons_succ]
    refine wpAnyH_take (i := 8) (v := ?fv8) (by simp only [List.getElem?_toArray, List.getElem?_cons_succ, List.getElem?_cons_zero]; exact rfl) (by kernel_rfl) (by kernel_rfl) (by kernel_rfl) ?fq8 ?fy8 hH ?fr8
    case fq8 => exact fun _ _ _ h => h
    case fy8 =>
      refine Or.inl ⟨by rfl, fun v hv => ?_⟩
      obtain ⟨q0, q1, q2, q3, q4, q5, q6, q7, q8, q9⟩ := Fs.cells hv
      go_simp
      rfl
    try simp only [Act.put, List.setIfInBounds_toArray, List.set_cons_zero, List.set_cons_succ]
    refine wpAnyH_take (i := 9) (v := ?fv9) (by simp only [List.getElem?_toArray, List.getElem?_cons_succ, List.getElem?_cons_zero]; exact rfl) (by kernel_rfl) (by kernel_rfl) (by kernel_rfl) ?fq9 ?fy9 hH ?fr9
    case fq9 => exact fun _ _ _ h => h
    case fy9 =>
      refine Or.inl ⟨by rfl, fun v hv => ?_⟩
      obtain ⟨q0, q1, q2, q3, q4, q5, q6, q7, q8, q9⟩ := Fs.cells hv
      go_simp
      rfl
    try simp only [Act.put, List.setIfInBounds_toArray, List.set_cons_zero, List.set_cons_succ]
    refine wpAnyH_take (i := 10) (v := ?fv10) (by simp only [List.getElem?_toArray, List.getElem?_cons_succ, List.getElem?_cons_zero]; exact rfl) (by kernel_rfl) (by kernel_rfl) (by kernel_rfl) ?fq10 ?fy10 hH ?fr10
    case fq10 => exact fun _ _ _ h => h
    case fy10 =>
      refine Or.inl ⟨by rfl, fun v hv => ?_⟩
      go_simp
      rfl
    try simp only [Act.put, List.setIfInBounds_toArray, List.set_cons_zero, List.set_cons_succ]
    refine wpAnyH_take (i := 11) (v := ?fv11) (by simp only [List.getElem?_toArray, List.getElem?_cons_succ, List.getElem?_cons_zero]; exact rfl) (by kernel_rfl) (by kernel_rfl) (by kernel_rfl) ?fq11 ?fy11 hH ?fr11
    case fq11 => exact fun _ _ _ h => h
    case fy11 =>
      refine Or.inl ⟨by rfl, fun v hv => ?_⟩
      obtain ⟨q0, q1, q2, q3, q4, q5, q6, q7, q8, q9⟩ := Fs.cells hv
      go_simp
      rfl
    try simp only [Act.put, List.setIfInBounds_toArray, List.set_cons_zero, List.set_cons_succ]
    refine wpAnyH_take (i := 12) (v := ?fv12) (by simp only [List.getElem?_toArray, List.getElem?_cons_succ, List.getElem?_cons_zero]; exact rfl) (by kernel_rfl) (by kernel_rfl) (by kernel_rfl) ?fq12 ?fy12 hH ?fr12
    case fq12 => exact fun _ _ _ h => h
    case fy12 =>
      refine Or.inl ⟨by rfl, fun v hv => ?_⟩
      go_simp
      rfl
    try simp only [Act.put, List.setIfInBounds_toArray, List.set_cons_zero, List.set_cons_succ]
    refine wpAnyH_take (i := 13) (v := ?fv13) (by simp only [List.getElem?_toArray, List.getElem?_cons_succ, List.getElem?_cons_zero]; exact rfl) (by kernel_rfl) (by kernel_rfl) (by kernel_rfl) ?fq13 ?fy13 hH ?fr13
    case fq13 => exact fun _ _ _ h => h
    case fy13 =>
      refine Or.inl ⟨by rfl, fun v hv => ?_⟩
      obtain ⟨q0, q1, q2, q3, q4, q5, q6, q7, q8, q9⟩ := Fs.cells hv
      go_simp
      rfl
    try simp only [Act.put, List.setIfInBounds_toArray, List.set_cons_zero, List.set_cons_succ]
    refine wpAnyH_take (i := 14) (v := ?fv14) (by simp only [List.getElem?_toArray, List.getElem?_cons_succ, List.getElem?_cons_zero]; exact rfl) (by kernel_rfl) (by kernel_rfl) (by kernel_rfl) ?fq14 ?fy14 hH ?fr14
    case fq14 => exact fun _ _ _ h => h
    case fy14 =>
      refine Or.inl ⟨by rfl, fun v hv => ?_⟩
      go_simp
      rfl
    try simp only [Act.put, List.setIfInBounds_toArray, List.set_cons_zero, List.set_cons_succ]
    refine wpAnyH_take (i := 15) (v := ?fv15) (by simp only [List.getElem?_toArray, List.getElem?_cons_succ, List.getElem?_cons_zero]; exact rfl) (by kernel_rfl) (by kernel_rfl) (by kernel_rfl) ?fq15 ?fy15 hH ?fr15
    case fq15 => exact fun _ _ _ h => h
    case fy15 =>
      refine Or.inl ⟨by rfl, fun v hv => ?_⟩
      obtain ⟨q0, q1, q2, q3, q4, q5, q6, q7, q8, q9⟩ := Fs.cells hv
      go_simp
      rfl
    try simp only [Act.put, List.setIfInBounds_toArray, List.set_cons_zero, List.set_cons_succ]
    refine wpAnyH_take (i := 16) (v := ?fv16) (by simp only [List.getElem?_toArray, List.getElem?_cons_succ, List.getElem?_cons_zero]; exact rfl) (by kernel_rfl) (by kernel_rfl) (by kernel_rfl) ?fq16 ?fy16 hH ?fr16
    case fq16 => exact fun _ _ _ h => h
    case fy16 =>
      refine Or.inl ⟨by rfl, fun v hv => ?_⟩
      go_simp
      rfl
    try simp only [Act.put, List.setIfInBounds_toArray, List.set_cons_zero, List.set_cons_succ]
    refine wpAnyH_take (i := 17) (v := ?fv17) (by simp only [List.getElem?_toArray, List.getElem?_cons_succ, List.getElem?_cons_zero]; exact rfl) (by kernel_rfl) (by kernel_rfl) (by kernel_rfl) ?fq17 ?fy17 hH ?fr17
    case fq17 => exact fun _ _ _ h => h
    case fy17 =>
      refine Or.inl ⟨by rfl, fun v hv => ?_⟩
      obtain ⟨q0, q1, q2, q3, q4, q5, q6, q7, q8, q9⟩ := Fs.cells hv
      go_simp
      rfl
    try simp only [Act.put, List.setIfInBounds_toArray, List.set_cons_zero, List.set_cons_succ]
    refine wpAnyH_take (i := 18) (v := ?fv18) (by simp only [List.getElem?_toArray, List.getElem?_cons_succ, List.getElem?_cons_zero]; exact rfl) (by kernel_rfl) (by kernel_rfl) (by kernel_rfl) ?fq18 ?fy18 hH ?fr18
    case fq18 => exact fun _ _ _ h => h
    case fy18 =>
      refine Or.inl ⟨by rfl, fun v hv => ?_⟩
      go_simp
      rfl
    try simp only [Act.put, List.setIfInBounds_toArray, List.set_cons_zero, List.set_cons_succ]
    refine wpAnyH_ready (rs := [19]) (by kernel_rfl) (by simp) ?_
    refine AllReadyH.cons (by simp only [List.getElem?_toArray, List.getElem?_cons_succ, List.getElem?_cons_zero]; exact rfl) (fun K hK => ?_) AllReadyH.nil
    go_simp
    refine (HRF.out _ hH.1.1.2.1).mono ?_
    rintro e w5 ⟨g3, gc3, hg3, rfl, hr3, hb1⟩
    have R3 := hide hr3
    clear hr3
    have hN := hH.next hb1
    clear hb1
    refine hK.out _ _ hN (fun hH' => ?_)
    clear hK hH hN K
    have hH := hH'
    clear hH'
    try simp only [Act.put, List.setIfInBounds_toArray, List.set_cons_zero, List.set_cons_succ]
    refine wpAnyH_ready (rs := [20]) (by kernel_rfl) (by simp) ?_
    refine AllReadyH.cons (by simp only [List.getElem?_toArray, List.getElem?_cons_succ, List.getElem?_cons_zero]; exact rfl) (fun K hK => ?_) AllReadyH.nil
    go_simp
    refine (refeq_any W H W H _ _ _ _ bj bj _ hH.2.2.1.bys R3.out.bys hlj hlj).mono ?_
    rw [eqB_self]
    rintro e w5 ⟨rfl, hb1⟩
    have hN := hH.next hb1
    clear hb1
    refine hK.out _ _ hN (fun hH' => ?_)
    clear hK hH hN K
    have hH := hH'
    clear hH'
    try simp only [Act.put, List.setIfInBounds_toArray, List.set_cons_zero, List.set_cons_succ]
    refine wpAnyH_take (i := 21) (v := ?fv21) (by simp only [List.getElem?_toArray, List.getElem?_cons_succ, List.getElem?_cons_zero]; exact rfl) (by kernel_rfl) (by kernel_rfl) (by kernel_rfl) ?fq21 ?fy21 hH ?fr21
    case fq21 => exact fun _ _ _ h => h
    case fy21 =>
      refine Or.inl ⟨by rfl, fun v hv => ?_⟩
      go_simp
      rfl
    try simp only [Act.put, List.setIfInBounds_toArray, List.set_cons_zero, List.set_cons_succ]
    refine wpAnyH_take (i := 22) (v := ?fv22) (by simp only [List.getElem?_toArray, List.getElem?_cons_succ, List.getElem?_cons_zero]; exact rfl) (by kernel_rfl) (by kernel_rfl) (by kernel_rfl) ?fq22 ?fy22 hH ?fr22
    case fq22 => exact fun _ _ _ h => h
    case fy22 =>
      refine Or.inl ⟨by rfl, fun v hv => ?_⟩
      go_simp
      rfl
    try simp only [Act.put, List.setIfInBounds_toArray, List.set_cons_zero, List.set_cons_succ]
    refine wpAnyH_take (i := 23) (v := ?fv23) (by simp only [List.getElem?_toArray, List.getElem?_cons_succ, List.getElem?_cons_zero]; exact rfl) (by kernel_rfl) (by kernel_rfl) (by kernel_rfl) ?fq23 ?fy23 hH ?fr23
    case fq23 => exact fun _ _ _ h => h
    case fy23 =>
      refine Or.inl ⟨by rfl, fun v hv => ?_⟩
      go_simp
      rfl
    try simp only [Act.put, List.setIfInBounds_toArray, List.set_cons_zero, List.set_cons_succ]
    refine wpAnyH_take (i := 24) (v := ?fv24) (by simp only [List.getElem?_toArray, List.getElem?_cons_succ, List.getElem?_cons_zero]; exact rfl) (by kernel_rfl) (by kernel_rfl) (by kernel_rfl) ?fq24 ?fy24 hH ?fr24
    case fq24 => exact fun _ _ _ h => h
    case fy24 =>
      refine Or.inl ⟨by rfl, fun v hv => ?_⟩
      obtain ⟨q0, q1, q2, q3, q4, q5, q6, q7, q8, q9⟩ := Fs.cells hv
      go_simp
      rfl
    try simp only [Act.put, List.setIfInBounds_toArray, List.set_cons_zero, List.set_cons_succ]
    refine wpAnyH_take (i := 25) (v := ?fv25) (by simp only [List.getElem?_toArray, List.getElem?_cons_succ, List.getElem?_cons_zero]; exact rfl) (by kernel_rfl) (by kernel_rfl) (by kernel_rfl) ?fq25 ?fy25 hH ?fr25
    case fq25 => exact fun _ _ _ h => h
    case fy25 =>
      refine Or.inl ⟨by rfl, fun v hv => ?_⟩
      go_simp
      rfl
    try simp only [Act.put, List.setIfInBounds_toArray, List.set_cons_zero, List.set_cons_succ]
    refine wpAnyH_take (i := 26) (v := ?fv26) (by simp only [List.getElem?_toArray, List.getElem?_cons_succ, List.getElem?_cons_zero]; exact rfl) (by kernel_rfl) (by kernel_rfl) (by kernel_rfl) ?fq26 ?fy26 hH ?fr26
    case fq26 => exact fun _ _ _ h => h
    case fy26 =>
      refine Or.inl ⟨by rfl, fun v hv => ?_⟩
      obtain ⟨q0, q1, q2, q3, q4, q5, q6, q7, q8, q9⟩ := Fs.cells hv
      go_simp
      rfl
    try simp only [Act.put, List.setIfInBounds_toArray, List.set_cons_zero, List.set_cons_succ]
    refine wpAnyH_take (i := 27) (v := ?fv27) (by simp only [List.getElem?_toArray, List.getElem?_cons_succ, List.getElem?_cons_zero]; exact rfl) (by kernel_rfl) (by kernel_rfl) (by kernel_rfl) ?fq27 ?fy27 hH ?fr27
    case fq27 => exact fun _ _ _ h => h
    case fy27 =>
      refine Or.inl ⟨by rfl, fun v hv => ?_⟩
      go_simp
      rfl
    try simp only [Act.put, List.setIfInBounds_toArray, List.set_cons_zero, List.set_cons_succ]
    refine wpAnyH_take (i := 28) (v := ?fv28) (by simp only [List.getElem?_toArray, List.getElem?_cons_succ, List.getElem?_cons_zero]; exact rfl) (by kernel_rfl) (by kernel_rfl) (by kernel_rfl) ?fq28 ?fy28 hH ?fr28
    case fq28 => exact fun _ _ _ h => h
    case fy28 =>
      refine Or.inl ⟨by rfl, fun v hv => ?_⟩
      obtain ⟨q0, q1, q2, q3, q4, q5, q6, q7, q8, q9⟩ := Fs.cells hv
      go_simp
      rfl
    try simp only [Act.put, List.setIfInBounds_toArray, List.set_cons_zero, List.set_cons_succ]
    refine wpAnyH_take (i := 29) (v := ?fv29) (by simp only [List.getElem?_toArray, List.getElem?_cons_succ, List.getElem?_cons_zero]; exact rfl) (by kernel_rfl) (by kernel_rfl) (by kernel_rfl) ?fq29 ?fy29 hH ?fr29
    case fq29 => exact fun _ _ _ h => h
    case fy29 =>
      refine Or.inl ⟨by rfl, fun v hv => ?_⟩
      go_simp
      rfl
    try simp only [Act.put, List.setIfInBounds_toArray, List.set_cons_zero, List.set_cons_succ]
    refine wpAnyH_take (i := 30) (v := ?fv30) (by simp only [List.getElem?_toArray, List.getElem?_cons_succ, List.getElem?_cons_zero]; exact rfl) (by kernel_rfl) (by kernel_rfl) (by kernel_rfl) ?fq30 ?fy30 hH ?fr30
    case fq30 => exact fun _ _ _ h => h
    case fy30 =>
      refine Or.inl ⟨by rfl, fun v hv => ?_⟩
      obtain ⟨q0, q1, q2, q3, q4, q5, q6, q7, q8, q9⟩ := Fs.cells hv
      go_simp
      rfl
    try simp only [Act.put, List.setIfInBounds_toArray, List.set_cons_zero, List.set_cons_succ]
    refine wpAnyH_take (i := 31) (v := ?fv31) (by simp only [List.getElem?_toArray, List.getElem?_cons_succ, List.getElem?_cons_zero]; exact rfl) (by kernel_rfl) (by kernel_rfl) (by kernel_rfl) ?fq31 ?fy31 hH ?fr31
    case fq31 => exact fun _ _ _ h => h
    case fy31 =>
      refine Or.inl ⟨by rfl, fun v hv => ?_⟩
      go_simp
      rfl
    try simp only [Act.put, List.setIfInBounds_toArray, List.set_cons_zero, List.set_cons_succ]
    refine wpAnyH_take (i := 32) (v := ?fv32) (by simp only [List.getElem?_toArray, List.getElem?_cons_succ, List.getElem?_cons_zero]; exact rfl) (by kernel_rfl) (by kernel_rfl) (by kernel_rfl) ?fq32 ?fy32 hH ?fr32
    case fq32 => exact fun _ _ _ h => h
    case fy32 =>
      refine Or.inl ⟨by rfl, fun v hv => ?_⟩
      obtain ⟨q0, q1, q2, q3, q4, q5, q6, q7, q8, q9⟩ := Fs.cells hv
      go_simp
      rfl
    try simp only [Act.put, List.setIfInBounds_toArray, List.set_cons_zero, List.set_cons_succ]
    refine wpAnyH_ready (rs := [33]) (by kernel_rfl) (by simp) ?_
    refine AllReadyH.cons (by simp only [List.getElem?_toArray, List.getElem?_cons_succ, List.getElem?_cons_zero]; exact rfl) (fun K hK => ?_) AllReadyH.nil
    go_simp
    refine (HRC.out _ hH.1.1.2.1).mono ?_
    rintro e w5 ⟨rfl, hb1⟩
    have hN := hH.next hb1
    clear hb1
    refine hK.out _ _ hN (fun hH' => ?_)
    clear hK hH hN K
    have hH := hH'
    clear hH'
    try simp only [Act.put, List.setIfInBounds_toArray, List.set_cons_zero, List.set_cons_succ]
    refine wpAnyH_take (i := 34) (v := ?fv34) (by simp only [List.getElem?_toArray, List.getElem?_cons_succ, List.getElem?_cons_zero]; exact rfl) (by kernel_rfl) (by kernel_rfl) (by kernel_rfl) ?fq34 ?fy34 hH ?fr34
    case fq34 => exact fun _ _ _ h => h
    case fy34 =>
      refine Or.inl ⟨by rfl, fun v hv => ?_⟩
      go_simp
      rfl
    try simp only [Act.put, List.setIfInBounds_toArray, List.set_cons_zero, List.set_cons_succ]
    refine wpAnyH_take (i := 35) (v := ?fv35) (by simp only [List.getElem?_toArray, List.getElem?_cons_succ, List.getElem?_cons_zero]; exact rfl) (by kernel_rfl) (by kernel_rfl) (by kernel_rfl) ?fq35 ?fy35 hH ?fr35
    case fq35 => exact fun _ _ _ h => h
    case fy35 =>
      refine Or.inl ⟨by rfl, fun v hv => ?_⟩
      go_simp
      rfl
    try simp only [Act.put, List.setIfInBounds_toArray, List.set_cons_zero, List.set_cons_succ]
    refine wpAnyH_take (i := 36) (v := ?fv36) (by simp only [List.getElem?_toArray, List.getElem?_cons_succ, List.getElem?_cons_zero]; exact rfl) (by kernel_rfl) (by kernel_rfl) (by kernel_rfl) ?fq36 ?fy36 hH ?fr36
    case fq36 => exact fun _ _ _ h => h
    case fy36 =>
      refine Or.inl ⟨by rfl, fun v hv => ?_⟩
      go_simp
      rfl
    try simp only [Act.put, List.setIfInBounds_toArray, List.set_cons_zero, List.set_cons_succ]
    refine wpAnyH_take (i := 37) (v := ?fv37) (by simp only [List.getElem?_toArray, List.getElem?_cons_succ, List.getElem?_cons_zero]; exact rfl) (by kernel_rfl) (by kernel_rfl) (by kernel_rfl) ?fq37 ?fy37 hH ?fr37
    case fq37 => exact fun _ _ _ h => h
    case fy37 =>
      refine Or.inl ⟨by rfl, fun v hv => ?_⟩
      go_simp
      rfl
    try simp only [Act.put, List.setIfInBounds_toArray, List.set_cons_zero, List.set_cons_succ]
    refine wpAnyH_take (i := 38) (v := ?fv38) (by simp only [List.getElem?_toArray, List.getElem?_cons_succ, List.getElem?_cons_zero]; exact rfl) (by kernel_rfl) (by kernel_rfl) (by kernel_rfl) ?fq38 ?fy38 hH ?fr38
    case fq38 => exact fun _ _ _ h => h
    case fy38 =>
      refine Or.inl ⟨by rfl, fun v hv => ?_⟩
      go_simp
      rfl
    try simp only [Act.put, List.setIfInBounds_toArray, List.set_cons_zero, List.set_cons_succ]
    refine wpAnyH_take (i := 39) (v := ?fv39) (by simp only [List.getElem?_toArray, List.getElem?_cons_succ, List.getElem?_cons_zero]; exact rfl) (by kernel_rfl) (by kernel_rfl) (by kernel_rfl) ?fq39 ?fy39 hH ?fr39
    case fq39 => exact fun _ _ _ h => h
    case fy39 =>
      refine Or.inl ⟨by rfl, fun v hv => ?_⟩
      obtain ⟨q0, q1, q2, q3, q4, q5, q6, q7, q8, q9⟩ := Fs.cells hv
      go_simp
      rfl
    try simp only [Act.put, List.setIfInBounds_toArray, List.set_cons_zero, List.set_cons_succ]
    refine wpAnyH_take (i := 40) (v := ?fv40) (by simp only [List.getElem?_toArray, List.getElem?_cons_succ, List.getElem?_cons_zero]; exact rfl) (by kernel_rfl) (by kernel_rfl) (by kernel_rfl) ?fq40 ?fy40 hH ?fr40
    case fq40 => exact fun _ _ _ h => h
    case fy40 =>
      refine Or.inl ⟨by rfl, fun v hv => ?_⟩
      go_simp
      rfl
    try simp only [Act.put, List.setIfInBounds_toArray, List.set_cons_zero, List.set_cons_succ]
    refine wpAnyH_take (i := 41) (v := ?fv41) (by simp only [List.getElem?_toArray, List.getElem?_cons_succ, List.getElem?_cons_zero]; exact rfl) (by kernel_rfl) (by kernel_rfl) (by kernel_rfl) ?fq41 ?fy41 hH ?fr41
    case fq41 => exact fun _ _ _ h => h
    case fy41 =>
      refine Or.inl ⟨by rfl, fun v hv => ?_⟩
      obtain ⟨q0, q1, q2, q3, q4, q5, q6, q7, q8, q9⟩ := Fs.cells hv
      go_simp
      rfl
    try simp only [Act.put, List.setIfInBounds_toArray, List.set_cons_zero, List.set_cons_succ]
    refine wpAnyH_take (i := 42) (v := ?fv42) (by simp only [List.getElem?_toArray, List.getElem?_cons_succ, List.getElem?_cons_zero]; exact rfl) (by kernel_rfl) (by kernel_rfl) (by kernel_rfl) ?fq42 ?fy42 hH ?fr42
    case fq42 => exact fun _ _ _ h => h
    case fy42 =>
      refine Or.inl ⟨by rfl, fun v hv => ?_⟩
      go_simp
      rfl
    try simp only [Act.put, List.setIfInBounds_toArray, List.set_cons_zero, List.set_cons_succ]
    refine wpAnyH_take (i := 43) (v := ?fv43) (by simp only [List.getElem?_toArray, List.getElem?_cons_succ, List.getElem?_cons_zero]; exact rfl) (by kernel_rfl) (by kernel_rfl) (by kernel_rfl) ?fq43 ?fy43 hH ?fr43
    case fq43 => exact fun _ _ _ h => h
    case fy43 =>
      refine Or.inl ⟨by rfl, fun v hv => ?_⟩
      obtain ⟨q0, q1, q2, q3, q4, q5, q6, q7, q8, q9⟩ := Fs.cells hv
      go_simp
      rfl
    try simp only [Act.put, List.setIfInBounds_toArray, List.set_cons_zero, List.set_cons_succ]
    refine wpAnyH_take (i := 44) (v := ?fv44) (by simp only [List.getElem?_toArray, List.getElem?_cons_succ, List.getElem?_cons_zero]; exact rfl) (by kernel_rfl) (by kernel_rfl) (by kernel_rfl) ?fq44 ?fy44 hH ?fr44
    case fq44 => exact fun _ _ _ h => h
    case fy44 =>
      refine Or.inl ⟨by rfl, fun v hv => ?_⟩
      go_simp
      rfl
    try simp only [Act.put, List.setIfInBounds_toArray, List.set_cons_zero, List.set_cons_succ]
    refine wpAnyH_take (i := 45) (v := ?fv45) (by simp only [List.getElem?_toArray, List.getElem?_cons_succ, List.getElem?_cons_zero]; exact rfl) (by kernel_rfl) (by kernel_rfl) (by kernel_rfl) ?fq45 ?fy45 hH ?fr45
    case fq45 => exact fun _ _ _ h => h
    case fy45 =>
      refine Or.inl ⟨by rfl, fun v hv => ?_⟩
      obtain ⟨q0, q1, q2, q3, q4, q5, q6, q7, q8, q9⟩ := Fs.cells hv
      go_simp
      rfl
    try simp only [Act.put, List.setIfInBounds_toArray, List.set_cons_zero, List.set_cons_succ]
    refine wpAnyH_take (i := 46) (v := ?fv46) (by simp only [List.getElem?_toArray, List.getElem?_cons_succ, List.getElem?_cons_zero]; exact rfl) (by kernel_rfl) (by kernel_rfl) (by kernel_rfl) ?fq46 ?fy46 hH ?fr46
    case fq46 => exact fun _ _ _ h => h
    case fy46 =>
      refine Or.inl ⟨by rfl, fun v hv => ?_⟩
      go_simp
      rfl
    try simp only [Act.put, List.setIfInBounds_toArray, List.set_cons_zero, List.set_cons_succ]
    refine wpAnyH_take (i := 47) (v := ?fv47) (by simp only [List.getElem?_toArray, List.getElem?_cons_succ, List.getElem?_cons_zero]; exact rfl) (by kernel_rfl) (by kernel_rfl) (by kernel_rfl) ?fq47 ?fy47 hH ?fr47
    case fq47 => exact fun _ _ _ h => h
    case fy47 =>
      refine Or.inl ⟨by rfl, fun v hv => ?_⟩
      obtain ⟨q0, q1, q2, q3, q4, q5, q6, q7, q8, q9⟩ := Fs.cells hv
      go_simp
      rfl
    try simp only [Act.put, List.setIfInBounds_toArray, List.set_cons_zero, List.set_cons_succ]
    refine wpAnyH_ready (rs := [48]) (by kernel_rfl) (by simp) ?_
    refine AllReadyH.cons (by simp only [List.getElem?_toArray, List.getElem?_cons_succ, List.getElem?_cons_zero]; exact rfl) (fun K hK => ?_) AllReadyH.nil
    go_simp
    refine (HJ0.out (by first | rfl | trivial) _ _ _ hH.2.2.1.bys).mono ?_
    rintro e w5 ⟨rfl, hb1⟩
    have hN := hH.next hb1
    clear hb1
    refine hK.out _ _ hN (fun hH' => ?_)
    clear hK hH hN K
    have hH := hH'
    clear hH'
    try simp only [Act.put, List.setIfInBounds_toArray, List.set_cons_zero, List.set_cons_succ]
    refine wpAnyH_take (i := 49) (v := ?fv49) (by simp only [List.getElem?_toArray, List.getElem?_cons_succ, List.getElem?_cons_zero]; exact rfl) (by kernel_rfl) (by kernel_rfl) (by kernel_rfl) ?fq49 ?fy49 hH ?fr49
    case fq49 => exact fun _ _ _ h => h
    case fy49 =>
      refine Or.inl ⟨by rfl, fun v hv => ?_⟩
      go_simp
      rfl
    try simp only [Act.put, List.setIfInBounds_toArray, List.set_cons_zero, List.set_cons_succ]
    refine wpAnyH_take (i := 50) (v := ?fv50) (by simp only [List.getElem?_toArray, List.getElem?_cons_succ, List.getElem?_cons_zero]; exact rfl) (by kernel_rfl) (by kernel_rfl) (by kernel_rfl) ?fq50 ?fy50 hH ?fr50
    case fq50 => exact fun _ _ _ h => h
    case fy50 =>
      refine Or.inl ⟨by rfl, fun v hv => ?_⟩
      go_simp
      rfl
    try simp only [Act.put, List.setIfInBounds_toArray, List.set_cons_zero, List.set_cons_succ]
    refine wpAnyH_take (i := 51) (v := ?fv51) (by simp only [List.getElem?_toArray, List.getElem?_cons_succ, List.getElem?_cons_zero]; exact rfl) (by kernel_rfl) (by kernel_rfl) (by kernel_rfl) ?fq51 ?fy51 hH ?fr51
    case fq51 => exact fun _ _ _ h => h
    case fy51 =>
      refine Or.inl ⟨by rfl, fun v hv => ?_⟩
      go_simp
      rfl
    try simp only [Act.put, List.setIfInBounds_toArray, List.set_cons_zero, List.set_cons_succ]
    refine wpAnyH_take (i := 52) (v := ?fv52) (by simp only [List.getElem?_toArray, List.getElem?_cons_succ, List.getElem?_cons_zero]; exact rfl) (by kernel_rfl) (by kernel_rfl) (by kernel_rfl) ?fq52 ?fy52 hH ?fr52
    case fq52 => exact fun _ _ _ h => h
    case fy52 =>
      refine Or.inl ⟨by rfl, fun v hv => ?_⟩
      go_simp
      rfl
    try simp only [Act.put, List.setIfInBounds_toArray, List.set_cons_zero, List.set_cons_succ]
    refine wpAnyH_done (by kernel_rfl) ?_ _
    go_wp2_with fail
    go_ret
    exact ⟨rfl, hH.1.1.2.2⟩
  · go_wp2_with fail
    refine wp_region_held_drew (S := fun v => Fs w W H (some ⟨b, off, none⟩) c bs bj x y ww hh wg w3.heap.size jg jc v) (by kernel_rfl) (S.out) (fun hH => ?_)
    refine wpAnyH_ready (rs := [0]) (by kernel_rfl) (by simp) ?_
    refine AllReadyH.cons (by simp only [List.getElem?_toArray, List.getElem?_cons_succ, List.getElem?_cons_zero]; exact rfl) (fun K hK => ?_) AllReadyH.nil
    go_simp
    refine (HA.out _).mono ?_
    rintro e w5 ⟨rfl, hb1⟩
    have hN := hH.next hb1
    clear hb1
    refine hK.out _ _ hN (fun hH' => ?_)
    clear hK hH hN K
    have hH := hH'
    clear hH'
    try simp only [Act.put, List.setIfInBounds_toArray, List.set_cons_zero, List.set_cons_succ]
    refine wpAnyH_take (i := 1) (v := ?tv1) (by simp only [List.getElem?_toArray, List.getElem?_cons_succ, List.getElem?_cons_zero]; exact rfl) (by kernel_rfl) (by kernel_rfl) (by kernel_rfl) ?tq1 ?ty1 hH ?tr1
    case tq1 => exact fun _ _ _ h => h
    case ty1 =>
      refine Or.inl ⟨by rfl, fun v hv => ?_⟩
      go_simp
      rfl
    try simp only [Act.put, List.setIfInBounds_toArray, List.set_cons_zero, List.set_cons_succ]
    refine wpAnyH_take (i := 2) (v := ?tv2) (by simp only [List.getElem?_toArray, List.getElem?_cons_succ, List.getElem?_cons_zero]; exact rfl) (by kernel_rfl) (by kernel_rfl) (by kernel_rfl) ?tq2 ?ty2 hH ?tr2
    case tq2 => exact fun _ _ _ h => h
    case ty2 =>
      refine Or.inl ⟨by rfl, fun v hv => ?_⟩
      go_simp
      rfl
    try simp only [Act.put, List.setIfInBounds_toArray, List.set_cons_zero, List.set_cons_succ]
    refine wpAnyH_take (i := 3) (v := ?tv3) (by simp only [List.getElem?_toArray, List.getElem?_cons_succ, List.getElem?_cons_zero]; exact rfl) (by kernel_rfl) (by kernel_rfl) (by kernel_rfl) ?tq3 ?ty3 hH ?tr3
    case tq3 => exact fun _ _ _ h => h
    case ty3 =>
      refine Or.inl ⟨by rfl, fun v hv => ?_⟩
      go_simp
      rfl
    try simp only [Act.put, List.setIfInBounds_toArray, List.set_cons_zero, List.set_cons_succ]
    refine wpAnyH_take (i := 4) (v := ?tv4) (by simp only [List.getElem?_toArray, List.getElem?_cons_succ, List.getElem?_cons_zero]; exact rfl) (by kernel_rfl) (by kernel_rfl) (by kernel_rfl) ?tq4 ?ty4 hH ?tr4
    case tq4 => exact fun _ _ _ h => h
    case ty4 =>
      refine Or.inl ⟨by rfl, fun v hv => ?_⟩
      obtain ⟨q0, q1, q2, q3, q4, q5, q6, q7, q8, q9⟩ := Fs.cells hv
      go_simp
      rfl
    try simp only [Act.put, List.setIfInBounds_toArray, List.set_cons_zero, List.set_cons_succ]
    refine wpAnyH_ready (rs := [5]) (by kernel_rfl) (by simp) ?_
    refine AllReadyH.cons (by simp only [List.getElem?_toArray, List.getElem?_cons_succ, List.getElem?_cons_zero]; exact rfl) (fun K hK => ?_) AllReadyH.nil
    go_simp
    refine (eq04_any _ _ _ _ bs bs _ hH.2.1.bys hH.1.1.2.1 hm hm).mono ?_
    rw [beq_self_eq_true]
    rintro e w5 ⟨rfl, hb1⟩
    have hN := hH.next hb1
    clear hb1
    refine hK.out _ _ hN (fun hH' => ?_)
    clear hK hH hN K
    have hH := hH'
    clear hH'
    try simp only [Act.put, List.setIfInBounds_toArray, List.set_cons_zero, List.set_cons_succ]
    refine wpAnyH_take (i := 6) (v := ?tv6) (by simp only [List.getElem?_toArray, List.getElem?_cons_succ, List.getElem?_cons_zero]; exact rfl) (by kernel_rfl) (by kernel_rfl) (by kernel_rfl) ?tq6 ?ty6 hH ?tr6
    case tq6 => exact fun _ _ _ h => h
    case ty6 =>
      refine Or.inl ⟨by rfl, fun v hv => ?_⟩
      go_simp
      rfl
    try simp only [Act.put, List.setIfInBounds_toArray, List.set_cons_zero, List.set_cons_succ]
    refine wpAnyH_take (i := 7) (v := ?tv7) (by simp only [List.getElem?_toArray, List.getElem?_cons_succ, List.getElem?_cons_zero]; exact rfl) (by kernel_rfl) (by kernel_rfl) (by kernel_rfl) ?tq7 ?ty7 hH ?tr7
    case tq7 => exact fun _ _ _ h => h
    case ty7 =>
      refine Or.inl ⟨by rfl, fun v hv => ?_⟩
      go_simp
      rfl
    try simp only [Act.put, List.setIfInBounds_toArray, List.set_cons_zero, List.set_cons_succ]
    refine wpAnyH_take (i := 8) (v := ?tv8) (by simp only [List.getElem?_toArray, List.getElem?_cons_succ, List.getElem?_cons_zero]; exact rfl) (by kernel_rfl) (by kernel_rfl) (by kernel_rfl) ?tq8 ?ty8 hH ?tr8
    case tq8 => exact fun _ _ _ h => h
    case ty8 =>
      refine Or.inl ⟨by rfl, fun v hv => ?_⟩
      obtain ⟨q0, q1, q2, q3, q4, q5, q6, q7, q8, q9⟩ := Fs.cells hv
      go_simp
      rfl
    try simp only [Act.put, List.setIfInBounds_toArray, List.set_cons_zero, List.set_cons_succ]
    refine wpAnyH_take (i := 9) (v := ?tv9) (by simp only [List.getElem?_toArray, List.getElem?_cons_succ, List.getElem?_cons_zero]; exact rfl) (by kernel_rfl) (by kernel_rfl) (by kernel_rfl) ?tq9 ?ty9 hH ?tr9
    case tq9 => exact fun _ _ _ h => h
    case ty9 =>
      refine Or.inl ⟨by rfl, fun v hv => ?_⟩
      obtain ⟨q0, q1, q2, q3, q4, q5, q6, q7, q8, q9⟩ := Fs.cells hv
      go_simp
      rfl
    try simp only [Act.put, List.setIfInBounds_toArray, List.set_cons_zero, List.set_cons_succ]
    refine wpAnyH_take (i := 10) (v := ?tv10) (by simp only [List.getElem?_toArray, List.getElem?_cons_succ, List.getElem?_cons_zero]; exact rfl) (by kernel_rfl) (by kernel_rfl) (by kernel_rfl) ?tq10 ?ty10 hH ?tr10
    case tq10 => exact fun _ _ _ h => h
    case ty10 =>
      refine Or.inl ⟨by rfl, fun v hv => ?_⟩
      go_simp
      rfl
    try simp only [Act.put, List.setIfInBounds_toArray, List.set_cons_zero, List.set_cons_succ]
    refine wpAnyH_take (i := 11) (v := ?tv11) (by simp only [List.getElem?_toArray, List.getElem?_cons_succ, List.getElem?_cons_zero]; exact rfl) (by kernel_rfl) (by kernel_rfl) (by kernel_rfl) ?tq11 ?ty11 hH ?tr11
    case tq11 => exact fun _ _ _ h => h
    case ty11 =>
      refine Or.inl ⟨by rfl, fun v hv => ?_⟩
      obtain ⟨q0, q1, q2, q3, q4, q5, q6, q7, q8, q9⟩ := Fs.cells hv
      go_simp
      rfl
    try simp only [Act.put, List.setIfInBounds_toArray, List.set_cons_zero, List.set_cons_succ]
    refine wpAnyH_take (i := 12) (v := ?tv12) (by simp only [List.getElem?_toArray, List.getElem?_cons_succ, List.getElem?_cons_zero]; exact rfl) (by kernel_rfl) (by kernel_rfl) (by kernel_rfl) ?tq12 ?ty12 hH ?tr12
    case tq12 => exact fun _ _ _ h => h
    case ty12 =>
      refine Or.inl ⟨by rfl, fun v hv => ?_⟩
      go_simp
      rfl
    try simp only [Act.put, List.setIfInBounds_toArray, List.set_cons_zero, List.set_cons_succ]
    refine wpAnyH_take (i := 13) (v := ?tv13) (by simp only [List.getElem?_toArray, List.getElem?_cons_succ, List.getElem?_cons_zero]; exact rfl) (by kernel_rfl) (by kernel_rfl) (by kernel_rfl) ?tq13 ?ty13 hH ?tr13
    case tq13 => exact fun _ _ _ h => h
    case ty13 =>
      refine Or.inl ⟨by rfl, fun v hv => ?_⟩
      obtain ⟨q0, q1, q2, q3, q4, q5, q6, q7, q8, q9⟩ := Fs.cells hv
      go_simp
      rfl
    try simp only [Act.put, List.setIfInBounds_toArray, List.set_cons_zero, List.set_cons_succ]
    refine wpAnyH_take (i := 14) (v := ?tv14) (by simp only [List.getElem?_toArray, List.getElem?_cons_succ, List.getElem?_cons_zero]; exact rfl) (by kernel_rfl) (by kernel_rfl) (by kernel_rfl) ?tq14 ?ty14 hH ?tr14
    case tq14 => exact fun _ _ _ h => h
    case ty14 =>
      refine Or.inl ⟨by rfl, fun v hv => ?_⟩
      go_simp
      rfl
    try simp only [Act.put, List.setIfInBounds_toArray, List.set_cons_zero, List.set_cons_succ]
    refine wpAnyH_take (i := 15) (v := ?tv15) (by simp only [List.getElem?_toArray, List.getElem?_cons_succ, List.getElem?_cons_zero]; exact rfl) (by kernel_rfl) (by kernel_rfl) (by kernel_rfl) ?tq15 ?ty15 hH ?tr15
    case tq15 => exact fun _ _ _ h => h
    case ty15 =>
      refine Or.inl ⟨by rfl, fun v hv => ?_⟩
      obtain ⟨q0, q1, q2, q3, q4, q5, q6, q7, q8, q9⟩ := Fs.cells hv
      go_simp
      rfl
    try simp only [Act.put, List.setIfInBounds_toArray, List.set_cons_zero, List.set_cons_succ]
    refine wpAnyH_take (i := 16) (v := ?tv16) (by simp only [List.getElem?_toArray, List.getElem?_cons_succ, List.getElem?_cons_zero]; exact rfl) (by kernel_rfl) (by kernel_rfl) (by kernel_rfl) ?tq16 ?ty16 hH ?tr16
    case tq16 => exact fun _ _ _ h => h
    case ty16 =>
      refine Or.inl ⟨by rfl, fun v hv => ?_⟩
      go_simp
      rfl
    try simp only [Act.put, List.setIfInBounds_toArray, List.set_cons_zero, List.set_cons_succ]
    refine wpAnyH_take (i := 17) (v := ?tv17) (by simp only [List.getElem?_toArray, List.getElem?_cons_succ, List.getElem?_cons_zero]; exact rfl) (by kernel_rfl) (by kernel_rfl) (by kernel_rfl) ?tq17 ?ty17 hH ?tr17
    case tq17 => exact fun _ _ _ h => h
    case ty17 =>
      refine Or.inl ⟨by rfl, fun v hv => ?_⟩
      obtain ⟨q0, q1, q2, q3, q4, q5, q6, q7, q8, q9⟩ := Fs.cells hv
      go_simp
      rfl
    try simp only [Act.put, List.setIfInBounds_toArray, List.set_cons_zero, List.set_cons_succ]
    refine wpAnyH_take (i := 18) (v := ?tv18) (by simp only [List.getElem?_toArray, List.getElem?_cons_succ, List.getElem?_cons_zero]; exact rfl) (by kernel_rfl) (by kernel_rfl) (by kernel_rfl) ?tq18 ?ty18 hH ?tr18
    case tq18 => exact fun _ _ _ h => h
    case ty18 =>
      refine Or.inl ⟨by rfl, fun v hv => ?_⟩
      go_simp
      rfl
    try simp only [Act.put, List.setIfInBounds_toArray, List.set_cons_zero, List.set_cons_succ]
    refine wpAnyH_ready (rs := [19]) (by kernel_rfl) (by simp) ?_
    refine AllReadyH.cons (by simp only [List.getElem?_toArray, List.getElem?_cons_succ, List.getElem?_cons_zero]; exact rfl) (fun K hK => ?_) AllReadyH.nil
    go_simp
    refine (HRF.out _ hH.1.1.2.1).mono ?_
    rintro e w5 ⟨g3, gc3, hg3, rfl, hr3, hb1⟩
    have R3 := hide hr3
    clear hr3
    have hN := hH.next hb1
    clear hb1
    refine hK.out _ _ hN (fun hH' => ?_)
    clear hK hH hN K
    have hH := hH'
    clear hH'
    try simp only [Act.put, List.setIfInBounds_toArray, List.set_cons_zero, List.set_cons_succ]
    refine wpAnyH_ready (rs := [20]) (by kernel_rfl) (by simp) ?_
    refine AllReadyH.cons (by simp only [List.getElem?_toArray, List.getElem?_cons_succ, List.getElem?_cons_zero]; exact rfl) (fun K hK => ?_) AllReadyH.nil
    go_simp
    refine (refeq_any W H W H _ _ _ _ bj bj _ hH.2.2.1.bys R3.out.bys hlj hlj).mono ?_
    rw [eqB_self]
    rintro e w5 ⟨rfl, hb1⟩
    have hN := hH.next hb1
    clear hb1
    refine hK.out _ _ hN (fun hH' => ?_)
    clear hK hH hN K
    have hH := hH'
    clear hH'
    try simp only [Act.put, List.setIfInBounds_toArray, List.set_cons_zero, List.set_cons_succ]
    refine wpAnyH_take (i := 21) (v := ?tv21) (by simp only [List.getElem?_toArray, List.getElem?_cons_succ, List.getElem?_cons_zero]; exact rfl) (by kernel_rfl) (by kernel_rfl) (by kernel_rfl) ?tq21 ?ty21 hH ?tr21
    case tq21 => exact fun _ _ _ h => h
    case ty21 =>
      refine Or.inl ⟨by rfl, fun v hv => ?_⟩
      go_simp
      rfl
    try simp only [Act.put, List.setIfInBounds_toArray, List.set_cons_zero, List.set_cons_succ]
    refine wpAnyH_take (i := 22) (v := ?tv22) (by simp only [List.getElem?_toArray, List.getElem?_cons_succ, List.getElem?_cons_zero]; exact rfl) (by kernel_rfl) (by kernel_rfl) (by kernel_rfl) ?tq22 ?ty22 hH ?tr22
    case tq22 => exact fun _ _ _ h => h
    case ty22 =>
      refine Or.inl ⟨by rfl, fun v hv => ?_⟩
      go_simp
      rfl
    try simp only [Act.put, List.setIfInBounds_toArray, List.set_cons_zero, List.set_cons_succ]
    refine wpAnyH_take (i := 23) (v := ?tv23) (by simp only [List.getElem?_toArray, List.getElem?_cons_succ, List.getElem?_cons_zero]; exact rfl) (by kernel_rfl) (by kernel_rfl) (by kernel_rfl) ?tq23 ?ty23 hH ?tr23
    case tq23 => exact fun _ _ _ h => h
    case ty23 =>
      refine Or.inl ⟨by rfl, fun v hv => ?_⟩
      go_simp
      rfl
    try simp only [Act.put, List.setIfInBounds_toArray, List.set_cons_zero, List.set_cons_succ]
    refine wpAnyH_take (i := 24) (v := ?tv24) (by simp only [List.getElem?_toArray, List.getElem?_cons_succ, List.getElem?_cons_zero]; exact rfl) (by kernel_rfl) (by kernel_rfl) (by kernel_rfl) ?tq24 ?ty24 hH ?tr24
    case tq24 => exact fun _ _ _ h => h
    case ty24 =>
      refine Or.inl ⟨by rfl, fun v hv => ?_⟩
      obtain ⟨q0, q1, q2, q3, q4, q5, q6, q7, q8, q9⟩ := Fs.cells hv
      go_simp
      rfl
    try simp only [Act.put, List.setIfInBounds_toArray, List.set_cons_zero, List.set_cons_succ]
    refine wpAnyH_take (i := 25) (v := ?tv25) (by simp only [List.getElem?_toArray, List.getElem?_cons_succ, List.getElem?_cons_zero]; exact rfl) (by kernel_rfl) (by kernel_rfl) (by kernel_rfl) ?tq25 ?ty25 hH ?tr25
    case tq25 => exact fun _ _ _ h => h
    case ty25 =>
      refine Or.inl ⟨by rfl, fun v hv => ?_⟩
      go_simp
      rfl
    try simp only [Act.put, List.setIfInBounds_toArray, List.set_cons_zero, List.set_cons_succ]
    refine wpAnyH_take (i := 26) (v := ?tv26) (by simp only [List.getElem?_toArray, List.getElem?_cons_succ, List.getElem?_cons_zero]; exact rfl) (by kernel_rfl) (by kernel_rfl) (by kernel_rfl) ?tq26 ?ty26 hH ?tr26
    case tq26 => exact fun _ _ _ h => h
    case ty26 =>
      refine Or.inl ⟨by rfl, fun v hv => ?_⟩
      obtain ⟨q0, q1, q2, q3, q4, q5, q6, q7, q8, q9⟩ := Fs.cells hv
      go_simp
      rfl
    try simp only [Act.put, List.setIfInBounds_toArray, List.set_cons_zero, List.set_cons_succ]
    refine wpAnyH_take (i := 27) (v := ?tv27) (by simp only [List.getElem?_toArray, List.getElem?_cons_succ, List.getElem?_cons_zero]; exact rfl) (by kernel_rfl) (by kernel_rfl) (by kernel_rfl) ?tq27 ?ty27 hH ?tr27
    case tq27 => exact fun _ _ _ h => h
    case ty27 =>
      refine Or.inl ⟨by rfl, fun v hv => ?_⟩
      go_simp
      rfl
    try simp only [Act.put, List.setIfInBounds_toArray, List.set_cons_zero, List.set_cons_succ]
    refine wpAnyH_take (i := 28) (v := ?tv28) (by simp only [List.getElem?_toArray, List.getElem?_cons_succ, List.getElem?_cons_zero]; exact rfl) (by kernel_rfl) (by kernel_rfl) (by kernel_rfl) ?tq28 ?ty28 hH ?tr28
    case tq28 => exact fun _ _ _ h => h
    case ty28 =>
      refine Or.inl ⟨by rfl, fun v hv => ?_⟩
      obtain ⟨q0, q1, q2, q3, q4, q5, q6, q7, q8, q9⟩ := Fs.cells hv
      go_simp
      rfl
    try simp only [Act.put, List.setIfInBounds_toArray, List.set_cons_zero, List.set_cons_succ]
    refine wpAnyH_take (i := 29) (v := ?tv29) (by simp only [List.getElem?_toArray, List.getElem?_cons_succ, List.getElem?_cons_zero]; exact rfl) (by kernel_rfl) (by kernel_rfl) (by kernel_rfl) ?tq29 ?ty29 hH ?tr29
    case tq29 => exact fun _ _ _ h => h
    case ty29 =>
      refine Or.inl ⟨by rfl, fun v hv => ?_⟩
      go_simp
      rfl
    try simp only [Act.put, List.setIfInBounds_toArray, List.set_cons_zero, List.set_cons_succ]
    refine wpAnyH_take (i := 30) (v := ?tv30) (by simp only [List.getElem?_toArray, List.getElem?_cons_succ, List.getElem?_cons_zero]; exact rfl) (by kernel_rfl) (by kernel_rfl) (by kernel_rfl) ?tq30 ?ty30 hH ?tr30
    case tq30 => exact fun _ _ _ h => h
    case ty30 =>
      refine Or.inl ⟨by rfl, fun v hv => ?_⟩
      obtain ⟨q0, q1, q2, q3, q4, q5, q6, q7, q8, q9⟩ := Fs.cells hv
      go_simp
      rfl
    try simp only [Act.put, List.setIfInBounds_toArray, List.set_cons_zero, List.set_cons_succ]
    refine wpAnyH_take (i := 31) (v := ?tv31) (by simp only [List.getElem?_toArray, List.getElem?_cons_succ, List.getElem?_cons_zero]; exact rfl) (by kernel_rfl) (by kernel_rfl) (by kernel_rfl) ?tq31 ?ty31 hH ?tr31
    case tq31 => exact fun _ _ _ h => h
    case ty31 =>
      refine Or.inl ⟨by rfl, fun v hv => ?_⟩
      go_simp
      rfl
    try simp only [Act.put, List.setIfInBounds_toArray, List.set_cons_zero, List.set_cons_succ]
    refine wpAnyH_take (i := 32) (v := ?tv32) (by simp only [List.getElem?_toArray, List.getElem?_cons_succ, List.getElem?_cons_zero]; exact rfl) (by kernel_rfl) (by kernel_rfl) (by kernel_rfl) ?tq32 ?ty32 hH ?tr32
    case tq32 => exact fun _ _ _ h => h
    case ty32 =>
      refine Or.inl ⟨by rfl, fun v hv => ?_⟩
      obtain ⟨q0, q1, q2, q3, q4, q5, q6, q7, q8, q9⟩ := Fs.cells hv
      go_simp
      rfl
    try simp only [Act.put, List.setIfInBounds_toArray, List.set_cons_zero, List.set_cons_succ]
    refine wpAnyH_ready (rs := [33]) (by kernel_rfl) (by simp) ?_
    refine AllReadyH.cons (by simp only [List.getElem?_toArray, List.getElem?_cons_succ, List.getElem?_cons_zero]; exact rfl) (fun K hK => ?_) AllReadyH.nil
    go_simp
    refine (HRC.out _ hH.1.1.2.1).mono ?_
    rintro e w5 ⟨rfl, hb1⟩
    have hN := hH.next hb1
    clear hb1
    refine hK.out _ _ hN (fun hH' => ?_)
    clear hK hH hN K
    have hH := hH'
    clear hH'
    try simp only [Act.put, List.setIfInBounds_toArray, List.set_cons_zero, List.set_cons_succ]
    refine wpAnyH_take (i := 34) (v := ?tv34) (by simp only [List.getElem?_toArray, List.getElem?_cons_succ, List.getElem?_cons_zero]; exact rfl) (by kernel_rfl) (by kernel_rfl) (by kernel_rfl) ?tq34 ?ty34 hH ?tr34
    case tq34 => exact fun _ _ _ h => h
    case ty34 =>
      refine Or.inl ⟨by rfl, fun v hv => ?_⟩
      go_simp
      rfl
    try simp only [Act.put, List.setIfInBounds_toArray, List.set_cons_zero, List.set_cons_succ]
    refine wpAnyH_take (i := 35) (v := ?tv35) (by simp only [List.getElem?_toArray, List.getElem?_cons_succ, List.getElem?_cons_zero]; exact rfl) (by kernel_rfl) (by kernel_rfl) (by kernel_rfl) ?tq35 ?ty35 hH ?tr35
    case tq35 => exact fun _ _ _ h => h
    case ty35 =>
      refine Or.inl ⟨by rfl, fun v hv => ?_⟩
      go_simp
      rfl
    try simp only [Act.put, List.setIfInBounds_toArray, List.set_cons_zero, List.set_cons_succ]
    refine wpAnyH_take (i := 36) (v := ?tv36) (by simp only [List.getElem?_toArray, List.getElem?_cons_succ, List.getElem?_cons_zero]; exact rfl) (by kernel_rfl) (by kernel_rfl) (by kernel_rfl) ?tq36 ?ty36 hH ?tr36
    case tq36 => exact fun _ _ _ h => h
    case ty36 =>
      refine Or.inl ⟨by rfl, fun v hv => ?_⟩
      go_simp
      rfl
    try simp only [Act.put, List.setIfInBounds_toArray, List.set_cons_zero, List.set_cons_succ]
    refine wpAnyH_take (i := 37) (v := ?tv37) (by simp only [List.getElem?_toArray, List.getElem?_cons_succ, List.getElem?_cons_zero]; exact rfl) (by kernel_rfl) (by kernel_rfl) (by kernel_rfl) ?tq37 ?ty37 hH ?tr37
    case tq37 => exact fun _ _ _ h => h
    case ty37 =>
      refine Or.inl ⟨by rfl, fun v hv => ?_⟩
      go_simp
      rfl
    try simp only [Act.put, List.setIfInBounds_toArray, List.set_cons_zero, List.set_cons_succ]
    refine wpAnyH_take (i := 38) (v := ?tv38) (by simp only [List.getElem?_toArray, List.getElem?_cons_succ, List.getElem?_cons_zero]; exact rfl) (by kernel_rfl) (by kernel_rfl) (by kernel_rfl) ?tq38 ?ty38 hH ?tr38
    case tq38 => exact fun _ _ _ h => h
    case ty38 =>
      refine Or.inl ⟨by rfl, fun v hv => ?_⟩
      go_simp
      rfl
    try simp only [Act.put, List.setIfInBounds_toArray, List.set_cons_zero, List.set_cons_succ]
    refine wpAnyH_take (i := 39) (v := undef) (by simp only [List.getElem?_toArray, List.getElem?_cons_succ, List.getElem?_cons_zero]; exact rfl) (by kernel_rfl) (by kernel_rfl) (by kernel_rfl) ?tq39 ?ty39 hH ?tr39
    case tq39 => exact fun _ _ _ h => h
    case ty39 => (refine Or.inr ⟨?_, rfl⟩; rfl)
    try simp only [Act.put, List.setIfInBounds_toArray, List.set_cons_zero, List.set_cons_succ]
    refine wpAnyH_take (i := 40) (v := undef) (by simp only [List.getElem?_toArray, List.getElem?_cons_succ, List.getElem?_cons_zero]; exact rfl) (by kernel_rfl) (by kernel_rfl) (by kernel_rfl) ?tq40 ?ty40 hH ?tr40
    case tq40 => exact fun _ _ _ h => h
    case ty40 => (refine Or.inr ⟨?_, rfl⟩; rfl)
    try simp only [Act.put, List.setIfInBounds_toArray, List.set_cons_zero, List.set_cons_succ]
    refine wpAnyH_take (i := 41) (v := undef) (by simp only [List.getElem?_toArray, List.getElem?_cons_succ, List.getElem?_cons_zero]; exact rfl) (by kernel_rfl) (by kernel_rfl) (by kernel_rfl) ?tq41 ?ty41 hH ?tr41
    case tq41 => exact fun _ _ _ h => h
    case ty41 => (refine Or.inr ⟨?_, rfl⟩; rfl)
    try simp only [Act.put, List.setIfInBounds_toArray, List.set_cons_zero, List.set_cons_succ]
    refine wpAnyH_take (i := 42) (v := undef) (by simp only [List.getElem?_toArray, List.getElem?_cons_succ, List.getElem?_cons_zero]; exact rfl) (by kernel_rfl) (by kernel_rfl) (by kernel_rfl) ?tq42 ?ty42 hH ?tr42
    case tq42 => exact fun _ _ _ h => h
    case ty42 => (refine Or.inr ⟨?_, rfl⟩; rfl)
    try simp only [Act.put, List.setIfInBounds_toArray, List.set_cons_zero, List.set_cons_succ]
    refine wpAnyH_take (i := 43) (v := undef) (by simp only [List.getElem?_toArray, List.getElem?_cons_succ, List.getElem?_cons_zero]; exact rfl) (by kernel_rfl) (by kernel_rfl) (by kernel_rfl) ?tq43 ?ty43 hH ?tr43
    case tq43 => exact fun _ _ _ h => h
    case ty43 => (refine Or.inr ⟨?_, rfl⟩; rfl)
    try simp only [Act.put, List.setIfInBounds_toArray, List.set_cons_zero, List.set_cons_succ]
    refine wpAnyH_take (i := 44) (v := undef) (by simp only [List.getElem?_toArray, List.getElem?_cons_succ, List.getElem?_cons_zero]; exact rfl) (by kernel_rfl) (by kernel_rfl) (by kernel_rfl) ?tq44 ?ty44 hH ?tr44
    case tq44 => exact fun _ _ _ h => h
    case ty44 => (refine Or.inr ⟨?_, rfl⟩; rfl)
    try simp only [Act.put, List.setIfInBounds_toArray, List.set_cons_zero, List.set_cons_succ]
    refine wpAnyH_take (i := 45) (v := undef) (by simp only [List.getElem?_toArray, List.getElem?_cons_succ, List.getElem?_cons_zero]; exact rfl) (by kernel_rfl) (by kernel_rfl) (by kernel_rfl) ?tq45 ?ty45 hH ?tr45
    case tq45 => exact fun _ _ _ h => h
    case ty45 => (refine Or.inr ⟨?_, rfl⟩; rfl)
    try simp only [Act.put, List.setIfInBounds_toArray, List.set_cons_zero, List.set_cons_succ]
    refine wpAnyH_take (i := 46) (v := undef) (by simp only [List.getElem?_toArray, List.getElem?_cons_succ, List.getElem?_cons_zero]; exact rfl) (by kernel_rfl) (by kernel_rfl) (by kernel_rfl) ?tq46 ?ty46 hH ?tr46
    case tq46 => exact fun _ _ _ h => h
    case ty46 => (refine Or.inr ⟨?_, rfl⟩; rfl)
    try simp only [Act.put, List.setIfInBounds_toArray, List.set_cons_zero, List.set_cons_succ]
    refine wpAnyH_take (i := 47) (v := undef) (by simp only [List.getElem?_toArray, List.getElem?_cons_succ, List.getElem?_cons_zero]; exact rfl) (by kernel_rfl) (by kernel_rfl) (by kernel_rfl) ?tq47 ?ty47 hH ?tr47
    case tq47 => exact fun _ _ _ h => h
    case ty47 => (refine Or.inr ⟨?_, rfl⟩; rfl)
    try simp only [Act.put, List.setIfInBounds_toArray, List.set_cons_zero, List.set_cons_succ]
    refine wpAnyH_take (i := 48) (v := undef) (by simp only [List.getElem?_toArray, List.getElem?_cons_succ, List.getElem?_cons_zero]; exact rfl) (by kernel_rfl) (by kernel_rfl) (by kernel_rfl) ?tq48 ?ty48 hH ?tr48
    case tq48 => exact fun _ _ _ h => h
    case ty48 => (refine Or.inr ⟨?_, rfl⟩; rfl)
    try simp only [Act.put, List.setIfInBounds_toArray, List.set_cons_zero, List.set_cons_succ]
    refine wpAnyH_take (i := 49) (v := undef) (by simp only [List.getElem?_toArray, List.getElem?_cons_succ, List.getElem?_cons_zero]; exact rfl) (by kernel_rfl) (by kernel_rfl) (by kernel_rfl) ?tq49 ?ty49 hH ?tr49
    case tq49 => exact fun _ _ _ h => h
    case ty49 => (refine Or.inr ⟨?_, rfl⟩; rfl)
    try simp only [Act.put, List.setIfInBounds_toArray, List.set_cons_zero, List.set_cons_succ]
    refine wpAnyH_take (i := 50) (v := ?tv50) (by simp only [List.getElem?_toArray, List.getElem?_cons_succ, List.getElem?_cons_zero]; exact rfl) (by kernel_rfl) (by kernel_rfl) (by kernel_rfl) ?tq50 ?ty50 hH ?tr50
    case tq50 => exact fun _ _ _ h => h
    case ty50 =>
      refine Or.inl ⟨by rfl, fun v hv => ?_⟩
      go_simp
      rfl
    try simp only [Act.put, List.setIfInBounds_toArray, List.set_cons_zero, List.set_cons_succ]
    refine wpAnyH_take (i := 51) (v := ?tv51) (by simp only [List.getElem?_toArray, List.getElem?_cons_succ, List.getElem?_cons_zero]; exact rfl) (by kernel_rfl) (by kernel_rfl) (by kernel_rfl) ?tq51 ?ty51 hH ?tr51
    case tq51 => exact fun _ _ _ h => h
    case ty51 =>
      refine Or.inl ⟨by rfl, fun v hv => ?_⟩
      go_simp
      rfl
    try simp only [Act.put, List.setIfInBounds_toArray, List.set_cons_zero, List.set_cons_succ]
    refine wpAnyH_take (i := 52) (v := ?tv52) (by simp only [List.getElem?_toArray, List.getElem?_cons_succ, List.getElem?_cons_zero]; exact rfl) (by kernel_rfl) (by kernel_rfl) (by kernel_rfl) ?tq52 ?ty52 hH ?tr52
    case tq52 => exact fun _ _ _ h => h
    case ty52 =>
      refine Or.inl ⟨by rfl, fun v hv => ?_⟩
      go_simp
      rfl
    try simp only [Act.put, List.setIfInBounds_toArray, List.set_cons_zero, List.set_cons_succ]
    refine wpAnyH_done (by kernel_rfl) ?_ _
    go_wp2_with fail
    go_ret
    exact ⟨rfl, hH.1.1.2.2⟩

theorem walk (W H : Int) (A : Option Addr) (c : Nat) (bs : List UInt8) (x y ww hh : Int) (on : Bool) (w : World) (hb : Bys w A bs) (hm : bs.length ≤ maxLen)
    (hx : -9223372036854775808 ≤ x ∧ x ≤ 9223372036854775807 ∧ -9223372036854775808 ≤ ww ∧ ww ≤ 9223372036854775807)
    (hy : -9223372036854775808 ≤ y ∧ y ≤ 9223372036854775807 ∧ -9223372036854775808 ≤ hh ∧ hh ≤ 9223372036854775807) :
    Calls Try.prog 6 #[.agg #[.int .i64 W, .int .i64 H, .slice A bs.length c], .agg #[.int .i64 x, .int .i64 y, .int .i64 ww, .int .i64 hh], .bool on] w fun e w' => e = .returned (.bool true) ∧ Below w.heap.size w w' := by
  by_cases hs : smallB W H bs = true
  · obtain ⟨W', H', f, rfl, rfl, rfl, h1, h2, h3, h4⟩ := small_form hs
    exact walk_yes W' H' A c f x y ww hh on w hb h1 h2 h3 h4 hx hy
  · exact walk_no W H A c bs x y ww hh on w hb hm (Bool.eq_false_iff.2 hs)

set_option maxRecDepth 100000 in
theorem lifted (os : Os) (started : os.Started) (H : Type) (enc : TypeId × Value → H) :
    ReturnsInHanded {} Try.checked os 6 .any (Rows.imageFillSpec.pre6 enc Try.prog Try.f6 Rows.imageFillRow.domain false) (Rows.imageFillSpec.post enc Try.prog Try.f6 false true false false) := by
  refine returnsInHanded_of_change (C := Try.checked) own started (by kernel_rfl) Try.func6
    (ChangeSpec.witness6 (enc := enc) (C := Try.checked) false ⟨#[], #[.agg #[.int .i64 0, .int .i64 0, .slice none 0 0], .agg #[.int .i64 0, .int .i64 0, .int .i64 0, .int .i64 0], .bool false], []⟩ 8 (by kernel_rfl) (by kernel_rfl) (by kernel_rfl) (by kernel_rfl)) ?_
  intro W base args ds gs before hval0 hW hcnd _
  have hval : ∀ (j : Nat) t v, Try.f6.params[j]? = some t → args[j]? = some v → Value.okWide Try.prog W .any base t v := hval0
  have hW' := hW
  obtain ⟨p, q, hA0, hV, rfl, hfz, hnd⟩ := hW
  have hA : DataW.TrodAll enc Try.prog W 0 (fun _ => true) true Try.f6.params.toList args.toList ds p := hA0
  rw [Try.params6] at hA hval
  obtain ⟨v0, vs0, d0, ds0, p0, q0, hargs, rfl, rfl, h0, r0⟩ := trodAll_cons hA
  obtain ⟨v1, vs1, d1, ds1, p1, q1, rfl, rfl, rfl, h1, r1⟩ := trodAll_cons r0
  obtain ⟨v2, vs2, d2, ds2, p2, q2, rfl, rfl, rfl, h2, r2⟩ := trodAll_cons r1
  obtain ⟨rfl, rfl, rfl⟩ := trodAll_nil r2
  obtain rfl : args = #[v0, v1, v2] := by cases args; simp_all
  obtain ⟨W0, H0, A0, c0, bs0, rfl, hb0, hm0⟩ := open_image (hval 0 24 v0 rfl rfl) h0
  obtain ⟨x1, y1, ww1, hh1, rfl, hx1, hy1⟩ := open_rect (hval 1 34 v1 rfl rfl) h1
  obtain ⟨b2, rfl, _, _⟩ := open_bool Try.underlying4 (hval 2 4 v2 rfl rfl) h2
  refine (walk W0 H0 A0 c0 bs0 x1 y1 ww1 hh1 b2 W hb0 hm0 hx1 hy1).mono fun e W' ⟨he, hb⟩ => ?_
  subst he
  exact ⟨_, rfl, post_law hW' rfl hb (by rw [Try.params6]; exact params_ok (by kernel_rfl)) rfl rfl⟩

theorem over : Rows.imageFillRow.holds Try.pinned (OpenSpec.ofChange Rows.imageFillSpec) :=
  OpenClaim.holds_of_wide 6 Try.f6 rfl rfl rfl rfl rfl rfl rfl ⟨rfl, rfl, rfl, rfl, rfl⟩ rfl rfl rfl rfl rfl (by kernel_rfl) Try.func6 (by kernel_rfl)
    (of_decide_eq_true (by kernel_rfl)) (by unfold Func.isWrapper; first | (rw [if_pos (by decide +kernel)]; kernel_rfl) | (rw [if_neg (by decide +kernel)]; exact ⟨rfl, rfl⟩))
    (fun os started H enc _ => lifted os started H enc)

theorem proved : Rows.ImageFillSaid := over
end Go.Proofs.Ytebahhmajllmnaa.lawFill
