/-
  Changing the frames after NewSender, a message or a result of Frames changes neither side: the law LinkOwn returns true for every input.
-/
import Derived.Test.YthhelhggggbaiaaEqs
import Derived.Test.YthhelhggggbaiaaFrame
import Derived.Deep.DeepCutAuto
namespace Go.Proofs.Ythhelhggggbaiaa.lawOwn
open Go.ChangeShapes Go.WideShapes Go.ChangeAt Go.RowKit Go.Proofs.Ythhelhggggbaiaa
set_option linter.unusedVariables false
set_option linter.unusedSimpArgs false

def Yes0 (w : World) (e : Ending) (w' : World) : Prop := e = .returned (.bool true) ∧ Below w.heap.size w w'

theorem run_append_bytes {w : World} {g cap : Nat} {bs : List UInt8} (ty : TypeId) (h : OwnG w g cap bs) (hp : 0 < bs.length) (A : Option Addr) (c : Nat) (xs : List UInt8) (hx : Bys w A xs) (hm : bs.length + xs.length ≤ 1000000) :
    ∃ g' cap' w', (Builtin.append_ #[32, 32] ty #[.slice (some ⟨g, 0, none⟩) bs.length cap, .slice A xs.length c]).run Try.prog w = .ok (.slice (some ⟨g', 0, none⟩) (bs ++ xs).length cap') w' ∧ OwnG w' g' cap' (bs ++ xs) ∧ w.grownBy w' (some g) ∧ (g' = g ∨ g' = w.heap.size) := by
  obtain ⟨i0, hi, hz0, hz1, hz2⟩ := info_parts u8info
  by_cases hl : xs.length = 0
  · obtain rfl := List.length_eq_zero_iff.1 hl
    have hf : (Builtin.firstCells i0.size 0 (.slice A 0 c)).run Try.prog w = .ok #[] w := by
      cases A with
      | none => exact run_firstCells_none w i0.size 0 0 c
      | some b =>
        have := run_firstCells_some (P := Try.prog) w i0.size 0 b 0 c [] (by simp) (fun j v h => by simp at h)
        simpa using this
    have hroom := h.room
    refine ⟨g, cap, w, ?_, by rw [List.append_nil]; exact h, grown_refl _ _, .inl rfl⟩
    rw [List.append_nil]
    simp [Builtin.append_, run_underlying Try.underlying32, sizeOf, typeInfo, hi, Builtin.lenOf, hf, storeCells, hroom]
  · have hxp : 0 < xs.length := by omega
    obtain ⟨b, off, rfl, hlt, hc⟩ := hx hxp
    have hnews : ∀ j u, (xs.map u8v)[j]? = some u → w.cell? ((⟨b, off, none⟩ : Addr).add j) = some u := news_of_bys (fun _ => ⟨b, off, rfl, hlt, hc⟩)
    obtain ⟨v', w', hr, h2, h3, _, h5⟩ := run_append_own_at (P := Try.prog) w 0 32 ty 5 i0 (.int .u8 0) 1 1 Try.underlying32 hi hz0 hz1 hz2 rfl (by decide) (.slice (some ⟨g, 0, none⟩) bs.length cap) bs.length (bs.map u8v) h ⟨b, off, none⟩ xs.length c (xs.map u8v) (by simp) hnews one_byte (by unfold maxLen; omega) (by omega) (Nat.zero_le _)
    obtain ⟨g', cap', rfl, ho, hd⟩ := own_next h2 rfl hxp (g := g) h5
    exact ⟨g', cap', w', hr, ho, h3, hd⟩
theorem wpList_append_bytes {w : World} {ops : Array Oper} {rest : List Oper} {o : Oper} {a : Act} {Q : Exit → Act → World → Prop} (hgd : o.guard = none) (s x : Operand) (ho : o.op = .call { callee := .builtin .append, args := #[s, x], argTypes := #[32, 32] })
    {g cap : Nat} {bs : List UInt8} (h0 : OwnG w g cap bs) (hp : 0 < bs.length) (A : Option Addr) (c : Nat) (xs : List UInt8) (hs : a.eval s = .slice (some ⟨g, 0, none⟩) bs.length cap) (hx : a.eval x = .slice A xs.length c) (hb : Bys w A xs) (hm : bs.length + xs.length ≤ 1000000)
    (h : ∀ g' cap' w', OwnG w' g' cap' (bs ++ xs) → w.grownBy w' (some g) → (g' = g ∨ g' = w.heap.size) → wpList Try.prog ops Q rest (a.put o.dst (.slice (some ⟨g', 0, none⟩) (bs ++ xs).length cap')) w') : wpList Try.prog ops Q (o :: rest) a w := by
  refine wpList_plain hgd fun K hK => ?_
  obtain ⟨g', cap', w', hr, h1, h2, h3⟩ := run_append_bytes o.type h0 hp A c xs hb hm
  unfold Oper.wp execOp
  simp only [ho, resolve, invoke, builtin, Sem.run_bind, Sem.run_pure, Result.andThen_ok, List.map_toArray, List.map_cons, List.map_nil, hs, hx, hr]
  exact hK _ _ (h g' cap' w' h1 h2 h3)
theorem bys_take {w : World} {A : Option Addr} {bs : List UInt8} (h : Bys w A bs) (n : Nat) : Bys w A (bs.take n) := fun hp => by
  rw [List.length_take] at hp
  obtain ⟨b, off, e, h1, h2⟩ := h (by omega)
  refine ⟨b, off, e, h1, fun k hk => ?_⟩
  rw [List.length_take] at hk
  rw [h2 k (by omega)]
  congr 2
  have h3 : k < n := by omega
  simp [List.getD_eq_getElem?_getD, List.getElem?_take, h3]

/-- a list of one frame -/
theorem fr_one {w : World} {A : Option Addr} {c : Nat} {bs : List UInt8} (h : Bys w A bs) (hc : bs.length ≤ c) : Fr (w.alloc (.cells #[.slice A bs.length c] 32)) (some ⟨w.heap.size, 0, none⟩) [bs] := fun _ =>
  ⟨w.heap.size, 0, rfl, by simp, fun k hk => by
    obtain rfl : k = 0 := by have : k < 1 := hk; omega
    exact ⟨A, c, (Box.new w 32 #[.slice A bs.length c]).cell 0, h.alloc _, hc⟩⟩

theorem newsender_one {w : World} {A : Option Addr} {c : Nat} {bs : List UInt8} (h : Bys w A bs) (hc : bs.length ≤ c) (hm : bs.length ≤ 4096) : Calls Try.prog 11 #[.slice (some ⟨w.heap.size, 0, none⟩) 1 1, .int .i64 2] (w.alloc (.cells #[.slice A bs.length c] 32)) (NewSnd (w.alloc (.cells #[.slice A bs.length c] 32)) [bs] 2) :=
  newsender_ok _ 1 [bs] 2 _ (fr_one h hc) (show 1 ≤ 1 by omega) (show 1 ≤ 1000 by omega) (fun k hk => by
    obtain rfl : k = 0 := by have : k < 1 := hk; omega
    exact hm) (by decide) (by decide)
theorem newreceiver_two (L : World) : Calls Try.prog 19 #[.int .i64 2] L (NewRcv L 2) := newreceiver_ok 2 L (by decide) (by decide)
def MsgPost (F : Nat → Prop) (w : World) (s : Nat) (bs : List UInt8) (e : Ending) (w' : World) : Prop :=
  ∃ D d, e = .returned (.tuple #[.agg #[.bool false, .int .i64 0, .bool true, .slice D bs.length d], .bool true]) ∧ NewB w.heap.size w' D d bs ∧ Chg (fun i => i = s) w w' ∧ Snd 64 F w' s [bs] 2 0 1
theorem next_one {F : Nat → Prop} {w : World} {s nxt : Nat} {bs : List UInt8} (h : Snd 64 F w s [bs] 2 0 nxt) (hm : bs.length ≤ 4096) (hx : nxt ≤ 1) : Calls Try.prog 12 #[.pointer (some ⟨s, 0, none⟩)] w (MsgPost F w s bs) := by
  have e : nextAt [bs].length 2 0 nxt = 0 := by
    unfold nextAt
    split
    · rfl
    · rename_i h
      simp at h
      omega
  refine (next_more h (Nat.zero_lt_one) (show 1 ≤ 1000 by omega) (by decide) (by omega) (fun k hk => by
    obtain rfl : k = 0 := by have : k < 1 := hk; omega
    exact hm)).mono fun en w' h => ?_
  rw [e] at h
  exact h
def H1 (bs : List UInt8) : Nat → Option (List UInt8) := putH HA 0 bs
theorem receive_one {F : Nat → Prop} {w : World} {r : Nat} {bs : List UInt8} (h : Rcv F w r 2 [] (fun _ => none) (-1) 0) (D : Option Addr) (d : Nat) (hD : Bys w D bs) (hm : bs.length ≤ 4096) :
    Calls Try.prog 21 #[.pointer (some ⟨r, 0, none⟩), .agg #[.bool false, .int .i64 0, .bool true, .slice D bs.length d]] w (Accepted F w r 2 (H1 bs) 1 0 1) := by
  have h' : Rcv F w r 2 (gots HA 0) (earlyOf HA 0) (-1) 0 := by rw [gotsA, earlyA]; exact h
  exact receive_yes h' (by decide) (by decide) (by decide) (by decide) (by decide) true 0 (by decide) D d bs hD hm (by
    unfold Ign IgnA Behind
    simp [earlyOf, HA]
    omega) (fun k hk => absurd hk (by omega)) 1 (fun k hk => by
      obtain rfl : k = 0 := by omega
      rfl) rfl (by decide) (by decide)
theorem frames_one {F : Nat → Prop} {w : World} {r : Nat} {bs : List UInt8} {e : Int → Option (List UInt8)} {last : Int} {n : Nat} (h : Rcv F w r 2 (gots (H1 bs) 1) e last n) (hm : bs.length ≤ 4096) :
    Calls Try.prog 22 #[.pointer (some ⟨r, 0, none⟩)] w (CopyPost w [bs]) :=
  rframes_any (got := [bs]) h (show 1 ≤ 100000 by omega) (fun k hk => by
    obtain rfl : k = 0 := by have : k < 1 := hk; omega
    have : ([bs].getD 0 []).length = bs.length := rfl
    omega)
theorem Own.at_ {w : World} {B : Nat} {v : Value} {r c : Nat → Nat} {fs : List (List UInt8)} (h : Own w B v r c fs) {k : Nat} (hk : k < fs.length) :
    ∃ g cap, v = .slice (some ⟨g, 0, none⟩) fs.length cap ∧ w.cell? ⟨g, k, none⟩ = some (.slice (some ⟨r k, 0, none⟩) (fs.getD k []).length (c k)) ∧ B ≤ g ∧ g < w.heap.size ∧ Row w (r k) (fs.getD k []) ∧ B ≤ r k ∧ g ≠ r k := by
  obtain ⟨A, cc, rfl, _, _⟩ := h.frIn
  obtain ⟨h1, h2, _⟩ := h
  obtain ⟨g1, g2, g3, _⟩ := h2 k hk
  rcases h1.2 with ⟨e, h0⟩ | ⟨g, cap, cur, e, hb, hg, hc, hm, hz, ht⟩
  · omega
  · injection e with e1 e2 e3
    subst e1
    have hlt : g < w.heap.size := by
      rcases Nat.lt_or_ge g w.heap.size with hlt | hge
      · exact hlt
      · rw [Array.getElem?_eq_none hge] at hg; cases hg
    refine ⟨g, cc, rfl, ?_, hb, hlt, g1, g2, fun e => g3 (by rw [← e]; rfl)⟩
    rw [cell_of_row w g k _ 32 (0, 0) hg]
    have e : (rowVs r c fs)[k]? = some (.slice (some ⟨r k, 0, none⟩) (fs.getD k []).length (c k)) := by
      unfold rowVs
      rw [List.getElem?_map, List.getElem?_range hk]
      rfl
    rw [← e, ← ht, List.getElem?_take_of_lt (by omega)]
    simp
theorem sames (bs : List UInt8) : (bs == bs) = true := beq_self_eq_true _
theorem eq_same {w : World} {A B : Option Addr} {c d : Nat} {bs : List UInt8} (hx : Bys w A bs) (hy : Bys w B bs) (hm : bs.length ≤ 4096) : Calls Try.prog 20 #[.slice A bs.length c, .slice B bs.length d] w (Yes0 w) := by
  refine (eq04_any A B c d bs bs w hx hy (by unfold maxLen; omega) (by unfold maxLen; omega)).mono fun e w' h => ?_
  rw [sames] at h
  exact h
theorem framesEq_same {w : World} {A B : Option Addr} {c d : Nat} {bs : List UInt8} (hx : Fr w A [bs]) (hy : Fr w B [bs]) (hm : bs.length ≤ 4096) : Calls Try.prog 23 #[.slice A 1 c, .slice B 1 d] w (Yes0 w) := by
  have hb : ∀ k, k < [bs].length → ([bs].getD k []).length ≤ maxLen := fun k hk => by
    obtain rfl : k = 0 := by have : k < 1 := hk; omega
    have : ([bs].getD 0 []).length = bs.length := rfl
    unfold maxLen
    omega
  refine (framesEq_any A B c d [bs] [bs] w hx hy (show 1 ≤ 1000000 by omega) (show 1 ≤ 1000000 by omega) hb hb).mono fun e w' h => ?_
  rw [beq_self_eq_true] at h
  exact h

def Yes (w : World) (e : Ending) (w' : World) : Prop := e = .returned (.bool true) ∧ Below w.heap.size w w'

set_option maxHeartbeats 6400000 in
set_option maxRecDepth 100000 in
theorem walk (A : Option Addr) (c : Nat) (bs : List UInt8) (w : World) (hb : Bys w A bs) (hm : bs.length ≤ maxLen) (hcap : bs.length ≤ c) :
    Calls Try.prog 4 #[.slice A bs.length c] w (Yes w) := by
  obtain ⟨xs, hxs⟩ : ∃ xs, xs = bs.take 10 := ⟨_, rfl⟩
  have HBx : Bys w A xs := by rw [hxs]; exact bys_take hb 10
  have hxl : xs.length = min 10 bs.length := by rw [hxs, List.length_take]
  have hxl2 : xs.length ≤ 10 := by omega
  have HB5 := hide (HBx.alloc (.cells #[.int .u8 5] 5))
  have HO5 : Hid (OwnG (w.alloc (.cells #[.int .u8 5] 5)) w.heap.size 1 [5]) := OwnG.new w [5] (by decide)
  have hcut : (10 < bs.length ∧ 10 = xs.length) ∨ (bs.length ≤ 10 ∧ bs.length = xs.length) := by omega
  obtain ⟨n, hn⟩ : ∃ n, n = bs.length := ⟨_, rfl⟩
  rw [← hn] at hm hcut hcap ⊢
  unfold maxLen at hm
  clear hb hn hxl HBx hxs
  go_enter Try.func4, Try.ntmps4
  go_upto_region 1 with fail
  go_cut [0] (fun v wx => ∃ g cap, v = .slice (some ⟨g, 0, none⟩) ([5] ++ xs).length cap ∧ w.heap.size ≤ g ∧ Hid (OwnG wx g cap ([5] ++ xs)) ∧ Hid (Below w.heap.size w wx))
  case first =>
    rcases hcut with ⟨h10, hxe⟩ | ⟨h10, hxe⟩
    · have h10' : (10 : Int) < (n : Int) := by omega
      have HE := hide hxe
      clear hxe
      go_wp2_with (at_builtin; refine wpList_append_bytes rfl _ _ rfl HO5.out (by decide) A c xs rfl (by rw [← HE.out]; rfl) HB5.out (by simp; omega) ?_; intro g cap w1 ho hg hd; have HO := hide ho; have HG := hide hg; have hd := hd; clear ho hg)
      go_meet
      refine ⟨g, cap, rfl, ?_, HO, ((Below.refl _ _).alloc (Nat.le_refl _) _).grown HG.out (by simp) (fun k hk => by injection hk with hk; omega)⟩
      rcases hd with rfl | hd
      · exact Nat.le_refl _
      · simp at hd; omega
    · obtain rfl := hxe
      go_wp2_with (at_builtin; refine wpList_append_bytes rfl _ _ rfl HO5.out (by decide) A c xs rfl rfl HB5.out (by simp; omega) ?_; intro g cap w1 ho hg hd; have HO := hide ho; have HG := hide hg; have hd := hd; clear ho hg)
      go_meet
      refine ⟨g, cap, rfl, ?_, HO, ((Below.refl _ _).alloc (Nat.le_refl _) _).grown HG.out (by simp) (fun k hk => by injection hk with hk; omega)⟩
      rcases hd with rfl | hd
      · exact Nat.le_refl _
      · simp at hd; omega
  case rest =>
    obtain ⟨g, cap, rfl, hgw, HO1, HB1⟩ := hcut
    obtain ⟨bb, hbb⟩ : ∃ bb, bb = [5] ++ xs := ⟨_, rfl⟩
    rw [← hbb] at HO1
    have hlb : bb.length = 1 + xs.length := by rw [hbb]; simp; omega
    have hbl : bb.length ≤ 4096 := by omega
    have hbp : 0 < bb.length := by omega
    have h50 : bb.getD 0 0 = 5 := by rw [hbb]; rfl
    have H50 := hide h50
    have HBB := hide hbb
    rw [← HBB.out]
    have HBY1 := hide HO1.out.row.bys
    have hcp := HO1.out.room
    have hgl := HO1.out.lt
    clear hbb hlb h50 HB5 HO5
    go_wp2_with (at_builtin; refine wpList_append_copy rfl _ _ rfl none (some ⟨g, 0, none⟩) cap bb rfl rfl HBY1.out (by omega) ?_; intro D d w2 hD hB2; have HD2 := hide hD; have HB2 := hide hB2; clear hD hB2)
    refine (newsender_one (HBY1.out.below HB2.out) hcp hbl).mono ?_
    rintro e w3 ⟨s, rfl, hs1, hB3, hS3⟩
    obtain ⟨n2, hn2⟩ : ∃ n2, n2 = w2.heap.size := ⟨_, rfl⟩
    have hwc2 : wc.heap.size ≤ n2 := by rw [hn2]; exact HB2.out.size
    have HB3 : Hid (Below n2 w2 w3) := by rw [hn2]; exact ((Below.refl _ _).alloc (Nat.le_refl _) _).trans (hB3.mono (by simp))
    have HS3 : Hid (Snd 64 (fun i => n2 < i ∧ i < w3.heap.size) w3 s [bb] 2 0 0) := hS3.mono (fun i hi => ⟨by have := hi.1; simp at this; omega, hi.2⟩) (fun i hi => hi.2)
    have HD3 : Hid (BysIn (fun i => wc.heap.size ≤ i ∧ i < n2) w3 D bb) := (HD2.out.bysIn.mono (fun i hi => ⟨hi.1, by omega⟩)).agree (Agree.of_below HB3.out (fun i hi => hi.2))
    have HL3 : Hid (Below w.heap.size w w3) := (HB1.out.trans (HB2.out.mono HB1.out.size)).trans (HB3.out.mono (by have := HB1.out.size; omega))
    have HR3 : Hid (Row w3 g bb) := (HO1.out.row.kept HB2.out).below HB3.out (by omega)
    have hdd := HD2.out.1
    have hs1 := HS3.out.mem
    have hn3 : n2 ≤ w3.heap.size := by omega
    clear hB3 hS3 hs1 hn2 HD2 HB2 HBY1 HO1 HB1
    go_wp2_with fail
    refine (newreceiver_two _).mono ?_
    rintro e w4 ⟨r, rfl, hr1, hB4, hR4⟩
    have hs1 := HS3.out.mem
    have HS4 := hide (HS3.out.kept hB4)
    have HD4 := hide (HD3.out.agree (Agree.of_below hB4 (fun i hi => by omega)))
    have HL4 := hide (HL3.out.trans (hB4.mono HL3.out.size))
    have HW4 := hide (HR3.out.kept hB4)
    have HR4 := hide hR4
    have hn4 := hB4.size
    have r0 : w4.cell? ⟨g, 0, none⟩ = some (.int .u8 5) := by
      have h := HW4.out.cell (k := 0) hbp
      rw [H50.out] at h
      exact h
    have f0 := HW4.out.frozen 0
    clear hB4 hR4
    have hi0 : (0 : Int) < (bb.length : Int) := by omega
    go_upto_region 8 with fail
    obtain ⟨w5, hw5⟩ : ∃ w5, w5 = w4.setCell ⟨g, 0, none⟩ (.int .u8 6) := ⟨_, rfl⟩
    have hc5 : Chg (fun i => i = g) w4 w5 := by rw [hw5]; exact Chg.set1 _ _ _ _
    have HS5 := hide (HS4.out.chg hc5 (fun i hi e => by omega))
    have HD5 := hide (HD4.out.agree (Agree.of_chg hc5 (fun i hi => by omega) (fun i hi e => by omega)))
    have HR5 := hide (HR4.out.chg hc5 (fun i hi e => by omega))
    have HL5 : Hid (Below w.heap.size w w5) := HL4.out.trans (hc5.below (fun i hi e => by omega) HL4.out.size)
    have hn5 := hc5.size
    rw [← hw5]
    clear hw5 hc5 r0 f0
    go_wp2_with fail
    refine (next_one HS5.out hbl (by decide)).mono ?_
    rintro e w6 ⟨D7, d7, rfl, hD7, hC6, hS6⟩
    obtain ⟨g7, rfl, hg7, hg7l, hrow7⟩ := hD7.2 hbp
    have hd7 := hD7.1
    obtain ⟨v6, hv6⟩ : ∃ v6, v6 = w6.alloc (.cells #[.bool false, .int .i64 0, .bool true, .slice (some ⟨g7, 0, none⟩) bb.length d7] 34) := ⟨_, rfl⟩
    have hq6 : Below w6.heap.size w6 v6 := by rw [hv6]; exact (Below.refl _ _).alloc (Nat.le_refl _) _
    have HM6 : Hid (Box v6 w6.heap.size 34 #[.bool false, .int .i64 0, .bool true, .slice (some ⟨g7, 0, none⟩) bb.length d7]) := by rw [hv6]; exact Box.new _ _ _
    have HS6 := hide (hS6.kept hq6)
    have HD6 := hide ((HD5.out.agree (Agree.of_chg hC6 (fun i hi => by omega) (fun i hi e => by omega))).agree (Agree.of_below hq6 (fun i hi => by have := hC6.size; omega)))
    have HR6 := hide ((HR5.out.chg hC6 (fun i hi e => by omega)).kept hq6)
    have HW6 := hide (hrow7.kept hq6)
    have HL6 : Hid (Below w.heap.size w v6) := (HL5.out.trans (hC6.below (fun i hi e => by omega) HL5.out.size)).trans (hq6.mono (by have := hC6.size; have := HL5.out.size; omega))
    have hn6 : w5.heap.size ≤ w6.heap.size := hC6.size
    have hn6' : w6.heap.size ≤ v6.heap.size := hq6.size
    have HV6 := hide hv6
    have m3 : v6.cell? ⟨w6.heap.size, 3, none⟩ = some (.slice (some ⟨g7, 0, none⟩) bb.length d7) := HM6.out.cell 3
    clear hD7 hC6 hS6 hq6 hrow7 hv6
    go_upto_region 9 with fail
    rw [← HV6.out]
    go_wp2_with fail
    refine (eq_same HW6.out.bys (HD6.out.bys (fun i hi => by omega)) hbl).mono ?_
    rintro e w7 ⟨rfl, hB7⟩
    have HS7 := hide (HS6.out.kept hB7)
    have HD7 := hide (HD6.out.agree (Agree.of_below hB7 (fun i hi => by omega)))
    have HR7 := hide (HR6.out.kept hB7)
    have HW7 := hide (HW6.out.kept hB7)
    have HM7 := hide (HM6.out.kept hB7)
    have HL7 : Hid (Below w.heap.size w w7) := HL6.out.trans (hB7.mono HL6.out.size)
    have hn7 := hB7.size
    have m0 : w7.cell? ⟨w6.heap.size, 0, none⟩ = some (.bool false) := HM7.out.cell 0
    have m1 : w7.cell? ⟨w6.heap.size, 1, none⟩ = some (.int .i64 0) := HM7.out.cell 1
    have m2 : w7.cell? ⟨w6.heap.size, 2, none⟩ = some (.bool true) := HM7.out.cell 2
    have m3 : w7.cell? ⟨w6.heap.size, 3, none⟩ = some (.slice (some ⟨g7, 0, none⟩) bb.length d7) := HM7.out.cell 3
    clear hB7
    go_wp2_with fail
    refine (receive_one HR7.out (some ⟨g7, 0, none⟩) d7 HW7.out.bys hbl).mono ?_
    rintro e w8 ⟨rfl, F8, hR8, hF8, hC8⟩
    have HS8 := hide (HS7.out.chg hC8 (fun i hi e => by omega))
    have HD8 := hide (HD7.out.agree (Agree.of_chg hC8 (fun i hi => by omega) (fun i hi e => by omega)))
    have HR8 := hide hR8
    have hF8' : Hid (∀ i, F8 i → (w3.heap.size ≤ i ∧ i < w4.heap.size) ∨ w7.heap.size ≤ i) := fun i hi => hF8 i hi
    have HW8 := hide (HW7.out.agree (F := fun i => i = g7) (Agree.of_chg hC8 (fun i (hi : i = g7) => by omega) (fun i (hi : i = g7) e => by omega)) rfl)
    have HM8 := hide (HM7.out.agree (F := fun i => i = w6.heap.size) (Agree.of_chg hC8 (fun i (hi : i = w6.heap.size) => by have := HM7.out.lt; omega) (fun i (hi : i = w6.heap.size) e => by omega)) rfl)
    have HL8 : Hid (Below w.heap.size w w8) := HL7.out.trans (hC8.below (fun i hi e => by have := HL3.out.size; omega) HL7.out.size)
    have hn8 := hC8.size
    have r0 : w8.cell? ⟨g7, 0, none⟩ = some (.int .u8 5) := by
      have h := HW8.out.cell (k := 0) hbp
      rw [H50.out] at h
      exact h
    have f0 := HW8.out.frozen 0
    have m3' : w8.cell? ⟨w6.heap.size, 3, none⟩ = some (.slice (some ⟨g7, 0, none⟩) bb.length d7) := HM8.out.cell 3
    clear hR8 hF8 hC8 m0 m1 m2 m3
    go_upto_region 13 with fail
    obtain ⟨w9, hw9⟩ : ∃ w9, w9 = w8.setCell ⟨g7, 0, none⟩ (.int .u8 6) := ⟨_, rfl⟩
    have hc9 : Chg (fun i => i = g7) w8 w9 := by rw [hw9]; exact Chg.set1 _ _ _ _
    have HS9 := hide (HS8.out.chg hc9 (fun i hi e => by omega))
    have HD9 := hide (HD8.out.agree (Agree.of_chg hc9 (fun i hi => by omega) (fun i hi e => by omega)))
    have HR9 := hide (HR8.out.chg hc9 (fun i hi e => by have := hF8'.out i hi; omega))
    have HL9 : Hid (Below w.heap.size w w9) := HL8.out.trans (hc9.below (fun i hi e => by have := HL3.out.size; omega) HL8.out.size)
    have hn9 := hc9.size
    rw [← hw9]
    clear hw9 hc9 r0 f0 m3'
    go_wp2_with fail
    refine (frames_one HR9.out hbl).mono ?_
    rintro e w10 ⟨v10, r10, c10, rfl, hO10, hB10⟩
    obtain ⟨ga, ca, rfl, ka, hga, hgal, hrow, hr10, hne⟩ := Own.at_ hO10 (k := 0) (by simp)
    have hFr10 : Fr w10 (some ⟨ga, 0, none⟩) [bb] := by
      obtain ⟨A9, c9, e9, _, hfr⟩ := hO10.frIn
      injection e9 with e9
      rw [e9]
      exact hfr.fr (fun i hi => hi.2)
    have HFr10 := hide hFr10
    have HS10 := hide (HS9.out.kept hB10)
    have HD10 := hide (HD9.out.agree (Agree.of_below hB10 (fun i hi => by omega)))
    have HR10 := hide (HR9.out.kept hB10)
    have HL10 : Hid (Below w.heap.size w w10) := HL9.out.trans (hB10.mono HL9.out.size)
    have hn10 := hB10.size
    have HW10 : Hid (Row w10 (r10 0) bb) := hrow
    have ka' : w10.cell? ⟨ga, 0, none⟩ = some (.slice (some ⟨r10 0, 0, none⟩) bb.length (c10 0)) := ka
    obtain ⟨q10, hq10⟩ : ∃ q, q = r10 0 := ⟨_, rfl⟩
    rw [← hq10] at HW10 ka' hr10 hne
    have HKA := hide ka'
    clear hO10 hB10 hFr10 hrow ka ka' hq10
    go_wp2_with fail
    refine (framesEq_same (bs := bb) (HFr10.out.below ((Below.refl _ _).alloc (Nat.le_refl _) _)) (fr_one (HD10.out.bys (fun i hi => by omega)) hdd) hbl).mono ?_
    rintro e w11 ⟨rfl, hB11⟩
    have hB11 : Below w10.heap.size w10 w11 := ((Below.refl _ _).alloc (Nat.le_refl _) _).trans (hB11.mono (by simp))
    have HS11 := hide (HS10.out.kept hB11)
    have HD11 := hide (HD10.out.agree (Agree.of_below hB11 (fun i hi => by omega)))
    have HR11 := hide (HR10.out.kept hB11)
    have HW11 := hide (HW10.out.kept hB11)
    have HL11 : Hid (Below w.heap.size w w11) := HL10.out.trans (hB11.mono HL10.out.size)
    have hn11 := hB11.size
    have ka : w11.cell? ⟨ga, 0, none⟩ = some (.slice (some ⟨q10, 0, none⟩) bb.length (c10 0)) := (hB11.cell (p := ⟨ga, 0, none⟩) hgal).trans HKA.out
    have r0 : w11.cell? ⟨q10, 0, none⟩ = some (.int .u8 5) := by
      have h := HW11.out.cell (k := 0) hbp
      rw [H50.out] at h
      exact h
    have f0 := HW11.out.frozen 0
    have hq10 := HW10.out.lt
    clear hB11
    go_upto_region 17 with fail
    obtain ⟨w12, hw12⟩ : ∃ w12, w12 = w11.setCell ⟨q10, 0, none⟩ (.int .u8 6) := ⟨_, rfl⟩
    have hc12 : Chg (fun i => i = q10) w11 w12 := by rw [hw12]; exact Chg.set1 _ _ _ _
    have HS12 := hide (HS11.out.chg hc12 (fun i hi e => by omega))
    have HD12 := hide (HD11.out.agree (Agree.of_chg hc12 (fun i hi => by omega) (fun i hi e => by omega)))
    have HR12 := hide (HR11.out.chg hc12 (fun i hi e => by have := HR9.out.lt i hi; omega))
    have HL12 : Hid (Below w.heap.size w w12) := HL11.out.trans (hc12.below (fun i hi e => by have := HL3.out.size; omega) HL11.out.size)
    have hn12 := hc12.size
    rw [← hw12]
    clear hw12 hc12 r0 f0 ka
    go_wp2_with fail
    refine (next_one HS12.out hbl (by decide)).mono ?_
    rintro e w13 ⟨D13, d13, rfl, hD13, hC13, hS13⟩
    obtain ⟨v13, hv13⟩ : ∃ v13, v13 = w13.alloc (.cells #[.bool false, .int .i64 0, .bool true, .slice D13 bb.length d13] 34) := ⟨_, rfl⟩
    have hq13 : Below w13.heap.size w13 v13 := by rw [hv13]; exact (Below.refl _ _).alloc (Nat.le_refl _) _
    have HM13 : Hid (Box v13 w13.heap.size 34 #[.bool false, .int .i64 0, .bool true, .slice D13 bb.length d13]) := by rw [hv13]; exact Box.new _ _ _
    have HD13 := hide ((HD12.out.agree (Agree.of_chg hC13 (fun i hi => by omega) (fun i hi e => by omega))).agree (Agree.of_below hq13 (fun i hi => by have := hC13.size; omega)))
    have HR13 := hide ((HR12.out.chg hC13 (fun i hi e => by have := hF8'.out i hi; omega)).kept hq13)
    have HN13 := hide (hD13.bys.below hq13)
    have HL13 : Hid (Below w.heap.size w v13) := (HL12.out.trans (hC13.below (fun i hi e => by have := HL3.out.size; omega) HL12.out.size)).trans (hq13.mono (by have := hC13.size; have := HL12.out.size; omega))
    have hn13 : w12.heap.size ≤ v13.heap.size := Nat.le_trans hC13.size hq13.size
    have HV13 := hide hv13
    clear hD13 hC13 hS13 hq13 hv13
    go_upto_region 18 with fail
    rw [← HV13.out]
    go_wp2_with fail
    refine (awake_any _).mono ?_
    rintro e w14 ⟨rfl, hB14⟩
    have HD14 := hide (HD13.out.agree (Agree.of_below hB14 (fun i hi => by omega)))
    have HR14 := hide (HR13.out.kept hB14)
    have HN14 := hide (HN13.out.below hB14)
    have HM14 := hide (HM13.out.kept hB14)
    have HL14 : Hid (Below w.heap.size w w14) := HL13.out.trans (hB14.mono HL13.out.size)
    have hn14 := hB14.size
    have m3 : w14.cell? ⟨w13.heap.size, 3, none⟩ = some (.slice D13 bb.length d13) := HM14.out.cell 3
    clear hB14
    go_wp2_with fail
    refine (eq_same HN14.out (HD14.out.bys (fun i hi => by omega)) hbl).mono ?_
    rintro e w15 ⟨rfl, hB15⟩
    have HD15 := hide (HD14.out.agree (Agree.of_below hB15 (fun i hi => by omega)))
    have HR15 := hide (HR14.out.kept hB15)
    have HL15 : Hid (Below w.heap.size w w15) := HL14.out.trans (hB15.mono HL14.out.size)
    have hn15 := hB15.size
    clear hB15 m3
    go_wp2_with fail
    refine (frames_one HR15.out hbl).mono ?_
    rintro e w16 ⟨v16, r16, c16, rfl, hO16, hB16⟩
    obtain ⟨A16, cc16, rfl, _, hfr16⟩ := hO16.frIn
    have HFr16 := hide (hfr16.fr (fun i hi => hi.2))
    have HD16 := hide (HD15.out.agree (Agree.of_below hB16 (fun i hi => by omega)))
    have HL16 : Hid (Below w.heap.size w w16) := HL15.out.trans (hB16.mono HL15.out.size)
    have hn16 := hB16.size
    clear hO16 hB16 hfr16
    go_wp2_with fail
    refine (framesEq_same (bs := bb) (HFr16.out.below ((Below.refl _ _).alloc (Nat.le_refl _) _)) (fr_one (HD16.out.bys (fun i hi => by omega)) hdd) hbl).mono ?_
    rintro e w17 ⟨rfl, hB17⟩
    have HL17 : Hid (Below w.heap.size w w17) := HL16.out.trans ((((Below.refl _ _).alloc (Nat.le_refl _) _).trans (hB17.mono (by simp))).mono HL16.out.size)
    clear hB17
    go_wp2_with fail
    go_ret
    exact ⟨rfl, HL17.out⟩

set_option maxRecDepth 100000 in
theorem lifted (os : Os) (started : os.Started) (H : Type) (enc : TypeId × Value → H) :
    ReturnsInHanded {} Try.checked os 4 .any (Rows.linkOwnSpec.pre6 enc Try.prog Try.f4 Rows.linkOwnRow.domain false) (Rows.linkOwnSpec.post enc Try.prog Try.f4 false true false false) := by
  refine returnsInHanded_of_change (C := Try.checked) own started (by kernel_rfl) Try.func4
    (ChangeSpec.witness6 (enc := enc) (C := Try.checked) false ⟨#[], #[.slice none 0 0], []⟩ 8 (by kernel_rfl) (by kernel_rfl) (by kernel_rfl) (by kernel_rfl)) ?_
  intro W base args ds gs before hval0 hW hcnd _
  have hval : ∀ (j : Nat) t v, Try.f4.params[j]? = some t → args[j]? = some v → Value.okWide Try.prog W .any base t v := hval0
  have hW' := hW
  obtain ⟨p, q, hA0, hV, rfl, hfz, hnd⟩ := hW
  have hA : DataW.TrodAll enc Try.prog W 0 (fun _ => true) true Try.f4.params.toList args.toList ds p := hA0
  rw [Try.params4] at hA hval
  obtain ⟨v0, vs0, d0, ds0, p0, q0, hargs, rfl, rfl, h0, r0⟩ := trodAll_cons hA
  obtain ⟨rfl, rfl, rfl⟩ := trodAll_nil r0
  obtain rfl : args = #[v0] := by cases args; simp_all
  obtain ⟨A0, c0, bs0, rfl, hb0, hm0, hcp0⟩ := open_bytes_arg (hval 0 32 v0 rfl rfl) h0
  refine (walk A0 c0 bs0 W hb0 hm0 hcp0).mono fun e W' ⟨he, hb⟩ => ?_
  subst he
  exact ⟨_, rfl, post_law hW' rfl hb (by rw [Try.params4]; exact params_ok (by kernel_rfl)) rfl rfl⟩

theorem over : Rows.linkOwnRow.holds Try.pinned (OpenSpec.ofChange Rows.linkOwnSpec) :=
  OpenClaim.holds_of_wide 4 Try.f4 rfl rfl rfl rfl rfl rfl rfl ⟨rfl, rfl, rfl, rfl, rfl⟩ rfl rfl rfl rfl rfl (by kernel_rfl) Try.func4 (by kernel_rfl)
    (of_decide_eq_true (by kernel_rfl)) (by unfold Func.isWrapper; first | (rw [if_pos (by decide +kernel)]; kernel_rfl) | (rw [if_neg (by decide +kernel)]; exact ⟨rfl, rfl⟩))
    (fun os started H enc _ => lifted os started H enc)

theorem proved : Rows.LinkOwnSaid := over
end Go.Proofs.Ythhelhggggbaiaa.lawOwn
