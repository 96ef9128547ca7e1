/-
  A network plays its steps.
-/
import Derived.Test.YthhelhggggbaiaaNetC
import Derived.Deep.DeepCutAuto
import Derived.Deep.CutRange
import Derived.Deep.RegionHeld3
import Derived.Deep.CutBlock
namespace Go.Proofs.Ythhelhggggbaiaa
open Go.ChangeShapes Go.WideShapes Go.ChangeAt Go.RowKit
set_option linter.unusedVariables false
set_option linter.unusedSimpArgs false

def NetPost (w : World) (fs : List (List UInt8)) (W : Nat) (e : Ending) (w' : World) : Prop :=
  ∃ (s r ka kr : Nat) (v : Value), e = .returned (.tuple #[.pointer (some ⟨s, 0, none⟩), .pointer (some ⟨r, 0, none⟩), .bool true]) ∧ kr ≤ 100 ∧ Net w s r W fs ka kr v w'
theorem net_start {w w1 w2 : World} {s r W : Nat} {fs : List (List UInt8)} (h1 : w.heap.size ≤ s) (hb1 : Below w.heap.size w w1) (hs : Snd 64 (fun i => w.heap.size ≤ i ∧ i < w1.heap.size) w1 s fs W 0 0)
    (hb2 : Below w1.heap.size w1 w2) (hr : Rcv (fun i => w1.heap.size ≤ i ∧ i < w2.heap.size) w2 r W [] (fun _ => none) (-1) 0) : Net w s r W fs 0 0 (.slice none 0 0) w2 := by
  have hz := hb1.size
  refine ⟨0, 0, HA, 0, -1, 0, _, _, (fun _ => False), [], _, _, { snd := hs.kept hb2, rcv := (by rw [gotsA, earlyA]; exact hr), own := OwnMs.nil _ _, lt := fun i hi => hi.elim, d1 := fun i hi e => (by omega), d2 := fun i hi e => e.elim, d3 := fun i hi e => e.elim, f1 := fun i hi => hi.1, f2 := fun i hi => (by omega), f3 := fun i hi => hi.elim, below := hb1.trans (hb2.mono hz), got := gotP_start, bg := Nat.le_refl _, nx := Nat.zero_le _, good := fun j hj => absurd hj (by simp), len := Nat.le_refl _, nr := Nat.le_refl _ }⟩

theorem four_new (v : World) (t : TypeId) (a b c d : Value) : ∀ j u, [a, b, c, d][j]? = some u → (v.alloc (.cells #[a, b, c, d] t)).cell? ((⟨v.heap.size, 0, none⟩ : Addr).add j) = some u := fun j u hj => by
  rw [add_plain, Nat.zero_add, Box.cell (Box.new v t #[a, b, c, d]) j, ← hj]
  simp
theorem four_one (a : Bool) (b : Int) (c : Bool) (D : Option Addr) (n d : Nat) : ∀ u ∈ ([.bool a, .int .i64 b, .bool c, .slice D n d] : List Value), u.oneCell' = true := fun u hu => by
  simp at hu
  rcases hu with rfl | rfl | rfl | rfl <;> rfl

theorem Fr.take {w : World} {A : Option Addr} {fs : List (List UInt8)} (h : Fr w A fs) (g : Nat) : Fr w A (fs.take g) := fun hp => by
  rw [List.length_take] at hp
  obtain ⟨b, off, e, hb, hc⟩ := h (by omega)
  refine ⟨b, off, e, hb, fun k hk => ?_⟩
  rw [List.length_take] at hk
  obtain ⟨Ak, ck, h1⟩ := hc k (by omega)
  have e2 : (fs.take g).getD k [] = fs.getD k [] := by
    rw [List.getD_eq_getElem?_getD, List.getD_eq_getElem?_getD, List.getElem?_take_of_lt (by omega)]
  rw [e2]
  exact ⟨Ak, ck, h1⟩
theorem take_bd {fs : List (List UInt8)} {g B : Nat} (h : ∀ k, k < fs.length → (fs.getD k []).length ≤ B) : ∀ k, k < (fs.take g).length → ((fs.take g).getD k []).length ≤ B := fun k hk => by
  rw [List.length_take] at hk
  rw [List.getD_eq_getElem?_getD, List.getElem?_take_of_lt (by omega), ← List.getD_eq_getElem?_getD]
  exact h k (by omega)
theorem framesEq_same {w : World} {A B : Option Addr} {c d : Nat} {fs : List (List UInt8)} (hx : Fr w A fs) (hy : Fr w B fs) {n : Nat} (hl : fs.length = n) (hm : n ≤ 1000) (hb : ∀ k, k < fs.length → (fs.getD k []).length ≤ 10) :
    Calls Try.prog 23 #[.slice A n c, .slice B n d] w (YesB w) := by
  subst hl
  refine (framesEq_any A B c d fs fs w hx hy (by omega) (by omega) (fun k hk => by have := hb k hk; unfold maxLen; omega) (fun k hk => by have := hb k hk; unfold maxLen; omega)).mono fun e w' h => ?_
  rw [beq_self_eq_true] at h
  exact h

set_option maxHeartbeats 6400000 in
set_option maxRecDepth 100000 in
theorem network_any (A : Option Addr) (c : Nat) (fs : List (List UInt8)) (W : Nat) (B : Option Addr) (cs : Nat) (xs : List Stp) (w : World) (hf : Fr w A fs) (hF : NetF fs W) (hcc : fs.length ≤ c) (hst : StIn w B xs) (hxl : xs.length ≤ maxLen) (hxb : ∀ k, k < xs.length → InR (xs.getD k zeroS).kind ∧ InR (xs.getD k zeroS).num) :
    Calls Try.prog 28 #[.slice A fs.length c, .int .i64 (W : Int), .slice B xs.length cs] w (NetPost w fs W) := by
  obtain ⟨fb, fo, rfl, _, _⟩ := id hf (by have := hF.l1; omega)
  have HF := hide hf
  have HNF := hide hF
  have HST := hide hst
  have HXB := hide hxb
  have hl1 := hF.l1
  have hl8 := hF.l8
  have hw1 := hF.w1
  have hw8 := hF.w8
  have HBD := hide hF.bd
  unfold maxLen at hxl
  clear hf hF hst hxb
  go_enter Try.func28, Try.ntmps28
  go_wp2_with fail
  refine (newsender_ok (some ⟨fb, fo, none⟩) c fs W w HF.out hl1 (by omega) (fun k hk => Nat.le_trans (HBD.out k hk) (by decide)) hw1 hw8).mono ?_
  rintro e w1 ⟨s, rfl, hs1, hB1, hS1⟩
  have HB1 := hide hB1
  have HS1 := hide hS1
  clear hB1 hS1
  go_wp2_with fail
  refine (newreceiver_ok W w1 hw1 hw8).mono ?_
  rintro e w2 ⟨r, rfl, hr1, hB2, hR2⟩
  have HNS : Hid (Net w s r W fs 0 0 (.slice none 0 0) w2) := net_start hs1 HB1.out HS1.out hB2 hR2
  clear hB2 hR2 HB1 HS1 hs1 hr1
  go_wp2_with fail
  go_loopw [13, 14] (fun v i wr => ∃ k : Nat, k ≤ 60 ∧ i = .int .i64 k ∧ Hid (Net w s r W fs k k v wr)) (fun v i wr => 60 - (intOf i).toNat)
  case atStart => exact ⟨0, Nat.zero_le _, rfl, HNS⟩
  case round =>
    clear HNS
    obtain ⟨k, hk, rfl, hN⟩ := hrel
    by_cases hkk : k < xs.length ∧ k < 60
    · obtain ⟨hlt, h30⟩ := hkk
      have hB := hN.out.below
      obtain ⟨xb, xo, rfl, hxb, hxc⟩ := HST.out.kept hB (by omega)
      obtain ⟨xk, hxk⟩ : ∃ xk, xk = xs.getD k zeroS := ⟨_, rfl⟩
      have hxx := HXB.out k hlt
      have hxd := hxc k hlt
      rw [← hxk] at hxx hxd
      obtain ⟨y0, y1, y2⟩ := hxd
      obtain ⟨hx1, hx2⟩ := hxx
      unfold InR at hx1 hx2
      have HB := hide hB
      have hi0 : (0 : Int) ≤ (k : Int) := by omega
      have hi1 : (k : Int) < (xs.length : Int) := by omega
      clear hxk hB hxc
      go_upto_region 10 with fail
      obtain ⟨v0, hv0⟩ : ∃ v0, v0 = wr.alloc (.cells #[.int .i64 xk.kind, .int .i64 xk.num, .bool xk.twice] 73) := ⟨_, rfl⟩
      have hq0 : Below wr.heap.size wr v0 := by rw [hv0]; exact (Below.refl _ _).alloc (Nat.le_refl _) _
      have HX0 : Hid (Box v0 wr.heap.size 73 #[.int .i64 xk.kind, .int .i64 xk.num, .bool xk.twice]) := by rw [hv0]; exact Box.new _ _ _
      have HN0 := hide (hN.out.kept hq0)
      rw [← hv0]
      have x0 : v0.cell? ⟨wr.heap.size, 0, none⟩ = some (.int .i64 xk.kind) := HX0.out.cell 0
      obtain ⟨px, hpx⟩ : ∃ px, px = wr.heap.size := ⟨_, rfl⟩
      rw [← hpx] at HX0 x0
      rw [← hpx]
      have HPX := hide hpx
      clear hq0 hv0 y0 y1 y2 hN hpx
      by_cases hk0 : xk.kind = 0
      · have tk : (xk.kind == 0) = true := by rw [hk0]; rfl
        go_wp2_with fail
        refine (net_next HNF.out HN0.out).mono ?_
        rintro e w3 ⟨m, ok, D, d, rfl, hN3, hM3⟩
        obtain ⟨v3, hv3⟩ : ∃ v3, v3 = w3.alloc (.cells #[.bool m.ack, .int .i64 m.num, .bool m.last, .slice D m.data.length d] 34) := ⟨_, rfl⟩
        have hq3 : Below w3.heap.size w3 v3 := by rw [hv3]; exact (Below.refl _ _).alloc (Nat.le_refl _) _
        have HZ3 : Hid (Box v3 w3.heap.size 34 #[.bool m.ack, .int .i64 m.num, .bool m.last, .slice D m.data.length d]) := by rw [hv3]; exact Box.new _ _ _
        have HN3 := hide (hN3.kept hq3)
        cases ok with
        | false =>
          clear hM3
          go_upto_region 12 with fail
          rw [← hv3]
          clear hv3 hq3 hN3
          go_wp2_with fail
          go_roundw
          case rel => exact ⟨k + 1, by omega, by go_num, HN3.out.more (by omega) (by omega)⟩
          case measure => simp [intOf]; omega
        | true =>
          have HM3 := hide ((hM3 rfl).kept hq3)
          obtain ⟨O, hO⟩ : ∃ O, O = Obj.cells #[.bool m.ack, .int .i64 m.num, .bool m.last, .slice D m.data.length d] 34 := ⟨_, rfl⟩
          have HM4 := hide (HM3.out.kept ((Below.refl _ _).alloc (Nat.le_refl _) O))
          obtain ⟨n, zs, hn, how, hvb, hput⟩ := HM4.out.row
          rw [hO] at how hvb hput
          have HOW := hide how
          have HPUT := hide hput
          clear hM3 HM3 HM4 how hvb hput hO O
          go_upto_region 12 with fail
          rw [← hv3]
          have z0 : v3.cell? ⟨w3.heap.size, 0, none⟩ = some (.bool m.ack) := HZ3.out.cell 0
          have z1 : v3.cell? ⟨w3.heap.size, 1, none⟩ = some (.int .i64 m.num) := HZ3.out.cell 1
          have z2 : v3.cell? ⟨w3.heap.size, 2, none⟩ = some (.bool m.last) := HZ3.out.cell 2
          have z3 : v3.cell? ⟨w3.heap.size, 3, none⟩ = some (.slice D m.data.length d) := HZ3.out.cell 3
          clear hv3 hq3 hN3
          obtain ⟨i0, hi, hz0, hz1, hz2⟩ := info_parts msginfo
          have hk63 : n + 1 ≤ maxLen := by unfold maxLen; omega
          go_wp2_with (at_builtin; refine wpList_append_own_at _ rfl _ _ 23 rfl 0 34 i0 (.agg #[.bool false, .int .i64 0, .bool false, .slice none 0 0]) 4 48 Try.underlying23 hi hz0 hz1 hz2 rfl (by decide) u13 n zs rfl HOW.out ⟨v3.heap.size, 0, none⟩ 1 1 [.bool m.ack, .int .i64 m.num, .bool m.last, .slice D m.data.length d] rfl rfl (four_new _ _ _ _ _ _) (four_one _ _ _ _ _ _) hk63 (by omega) (Nat.zero_le _) ?_; intro v' w5 ho hg hn' hor; have HN5 := hide (HPUT.out v' w5 ho hg hor); clear ho hg hn' hor)
          go_roundw
          case rel => exact ⟨k + 1, by omega, by go_num, HN5.out.more (by omega) (by omega)⟩
          case measure => simp [intOf]; omega
      · have tk : (xk.kind == 0) = false := beq_eq_false_iff_ne.2 hk0
        obtain ⟨n, hn, ⟨Aa, ca, rfl, hca⟩, hlist⟩ := HN0.out.list
        by_cases hn0 : n = 0
        · have tn : ((n : Int) == 0) = true := by rw [hn0]; rfl
          clear hlist
          go_wp2_with fail
          go_roundw
          case rel => exact ⟨k + 1, by omega, by go_num, HN0.out.more (by omega) (by omega)⟩
          case measure => simp [intOf]; omega
        · have tn : ((n : Int) == 0) = false := beq_eq_false_iff_ne.2 (by omega)
          obtain ⟨b, ca', zs, he, hca', hbv, hzl, hzc, hzo, hat⟩ := hlist (by omega)
          injection he with he1 he2 he3
          subst he1 he3
          clear he2
          have hm1 : -(n : Int) < xk.num.tmod (n : Int) := by
            have := Int.lt_tmod_of_pos xk.num (show (0 : Int) < (n : Int) by omega)
            omega
          have hm2 : xk.num.tmod (n : Int) < (n : Int) := Int.tmod_lt_of_pos xk.num (by omega)
          have x1 : v0.cell? ⟨px, 1, none⟩ = some (.int .i64 xk.num) := HX0.out.cell 1
          have HZC := hide hzc
          have HZO := hide hzo
          have HAT := hide hat
          clear hlist hzc hzo hat
          obtain ⟨kk, hkk, hkn⟩ : ∃ kk : Nat, (xk.num.tmod (n : Int) + (n : Int)) % (n : Int) = (kk : Int) ∧ kk < n := ⟨((xk.num.tmod (n : Int) + (n : Int)) % (n : Int)).toNat, by
            have := Int.emod_nonneg (xk.num.tmod (n : Int) + (n : Int)) (show (n : Int) ≠ 0 by omega)
            omega, by
            have h1 := Int.emod_nonneg (xk.num.tmod (n : Int) + (n : Int)) (show (n : Int) ≠ 0 by omega)
            have h2 := Int.emod_lt_of_pos (xk.num.tmod (n : Int) + (n : Int)) (show (0 : Int) < (n : Int) by omega)
            omega⟩
          have HKK := hide hkk
          clear hkk
          obtain ⟨m, D, d, z0, z1, z2, z3, hM, htake⟩ := HAT.out kk hkn
          have HM0 := hide hM
          have HTK := hide htake
          clear hM htake HAT
          have hk0i : (0 : Int) ≤ (kk : Int) := by omega
          have hk1i : (kk : Int) < (n : Int) := by omega
          go_upto_region 16 with fail
          rw [HKK.out]
          go_upto_region 17 with fail
          obtain ⟨v1, hv1⟩ : ∃ v1, v1 = v0.alloc (.cells #[.bool m.ack, .int .i64 m.num, .bool m.last, .slice D m.data.length d] 34) := ⟨_, rfl⟩
          have hq1 : Below v0.heap.size v0 v1 := by rw [hv1]; exact (Below.refl _ _).alloc (Nat.le_refl _) _
          have HP1 : Hid (Box v1 v0.heap.size 34 #[.bool m.ack, .int .i64 m.num, .bool m.last, .slice D m.data.length d]) := by rw [hv1]; exact Box.new _ _ _
          have HM1 := hide (HM0.out.kept hq1)
          have HX1 := hide (HX0.out.kept hq1)
          have HTK1 := hide (HTK.out v1 hq1)
          have HZ1 : Hid (∀ j u, (zs.take (kk * 4))[j]? = some u → v1.cell? ⟨b, 0 + j, none⟩ = some u) := fun j u hj => by
            rw [Nat.zero_add, World.cell?_of_block (hq1.block b hbv)]
            refine HZC.out j u ?_
            rcases Nat.lt_or_ge j (kk * 4) with hlt | hge
            · rwa [List.getElem?_take_of_lt hlt] at hj
            · rw [List.getElem?_eq_none (by rw [List.length_take]; omega)] at hj; cases hj
          have HZ2 : Hid (∀ j u, (zs.drop ((kk + 1) * 4))[j]? = some u → v1.cell? ⟨b, (kk + 1) * 4 + j, none⟩ = some u) := fun j u hj => by
            rw [World.cell?_of_block (hq1.block b hbv)]
            refine HZC.out _ u ?_
            rwa [List.getElem?_drop] at hj
          have HL1 : Hid ((zs.take (kk * 4)).length = kk * 4) := by rw [Hid, List.length_take]; omega
          have HL2 : Hid ((zs.drop ((kk + 1) * 4)).length = (n - (kk + 1)) * 4) := by rw [Hid, List.length_drop]; omega
          have HO1 : Hid (∀ u ∈ zs.take (kk * 4), u.oneCell' = true) := fun u hu => HZO.out u (List.mem_of_mem_take hu)
          have HO2 : Hid (∀ u ∈ zs.drop ((kk + 1) * 4), u.oneCell' = true) := fun u hu => HZO.out u (List.mem_of_mem_drop hu)
          have hbv1 : b < v1.heap.size := Nat.lt_of_lt_of_le hbv hq1.size
          rw [← hv1]
          obtain ⟨pm, hpm⟩ : ∃ pm, pm = v0.heap.size := ⟨_, rfl⟩
          rw [← hpm] at HP1
          rw [← hpm]
          have HPM := hide hpm
          clear hq1 hpm z0 z1 z2 z3 x0 x1 hv1
          have x2 : v1.cell? ⟨px, 2, none⟩ = some (.bool xk.twice) := HX1.out.cell 2
          obtain ⟨tw, htw⟩ : ∃ tw, tw = xk.twice := ⟨_, rfl⟩
          rw [← htw] at x2 HX1
          clear htw
          go_upto_if 87 with fail
          go_cut [13] from 40 to 148 (fun v wx => Hid (NetM w s r W fs k k v m D d wx) ∧ Hid (Box wx px 73 #[.int .i64 xk.kind, .int .i64 xk.num, .bool tw]) ∧ Hid (Box wx pm 34 #[.bool m.ack, .int .i64 m.num, .bool m.last, .slice D m.data.length d]))
          case first =>
            cases tw
            case true =>
              go_wp2_with fail
              go_meet
              exact ⟨HM1, HX1, HP1⟩
            case false =>
              have hka : kk ≤ ca := by omega
              have hkb : kk + 1 ≤ n := by omega
              obtain ⟨k1, hk1⟩ : ∃ k1, k1 = kk + 1 := ⟨_, rfl⟩
              have HK1 := hide hk1
              have hwr : IntKind.i64.wrap ((kk : Int) + 1) = (k1 : Int) := by rw [hk1, IntWalk.i64_in _ (by omega)]; omega
              have hki : (k1 : Int) ≤ (n : Int) := by omega
              have hkj : k1 ≤ n := by omega
              have hkl : k1 ≤ ca := by omega
              have hkp : kk ≤ k1 := by omega
              have hkm : k1 = n → n ≤ kk + 1 := by omega
              have hsum : kk + (n - (kk + 1)) = kk + (n - k1) := by omega
              have HSUM := hide hsum
              rw [hsum, ← hk1] at HTK1
              rw [← hk1] at HZ2 HL2 HO2
              clear hk1 hsum
              by_cases hcl : ca = k1
              · have HZ3 : Hid (∀ j u, (zs.drop (k1 * 4))[j]? = some u → v1.cell? ⟨b, 0 + j, none⟩ = some u) := fun j u hj => by
                  rw [List.getElem?_eq_none (by rw [HL2.out]; omega)] at hj; cases hj
                subst hcl
                have hz0 : n - ca = 0 := by omega
                rw [hz0] at HTK1 HL2
                clear hz0
                go_upto_region 18 with fail
                refine wp_region_held_drew (S := fun v => Below v1.heap.size v1 v) (by kernel_rfl) (below_drew (Below.refl _ _) _) (fun hH => ?_)
                refine wpAnyH_take (i := 0) (v := ?yv0) (by simp only [List.getElem?_toArray, List.getElem?_cons_succ, List.getElem?_cons_zero]; exact rfl) (by kernel_rfl) (by kernel_rfl) (by kernel_rfl) ?yq0 ?yy0 hH ?yr0
                case yq0 => exact fun _ _ _ h => h
                case yy0 =>
                  refine Or.inl ⟨by rfl, fun v hv => ?_⟩
                  go_simp
                  rfl
                try simp only [Act.put, List.setIfInBounds_toArray, List.set_cons_zero, List.set_cons_succ]
                refine wpAnyH_take (i := 1) (v := ?yv1) (by simp only [List.getElem?_toArray, List.getElem?_cons_succ, List.getElem?_cons_zero]; exact rfl) (by kernel_rfl) (by kernel_rfl) (by kernel_rfl) ?yq1 ?yy1 hH ?yr1
                case yq1 => exact fun _ _ _ h => h
                case yy1 =>
                  refine Or.inl ⟨by rfl, fun v hv => ?_⟩
                  go_simp
                  rfl
                try simp only [Act.put, List.setIfInBounds_toArray, List.set_cons_zero, List.set_cons_succ]
                refine wpAnyH_take (i := 2) (v := ?yv2) (by simp only [List.getElem?_toArray, List.getElem?_cons_succ, List.getElem?_cons_zero]; exact rfl) (by kernel_rfl) (by kernel_rfl) (by kernel_rfl) ?yq2 ?yy2 hH ?yr2
                case yq2 => exact fun _ _ _ h => h
                case yy2 =>
                  refine Or.inl ⟨by rfl, fun v hv => ?_⟩
                  go_simp
                  rfl
                try simp only [Act.put, List.setIfInBounds_toArray, List.set_cons_zero, List.set_cons_succ]
                refine wpAnyH_take (i := 4) (v := ?yv4) (by simp only [List.getElem?_toArray, List.getElem?_cons_succ, List.getElem?_cons_zero]; exact rfl) (by kernel_rfl) (by kernel_rfl) (by kernel_rfl) ?yq4 ?yy4 hH ?yr4
                case yq4 => exact fun _ _ _ h => h
                case yy4 =>
                  refine Or.inl ⟨by rfl, fun v hv => ?_⟩
                  go_simp
                  rfl
                try simp only [Act.put, List.setIfInBounds_toArray, List.set_cons_zero, List.set_cons_succ]
                refine wpAnyH_take (i := 5) (v := ?yv5) (by simp only [List.getElem?_toArray, List.getElem?_cons_succ, List.getElem?_cons_zero]; exact rfl) (by kernel_rfl) (by kernel_rfl) (by kernel_rfl) ?yq5 ?yy5 hH ?yr5
                case yq5 => exact fun _ _ _ h => h
                case yy5 =>
                  refine Or.inl ⟨by rfl, fun v hv => ?_⟩
                  go_simp
                  rfl
                try simp only [Act.put, List.setIfInBounds_toArray, List.set_cons_zero, List.set_cons_succ]
                refine wpAnyH_take (i := 6) (v := ?yv6) (by simp only [List.getElem?_toArray, List.getElem?_cons_succ, List.getElem?_cons_zero]; exact rfl) (by kernel_rfl) (by kernel_rfl) (by kernel_rfl) ?yq6 ?yy6 hH ?yr6
                case yq6 => exact fun _ _ _ h => h
                case yy6 =>
                  refine Or.inl ⟨by rfl, fun v hv => ?_⟩
                  go_simp
                  rfl
                try simp only [Act.put, List.setIfInBounds_toArray, List.set_cons_zero, List.set_cons_succ]
                refine wpAnyH_take (i := 7) (v := ?yv7) (by simp only [List.getElem?_toArray, List.getElem?_cons_succ, List.getElem?_cons_zero]; exact rfl) (by kernel_rfl) (by kernel_rfl) (by kernel_rfl) ?yq7 ?yy7 hH ?yr7
                case yq7 => exact fun _ _ _ h => h
                case yy7 =>
                  refine Or.inl ⟨by rfl, fun v hv => ?_⟩
                  go_simp
                  rfl
                try simp only [Act.put, List.setIfInBounds_toArray, List.set_cons_zero, List.set_cons_succ]
                refine wpAnyH_ready (rs := [3]) (by kernel_rfl) (by simp) ?_
                refine AllReadyH.cons (by simp only [List.getElem?_toArray, List.getElem?_cons_succ, List.getElem?_cons_zero]; exact rfl) (fun K hK => ?_) AllReadyH.nil
                refine step_append_part (w0 := v1) (by rfl) _ _ (by rfl) (.slice none 0 0) 0 [] (by rfl) ⟨⟨rfl, .inl ⟨rfl, rfl⟩⟩, hH⟩ b 0 kk ca (zs.take (kk * 4)) (by rfl) HL1.out HZ1.out hbv1 HO1.out (by omega) ?_
                intro va w3 hp
                have HPA := hide hp
                have hN := hp.2
                clear hp
                refine hK.out _ _ hN (fun hH' => ?_)
                clear hK hH hN K
                have hH := hH'
                clear hH'
                try simp only [Act.put, List.setIfInBounds_toArray, List.set_cons_zero, List.set_cons_succ]
                refine wpAnyH_ready (rs := [8]) (by kernel_rfl) (by simp) ?_
                refine AllReadyH.cons (by simp only [List.getElem?_toArray, List.getElem?_cons_succ, List.getElem?_cons_zero]; exact rfl) (fun K hK => ?_) AllReadyH.nil
                refine step_append_part (w0 := v1) (by rfl) _ _ (by rfl) va (0 + kk) ([] ++ zs.take (kk * 4)) (by rfl) HPA.out b 0 0 0 (zs.drop (ca * 4)) (by rfl) HL2.out HZ3.out hbv1 HO2.out (by omega) ?_
                intro vb w4 hp
                rw [Nat.zero_add] at hp
                have HPB := hide hp
                have hN := hp.2
                clear hp
                refine hK.out _ _ hN (fun hH' => ?_)
                clear hK hH hN K
                have hH := hH'
                clear hH'
                try simp only [Act.put, List.setIfInBounds_toArray, List.set_cons_zero, List.set_cons_succ]
                refine wpAnyH_take (i := 9) (v := ?yv9) (by simp only [List.getElem?_toArray, List.getElem?_cons_succ, List.getElem?_cons_zero]; exact rfl) (by kernel_rfl) (by kernel_rfl) (by kernel_rfl) ?yq9 ?yy9 hH ?yr9
                case yq9 => exact fun _ _ _ h => h
                case yy9 =>
                  refine Or.inl ⟨by rfl, fun v hv => ?_⟩
                  go_simp
                  rfl
                try simp only [Act.put, List.setIfInBounds_toArray, List.set_cons_zero, List.set_cons_succ]
                refine wpAnyH_done (by kernel_rfl) ?_ _
                have hx4 := HX1.out.kept HPB.out.2
                have hp4 := HP1.out.kept HPB.out.2
                have HM4 := hide (HTK1.out _ _ HPB.out)
                go_wp2_with fail
                go_meet
                exact ⟨HM4, hx4, hp4⟩
              · go_upto_region 18 with fail
                refine wp_region_held_drew (S := fun v => Below v1.heap.size v1 v) (by kernel_rfl) (below_drew (Below.refl _ _) _) (fun hH => ?_)
                refine wpAnyH_take (i := 0) (v := ?xv0) (by simp only [List.getElem?_toArray, List.getElem?_cons_succ, List.getElem?_cons_zero]; exact rfl) (by kernel_rfl) (by kernel_rfl) (by kernel_rfl) ?xq0 ?xy0 hH ?xr0
                case xq0 => exact fun _ _ _ h => h
                case xy0 =>
                  refine Or.inl ⟨by rfl, fun v hv => ?_⟩
                  go_simp
                  rfl
                try simp only [Act.put, List.setIfInBounds_toArray, List.set_cons_zero, List.set_cons_succ]
                refine wpAnyH_take (i := 1) (v := ?xv1) (by simp only [List.getElem?_toArray, List.getElem?_cons_succ, List.getElem?_cons_zero]; exact rfl) (by kernel_rfl) (by kernel_rfl) (by kernel_rfl) ?xq1 ?xy1 hH ?xr1
                case xq1 => exact fun _ _ _ h => h
                case xy1 =>
                  refine Or.inl ⟨by rfl, fun v hv => ?_⟩
                  go_simp
                  rfl
                try simp only [Act.put, List.setIfInBounds_toArray, List.set_cons_zero, List.set_cons_succ]
                refine wpAnyH_take (i := 2) (v := ?xv2) (by simp only [List.getElem?_toArray, List.getElem?_cons_succ, List.getElem?_cons_zero]; exact rfl) (by kernel_rfl) (by kernel_rfl) (by kernel_rfl) ?xq2 ?xy2 hH ?xr2
                case xq2 => exact fun _ _ _ h => h
                case xy2 =>
                  refine Or.inl ⟨by rfl, fun v hv => ?_⟩
                  go_simp
                  rfl
                try simp only [Act.put, List.setIfInBounds_toArray, List.set_cons_zero, List.set_cons_succ]
                refine wpAnyH_take (i := 4) (v := ?xv4) (by simp only [List.getElem?_toArray, List.getElem?_cons_succ, List.getElem?_cons_zero]; exact rfl) (by kernel_rfl) (by kernel_rfl) (by kernel_rfl) ?xq4 ?xy4 hH ?xr4
                case xq4 => exact fun _ _ _ h => h
                case xy4 =>
                  refine Or.inl ⟨by rfl, fun v hv => ?_⟩
                  go_simp
                  rfl
                try simp only [Act.put, List.setIfInBounds_toArray, List.set_cons_zero, List.set_cons_succ]
                refine wpAnyH_take (i := 5) (v := ?xv5) (by simp only [List.getElem?_toArray, List.getElem?_cons_succ, List.getElem?_cons_zero]; exact rfl) (by kernel_rfl) (by kernel_rfl) (by kernel_rfl) ?xq5 ?xy5 hH ?xr5
                case xq5 => exact fun _ _ _ h => h
                case xy5 =>
                  refine Or.inl ⟨by rfl, fun v hv => ?_⟩
                  go_simp
                  rfl
                try simp only [Act.put, List.setIfInBounds_toArray, List.set_cons_zero, List.set_cons_succ]
                refine wpAnyH_take (i := 6) (v := ?xv6) (by simp only [List.getElem?_toArray, List.getElem?_cons_succ, List.getElem?_cons_zero]; exact rfl) (by kernel_rfl) (by kernel_rfl) (by kernel_rfl) ?xq6 ?xy6 hH ?xr6
                case xq6 => exact fun _ _ _ h => h
                case xy6 =>
                  refine Or.inl ⟨by rfl, fun v hv => ?_⟩
                  go_simp
                  rfl
                try simp only [Act.put, List.setIfInBounds_toArray, List.set_cons_zero, List.set_cons_succ]
                refine wpAnyH_take (i := 7) (v := ?xv7) (by simp only [List.getElem?_toArray, List.getElem?_cons_succ, List.getElem?_cons_zero]; exact rfl) (by kernel_rfl) (by kernel_rfl) (by kernel_rfl) ?xq7 ?xy7 hH ?xr7
                case xq7 => exact fun _ _ _ h => h
                case xy7 =>
                  refine Or.inl ⟨by rfl, fun v hv => ?_⟩
                  go_simp
                  rfl
                try simp only [Act.put, List.setIfInBounds_toArray, List.set_cons_zero, List.set_cons_succ]
                refine wpAnyH_ready (rs := [3]) (by kernel_rfl) (by simp) ?_
                refine AllReadyH.cons (by simp only [List.getElem?_toArray, List.getElem?_cons_succ, List.getElem?_cons_zero]; exact rfl) (fun K hK => ?_) AllReadyH.nil
                refine step_append_part (w0 := v1) (by rfl) _ _ (by rfl) (.slice none 0 0) 0 [] (by rfl) ⟨⟨rfl, .inl ⟨rfl, rfl⟩⟩, hH⟩ b 0 kk ca (zs.take (kk * 4)) (by rfl) HL1.out HZ1.out hbv1 HO1.out (by omega) ?_
                intro va w3 hp
                have HPA := hide hp
                have hN := hp.2
                clear hp
                refine hK.out _ _ hN (fun hH' => ?_)
                clear hK hH hN K
                have hH := hH'
                clear hH'
                try simp only [Act.put, List.setIfInBounds_toArray, List.set_cons_zero, List.set_cons_succ]
                refine wpAnyH_ready (rs := [8]) (by kernel_rfl) (by simp) ?_
                refine AllReadyH.cons (by simp only [List.getElem?_toArray, List.getElem?_cons_succ, List.getElem?_cons_zero]; exact rfl) (fun K hK => ?_) AllReadyH.nil
                refine step_append_part (w0 := v1) (by rfl) _ _ (by rfl) va (0 + kk) ([] ++ zs.take (kk * 4)) (by rfl) HPA.out b (k1 * 4) (n - k1) (ca - k1) (zs.drop (k1 * 4)) (by rfl) HL2.out HZ2.out hbv1 HO2.out (by omega) ?_
                intro vb w4 hp
                rw [Nat.zero_add] at hp
                have HPB := hide hp
                have hN := hp.2
                clear hp
                refine hK.out _ _ hN (fun hH' => ?_)
                clear hK hH hN K
                have hH := hH'
                clear hH'
                try simp only [Act.put, List.setIfInBounds_toArray, List.set_cons_zero, List.set_cons_succ]
                refine wpAnyH_take (i := 9) (v := ?xv9) (by simp only [List.getElem?_toArray, List.getElem?_cons_succ, List.getElem?_cons_zero]; exact rfl) (by kernel_rfl) (by kernel_rfl) (by kernel_rfl) ?xq9 ?xy9 hH ?xr9
                case xq9 => exact fun _ _ _ h => h
                case xy9 =>
                  refine Or.inl ⟨by rfl, fun v hv => ?_⟩
                  go_simp
                  rfl
                try simp only [Act.put, List.setIfInBounds_toArray, List.set_cons_zero, List.set_cons_succ]
                refine wpAnyH_done (by kernel_rfl) ?_ _
                have hx4 := HX1.out.kept HPB.out.2
                have hp4 := HP1.out.kept HPB.out.2
                have HM4 := hide (HTK1.out _ _ HPB.out)
                go_wp2_with fail
                go_meet
                exact ⟨HM4, hx4, hp4⟩
          case rest =>
            obtain ⟨hM4, hX4, hP4⟩ := hcut
            have HM4 := hide hM4.out
            have HX4 := hide hX4.out
            have HP4 := hide hP4.out
            clear HN0 HM0 HM1 HP1 HX0 HX1 HTK HTK1 HZ1 HZ2 HL1 HL2 HO1 HO2 HZC HZO hM4 hX4 hP4 x2
            have t0 : wc.cell? ⟨px, 0, none⟩ = some (.int .i64 xk.kind) := HX4.out.cell 0
            have z0 : wc.cell? ⟨pm, 0, none⟩ = some (.bool m.ack) := HP4.out.cell 0
            have z1 : wc.cell? ⟨pm, 1, none⟩ = some (.int .i64 m.num) := HP4.out.cell 1
            have z2 : wc.cell? ⟨pm, 2, none⟩ = some (.bool m.last) := HP4.out.cell 2
            have z3 : wc.cell? ⟨pm, 3, none⟩ = some (.slice D m.data.length d) := HP4.out.cell 3
            go_upto_block 2 with fail
            go_cut [13, 20, 21] from 40 to 148 (fun v _ _ wx => Hid (Net w s r W fs (k + 1) (k + 1) v wx))
            case first =>
              by_cases h1 : xk.kind = 1
              · have t1 : (xk.kind == 1) = true := by rw [h1]; rfl
                go_wp2_with fail
                refine (net_recv HNF.out (by omega) HM4.out).mono ?_
                rintro e w5 ⟨ok, rn, rfl, hN5, hM5⟩
                obtain ⟨v5, hv5⟩ : ∃ v5, v5 = w5.alloc (.cells #[.bool ok, .int .i64 rn, .bool false, .slice none 0 0] 34) := ⟨_, rfl⟩
                have hq5 : Below w5.heap.size w5 v5 := by rw [hv5]; exact (Below.refl _ _).alloc (Nat.le_refl _) _
                have HZ5 : Hid (Box v5 w5.heap.size 34 #[.bool ok, .int .i64 rn, .bool false, .slice none 0 0]) := by rw [hv5]; exact Box.new _ _ _
                have HN5 := hide (hN5.kept hq5)
                cases ok with
                | false =>
                  clear hM5
                  go_upto_region 22 with fail
                  rw [← hv5]
                  clear hv5 hq5 hN5
                  go_wp2_with fail
                  go_meet
                  exact HN5.out.more (by omega) (by omega)
                | true =>
                  have HM5 := hide ((hM5 rfl).kept hq5)
                  obtain ⟨O, hO⟩ : ∃ O, O = Obj.cells #[.bool true, .int .i64 rn, .bool false, .slice none 0 0] 34 := ⟨_, rfl⟩
                  have HM6 := hide (HM5.out.kept ((Below.refl _ _).alloc (Nat.le_refl _) O))
                  obtain ⟨n, zs, hn, how, hvb, hput⟩ := HM6.out.row
                  rw [hO] at how hvb hput
                  have HOW := hide how
                  have HPUT := hide hput
                  clear hM5 HM5 HM6 how hvb hput hO O
                  go_upto_region 22 with fail
                  rw [← hv5]
                  have z0 : v5.cell? ⟨w5.heap.size, 0, none⟩ = some (.bool true) := HZ5.out.cell 0
                  have z1 : v5.cell? ⟨w5.heap.size, 1, none⟩ = some (.int .i64 rn) := HZ5.out.cell 1
                  have z2 : v5.cell? ⟨w5.heap.size, 2, none⟩ = some (.bool false) := HZ5.out.cell 2
                  have z3 : v5.cell? ⟨w5.heap.size, 3, none⟩ = some (.slice none 0 0) := HZ5.out.cell 3
                  clear hv5 hq5 hN5
                  obtain ⟨i0, hi, hz0, hz1, hz2⟩ := info_parts msginfo
                  have hk63 : n + 1 ≤ maxLen := by unfold maxLen; omega
                  go_wp2_with (at_builtin; refine wpList_append_own_at _ rfl _ _ 23 rfl 0 34 i0 (.agg #[.bool false, .int .i64 0, .bool false, .slice none 0 0]) 4 48 Try.underlying23 hi hz0 hz1 hz2 rfl (by decide) u13 n zs rfl HOW.out ⟨v5.heap.size, 0, none⟩ 1 1 [.bool true, .int .i64 rn, .bool false, .slice none 0 0] rfl rfl (four_new _ _ _ _ _ _) (four_one _ _ _ _ _ _) hk63 (by omega) (Nat.zero_le _) ?_; intro v' w7 ho hg hn' hor; have HN7 := hide (HPUT.out v' w7 ho hg hor); clear ho hg hn' hor)
                  go_meet
                  exact HN7.out.more (by omega) (by omega)
              · have t1 : (xk.kind == 1) = false := beq_eq_false_iff_ne.2 h1
                by_cases h2 : xk.kind = 2
                · have t2 : (xk.kind == 2) = true := by rw [h2]; rfl
                  go_wp2_with fail
                  refine (net_srecv HNF.out HM4.out).mono ?_
                  rintro e w5 ⟨rfl, hN5⟩
                  have HN5 := hide hN5
                  clear hN5
                  go_wp2_with fail
                  go_meet
                  exact HN5.out.more (by omega) (by omega)
                · have t2 : (xk.kind == 2) = false := beq_eq_false_iff_ne.2 h2
                  go_wp2_with fail
                  go_meet
                  exact HM4.out.net.more (by omega) (by omega)
            case rest =>
              have hbl := hcut.out.below
              obtain ⟨base, nxt, H, g, last, nR, FS, FR, FA, air, As, Cs, hc⟩ := hcut.out
              have HC := hide hc
              have hgl := hc.got.le
              have hbg := hc.bg
              obtain ⟨L, hL⟩ : ∃ L, L = gots H g := ⟨_, rfl⟩
              have HLT : Hid (L = fs.take g) := by rw [hL]; exact hc.got.gots
              have HLL : Hid (L.length = g) := by rw [hL]; exact gots_length H g
              have HLB : Hid (∀ k, k < L.length → (L.getD k []).length ≤ 10) := by rw [HLT.out]; exact take_bd HBD.out
              have HWH : Hid (g = fs.length → (decide (0 ≤ last) && decide (last < (g : Int))) = true) := hc.got.whole hl1
              have HFW := hide (HF.out.below hbl)
              clear hc hbl hcut t0 z0 z1 z2 z3 HM4 HX4 HP4
              go_wp2_with fail
              refine (rframes_any HC.out.rcv (by rw [← hL, HLL.out]; omega) (fun k hk => by rw [← hL] at hk ⊢; exact Nat.le_trans (HLB.out k hk) (by decide))).mono ?_
              rw [← hL]
              rintro e w6 ⟨v6, r6, c6, rfl, hO6, hB6⟩
              obtain ⟨A6, c6', rfl, hcap6, hf6⟩ := hO6.frIn
              rw [HLL.out] at hcap6 ⊢
              have HF6 : Hid (Fr w6 A6 L) := hf6.fr fun i hi => hi.2
              have HFA : Hid (Fr w6 (some ⟨fb, fo, none⟩) L) := by rw [HLT.out]; exact (HFW.out.below hB6).take g
              have HC6 := hide (HC.out.kept hB6)
              have HRB : Hid (((gots H g).length : Int) = (g : Int)) := by rw [Hid, gots_length]
              clear hO6 hf6 hB6 HFW HC hL r6 c6
              have q1 : ¬ (fs.length : Int) < (g : Int) := by omega
              have q2 : decide ((fs.length : Int) < (g : Int)) = false := decide_eq_false q1
              have q3 : (g : Int) ≤ (fs.length : Int) := by omega
              have q4 : (g : Int) ≤ (c : Int) := by omega
              have q5 : g ≤ c := by omega
              have q6 : (0 : Int) ≤ (g : Int) := by omega
              go_wp2_with fail
              refine (framesEq_same HF6.out HFA.out HLL.out (by omega) HLB.out).mono ?_
              rintro e w7 ⟨rfl, hB7⟩
              have HC7 := hide (HC6.out.kept hB7)
              clear hB7 HF6 HFA HC6
              go_wp2_with fail
              refine (done_any HC7.out.snd (by omega) (by omega)).mono ?_
              rintro e w8 ⟨rfl, n8, rfl⟩
              have HC8 := hide (HC7.out.kept (below_drew (Below.refl _ _) n8))
              by_cases hd : base = fs.length
              · have hgf : g = fs.length := by omega
                have td : decide (base = fs.length) = true := decide_eq_true hd
                have tg : ((g : Int) != (fs.length : Int)) = false := by rw [bne_eq_false_iff_eq]; omega
                rw [td]
                go_wp2_with fail
                refine (complete_any HC8.out.rcv (by rw [gots_length]; omega)).mono ?_
                rintro e w9 ⟨rfl, n9, rfl⟩
                have HC9 := hide (HC8.out.kept (below_drew (Below.refl _ _) n9))
                rw [HRB.out, HWH.out hgf]
                go_wp2_with fail
                go_roundw
                case rel => exact ⟨k + 1, by omega, by go_num, _, _, _, _, _, _, _, _, _, _, _, _, HC7.out.kept (below_drew (Below.refl _ _) _)⟩
                case measure => simp [intOf]; omega
              · have td : decide (base = fs.length) = false := decide_eq_false hd
                rw [td]
                go_wp2_with fail
                go_roundw
                case rel => exact ⟨k + 1, by omega, by go_num, _, _, _, _, _, _, _, _, _, _, _, _, HC8.out⟩
                case measure => simp [intOf]; omega
    · have HB := hide hN.out.below
      rcases (show ¬ k < xs.length ∨ (k < xs.length ∧ ¬ k < 60) by omega) with h1 | ⟨h1, h2⟩
      · have t1 : decide ((k : Int) < (xs.length : Int)) = false := decide_eq_false (by omega)
        go_wp2_with fail
        refine bodyPost_ret (v := .tuple #[.pointer (some ⟨s, 0, none⟩), .pointer (some ⟨r, 0, none⟩), .bool true]) (by simp [results, Try.results28, go_sem]) rfl ⟨s, r, k, k, u13, rfl, by omega, hN.out⟩
      · have t2 : decide ((k : Int) < 60) = false := decide_eq_false (by omega)
        go_wp2_with fail
        refine bodyPost_ret (v := .tuple #[.pointer (some ⟨s, 0, none⟩), .pointer (some ⟨r, 0, none⟩), .bool true]) (by simp [results, Try.results28, go_sem]) rfl ⟨s, r, k, k, u13, rfl, by omega, hN.out⟩
end Go.Proofs.Ythhelhggggbaiaa
