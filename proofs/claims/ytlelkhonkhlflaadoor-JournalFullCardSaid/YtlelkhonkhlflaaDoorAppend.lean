/-
  Append.
-/
import Derived.Test.YtlelkhonkhlflaaDoorFormat
namespace Go.Proofs.YtlelkhonkhlflaaDoor
open Go.RowKit
set_option linter.unusedVariables false
set_option linter.unusedSimpArgs false

theorem append_nil (w : World) (A : Option Addr) (n c : Nat) : Calls Tryd.prog 10 #[.pointer none, .slice A n c] w fun en w' => en = .returned (.int .i64 12) ∧ w = w' := by
  go_enter Tryd.func10, Tryd.ntmps10
  go_wp2_with fail
  go_ret
  exact ⟨rfl, rfl⟩
/-- the record, in chunks, from sector i on -/
def putS (ss : List (List UInt8)) (i : Nat) (r : List UInt8) : Nat → List (List UInt8)
  | 0 => ss
  | m + 1 => (putS ss i r m).set (i + m) (padS ((r.drop (64 * m)).take 64))
theorem putS_length {ss : List (List UInt8)} {i : Nat} {r : List UInt8} : ∀ m, (putS ss i r m).length = ss.length
  | 0 => rfl
  | m + 1 => by rw [putS, List.length_set]; exact putS_length m
/-- the record of an entry -/
def recB (C : List Nat) (last bs : List UInt8) : List UInt8 := linkF C last bs ++ [UInt8.ofNat bs.length] ++ bs
theorem recB_length (C : List Nat) (last bs : List UInt8) : (recB C last bs).length = 33 + bs.length := by
  rw [recB, List.length_append, List.length_append, linkF_length]
  rfl
section
variable {C : List Nat} {F G : Nat → Prop} {w : World} {j s : Nat} {ss : List (List UInt8)} {e : Nat → Option (List UInt8)} {fuse : Int} {dead : Bool} {last : List UInt8} {es : List (List UInt8)}
set_option maxHeartbeats 1600000 in
/-- no room -/
theorem append_full (h : Jrn F G w j s ss e fuse false last es) (h4 : 4 ≤ ss.length) (hf : es.length = capJ ss.length) (A : Option Addr) (n c : Nat) (h1 : 1 ≤ n) (h2 : n ≤ 200) :
    Calls Tryd.prog 10 #[.pointer (some ⟨j, 0, none⟩), .slice A n c] w fun en w' => en = .returned (.int .i64 10) ∧ Below w.heap.size w w' := by
  have HRM := hide (room_any h h4)
  rw [hf, Int.sub_self] at HRM
  have HDD := hide (dead_any h.dsk)
  obtain ⟨A0, c0, q0, _, _, _⟩ := h.cells
  have t1 : decide ((n : Int) < 1) = false := decide_eq_false (by omega)
  have t2 : decide ((200 : Int) < (n : Int)) = false := decide_eq_false (by omega)
  clear h hf
  go_enter Tryd.func10, Tryd.ntmps10
  go_wp2_with fail
  refine HDD.out.mono ?_
  rintro en wx ⟨rfl, rfl⟩
  go_wp2_with fail
  refine HRM.out.mono ?_
  rintro en w1 ⟨rfl, hB1⟩
  go_wp2_with fail
  go_ret
  exact ⟨rfl, hB1⟩
/-- the tail of an append: the entry is taken over -/
theorem append_tail (hJ : Jrn F G w j s ss e fuse dead last es) (hl : es.length ≤ 100000) {g c g5 : Nat} {f d : List UInt8} (hrow : Row w g f) (hgF : ¬ F g) (hgG : ¬ G g) (hc : f.length ≤ c) (hdl : d.length = 32) (hD5 : Dig w g5 d) (hg5 : ¬ G g5) (ty : TypeId) :
    ∃ Av cv A' c' w5 w7 G', w.cell? ⟨j, 33, none⟩ = some (.slice Av es.length cv) ∧ (w.alloc (.cells #[.slice (some ⟨g, 0, none⟩) f.length c] 22)).cell? ⟨j, 33, none⟩ = some (.slice Av es.length cv) ∧
      (Builtin.append_ #[29, 29] ty #[.slice Av es.length cv, .slice (some ⟨w.heap.size, 0, none⟩) 1 1]).run Tryd.prog (w.alloc (.cells #[.slice (some ⟨g, 0, none⟩) f.length c] 22)) = .ok (.slice A' (es.length + 1) c') w5 ∧
      w5.frozen? ⟨j, 33, none⟩ = false ∧ w5.cell? ⟨j, 33, none⟩ = some (.slice Av es.length cv) ∧
      (storeVar 58 ⟨j, 1, none⟩ (.agg (secA d))).run Tryd.prog (w5.setCell ⟨j, 33, none⟩ (.slice A' (es.length + 1) c')) = .ok () w7 ∧
      Jrn F G' w7 j s ss e fuse dead d (es ++ [f]) ∧ (∀ i, G' i → G i ∨ i = g ∨ w.heap.size ≤ i) ∧ Chg G w w7 ∧
      Dig (w.alloc (.cells #[.slice (some ⟨g, 0, none⟩) f.length c] 22)) g5 d ∧ Dig w5 g5 d ∧ Dig (w5.setCell ⟨j, 33, none⟩ (.slice A' (es.length + 1) c')) g5 d ∧ Dig w7 g5 d := by
  obtain ⟨v, vals, hx, hv⟩ := hJ.box
  obtain ⟨Av, cv, hvv, _⟩ := Gots.shape ⟨vals, hv⟩
  subst hvv
  obtain ⟨v', w5, hr5, hC5, hfz, hc33, ⟨A', c', hform⟩, G', hJ5, hG5⟩ := append_step hx hv hJ.dsk hJ.mem hJ.lt hJ.apart hl hrow hgF hgG hc ty
  subst hform
  obtain ⟨w7, hr7, hJ7, hg7⟩ := hJ5.setLast hdl
  have hg5j : g5 ≠ j := fun h1 => hg5 (h1 ▸ hJ.mem)
  have hd5 : Dig w5 g5 d := (hC5.block g5 (Box.lt hD5) (fun h1 => hg5 h1.1)).trans hD5
  have hd6 : Dig (w5.setCell ⟨j, 33, none⟩ (.slice A' (es.length + 1) c')) g5 d := Box.far hd5 (by exact hg5j) _
  have hC6 : Chg G w (w5.setCell ⟨j, 33, none⟩ (.slice A' (es.length + 1) c')) := (hC5.mono (fun i _ h1 => h1.1)).setCell (fun _ => hJ.mem) _ _
  refine ⟨Av, cv, A', c', w5, w7, G', hx.entries, ((hx.1.alloc _).cell 33).trans ((hx.1.cell 33).symm.trans hx.entries), hr5, hfz, hc33, hr7, hJ7, hG5, ?_, Box.alloc hD5 _, hd5, hd6, Box.grown hd6 hg7 (fun e1 => by injection e1 with e1; exact hg5j e1)⟩
  refine hC6.trans (Chg.of_grown hg7) (fun i _ hi => ?_)
  injection hi with hi
  exact hi ▸ hJ.mem
/-- what Append leaves -/
def AppPost (C : List Nat) (F G : Nat → Prop) (w : World) (j s : Nat) (ss : List (List UInt8)) (last : List UInt8) (es : List (List UInt8)) (bs : List UInt8) (en : Ending) (w' : World) : Prop :=
  en = .returned (.int .i64 0) ∧ ∃ G' M, (recB C last bs).length ≤ 64 * M ∧ M ≤ 4 ∧ Jrn F G' w' j s (putS ss (4 + 4 * es.length) (recB C last bs) M) (fun _ => none) (-1) false (linkF C last bs) (es ++ [bs]) ∧ Chg (fun i => F i ∨ G i) w w' ∧ ∀ i, G' i → G i ∨ w.heap.size ≤ i
/-- what the loop of Append holds -/
structure AppI (F G : Nat → Prop) (w : World) (j s : Nat) (ss : List (List UInt8)) (last : List UInt8) (es : List (List UInt8)) (r : List UInt8) (g5 : Nat) (d : List UInt8) (m : Nat) (v : World) : Prop where
  jrn : ∃ e', Jrn F G v j s (putS ss (4 + 4 * es.length) r m) e' (-1) false last es
  dig : Dig v g5 d
  chg : Chg (fun i => F i ∨ G i) w v
set_option maxHeartbeats 3200000 in
set_option maxRecDepth 100000 in
theorem append_ok {b off c : Nat} {bs : List UInt8} (hJ : Jrn F G w j s ss e (-1) false last es) (hK : Kon C w) (h8 : 8 ≤ ss.length) (hk : es.length < capJ ss.length) (hb : Bys w (some ⟨b, off, none⟩) bs) (hbF : ¬ F b) (hbG : ¬ G b) (h1 : 1 ≤ bs.length) (h2 : bs.length ≤ 200) (hc : bs.length ≤ c) :
    Calls Tryd.prog 10 #[.pointer (some ⟨j, 0, none⟩), .slice (some ⟨b, off, none⟩) bs.length c] w (AppPost C F G w j s ss last es bs) := by
  have h0 := hK.some_
  have hmo := hJ.dsk.most
  have hcap : 4 + 4 * es.length + 4 ≤ ss.length := by unfold capJ at hk; omega
  have hc24 : capJ ss.length ≤ 1024 := by unfold capJ; omega
  have HRM := hide (room_any hJ (by omega))
  have HDD := hide (dead_any hJ.dsk)
  obtain ⟨A0, c0, q0, q33, _, _⟩ := hJ.cells
  have HJ := hide hJ
  have HK := hide hK
  have HB := hide hb
  have HRB : Hid (recB C last bs = linkF C last bs ++ [UInt8.ofNat bs.length] ++ bs) := rfl
  have HRL := hide (recB_length C last bs)
  have hbw : b < w.heap.size := by
    obtain ⟨b', off', e1, h3, _⟩ := hb (by omega)
    injection e1 with e1
    injection e1 with e1 e2 e3
    omega
  obtain ⟨r, hr⟩ : ∃ r : Int, r = ((capJ ss.length : Nat) - (es.length : Nat) : Int) := ⟨_, rfl⟩
  have hr0 : (r == 0) = false := beq_false_of_ne (by omega)
  rw [← hr] at HRM
  have t1 : decide ((bs.length : Int) < 1) = false := decide_eq_false (by omega)
  have t2 : decide ((200 : Int) < (bs.length : Int)) = false := decide_eq_false (by omega)
  clear hJ hK hb hr
  go_enter Tryd.func10, Tryd.ntmps10
  go_wp2_with fail
  refine HDD.out.mono ?_
  rintro en wx ⟨rfl, rfl⟩
  go_wp2_with fail
  refine HRM.out.mono ?_
  rintro en w1 ⟨rfl, hB1⟩
  have HJ1 := hide (HJ.out.kept hB1)
  have HB1 := hide hB1
  have hB1s := hB1.size
  obtain ⟨hld, hll⟩ := HJ1.out.last_
  obtain ⟨lA, hlA⟩ : ∃ lA, lA = secA last := ⟨_, rfl⟩
  rw [← hlA] at hld
  have HLD := hide hld
  have HLK := hide (link_any (c := c) (HK.out.kept hB1) hll (HB.out.below hB1) h1 (by omega) hc)
  rw [← hlA] at HLK
  clear hB1 hld hll hlA q0 q33
  go_wp2_with ((with_reducible refine wpList_gives (o := ⟨some 37, _, _, _, _, _⟩) (v := Value.agg lA) (w' := w1) ?_ ?_ ?_); rfl; exact gives_load rfl rfl HLD.out)
  refine HLK.out.mono ?_
  rintro en w5 ⟨rfl, hB5⟩
  obtain ⟨d, hd⟩ : ∃ d, d = linkF C last bs := ⟨_, rfl⟩
  have hdl : d.length = 32 := by rw [hd]; exact linkF_length _ _ _
  rw [← hd] at HRB ⊢
  have HDE := hide hd
  have HDL := hide hdl
  obtain ⟨w6, hw6⟩ : ∃ w6, w6 = w5.alloc (.cells (secA z32) 58) := ⟨_, rfl⟩
  have hb6 : Below w5.heap.size w5 w6 := by rw [hw6]; exact (Below.refl _ _).alloc (Nat.le_refl _) _
  have HA6 : Hid (∀ {o : Oper} {a : Act}, o.op = .alloc 58 → Gives o a w5 (.pointer (some ⟨w5.heap.size, 0, none⟩)) w6) := fun ho => by rw [hw6]; exact gives_alloc_dig ho
  have hD6 : Dig w6 w5.heap.size z32 := by unfold Dig; rw [hw6]; exact Box.new _ _ _
  obtain ⟨w7, hr7, hS7, hg7⟩ := hD6.store (d' := d) (List.length_replicate ..) hdl
  have hs6 : w6.heap.size = w5.heap.size + 1 := by rw [hw6]; simp
  have hb7 : Below w5.heap.size w5 w7 := hb6.grown hg7 (by omega) (fun k hk => by injection hk with hk; omega)
  have hs5 := hB5.size
  have hs7 := hg7.size
  have HB17 := hide (hB5.trans (hb7.mono hs5))
  have HB7 := hide (HB1.out.trans (HB17.out.mono hB1s))
  have HS7 := hide hS7
  obtain ⟨sD, hsD⟩ : ∃ sD, sD = secA d := ⟨_, rfl⟩
  rw [← hsD] at hr7 ⊢
  have HR7 := hide hr7
  have HSD := hide hsD
  have hcl := bclone_any w5.heap.size 0 32 d w7 hS7.bys (by omega) (by omega)
  rw [hdl] at hcl
  have HCL := hide hcl
  obtain ⟨g5, hg5⟩ : ∃ g5, g5 = w5.heap.size := ⟨_, rfl⟩
  have hg5l : w1.heap.size ≤ g5 := by omega
  have hg5h : g5 < w7.heap.size := by omega
  rw [← hg5] at HA6 HR7 HCL HS7
  clear hg5 hw6 hb6 hD6 hr7 hS7 hg7 hs6 hb7 hsD hB5 hcl hd hdl hs5 hs7
  go_wp2_with (first | ((with_reducible refine wpList_gives (o := ⟨some 5, _, _, _, _, _⟩) (v := .pointer (some ⟨g5, 0, none⟩)) (w' := w6) ?_ ?_ ?_); rfl; exact HA6.out rfl) | ((with_reducible refine wpList_does (o := ⟨none, .store 58 _ _, _, _, _, _⟩) (w' := w7) ?_ ?_ ?_); rfl; exact does_store rfl rfl rfl HR7.out))
  refine HCL.out.mono ?_
  rintro en w8 ⟨A8, c8, rfl, hO8, hB8⟩
  have hs8 := hB8.size
  have hy : u8v (UInt8.ofNat bs.length) = .int .u8 (bs.length : Int) := by
    unfold u8v
    rw [UInt8.toNat_ofNat', Nat.mod_eq_of_lt (show bs.length < 2 ^ 8 by omega)]
  obtain ⟨A9, c9, w9, hr9, hO9, hB9⟩ := push_byte hO8 hs8 (by rw [HDL.out]; omega) 22 (UInt8.ofNat bs.length)
  have hs9 := hB9.size
  obtain ⟨A10, c10, w10, hr10, hO10, hB10⟩ := push_bytes (c := c) (by have h3 := hO9; rw [show d.length + 1 = (d ++ [UInt8.ofNat bs.length]).length by simp] at h3; exact h3) (by omega) (by rw [List.length_append, HDL.out]; simp) (HB.out.below (HB7.out.trans ((hB8.trans hB9).mono (by have := HB7.out.size; omega)))) (by omega) (by omega) 22
  rw [hy, HDL.out] at hr9
  rw [← HRB.out, HRL.out, show (d ++ [UInt8.ofNat bs.length]).length = 33 by rw [List.length_append, HDL.out]; rfl] at hr10
  rw [← HRB.out, HRL.out] at hO10
  rw [HDL.out]
  obtain ⟨L, hL⟩ : ∃ L, L = 33 + bs.length := ⟨_, rfl⟩
  rw [← hL] at hr10 hO10
  have HL := hide hL
  have hL1 : 34 ≤ L := by omega
  have hL2 : L ≤ 233 := by omega
  have HR9 := hide hr9
  have HR10 := hide hr10
  have hB710 := hB8.trans (hB9.trans hB10)
  have hDg10 := Box.kept HS7.out hB710
  have HJ10 := hide (HJ1.out.kept (HB17.out.trans (hB710.mono (by have := HB17.out.size; omega))))
  have hBw10 := HB7.out.trans (hB710.mono (by have := HB7.out.size; omega))
  have hC10 : Chg (fun i => F i ∨ G i) w w10 := Chg.of_below hBw10 _
  obtain ⟨gr, cap, hv, hgr, hRow10, hcp10⟩ := own_row (n := L) (bs := recB C last bs) (by have := hO10; rw [OwnBy, HRL.out, ← hL] at this; exact this) (by omega)
  injection hv with e1 e2 e3
  subst e1
  subst e3
  clear e2
  have hgrF : ¬ F gr := fun h3 => by have := HJ.out.dsk.lt gr h3; have := HB7.out.size; omega
  have hgrG : ¬ G gr := fun h3 => by have := HJ.out.lt gr h3; have := HB7.out.size; omega
  have hg5F : ¬ F g5 := fun h3 => by have := HJ.out.dsk.lt g5 h3; omega
  have hg5G : ¬ G g5 := fun h3 => by have := HJ.out.lt g5 h3; omega
  obtain ⟨rb, hrb⟩ : ∃ rb, rb = recB C last bs := ⟨_, rfl⟩
  rw [← hrb] at hRow10 hO10 HRL
  have HRBB := hide hrb
  have HI10 : Hid (AppI F G w j s ss last es rb g5 d 0 w10) := ⟨⟨e, HJ10.out⟩, hDg10, hC10⟩
  have HY10 := hide hRow10.bys
  obtain ⟨A0', c0', q0, q33, _, _⟩ := HJ10.out.cells
  have hwr : w.heap.size ≤ w10.heap.size := hBw10.size
  have hgr10 : gr < w10.heap.size := hRow10.lt
  have hg510 : g5 < w10.heap.size := Box.lt hDg10
  have ew8 : IntKind.u8.wrap (bs.length : Int) = (bs.length : Int) := by
    rw [show IntKind.u8.wrap (bs.length : Int) = (bs.length : Int) % 256 from rfl]
    omega
  clear hs8 hy hr9 hO9 hB9 hs9 hr10 hO10 hB10 hL hB710 hDg10 hBw10 hC10 hRow10 hrb hO8 hB8
  go_upto_region 9 with (first | ((with_reducible refine wpList_gives (o := ⟨some 46, _, _, _, _, _⟩) (v := .slice A9 (32 + 1) c9) (w' := w9) ?_ ?_ ?_); rfl; exact gives_append rfl rfl rfl HR9.out) | ((with_reducible refine wpList_gives (o := ⟨some 48, _, _, _, _, _⟩) (v := .slice (some ⟨gr, 0, none⟩) L c10) (w' := w10) ?_ ?_ ?_); rfl; exact gives_append rfl rfl rfl HR10.out))
  go_wp2_with fail
  go_loopw [6, 7] (fun v i wr => ∃ m : Nat, m ≤ 4 ∧ i = .int .i64 (4 + 4 * (es.length : Int) + (m : Int)) ∧ ∃ A c, v = .slice A (L - 64 * m) c ∧ L - 64 * m ≤ c ∧ Hid (Bys wr A (rb.drop (64 * m)) ∧ ∀ b off, A = some ⟨b, off, none⟩ → b = gr) ∧ Hid (AppI F G w j s ss last es rb g5 d m wr)) (fun v _ _ => (match v with | .slice _ n _ => n | _ => 0))
  case atStart => exact ⟨0, by omega, by simp, some ⟨gr, 0, none⟩, c10, by simp, by omega, ⟨by rw [Nat.mul_zero, List.drop_zero]; exact HY10.out, fun b off e => by injection e with e; injection e with e1 e2 e3; exact e1.symm⟩, HI10⟩
  case round =>
    clear HI10 HY10 q0 q33
    obtain ⟨m, hm, rfl, A, cA, rfl, hcA, HY, HI⟩ := hrel
    by_cases hlt : 64 * m < L
    · have hm3 : m < 4 := by omega
      obtain ⟨x, hx⟩ : ∃ x, x = L - 64 * m := ⟨_, rfl⟩
      have hdrl : (rb.drop (64 * m)).length = x := by rw [List.length_drop, HRL.out, ← HL.out, hx]
      have hx0 : 0 < x := by omega
      obtain ⟨o1b, o1, hA, hb1, hc1⟩ := HY.out.1 (by omega)
      have hgre := HY.out.2 o1b o1 hA
      subst hgre
      subst hA
      obtain ⟨n, hn⟩ : ∃ n, n = min x 64 := ⟨_, rfl⟩
      have hn1 : 0 < n := by omega
      have hn2 : n ≤ x := by omega
      have hn3 : n ≤ 64 := by omega
      have hxL : x ≤ L := by omega
      have hmin : min (x : Int) 64 = (n : Int) := by omega
      have I := HI.out
      obtain ⟨e', hJm⟩ := I.jrn
      obtain ⟨A0m, c0m, q0, q33, _, _⟩ := hJm.cells
      have hJd := hJm.kept (below_drew (Below.refl _ _) 1)
      have hck : (rb.drop (64 * m)).take n = (rb.drop (64 * m)).take 64 := by
        by_cases h64 : x ≤ 64
        · rw [List.take_of_length_le (by omega), List.take_of_length_le (by omega)]
        · rw [show n = 64 by omega]
      have hcl : ((rb.drop (64 * m)).take n).length = n := by rw [List.length_take]; omega
      have hwr := write_bys hJd.dsk (by omega) (by omega) (by omega) (4 + 4 * es.length + m) (by rw [putS_length]; omega) o1b o1 cA ((rb.drop (64 * m)).take n) (bys_take (HY.out.1.below (below_drew (Below.refl _ _) 1)) n) hgrF (by omega) (by omega)
      rw [hcl, hck, show ((4 + 4 * es.length + m : Nat) : Int) = 4 + 4 * (es.length : Int) + (m : Int) by omega] at hwr
      have HW := hide hwr
      have HJd := hide hJd
      have HDR := hide hdrl
      have HX := hide hx
      have hxe : (L - 64 * (m + 1)) = x - n := by omega
      have HXE := hide hxe
      rw [← hx] at hcA ⊢
      have hncI : (n : Int) ≤ (cA : Int) := by omega
      have hnxI : (n : Int) ≤ (x : Int) := by omega
      clear hJm hJd hck hcl hwr hc1 hdrl hx hn hxe I
      go_upto_region 13 with fail
      refine wp_region_still_tail 8 (by kernel_rfl) (by kernel_rfl) ?_
      simp only [List.take_succ_cons, List.take_zero, List.drop_succ_cons, List.drop_zero]
      iterate 8 still_step
      refine wpStill_nil ?_
      change wpList _ _ _ _ _ wr.drew
      go_wp2_with fail
      refine HW.out.mono ?_
      rintro en w2 ⟨rfl, hC2, hD2⟩
      have hHJ := HJd.out.turn hC2 hD2
      have HI2 : Hid (AppI F G w j s ss last es rb g5 d (m + 1) w2) := by
        refine ⟨⟨_, hHJ⟩, ?_, ?_⟩
        · exact (hC2.block g5 (Box.lt HI.out.dig) hg5F).trans HI.out.dig
        · exact HI.out.chg.drew.trans hC2 (fun i _ hi => .inl hi)
      have hY2 : Bys w2 (some ⟨o1b, o1, none⟩) (rb.drop (64 * m)) := fun hp => by
        obtain ⟨b', off', e1, h3, h4⟩ := HY.out.1 hp
        injection e1 with e1
        injection e1 with e1 e2 e3
        subst e1
        subst e2
        have hs2 := hC2.size
        exact ⟨o1b, o1, rfl, Nat.lt_of_lt_of_le h3 hs2, fun k hk => (World.cell?_of_block (hC2.block o1b h3 hgrF)).trans (h4 k hk)⟩
      have HY2 := hide hY2
      clear hC2 hD2 hHJ hY2 q0 q33
      go_upto_region 16 with fail
      by_cases hcn : cA = n
      · have hxn : x = n := by omega
        subst hcn
        subst hxn
        have HYE : Hid (Bys w2 (some ⟨o1b, o1, none⟩) (rb.drop (64 * (m + 1))) ∧ ∀ b off, some (⟨o1b, o1, none⟩ : Addr) = some ⟨b, off, none⟩ → b = o1b) := by
          refine ⟨fun hp => ?_, fun b off e => by injection e with e; injection e with e1 e2 e3; exact e1.symm⟩
          have h3 := HRL.out
          have h4 := HXE.out
          have h5 := HL.out
          rw [List.length_drop] at hp
          omega
        go_wp2_with fail
        go_roundw
        case rel => exact ⟨m + 1, by omega, by go_num, some ⟨o1b, o1, none⟩, 0, by rw [HXE.out, Nat.sub_self], by rw [HXE.out]; omega, HYE, HI2⟩
        case measure => simp; omega
      · have hcn2 : n < cA := by omega
        have HYE : Hid (Bys w2 (some ⟨o1b, o1 + n, none⟩) (rb.drop (64 * (m + 1))) ∧ ∀ b off, some (⟨o1b, o1 + n, none⟩ : Addr) = some ⟨b, off, none⟩ → b = o1b) := by
          refine ⟨fun hp => ?_, fun b off e => by injection e with e; injection e with e1 e2 e3; exact e1.symm⟩
          have h3 := HRL.out
          have h4 := HXE.out
          have h5 := HL.out
          have h6 := HX.out
          have h7 := hp
          rw [List.length_drop] at h7
          have h8' : n = 64 := by omega
          have h9 := bys_drop HY2.out n
          rw [List.drop_drop, h8', show 64 * m + 64 = 64 * (m + 1) by omega] at h9
          rw [h8']
          exact h9 hp
        go_wp2_with fail
        go_roundw
        case rel => exact ⟨m + 1, by omega, by go_num, some ⟨o1b, o1 + n, none⟩, cA - n, by rw [HXE.out], by rw [HXE.out]; omega, HYE, HI2⟩
        case measure => simp; omega
    · obtain ⟨x, hx⟩ : ∃ x, x = L - 64 * m := ⟨_, rfl⟩
      have hx0 : x = 0 := by omega
      rw [← hx, hx0]
      have hLm : L ≤ 64 * m := by omega
      clear hx hx0
      have I := HI.out
      obtain ⟨e', hJm⟩ := I.jrn
      obtain ⟨A0m, c0m, q0, q33, _, _⟩ := hJm.cells
      have HJm := hide hJm
      have HY := hide (sync_ok hJm.dsk (by omega) (by omega) (by omega))
      rw [show burnF (-1) = -1 from rfl] at HY
      clear hJm I
      go_wp2_with fail
      refine HY.out.mono ?_
      rintro en w11 ⟨rfl, hC11, hD11⟩
      have hJ11 : Jrn F G w11.drew j s (putS ss (4 + 4 * es.length) rb m) (fun _ => none) (-1) false last es := (HJm.out.turn hC11 hD11).kept (below_drew (Below.refl _ _) 1)
      have hD5 : Dig w11.drew g5 d := (hC11.block g5 (Box.lt HI.out.dig) hg5F).trans HI.out.dig
      have hC12 : Chg (fun i => F i ∨ G i) w w11.drew := (HI.out.chg.trans hC11 (fun i _ hi => .inl hi)).drew
      have hbq : Bys w11.drew (some ⟨b, off, none⟩) bs := fun hp => by
        obtain ⟨b', off', e1, h3, h4⟩ := HB.out hp
        injection e1 with e1
        injection e1 with e1 e2 e3
        subst e1
        subst e2
        exact ⟨b, off, rfl, Nat.lt_of_lt_of_le h3 hC12.size, fun k hk => (World.cell?_of_block (hC12.block b h3 (fun h5 => h5.elim hbF hbG))).trans (h4 k hk)⟩
      have HCL2 := hide (bclone_any b off c bs w11.drew hbq h1 (by omega))
      have hsq : w.heap.size ≤ w11.drew.heap.size := hC12.size
      have HJ11 := hide hJ11
      have HD5 := hide hD5
      have HC12 := hide hC12
      obtain ⟨A3, c3, p0, p33, _, _⟩ := hJ11.cells
      clear hC11 hD11 hJ11 hD5 hC12 hbq q0 q33
      go_upto_region 20 with fail
      have HLG : Hid (∀ v, Dig v g5 d → (loadVar 58 ⟨g5, 0, none⟩).run Tryd.prog v = .ok (.agg sD) v) := fun v hv => by
        rw [HSD.out]
        exact load_dig (Dig.bys hv) HDL.out
      have hlm : (recB C last bs).length ≤ 64 * m := by
        rw [← HRBB.out, HRL.out, ← HL.out]
        exact hLm
      have HLM := hide hlm
      clear hlm p0
      refine wp_region_held_drew (S := fun v => Dig v g5 d) (by kernel_rfl) (HD5.out) (fun hH => ?_)
      generalize w11.drew = wq at *
      refine wpAnyH_take (i := 0) (v := ?xv0) (by simp only [List.getElem?_toArray, List.getElem?_cons_succ, List.getElem?_cons_zero]; exact rfl) (by kernel_rfl) (by kernel_rfl) (by kernel_rfl) ?xq0 ?xy0 hH ?xr0
      case xq0 => exact fun _ _ _ h => h
      case xy0 =>
        refine Or.inl ⟨by rfl, fun v hv => ?_⟩
        go_simp
        rfl
      try simp only [Act.put, List.setIfInBounds_toArray, List.set_cons_zero, List.set_cons_succ]
      refine wpAnyH_take (i := 1) (v := ?xv1) (by simp only [List.getElem?_toArray, List.getElem?_cons_succ, List.getElem?_cons_zero]; exact rfl) (by kernel_rfl) (by kernel_rfl) (by kernel_rfl) ?xq1 ?xy1 hH ?xr1
      case xq1 => exact fun _ _ _ h => h
      case xy1 =>
        refine Or.inl ⟨by rfl, fun v hv => ?_⟩
        go_simp
        rfl
      try simp only [Act.put, List.setIfInBounds_toArray, List.set_cons_zero, List.set_cons_succ]
      refine wpAnyH_take (i := 2) (v := ?xv2) (by simp only [List.getElem?_toArray, List.getElem?_cons_succ, List.getElem?_cons_zero]; exact rfl) (by kernel_rfl) (by kernel_rfl) (by kernel_rfl) ?xq2 ?xy2 hH ?xr2
      case xq2 => exact fun _ _ _ h => h
      case xy2 =>
        refine Or.inl ⟨by rfl, fun v hv => ?_⟩
        go_simp
        rfl
      try simp only [Act.put, List.setIfInBounds_toArray, List.set_cons_zero, List.set_cons_succ]
      refine wpAnyH_take (i := 3) (v := ?xv3) (by simp only [List.getElem?_toArray, List.getElem?_cons_succ, List.getElem?_cons_zero]; exact rfl) (by kernel_rfl) (by kernel_rfl) (by kernel_rfl) ?xq3 ?xy3 hH ?xr3
      case xq3 => exact fun _ _ _ h => h
      case xy3 =>
        refine Or.inl ⟨by rfl, fun v hv => ?_⟩
        go_simp
        rfl
      try simp only [Act.put, List.setIfInBounds_toArray, List.set_cons_zero, List.set_cons_succ]
      refine wpAnyH_take (i := 4) (v := ?xv4) (by simp only [List.getElem?_toArray, List.getElem?_cons_succ, List.getElem?_cons_zero]; exact rfl) (by kernel_rfl) (by kernel_rfl) (by kernel_rfl) ?xq4 ?xy4 hH ?xr4
      case xq4 => exact fun _ _ _ h => h
      case xy4 =>
        refine Or.inl ⟨by rfl, fun v hv => ?_⟩
        go_simp
        rfl
      try simp only [Act.put, List.setIfInBounds_toArray, List.set_cons_zero, List.set_cons_succ]
      refine wpAnyH_take (i := 6) (v := ?xv6) (by simp only [List.getElem?_toArray, List.getElem?_cons_succ, List.getElem?_cons_zero]; exact rfl) (by kernel_rfl) (by kernel_rfl) (by kernel_rfl) ?xq6 ?xy6 hH ?xr6
      case xq6 => exact fun _ _ _ h => h
      case xy6 =>
        refine Or.inl ⟨by rfl, fun v hv => ?_⟩
        go_simp
        rfl
      try simp only [Act.put, List.setIfInBounds_toArray, List.set_cons_zero, List.set_cons_succ]
      refine wpAnyH_take (i := 10) (v := ?xv10) (by simp only [List.getElem?_toArray, List.getElem?_cons_succ, List.getElem?_cons_zero]; exact rfl) (by kernel_rfl) (by kernel_rfl) (by kernel_rfl) ?xq10 ?xy10 hH ?xr10
      case xq10 => exact fun _ _ _ h => h
      case xy10 =>
        refine Or.inl ⟨by rfl, fun v hv => ?_⟩
        refine Eq.trans (b := Result.ok (Next.value (.agg sD)) v) (gives_load rfl rfl (HLG.out _ hv)) ?_
        rfl
      try simp only [Act.put, List.setIfInBounds_toArray, List.set_cons_zero, List.set_cons_succ]
      refine wpAnyH_ready (rs := [5, 7]) (by kernel_rfl) (by simp) ?_
      refine AllReadyH.cons (by simp only [List.getElem?_toArray, List.getElem?_cons_succ, List.getElem?_cons_zero]; exact rfl) (fun K hK => ?xb5) (AllReadyH.cons (by simp only [List.getElem?_toArray, List.getElem?_cons_succ, List.getElem?_cons_zero]; exact rfl) (fun K hK => ?xb7) (AllReadyH.nil))
      case xb5 =>
        go_simp
        have hN := hH
        refine hK.out _ _ hN (fun hH' => ?_)
        clear hK hH hN K
        have hH := hH'
        clear hH'
        try simp only [Act.put, List.setIfInBounds_toArray, List.set_cons_zero, List.set_cons_succ]
        refine wpAnyH_ready (rs := [7]) (by kernel_rfl) (by simp) ?_
        refine AllReadyH.cons (by simp only [List.getElem?_toArray, List.getElem?_cons_succ, List.getElem?_cons_zero]; exact rfl) (fun K hK => ?_) AllReadyH.nil
        go_simp
        refine HCL2.out.mono ?_
        rintro en v1 ⟨Ac, cc, rfl, hO1, hb1'⟩
        obtain ⟨gb, capb, hvb, hgb, hRowb, hcb⟩ := own_row hO1 h1
        injection hvb with e1 e2 e3
        subst e1
        subst e3
        clear e2
        have hJv := HJ11.out.kept hb1'
        have hDv : Dig v1 g5 d := Box.kept HD5.out hb1'
        obtain ⟨Av, cv, A', c', w5', w7', G', t33, t33a, hr5', hfz', hc33', hr7', hJ7', hG7', hC7', hDa, hDb, hDc, hDd⟩ := append_tail hJv (by omega) hRowb (fun h => by have := HJ.out.dsk.lt gb h; omega) (fun h => by have := HJ.out.lt gb h; omega) hcb HDL.out hDv hg5G 29
        have e33 := ((hb1'.cell (p := ⟨j, 33, none⟩) (HJ11.out.lt j HJ11.out.mem)).trans p33).symm.trans t33
        injection e33 with e33
        injection e33 with ea eb ec
        subst ea
        subst ec
        clear eb
        rw [← HSD.out] at hr7'
        have HR5 := hide hr5'
        have HR7' := hide hr7'
        have HDa := hide hDa
        have HDb := hide hDb
        have HDc := hide hDc
        have HDd := hide hDd
        have hsv := hb1'.size
        have HPO : Hid (AppPost C F G w j s ss last es bs (.returned (.int .i64 0)) w7') := by
          refine ⟨rfl, G', m, HLM.out, hm, ?_, (HC12.out.trans (Chg.of_below hb1' (fun i => F i ∨ G i)) (fun i _ hi => hi)).trans hC7' (fun i _ hi => .inr hi), fun i hi => ?_⟩
          · rw [← HRBB.out, ← HDE.out]
            exact hJ7'
          · rcases hG7' i hi with h3 | h3 | h3
            · exact .inl h3
            · exact .inr (by omega)
            · exact .inr (by omega)
        have hN := hDv
        clear hr5' hr7' hDa hDb hDc hDd hDv hJ7' hG7' hC7' hJv hRowb hO1 hb1' hgb hcb
        refine hK.out _ _ hN (fun hH' => ?_)
        clear hK hH hN K
        have hH := hH'
        clear hH'
        try simp only [Act.put, List.setIfInBounds_toArray, List.set_cons_zero, List.set_cons_succ]
        refine wpAnyH_ready (rs := [8]) (by kernel_rfl) (by simp) ?_
        refine AllReadyH.cons (by simp only [List.getElem?_toArray, List.getElem?_cons_succ, List.getElem?_cons_zero]; exact rfl) (fun K hK => ?_) AllReadyH.nil
        go_simp
        have hN := HDa.out
        refine hK.out _ _ hN (fun hH' => ?_)
        clear hK hH hN K
        have hH := hH'
        clear hH'
        try simp only [Act.put, List.setIfInBounds_toArray, List.set_cons_zero, List.set_cons_succ]
        refine wpAnyH_ready (rs := [9]) (by kernel_rfl) (by simp) ?_
        refine AllReadyH.cons (by simp only [List.getElem?_toArray, List.getElem?_cons_succ, List.getElem?_cons_zero]; exact rfl) (fun K hK => ?_) AllReadyH.nil
        refine step_gives rfl (gives_append rfl rfl rfl HR5.out) ?_
        have hN := HDb.out
        refine hK.out _ _ hN (fun hH' => ?_)
        clear hK hH hN K
        have hH := hH'
        clear hH'
        try simp only [Act.put, List.setIfInBounds_toArray, List.set_cons_zero, List.set_cons_succ]
        refine wpAnyH_take (i := 11) (v := ?xc5v11) (by simp only [List.getElem?_toArray, List.getElem?_cons_succ, List.getElem?_cons_zero]; exact rfl) (by kernel_rfl) (by kernel_rfl) (by kernel_rfl) ?xc5q11 ?xc5y11 hH ?xc5r11
        case xc5q11 => exact fun _ _ _ h => h
        case xc5y11 =>
          refine Or.inl ⟨by rfl, fun v hv => ?_⟩
          go_simp
          rfl
        try simp only [Act.put, List.setIfInBounds_toArray, List.set_cons_zero, List.set_cons_succ]
        refine wpAnyH_take (i := 12) (v := ?xc5v12) (by simp only [List.getElem?_toArray, List.getElem?_cons_succ, List.getElem?_cons_zero]; exact rfl) (by kernel_rfl) (by kernel_rfl) (by kernel_rfl) ?xc5q12 ?xc5y12 hH ?xc5r12
        case xc5q12 => exact fun _ _ _ h => h
        case xc5y12 =>
          refine Or.inl ⟨by rfl, fun v hv => ?_⟩
          go_simp
          rfl
        try simp only [Act.put, List.setIfInBounds_toArray, List.set_cons_zero, List.set_cons_succ]
        refine wpAnyH_ready (rs := [13]) (by kernel_rfl) (by simp) ?_
        refine AllReadyH.cons (by simp only [List.getElem?_toArray, List.getElem?_cons_succ, List.getElem?_cons_zero]; exact rfl) (fun K hK => ?_) AllReadyH.nil
        go_simp
        have hN := HDc.out
        refine hK.out _ _ hN (fun hH' => ?_)
        clear hK hH hN K
        have hH := hH'
        clear hH'
        try simp only [Act.put, List.setIfInBounds_toArray, List.set_cons_zero, List.set_cons_succ]
        refine wpAnyH_take (i := 14) (v := ?xc5v14) (by simp only [List.getElem?_toArray, List.getElem?_cons_succ, List.getElem?_cons_zero]; exact rfl) (by kernel_rfl) (by kernel_rfl) (by kernel_rfl) ?xc5q14 ?xc5y14 hH ?xc5r14
        case xc5q14 => exact fun _ _ _ h => h
        case xc5y14 =>
          refine Or.inl ⟨by rfl, fun v hv => ?_⟩
          go_simp
          rfl
        try simp only [Act.put, List.setIfInBounds_toArray, List.set_cons_zero, List.set_cons_succ]
        refine wpAnyH_take (i := 15) (v := ?xc5v15) (by simp only [List.getElem?_toArray, List.getElem?_cons_succ, List.getElem?_cons_zero]; exact rfl) (by kernel_rfl) (by kernel_rfl) (by kernel_rfl) ?xc5q15 ?xc5y15 hH ?xc5r15
        case xc5q15 => exact fun _ _ _ h => h
        case xc5y15 =>
          refine Or.inl ⟨by rfl, fun v hv => ?_⟩
          go_simp
          rfl
        try simp only [Act.put, List.setIfInBounds_toArray, List.set_cons_zero, List.set_cons_succ]
        refine wpAnyH_ready (rs := [16]) (by kernel_rfl) (by simp) ?_
        refine AllReadyH.cons (by simp only [List.getElem?_toArray, List.getElem?_cons_succ, List.getElem?_cons_zero]; exact rfl) (fun K hK => ?_) AllReadyH.nil
        refine step_does rfl (does_store rfl rfl rfl HR7'.out) ?_
        have hN := HDd.out
        refine hK.out _ _ hN (fun hH' => ?_)
        clear hK hH hN K
        have hH := hH'
        clear hH'
        try simp only [Act.put, List.setIfInBounds_toArray, List.set_cons_zero, List.set_cons_succ]
        refine wpAnyH_done (by kernel_rfl) ?_ _
        clear hH
        go_wp2_with fail
        go_ret
        exact HPO.out
      case xb7 =>
        go_simp
        refine HCL2.out.mono ?_
        rintro en v1 ⟨Ac, cc, rfl, hO1, hb1'⟩
        obtain ⟨gb, capb, hvb, hgb, hRowb, hcb⟩ := own_row hO1 h1
        injection hvb with e1 e2 e3
        subst e1
        subst e3
        clear e2
        have hJv := HJ11.out.kept hb1'
        have hDv : Dig v1 g5 d := Box.kept HD5.out hb1'
        obtain ⟨Av, cv, A', c', w5', w7', G', t33, t33a, hr5', hfz', hc33', hr7', hJ7', hG7', hC7', hDa, hDb, hDc, hDd⟩ := append_tail hJv (by omega) hRowb (fun h => by have := HJ.out.dsk.lt gb h; omega) (fun h => by have := HJ.out.lt gb h; omega) hcb HDL.out hDv hg5G 29
        have e33 := ((hb1'.cell (p := ⟨j, 33, none⟩) (HJ11.out.lt j HJ11.out.mem)).trans p33).symm.trans t33
        injection e33 with e33
        injection e33 with ea eb ec
        subst ea
        subst ec
        clear eb
        rw [← HSD.out] at hr7'
        have HR5 := hide hr5'
        have HR7' := hide hr7'
        have HDa := hide hDa
        have HDb := hide hDb
        have HDc := hide hDc
        have HDd := hide hDd
        have hsv := hb1'.size
        have HPO : Hid (AppPost C F G w j s ss last es bs (.returned (.int .i64 0)) w7') := by
          refine ⟨rfl, G', m, HLM.out, hm, ?_, (HC12.out.trans (Chg.of_below hb1' (fun i => F i ∨ G i)) (fun i _ hi => hi)).trans hC7' (fun i _ hi => .inr hi), fun i hi => ?_⟩
          · rw [← HRBB.out, ← HDE.out]
            exact hJ7'
          · rcases hG7' i hi with h3 | h3 | h3
            · exact .inl h3
            · exact .inr (by omega)
            · exact .inr (by omega)
        have hN := hDv
        clear hr5' hr7' hDa hDb hDc hDd hDv hJ7' hG7' hC7' hJv hRowb hO1 hb1' hgb hcb
        refine hK.out _ _ hN (fun hH' => ?_)
        clear hK hH hN K
        have hH := hH'
        clear hH'
        try simp only [Act.put, List.setIfInBounds_toArray, List.set_cons_zero, List.set_cons_succ]
        refine wpAnyH_ready (rs := [5, 8]) (by kernel_rfl) (by simp) ?_
        refine AllReadyH.cons (by simp only [List.getElem?_toArray, List.getElem?_cons_succ, List.getElem?_cons_zero]; exact rfl) (fun K hK => ?xc7b5) (AllReadyH.cons (by simp only [List.getElem?_toArray, List.getElem?_cons_succ, List.getElem?_cons_zero]; exact rfl) (fun K hK => ?xc7b8) (AllReadyH.nil))
        case xc7b5 =>
          go_simp
          have hN := hH
          refine hK.out _ _ hN (fun hH' => ?_)
          clear hK hH hN K
          have hH := hH'
          clear hH'
          try simp only [Act.put, List.setIfInBounds_toArray, List.set_cons_zero, List.set_cons_succ]
          refine wpAnyH_ready (rs := [8]) (by kernel_rfl) (by simp) ?_
          refine AllReadyH.cons (by simp only [List.getElem?_toArray, List.getElem?_cons_succ, List.getElem?_cons_zero]; exact rfl) (fun K hK => ?_) AllReadyH.nil
          go_simp
          have hN := HDa.out
          refine hK.out _ _ hN (fun hH' => ?_)
          clear hK hH hN K
          have hH := hH'
          clear hH'
          try simp only [Act.put, List.setIfInBounds_toArray, List.set_cons_zero, List.set_cons_succ]
          refine wpAnyH_ready (rs := [9]) (by kernel_rfl) (by simp) ?_
          refine AllReadyH.cons (by simp only [List.getElem?_toArray, List.getElem?_cons_succ, List.getElem?_cons_zero]; exact rfl) (fun K hK => ?_) AllReadyH.nil
          refine step_gives rfl (gives_append rfl rfl rfl HR5.out) ?_
          have hN := HDb.out
          refine hK.out _ _ hN (fun hH' => ?_)
          clear hK hH hN K
          have hH := hH'
          clear hH'
          try simp only [Act.put, List.setIfInBounds_toArray, List.set_cons_zero, List.set_cons_succ]
          refine wpAnyH_take (i := 11) (v := ?xc7c5v11) (by simp only [List.getElem?_toArray, List.getElem?_cons_succ, List.getElem?_cons_zero]; exact rfl) (by kernel_rfl) (by kernel_rfl) (by kernel_rfl) ?xc7c5q11 ?xc7c5y11 hH ?xc7c5r11
          case xc7c5q11 => exact fun _ _ _ h => h
          case xc7c5y11 =>
            refine Or.inl ⟨by rfl, fun v hv => ?_⟩
            go_simp
            rfl
          try simp only [Act.put, List.setIfInBounds_toArray, List.set_cons_zero, List.set_cons_succ]
          refine wpAnyH_take (i := 12) (v := ?xc7c5v12) (by simp only [List.getElem?_toArray, List.getElem?_cons_succ, List.getElem?_cons_zero]; exact rfl) (by kernel_rfl) (by kernel_rfl) (by kernel_rfl) ?xc7c5q12 ?xc7c5y12 hH ?xc7c5r12
          case xc7c5q12 => exact fun _ _ _ h => h
          case xc7c5y12 =>
            refine Or.inl ⟨by rfl, fun v hv => ?_⟩
            go_simp
            rfl
          try simp only [Act.put, List.setIfInBounds_toArray, List.set_cons_zero, List.set_cons_succ]
          refine wpAnyH_ready (rs := [13]) (by kernel_rfl) (by simp) ?_
          refine AllReadyH.cons (by simp only [List.getElem?_toArray, List.getElem?_cons_succ, List.getElem?_cons_zero]; exact rfl) (fun K hK => ?_) AllReadyH.nil
          go_simp
          have hN := HDc.out
          refine hK.out _ _ hN (fun hH' => ?_)
          clear hK hH hN K
          have hH := hH'
          clear hH'
          try simp only [Act.put, List.setIfInBounds_toArray, List.set_cons_zero, List.set_cons_succ]
          refine wpAnyH_take (i := 14) (v := ?xc7c5v14) (by simp only [List.getElem?_toArray, List.getElem?_cons_succ, List.getElem?_cons_zero]; exact rfl) (by kernel_rfl) (by kernel_rfl) (by kernel_rfl) ?xc7c5q14 ?xc7c5y14 hH ?xc7c5r14
          case xc7c5q14 => exact fun _ _ _ h => h
          case xc7c5y14 =>
            refine Or.inl ⟨by rfl, fun v hv => ?_⟩
            go_simp
            rfl
          try simp only [Act.put, List.setIfInBounds_toArray, List.set_cons_zero, List.set_cons_succ]
          refine wpAnyH_take (i := 15) (v := ?xc7c5v15) (by simp only [List.getElem?_toArray, List.getElem?_cons_succ, List.getElem?_cons_zero]; exact rfl) (by kernel_rfl) (by kernel_rfl) (by kernel_rfl) ?xc7c5q15 ?xc7c5y15 hH ?xc7c5r15
          case xc7c5q15 => exact fun _ _ _ h => h
          case xc7c5y15 =>
            refine Or.inl ⟨by rfl, fun v hv => ?_⟩
            go_simp
            rfl
          try simp only [Act.put, List.setIfInBounds_toArray, List.set_cons_zero, List.set_cons_succ]
          refine wpAnyH_ready (rs := [16]) (by kernel_rfl) (by simp) ?_
          refine AllReadyH.cons (by simp only [List.getElem?_toArray, List.getElem?_cons_succ, List.getElem?_cons_zero]; exact rfl) (fun K hK => ?_) AllReadyH.nil
          refine step_does rfl (does_store rfl rfl rfl HR7'.out) ?_
          have hN := HDd.out
          refine hK.out _ _ hN (fun hH' => ?_)
          clear hK hH hN K
          have hH := hH'
          clear hH'
          try simp only [Act.put, List.setIfInBounds_toArray, List.set_cons_zero, List.set_cons_succ]
          refine wpAnyH_done (by kernel_rfl) ?_ _
          clear hH
          go_wp2_with fail
          go_ret
          exact HPO.out
        case xc7b8 =>
          go_simp
          have hN := HDa.out
          refine hK.out _ _ hN (fun hH' => ?_)
          clear hK hH hN K
          have hH := hH'
          clear hH'
          try simp only [Act.put, List.setIfInBounds_toArray, List.set_cons_zero, List.set_cons_succ]
          refine wpAnyH_ready (rs := [5]) (by kernel_rfl) (by simp) ?_
          refine AllReadyH.cons (by simp only [List.getElem?_toArray, List.getElem?_cons_succ, List.getElem?_cons_zero]; exact rfl) (fun K hK => ?_) AllReadyH.nil
          go_simp
          have hN := hH
          refine hK.out _ _ hN (fun hH' => ?_)
          clear hK hH hN K
          have hH := hH'
          clear hH'
          try simp only [Act.put, List.setIfInBounds_toArray, List.set_cons_zero, List.set_cons_succ]
          refine wpAnyH_ready (rs := [9]) (by kernel_rfl) (by simp) ?_
          refine AllReadyH.cons (by simp only [List.getElem?_toArray, List.getElem?_cons_succ, List.getElem?_cons_zero]; exact rfl) (fun K hK => ?_) AllReadyH.nil
          refine step_gives rfl (gives_append rfl rfl rfl HR5.out) ?_
          have hN := HDb.out
          refine hK.out _ _ hN (fun hH' => ?_)
          clear hK hH hN K
          have hH := hH'
          clear hH'
          try simp only [Act.put, List.setIfInBounds_toArray, List.set_cons_zero, List.set_cons_succ]
          refine wpAnyH_take (i := 11) (v := ?xc7c8v11) (by simp only [List.getElem?_toArray, List.getElem?_cons_succ, List.getElem?_cons_zero]; exact rfl) (by kernel_rfl) (by kernel_rfl) (by kernel_rfl) ?xc7c8q11 ?xc7c8y11 hH ?xc7c8r11
          case xc7c8q11 => exact fun _ _ _ h => h
          case xc7c8y11 =>
            refine Or.inl ⟨by rfl, fun v hv => ?_⟩
            go_simp
            rfl
          try simp only [Act.put, List.setIfInBounds_toArray, List.set_cons_zero, List.set_cons_succ]
          refine wpAnyH_take (i := 12) (v := ?xc7c8v12) (by simp only [List.getElem?_toArray, List.getElem?_cons_succ, List.getElem?_cons_zero]; exact rfl) (by kernel_rfl) (by kernel_rfl) (by kernel_rfl) ?xc7c8q12 ?xc7c8y12 hH ?xc7c8r12
          case xc7c8q12 => exact fun _ _ _ h => h
          case xc7c8y12 =>
            refine Or.inl ⟨by rfl, fun v hv => ?_⟩
            go_simp
            rfl
          try simp only [Act.put, List.setIfInBounds_toArray, List.set_cons_zero, List.set_cons_succ]
          refine wpAnyH_ready (rs := [13]) (by kernel_rfl) (by simp) ?_
          refine AllReadyH.cons (by simp only [List.getElem?_toArray, List.getElem?_cons_succ, List.getElem?_cons_zero]; exact rfl) (fun K hK => ?_) AllReadyH.nil
          go_simp
          have hN := HDc.out
          refine hK.out _ _ hN (fun hH' => ?_)
          clear hK hH hN K
          have hH := hH'
          clear hH'
          try simp only [Act.put, List.setIfInBounds_toArray, List.set_cons_zero, List.set_cons_succ]
          refine wpAnyH_take (i := 14) (v := ?xc7c8v14) (by simp only [List.getElem?_toArray, List.getElem?_cons_succ, List.getElem?_cons_zero]; exact rfl) (by kernel_rfl) (by kernel_rfl) (by kernel_rfl) ?xc7c8q14 ?xc7c8y14 hH ?xc7c8r14
          case xc7c8q14 => exact fun _ _ _ h => h
          case xc7c8y14 =>
            refine Or.inl ⟨by rfl, fun v hv => ?_⟩
            go_simp
            rfl
          try simp only [Act.put, List.setIfInBounds_toArray, List.set_cons_zero, List.set_cons_succ]
          refine wpAnyH_take (i := 15) (v := ?xc7c8v15) (by simp only [List.getElem?_toArray, List.getElem?_cons_succ, List.getElem?_cons_zero]; exact rfl) (by kernel_rfl) (by kernel_rfl) (by kernel_rfl) ?xc7c8q15 ?xc7c8y15 hH ?xc7c8r15
          case xc7c8q15 => exact fun _ _ _ h => h
          case xc7c8y15 =>
            refine Or.inl ⟨by rfl, fun v hv => ?_⟩
            go_simp
            rfl
          try simp only [Act.put, List.setIfInBounds_toArray, List.set_cons_zero, List.set_cons_succ]
          refine wpAnyH_ready (rs := [16]) (by kernel_rfl) (by simp) ?_
          refine AllReadyH.cons (by simp only [List.getElem?_toArray, List.getElem?_cons_succ, List.getElem?_cons_zero]; exact rfl) (fun K hK => ?_) AllReadyH.nil
          refine step_does rfl (does_store rfl rfl rfl HR7'.out) ?_
          have hN := HDd.out
          refine hK.out _ _ hN (fun hH' => ?_)
          clear hK hH hN K
          have hH := hH'
          clear hH'
          try simp only [Act.put, List.setIfInBounds_toArray, List.set_cons_zero, List.set_cons_succ]
          refine wpAnyH_done (by kernel_rfl) ?_ _
          clear hH
          go_wp2_with fail
          go_ret
          exact HPO.out
end
end Go.Proofs.YtlelkhonkhlflaaDoor
