/-
  journal.Open.
-/
import Derived.Test.YtlelkhonkhlflaaDoorJpush
namespace Go.Proofs.YtlelkhonkhlflaaDoor
open Go.RowKit
set_option linter.unusedVariables false
set_option linter.unusedSimpArgs false

theorem gives_box_agg {o : Oper} {a : Act} {w : World} {x : Operand} {t : TypeId} {cs : Array Value} (ho : o.op = .box t x) (hx : a.eval x = .agg cs) : Gives o a w (.pointer (some ⟨w.heap.size, 0, none⟩)) (w.alloc (.cells cs t)) := by
  unfold Gives execOp
  simp [ho, hx, Instr.box, newVar, newRow, Value.cells]
theorem gives_build2 {o : Oper} {a : Act} {w : World} {t : TypeId} {x y : Operand} {vx vy : Value} {cs : Array Value} (ho : o.op = .build t #[(0, x), (1, y)]) (hx : a.eval x = vx) (hy : a.eval y = vy) (hb : Tryd.prog.built t [(0, vx), (1, vy)] = some cs) : Gives o a w (.agg cs) w :=
  gives_build (vs := #[(0, vx), (1, vy)]) ho (by simp [hx, hy]) hb
theorem open_nil (w : World) : Calls Tryd.prog 17 #[.pointer none] w fun en w' => en = .returned (.tuple #[.pointer none, .int .i64 12]) ∧ w = w' := by
  have HN := hide (dead_nil w)
  go_enter Tryd.func17, Tryd.ntmps17
  go_wp2_with fail
  refine HN.out.mono ?_
  rintro en wx ⟨rfl, rfl⟩
  go_wp2_with fail
  go_ret2
  exact ⟨rfl, rfl⟩
theorem open_dead {F : Nat → Prop} {w : World} {s : Nat} {ss : List (List UInt8)} {e : Nat → Option (List UInt8)} {fuse : Int} (h : Dsk F w s ss e fuse true) : Calls Tryd.prog 17 #[.pointer (some ⟨s, 0, none⟩)] w fun en w' => en = .returned (.tuple #[.pointer none, .int .i64 12]) ∧ w = w' := by
  have HN := hide (dead_any h)
  clear h
  go_enter Tryd.func17, Tryd.ntmps17
  go_wp2_with fail
  refine HN.out.mono ?_
  rintro en wx ⟨rfl, rfl⟩
  go_wp2_with fail
  go_ret2
  exact ⟨rfl, rfl⟩
theorem conv_mark (w : World) : (convert 22 22 (.slice (some ⟨w.heap.size, 0, none⟩) 7 7)).run Tryd.prog (w.alloc (.cells #[.int .u8 106, .int .u8 111, .int .u8 117, .int .u8 114, .int .u8 110, .int .u8 97, .int .u8 108] 5)) = .ok (.slice (some ⟨w.heap.size, 0, none⟩) 7 7) (w.alloc (.cells #[.int .u8 106, .int .u8 111, .int .u8 117, .int .u8 114, .int .u8 110, .int .u8 97, .int .u8 108] 5 (7, 8))) :=
  Lib.run_convert_bytes_const w 22 5 #[.int .u8 106, .int .u8 111, .int .u8 117, .int .u8 114, .int .u8 110, .int .u8 97, .int .u8 108] 7 7 Tryd.underlying22 Tryd.underlying5
theorem bys_mark (w : World) : Bys (w.alloc (.cells #[.int .u8 106, .int .u8 111, .int .u8 117, .int .u8 114, .int .u8 110, .int .u8 97, .int .u8 108] 5 (7, 8))) (some ⟨w.heap.size, 0, none⟩) markB := fun _ => ⟨w.heap.size, 0, rfl, by simp, fun k hk => by
  rw [Nat.zero_add, World.cell?_alloc_mark w _ 5 (7, 8) k]
  have hk' : k < 7 := hk
  rcases k with _ | _ | _ | _ | _ | _ | _ | k
  all_goals first | rfl | omega⟩
set_option maxHeartbeats 1600000 in
set_option maxRecDepth 100000 in
/-- no journal lies on the disk -/
theorem open_form {F : Nat → Prop} {w : World} {s : Nat} {ss : List (List UInt8)} {e : Nat → Option (List UInt8)} {fuse : Int} (h : Dsk F w s ss e fuse false) (hm : ((ss.getD 0 []).take 7 == markB) = false) : Calls Tryd.prog 17 #[.pointer (some ⟨s, 0, none⟩)] w fun en w' => en = .returned (.tuple #[.pointer none, .int .i64 8]) ∧ Below w.heap.size w w' := by
  have HN := hide (dead_any h)
  have HR := hide (read_ok h 0 h.some_)
  have hsl : (ss.getD 0 []).length = 64 := by
    have h1 := h.some_
    rw [List.getD_eq_getElem?_getD, List.getElem?_eq_getElem (by omega)]
    exact h.len64 _ (List.getElem_mem _)
  generalize ss.getD 0 [] = s0 at *
  have hcv := conv_mark
  clear h
  go_enter Tryd.func17, Tryd.ntmps17
  go_wp2_with fail
  refine HN.out.mono ?_
  rintro en wx ⟨rfl, rfl⟩
  go_wp2_with fail
  refine HR.out.mono ?_
  rintro en w1 ⟨g, c1, hg, rfl, hRow, hB1, hc1⟩
  rw [hsl] at hc1 ⊢
  have hp := hasPrefix_any (some ⟨g, 0, none⟩) (some ⟨w1.heap.size, 0, none⟩) c1 7 s0 markB _ (hRow.alloc (.cells #[.int .u8 106, .int .u8 111, .int .u8 117, .int .u8 114, .int .u8 110, .int .u8 97, .int .u8 108] 5 (7, 8))).bys (bys_mark w1) (by rw [hsl]; decide) (by rw [hsl]; omega) (by decide) (by rw [hsl]; omega)
  rw [show markB.length = 7 from rfl, hsl, hm] at hp
  have HP := hide hp
  have HB := hide (hB1.alloc hB1.size (.cells #[.int .u8 106, .int .u8 111, .int .u8 117, .int .u8 114, .int .u8 110, .int .u8 97, .int .u8 108] 5 (7, 8)))
  clear hp hRow hB1 hg hsl
  go_wp2_with fail
  refine HP.out.mono ?_
  rintro en w2 ⟨rfl, rfl⟩
  go_wp2_with fail
  go_ret2
  exact ⟨rfl, HB.out⟩
/-- what Open leaves -/
def OpenPost (C : List Nat) (F : Nat → Prop) (w : World) (s : Nat) (ss : List (List UInt8)) (e : Nat → Option (List UInt8)) (fuse : Int) (es : List (List UInt8)) (en : Ending) (w' : World) : Prop :=
  ∃ j G, en = .returned (.tuple #[.pointer (some ⟨j, 0, none⟩), .int .i64 0]) ∧ Jrn F G w' j s ss e fuse false (lastAt C (shaF C (ss.getD 0 [])) es es.length) es ∧ Below w.heap.size w w' ∧ ∀ i, G i → w.heap.size ≤ i
/-- what the loop of Open holds -/
structure OpenI (C : List Nat) (F : Nat → Prop) (w : World) (j s : Nat) (ss : List (List UInt8)) (e : Nat → Option (List UInt8)) (fuse : Int) (es : List (List UInt8)) (k : Nat) (v : World) : Prop where
  jrn : ∃ G, Jrn F G v j s ss e fuse false (lastAt C (shaF C (ss.getD 0 [])) es k) (es.take k) ∧ ∀ i, G i → w.heap.size ≤ i
  kon : Kon C v
  below : Below w.heap.size w v
set_option maxHeartbeats 3200000 in
set_option maxRecDepth 100000 in
theorem open_ok {C : List Nat} {F : Nat → Prop} {w : World} {s : Nat} {ss : List (List UInt8)} {e : Nat → Option (List UInt8)} {fuse : Int} {es : List (List UInt8)} (h : Dsk F w s ss e fuse false) (hK : Kon C w) (hO : OnDisk C ss es) :
    Calls Tryd.prog 17 #[.pointer (some ⟨s, 0, none⟩)] w (OpenPost C F w s ss e fuse es) := by
  have hcl := hO.most
  have h8 := hO.least
  have h0 := hK.some_
  have hmo := h.most
  have hC24 : capJ ss.length ≤ 1024 := by unfold capJ; omega
  have HN := hide (dead_any h)
  have HR := hide (read_ok h 0 h.some_)
  have hsl : (ss.getD 0 []).length = 64 := by
    have h1 := h.some_
    rw [List.getD_eq_getElem?_getD, List.getElem?_eq_getElem (by omega)]
    exact h.len64 _ (List.getElem_mem _)
  have HMK := hide hO.mark
  have HOD := hide hO
  have HD := hide h
  have HK := hide hK
  obtain ⟨s0, hs0⟩ : ∃ s0, s0 = ss.getD 0 [] := ⟨_, rfl⟩
  rw [← hs0] at HR hsl HMK
  have HS0 := hide hs0
  have hcv := conv_mark
  clear h hO hK hs0
  go_enter Tryd.func17, Tryd.ntmps17
  go_wp2_with fail
  refine HN.out.mono ?_
  rintro en wx ⟨rfl, rfl⟩
  go_wp2_with fail
  refine HR.out.mono ?_
  rintro en w1 ⟨g, c1, hg, rfl, hRow, hB1, hc1⟩
  rw [hsl] at hc1 ⊢
  obtain ⟨w2, hw2⟩ : ∃ w2, w2 = w1.alloc (.cells #[.int .u8 106, .int .u8 111, .int .u8 117, .int .u8 114, .int .u8 110, .int .u8 97, .int .u8 108] 5 (7, 8)) := ⟨_, rfl⟩
  have hRow2 : Row w2 g s0 := by rw [hw2]; exact hRow.alloc _
  have hp := hasPrefix_any (some ⟨g, 0, none⟩) (some ⟨w1.heap.size, 0, none⟩) c1 7 s0 markB w2 hRow2.bys (by rw [hw2]; exact bys_mark w1) (by rw [hsl]; decide) (by rw [hsl]; omega) (by decide) (by rw [hsl]; omega)
  rw [show markB.length = 7 from rfl, hsl, HMK.out, beq_self_eq_true] at hp
  have HP := hide hp
  have hB2 : Below w.heap.size w w2 := by rw [hw2]; exact hB1.alloc hB1.size _
  have HSM := hide (sum_any (C := C) (b := g) (off := 0) (c := c1) (w := w2) (HK.out.kept hB2) hRow2.bys (by omega) (by omega))
  rw [hsl] at HSM
  have HB2 := hide hB2
  have HW2 := hide hw2
  clear hp hRow hB1 hg hB2 hw2 hRow2
  go_wp2_with fail
  rw [← HW2.out]
  refine HP.out.mono ?_
  rintro en wx ⟨rfl, rfl⟩
  go_wp2_with fail
  refine HSM.out.mono ?_
  rintro en w3 ⟨rfl, hB3⟩
  obtain ⟨d0, hd0⟩ : ∃ d0, d0 = shaF C s0 := ⟨_, rfl⟩
  have hdl : d0.length = 32 := by rw [hd0]; exact shaF_length _ _
  rw [← hd0]
  obtain ⟨sD, hsD⟩ : ∃ sD, sD = secA d0 := ⟨_, rfl⟩
  have hbu := built_jrn s d0 hdl
  rw [← hsD] at hbu ⊢
  have HBU := hide hbu
  obtain ⟨w4, hw4⟩ : ∃ w4, w4 = w3.alloc (.cells (jA s d0 (.slice none 0 0)) 60) := ⟨_, rfl⟩
  have hB4 : Below w3.heap.size w3 w4 := by rw [hw4]; exact (Below.refl _ _).alloc (Nat.le_refl _) _
  have HBX : Hid (∀ {o : Oper} {a : Act} {x : Operand}, o.op = .box 60 x → a.eval x = .agg (jA s d0 (.slice none 0 0)) → Gives o a w3 (.pointer (some ⟨w3.heap.size, 0, none⟩)) w4) := fun ho hx => by rw [hw4]; exact gives_box_agg ho hx
  have hB3' := HB2.out.trans (hB3.mono HB2.out.size)
  have hs3 := hB3'.size
  have HI : Hid (OpenI C F w w3.heap.size s ss e fuse es 0 w4) := by
    refine ⟨⟨fun i => i = w3.heap.size, ?_, fun i hi => by rw [hi]; exact hs3⟩, (HK.out.kept hB3').kept hB4, hB3'.trans (hB4.mono hs3)⟩
    obtain ⟨vals, hv⟩ := Gots.nil (fun i => i = w3.heap.size ∧ i ≠ w3.heap.size) w4
    refine ⟨⟨.slice none 0 0, vals, ⟨by rw [hw4]; show Box _ _ _ _; rw [lastAt, ← HS0.out, ← hd0]; exact Box.new _ _ _, by rw [lastAt, ← HS0.out, ← hd0]; exact hdl⟩, hv⟩, (HD.out.kept hB3').kept hB4, rfl, fun i hi => by rw [hi, hw4]; simp, fun i hF hi => ?_⟩
    have h1 := HD.out.lt i hF
    omega
  obtain ⟨j, hj⟩ : ∃ j, j = w3.heap.size := ⟨_, rfl⟩
  obtain ⟨jc, hjc⟩ : ∃ jc, jc = jA s d0 (.slice none 0 0) := ⟨_, rfl⟩
  rw [← hj] at HI HBX
  rw [← hjc] at HBX HBU
  clear hj
  clear hB3 hd0 hdl hsD hbu hw4 hB4 hB3' hs3 HP HSM HR hjc
  go_upto_region 7 with (first | ((with_reducible refine wpList_gives (o := ⟨some 27, _, _, _, _, _⟩) (v := .agg jc) (w' := w3) ?_ ?_ ?_); rfl; exact gives_build2 rfl rfl rfl HBU.out) | ((with_reducible refine wpList_gives (o := ⟨some 28, _, _, _, _, _⟩) (v := .pointer (some ⟨j, 0, none⟩)) (w' := w4) ?_ ?_ ?_); rfl; exact HBX.out rfl rfl))
  have hjrn := HI.out.jrn
  obtain ⟨G0, hJ0, _⟩ := hjrn
  have HCP := hide (capacity_any hJ0.dsk (by omega))
  clear hJ0 HBX HBU
  go_wp2_with fail
  refine HCP.out.mono ?_
  rintro en wx ⟨rfl, rfl⟩
  go_wp2_with fail
  go_loopw [31] (fun i wr => ∃ k : Nat, k ≤ es.length ∧ i = .int .i64 k ∧ Hid (OpenI C F w j s ss e fuse es k wr)) (fun i _ => capJ ss.length - (iOf i).toNat)
  case atStart => exact ⟨0, by omega, rfl, HI⟩
  case round =>
    clear HI
    obtain ⟨k, hk, rfl, HI⟩ := hrel
    have I := HI.out
    obtain ⟨G, hJ, hGl⟩ := I.jrn
    have hsr := I.below.size
    by_cases hlt : k < es.length
    · have hkc : k < capJ ss.length := by omega
      obtain ⟨hll1, hll⟩ := hJ.last_
      have hrec := HOD.out.recs k hlt
      obtain ⟨d, hd⟩ : ∃ d, d = lastAt C (shaF C (ss.getD 0 [])) es (k + 1) := ⟨_, rfl⟩
      obtain ⟨b, hb⟩ : ∃ b, b = es.getD k [] := ⟨_, rfl⟩
      rw [← hd, ← hb] at hrec
      have hrec' := hrec
      obtain ⟨hdl0, hb1, hb2, _, _, _⟩ := hrec'
      have hdl : d.length = 32 := by rw [hdl0]; exact linkF_length _ _ _
      have HRD := hide (read_any hJ.dsk I.kon k hkc _ hll (some (d, b)) hrec)
      obtain ⟨lA, hlA⟩ : ∃ lA, lA = secA (lastAt C (shaF C (ss.getD 0 [])) es k) := ⟨_, rfl⟩
      rw [← hlA] at HRD hll1
      have HLD := hide hll1
      have HDD := hide hd
      have HBE := hide hb
      have HDL := hide hdl
      have HJ := hide hJ
      have HGL := hide hGl
      clear hll1 hll hrec hd hb hdl0 hlA hdl hJ hGl I
      go_wp2_with ((with_reducible refine wpList_gives (o := ⟨some 40, _, _, _, _, _⟩) (v := Value.agg lA) (w' := wr) ?_ ?_ ?_); rfl; exact gives_load rfl rfl HLD.out)
      refine HRD.out.mono ?_
      rintro en w2 ⟨A, cb, rfl, hO2, hB2⟩
      obtain ⟨gb, cap, hv2, hgb, hRow2, hcb⟩ := own_row hO2 hb1
      injection hv2 with e1 e2 e3
      subst e1
      subst e3
      clear e2
      have hs2 := hB2.size
      obtain ⟨w3', hw3⟩ : ∃ w3', w3' = w2.alloc (.cells (secA z32) 58) := ⟨_, rfl⟩
      have hB3 : Below w2.heap.size w2 w3' := by rw [hw3]; exact (Below.refl _ _).alloc (Nat.le_refl _) _
      have HA3 : Hid (∀ {o : Oper} {a : Act}, o.op = .alloc 58 → Gives o a w2 (.pointer (some ⟨w2.heap.size, 0, none⟩)) w3') := fun ho => by rw [hw3]; exact gives_alloc_dig ho
      have hD3 : Dig w3' w2.heap.size z32 := by unfold Dig; rw [hw3]; exact Box.new _ _ _
      obtain ⟨w4', hr4, hS4, hg4⟩ := hD3.store (d' := d) (List.length_replicate ..) HDL.out
      have hs3 : w3'.heap.size = w2.heap.size + 1 := by rw [hw3]; simp
      have hB4 : Below w2.heap.size w2 w4' := hB3.grown hg4 (by omega) (fun k hk => by injection hk with hk; omega)
      have hs4 := hg4.size
      obtain ⟨sA, hsA⟩ : ∃ sA, sA = secA d := ⟨_, rfl⟩
      rw [← hsA] at hr4 ⊢
      have HR4 := hide hr4
      have HSA := hide hsA
      -- the world in which the entry is added
      have hBr : Below wr.heap.size wr w4'.drew := below_drew (hB2.trans (hB4.mono hs2)) 1
      have hJq := HJ.out.kept hBr
      have hBwq : Below w.heap.size w w4'.drew := HI.out.below.trans (hBr.mono hsr)
      have hDq : Dig w4'.drew w2.heap.size d := hS4
      have hRq : Row w4'.drew gb b := hRow2.kept (below_drew hB4 1)
      have hKq := HI.out.kon.kept hBr
      obtain ⟨g9, hg9⟩ : ∃ g9, g9 = w2.heap.size := ⟨_, rfl⟩
      have hg9l : wr.heap.size ≤ g9 := by omega
      have hg9h : g9 < w4'.drew.heap.size := by show g9 < w4'.heap.size; omega
      rw [← hg9] at hDq HA3 HR4
      clear hg9 hw3 hB3 hD3 hr4 hS4 hg4 hs3 hB4 hsA hRow2 hO2 hB2 hs4 hs2
      go_upto_region 12 with (first | ((with_reducible refine wpList_gives (o := ⟨some 9, _, _, _, _, _⟩) (v := .pointer (some ⟨g9, 0, none⟩)) (w' := w3') ?_ ?_ ?_); rfl; exact HA3.out rfl) | ((with_reducible refine wpList_does (o := ⟨none, .store 58 _ _, _, _, _, _⟩) (w' := w4') ?_ ?_ ?_); rfl; exact does_store rfl rfl rfl HR4.out))
      have HT : Hid (es.take k ++ [b] = es.take (k + 1)) := by
        unfold Hid
        rw [List.take_add_one, HBE.out]
        simp [List.getD_eq_getElem?_getD, hlt]
      have hjl : w.heap.size ≤ j := HGL.out j HJ.out.mem
      have hgbF : ¬ F gb := fun h => by have := HD.out.lt gb h; omega
      have hgbG : ¬ G gb := fun h => by have := HJ.out.lt gb h; omega
      have hg9G : ¬ G g9 := fun h => by have := HJ.out.lt g9 h; omega
      have hg9j : g9 ≠ j := fun h => hg9G (h ▸ HJ.out.mem)
      obtain ⟨v, vals, hx, hv⟩ := hJq.box
      obtain ⟨Av, cv, hvv, _⟩ := Gots.shape ⟨vals, hv⟩
      subst hvv
      obtain ⟨v', w5, hr5, hC5, hfz, hc33, ⟨A', c', hform⟩, G', hJ5, hG5⟩ := append_step hx hv hJq.dsk hJq.mem hJq.lt hJq.apart (by rw [List.length_take]; omega) hRq hgbF hgbG hcb 29
      subst hform
      obtain ⟨w7, hr7, hJ7, hg7⟩ := hJ5.setLast HDL.out
      have y33 := hx.entries
      have y33a : (w4'.drew.alloc (.cells #[.slice (some ⟨gb, 0, none⟩) b.length cb] 22)).cell? ⟨j, 33, none⟩ = some (.slice Av (es.take k).length cv) := ((hx.1.alloc (.cells #[.slice (some ⟨gb, 0, none⟩) b.length cb] 22)).cell 33).trans ((hx.1.cell 33).symm.trans y33)
      have HSa : Hid (Below w.heap.size w (w4'.drew.alloc (.cells #[.slice (some ⟨gb, 0, none⟩) b.length cb] 22)) ∧ Dig (w4'.drew.alloc (.cells #[.slice (some ⟨gb, 0, none⟩) b.length cb] 22)) g9 d) := ⟨hBwq.alloc hBwq.size _, Box.alloc hDq _⟩
      have hS5 : Below w.heap.size w w5 ∧ Dig w5 g9 d := ⟨hBwq.trans (hC5.below (fun i hi hM => by have := HGL.out i hM.1; omega) hBwq.size), (hC5.block g9 hg9h (fun h => hg9G h.1)).trans hDq⟩
      have hS6 : Below w.heap.size w (w5.setCell ⟨j, 33, none⟩ (.slice A' ((es.take k).length + 1) c')) ∧ Dig (w5.setCell ⟨j, 33, none⟩ (.slice A' ((es.take k).length + 1) c')) g9 d := ⟨hS5.1.setCell (by exact hjl) _, Box.far hS5.2 (by exact hg9j) _⟩
      have hS7 : Below w.heap.size w w7 ∧ Dig w7 g9 d := ⟨hS6.1.grown hg7 hS6.1.size (fun k hk => by injection hk with hk; omega), Box.grown hS6.2 hg7 (fun e => by injection e with e; exact hg9j e)⟩
      have HI7 : Hid (OpenI C F w j s ss e fuse es (k + 1) w7) := by
        refine ⟨⟨G', ?_, fun i hi => ?_⟩, HK.out.below hS7.1 h0, hS7.1⟩
        · rw [← HDD.out, ← HT.out]
          exact hJ7
        · rcases hG5 i hi with h1 | h1 | h1
          · exact HGL.out i h1
          · omega
          · have := hBwq.size; omega
      have HS0' := hide (show Below w.heap.size w w4'.drew ∧ Dig w4'.drew g9 d from ⟨hBwq, hDq⟩)
      rw [← HSA.out] at hr7
      have HLG : Hid (∀ v, Dig v g9 d → (loadVar 58 ⟨g9, 0, none⟩).run Tryd.prog v = .ok (.agg sA) v) := fun v hv => by
        rw [HSA.out]
        exact load_dig (Dig.bys hv) HDL.out
      have HR5 := hide hr5
      have HR7 := hide hr7
      have HS5 := hide hS5
      have HS6 := hide hS6
      have HS7 := hide hS7
      obtain ⟨nk, hnk⟩ : ∃ nk, nk = (es.take k).length := ⟨_, rfl⟩
      rw [← hnk] at y33 y33a HR5 HR7 HS6 hc33
      clear hr5 hr7 hS5 hS6 hS7 hx hv hC5 hJ5 hG5 hJ7 hg7 hnk hJq hKq hBr hRq hgbF hgbG hg9G hBwq hDq
      refine wp_region_held_drew (S := fun v => Below w.heap.size w v ∧ Dig v g9 d) (by kernel_rfl) (HS0'.out) (fun hH => ?_)
      generalize w4'.drew = wq at *
      refine wpAnyH_take (i := 0) (v := ?xv0) (by simp only [List.getElem?_toArray, List.getElem?_cons_succ, List.getElem?_cons_zero]; exact rfl) (by kernel_rfl) (by kernel_rfl) (by kernel_rfl) ?xq0 ?xy0 hH ?xr0
      case xq0 => exact fun _ _ _ h => h
      case xy0 =>
        refine Or.inl ⟨by rfl, fun v hv => ?_⟩
        go_simp
        rfl
      try simp only [Act.put, List.setIfInBounds_toArray, List.set_cons_zero, List.set_cons_succ]
      refine wpAnyH_take (i := 1) (v := ?xv1) (by simp only [List.getElem?_toArray, List.getElem?_cons_succ, List.getElem?_cons_zero]; exact rfl) (by kernel_rfl) (by kernel_rfl) (by kernel_rfl) ?xq1 ?xy1 hH ?xr1
      case xq1 => exact fun _ _ _ h => h
      case xy1 =>
        refine Or.inl ⟨by rfl, fun v hv => ?_⟩
        go_simp
        rfl
      try simp only [Act.put, List.setIfInBounds_toArray, List.set_cons_zero, List.set_cons_succ]
      refine wpAnyH_take (i := 2) (v := ?xv2) (by simp only [List.getElem?_toArray, List.getElem?_cons_succ, List.getElem?_cons_zero]; exact rfl) (by kernel_rfl) (by kernel_rfl) (by kernel_rfl) ?xq2 ?xy2 hH ?xr2
      case xq2 => exact fun _ _ _ h => h
      case xy2 =>
        refine Or.inl ⟨by rfl, fun v hv => ?_⟩
        go_simp
        rfl
      try simp only [Act.put, List.setIfInBounds_toArray, List.set_cons_zero, List.set_cons_succ]
      refine wpAnyH_take (i := 3) (v := ?xv3) (by simp only [List.getElem?_toArray, List.getElem?_cons_succ, List.getElem?_cons_zero]; exact rfl) (by kernel_rfl) (by kernel_rfl) (by kernel_rfl) ?xq3 ?xy3 hH ?xr3
      case xq3 => exact fun _ _ _ h => h
      case xy3 =>
        refine Or.inl ⟨by rfl, fun v hv => ?_⟩
        go_simp
        rfl
      try simp only [Act.put, List.setIfInBounds_toArray, List.set_cons_zero, List.set_cons_succ]
      refine wpAnyH_take (i := 4) (v := ?xv4) (by simp only [List.getElem?_toArray, List.getElem?_cons_succ, List.getElem?_cons_zero]; exact rfl) (by kernel_rfl) (by kernel_rfl) (by kernel_rfl) ?xq4 ?xy4 hH ?xr4
      case xq4 => exact fun _ _ _ h => h
      case xy4 =>
        refine Or.inl ⟨by rfl, fun v hv => ?_⟩
        go_simp
        rfl
      try simp only [Act.put, List.setIfInBounds_toArray, List.set_cons_zero, List.set_cons_succ]
      refine wpAnyH_take (i := 6) (v := ?xv6) (by simp only [List.getElem?_toArray, List.getElem?_cons_succ, List.getElem?_cons_zero]; exact rfl) (by kernel_rfl) (by kernel_rfl) (by kernel_rfl) ?xq6 ?xy6 hH ?xr6
      case xq6 => exact fun _ _ _ h => h
      case xy6 =>
        refine Or.inl ⟨by rfl, fun v hv => ?_⟩
        go_simp
        rfl
      try simp only [Act.put, List.setIfInBounds_toArray, List.set_cons_zero, List.set_cons_succ]
      refine wpAnyH_take (i := 9) (v := ?xv9) (by simp only [List.getElem?_toArray, List.getElem?_cons_succ, List.getElem?_cons_zero]; exact rfl) (by kernel_rfl) (by kernel_rfl) (by kernel_rfl) ?xq9 ?xy9 hH ?xr9
      case xq9 => exact fun _ _ _ h => h
      case xy9 =>
        refine Or.inl ⟨by rfl, fun v hv => ?_⟩
        refine Eq.trans (b := Result.ok (Next.value (.agg sA)) v) (gives_load rfl rfl (HLG.out _ hv.2)) ?_
        rfl
      try simp only [Act.put, List.setIfInBounds_toArray, List.set_cons_zero, List.set_cons_succ]
      refine wpAnyH_ready (rs := [5, 7]) (by kernel_rfl) (by simp) ?_
      refine AllReadyH.cons (by simp only [List.getElem?_toArray, List.getElem?_cons_succ, List.getElem?_cons_zero]; exact rfl) (fun K hK => ?xb5) (AllReadyH.cons (by simp only [List.getElem?_toArray, List.getElem?_cons_succ, List.getElem?_cons_zero]; exact rfl) (fun K hK => ?xb7) (AllReadyH.nil))
      case xb5 =>
        go_simp
        have hN := hH
        refine hK.out _ _ hN (fun hH' => ?_)
        clear hK hH hN K
        have hH := hH'
        clear hH'
        try simp only [Act.put, List.setIfInBounds_toArray, List.set_cons_zero, List.set_cons_succ]
        refine wpAnyH_ready (rs := [7]) (by kernel_rfl) (by simp) ?_
        refine AllReadyH.cons (by simp only [List.getElem?_toArray, List.getElem?_cons_succ, List.getElem?_cons_zero]; exact rfl) (fun K hK => ?_) AllReadyH.nil
        go_simp
        have hN := HSa.out
        refine hK.out _ _ hN (fun hH' => ?_)
        clear hK hH hN K
        have hH := hH'
        clear hH'
        try simp only [Act.put, List.setIfInBounds_toArray, List.set_cons_zero, List.set_cons_succ]
        refine wpAnyH_ready (rs := [8]) (by kernel_rfl) (by simp) ?_
        refine AllReadyH.cons (by simp only [List.getElem?_toArray, List.getElem?_cons_succ, List.getElem?_cons_zero]; exact rfl) (fun K hK => ?_) AllReadyH.nil
        refine step_gives rfl (gives_append rfl rfl rfl HR5.out) ?_
        have hN := HS5.out
        refine hK.out _ _ hN (fun hH' => ?_)
        clear hK hH hN K
        have hH := hH'
        clear hH'
        try simp only [Act.put, List.setIfInBounds_toArray, List.set_cons_zero, List.set_cons_succ]
        refine wpAnyH_take (i := 10) (v := ?xc5v10) (by simp only [List.getElem?_toArray, List.getElem?_cons_succ, List.getElem?_cons_zero]; exact rfl) (by kernel_rfl) (by kernel_rfl) (by kernel_rfl) ?xc5q10 ?xc5y10 hH ?xc5r10
        case xc5q10 => exact fun _ _ _ h => h
        case xc5y10 =>
          refine Or.inl ⟨by rfl, fun v hv => ?_⟩
          go_simp
          rfl
        try simp only [Act.put, List.setIfInBounds_toArray, List.set_cons_zero, List.set_cons_succ]
        refine wpAnyH_take (i := 11) (v := ?xc5v11) (by simp only [List.getElem?_toArray, List.getElem?_cons_succ, List.getElem?_cons_zero]; exact rfl) (by kernel_rfl) (by kernel_rfl) (by kernel_rfl) ?xc5q11 ?xc5y11 hH ?xc5r11
        case xc5q11 => exact fun _ _ _ h => h
        case xc5y11 =>
          refine Or.inl ⟨by rfl, fun v hv => ?_⟩
          go_simp
          rfl
        try simp only [Act.put, List.setIfInBounds_toArray, List.set_cons_zero, List.set_cons_succ]
        refine wpAnyH_ready (rs := [12]) (by kernel_rfl) (by simp) ?_
        refine AllReadyH.cons (by simp only [List.getElem?_toArray, List.getElem?_cons_succ, List.getElem?_cons_zero]; exact rfl) (fun K hK => ?_) AllReadyH.nil
        go_simp
        have hN := HS6.out
        refine hK.out _ _ hN (fun hH' => ?_)
        clear hK hH hN K
        have hH := hH'
        clear hH'
        try simp only [Act.put, List.setIfInBounds_toArray, List.set_cons_zero, List.set_cons_succ]
        refine wpAnyH_take (i := 13) (v := ?xc5v13) (by simp only [List.getElem?_toArray, List.getElem?_cons_succ, List.getElem?_cons_zero]; exact rfl) (by kernel_rfl) (by kernel_rfl) (by kernel_rfl) ?xc5q13 ?xc5y13 hH ?xc5r13
        case xc5q13 => exact fun _ _ _ h => h
        case xc5y13 =>
          refine Or.inl ⟨by rfl, fun v hv => ?_⟩
          go_simp
          rfl
        try simp only [Act.put, List.setIfInBounds_toArray, List.set_cons_zero, List.set_cons_succ]
        refine wpAnyH_take (i := 14) (v := ?xc5v14) (by simp only [List.getElem?_toArray, List.getElem?_cons_succ, List.getElem?_cons_zero]; exact rfl) (by kernel_rfl) (by kernel_rfl) (by kernel_rfl) ?xc5q14 ?xc5y14 hH ?xc5r14
        case xc5q14 => exact fun _ _ _ h => h
        case xc5y14 =>
          refine Or.inl ⟨by rfl, fun v hv => ?_⟩
          go_simp
          rfl
        try simp only [Act.put, List.setIfInBounds_toArray, List.set_cons_zero, List.set_cons_succ]
        refine wpAnyH_ready (rs := [15]) (by kernel_rfl) (by simp) ?_
        refine AllReadyH.cons (by simp only [List.getElem?_toArray, List.getElem?_cons_succ, List.getElem?_cons_zero]; exact rfl) (fun K hK => ?_) AllReadyH.nil
        refine step_does rfl (does_store rfl rfl rfl HR7.out) ?_
        have hN := HS7.out
        refine hK.out _ _ hN (fun hH' => ?_)
        clear hK hH hN K
        have hH := hH'
        clear hH'
        try simp only [Act.put, List.setIfInBounds_toArray, List.set_cons_zero, List.set_cons_succ]
        refine wpAnyH_done (by kernel_rfl) ?_ _
        clear hH y33 y33a hfz hc33
        go_wp2_with fail
        go_roundw
        case rel => exact ⟨k + 1, by omega, by go_num, HI7⟩
        case measure => simp [iOf]; omega
      case xb7 =>
        go_simp
        have hN := HSa.out
        refine hK.out _ _ hN (fun hH' => ?_)
        clear hK hH hN K
        have hH := hH'
        clear hH'
        try simp only [Act.put, List.setIfInBounds_toArray, List.set_cons_zero, List.set_cons_succ]
        refine wpAnyH_ready (rs := [5]) (by kernel_rfl) (by simp) ?_
        refine AllReadyH.cons (by simp only [List.getElem?_toArray, List.getElem?_cons_succ, List.getElem?_cons_zero]; exact rfl) (fun K hK => ?_) AllReadyH.nil
        go_simp
        have hN := hH
        refine hK.out _ _ hN (fun hH' => ?_)
        clear hK hH hN K
        have hH := hH'
        clear hH'
        try simp only [Act.put, List.setIfInBounds_toArray, List.set_cons_zero, List.set_cons_succ]
        refine wpAnyH_ready (rs := [8]) (by kernel_rfl) (by simp) ?_
        refine AllReadyH.cons (by simp only [List.getElem?_toArray, List.getElem?_cons_succ, List.getElem?_cons_zero]; exact rfl) (fun K hK => ?_) AllReadyH.nil
        refine step_gives rfl (gives_append rfl rfl rfl HR5.out) ?_
        have hN := HS5.out
        refine hK.out _ _ hN (fun hH' => ?_)
        clear hK hH hN K
        have hH := hH'
        clear hH'
        try simp only [Act.put, List.setIfInBounds_toArray, List.set_cons_zero, List.set_cons_succ]
        refine wpAnyH_take (i := 10) (v := ?xc7v10) (by simp only [List.getElem?_toArray, List.getElem?_cons_succ, List.getElem?_cons_zero]; exact rfl) (by kernel_rfl) (by kernel_rfl) (by kernel_rfl) ?xc7q10 ?xc7y10 hH ?xc7r10
        case xc7q10 => exact fun _ _ _ h => h
        case xc7y10 =>
          refine Or.inl ⟨by rfl, fun v hv => ?_⟩
          go_simp
          rfl
        try simp only [Act.put, List.setIfInBounds_toArray, List.set_cons_zero, List.set_cons_succ]
        refine wpAnyH_take (i := 11) (v := ?xc7v11) (by simp only [List.getElem?_toArray, List.getElem?_cons_succ, List.getElem?_cons_zero]; exact rfl) (by kernel_rfl) (by kernel_rfl) (by kernel_rfl) ?xc7q11 ?xc7y11 hH ?xc7r11
        case xc7q11 => exact fun _ _ _ h => h
        case xc7y11 =>
          refine Or.inl ⟨by rfl, fun v hv => ?_⟩
          go_simp
          rfl
        try simp only [Act.put, List.setIfInBounds_toArray, List.set_cons_zero, List.set_cons_succ]
        refine wpAnyH_ready (rs := [12]) (by kernel_rfl) (by simp) ?_
        refine AllReadyH.cons (by simp only [List.getElem?_toArray, List.getElem?_cons_succ, List.getElem?_cons_zero]; exact rfl) (fun K hK => ?_) AllReadyH.nil
        go_simp
        have hN := HS6.out
        refine hK.out _ _ hN (fun hH' => ?_)
        clear hK hH hN K
        have hH := hH'
        clear hH'
        try simp only [Act.put, List.setIfInBounds_toArray, List.set_cons_zero, List.set_cons_succ]
        refine wpAnyH_take (i := 13) (v := ?xc7v13) (by simp only [List.getElem?_toArray, List.getElem?_cons_succ, List.getElem?_cons_zero]; exact rfl) (by kernel_rfl) (by kernel_rfl) (by kernel_rfl) ?xc7q13 ?xc7y13 hH ?xc7r13
        case xc7q13 => exact fun _ _ _ h => h
        case xc7y13 =>
          refine Or.inl ⟨by rfl, fun v hv => ?_⟩
          go_simp
          rfl
        try simp only [Act.put, List.setIfInBounds_toArray, List.set_cons_zero, List.set_cons_succ]
        refine wpAnyH_take (i := 14) (v := ?xc7v14) (by simp only [List.getElem?_toArray, List.getElem?_cons_succ, List.getElem?_cons_zero]; exact rfl) (by kernel_rfl) (by kernel_rfl) (by kernel_rfl) ?xc7q14 ?xc7y14 hH ?xc7r14
        case xc7q14 => exact fun _ _ _ h => h
        case xc7y14 =>
          refine Or.inl ⟨by rfl, fun v hv => ?_⟩
          go_simp
          rfl
        try simp only [Act.put, List.setIfInBounds_toArray, List.set_cons_zero, List.set_cons_succ]
        refine wpAnyH_ready (rs := [15]) (by kernel_rfl) (by simp) ?_
        refine AllReadyH.cons (by simp only [List.getElem?_toArray, List.getElem?_cons_succ, List.getElem?_cons_zero]; exact rfl) (fun K hK => ?_) AllReadyH.nil
        refine step_does rfl (does_store rfl rfl rfl HR7.out) ?_
        have hN := HS7.out
        refine hK.out _ _ hN (fun hH' => ?_)
        clear hK hH hN K
        have hH := hH'
        clear hH'
        try simp only [Act.put, List.setIfInBounds_toArray, List.set_cons_zero, List.set_cons_succ]
        refine wpAnyH_done (by kernel_rfl) ?_ _
        clear hH y33 y33a hfz hc33
        go_wp2_with fail
        go_roundw
        case rel => exact ⟨k + 1, by omega, by go_num, HI7⟩
        case measure => simp [iOf]; omega
    · obtain rfl : k = es.length := by omega
      have hz : es.length < capJ ss.length → ss.getD (4 + 4 * es.length) [] = zeroS := fun hlt => HOD.out.rest _ (Nat.le_refl _) (by unfold capJ at hlt; omega)
      have HZ := hide hz
      rw [List.take_length] at hJ
      have HJ := hide hJ
      have HGL := hide hGl
      by_cases hkc : es.length < capJ ss.length
      · obtain ⟨hll1, hll⟩ := hJ.last_
        have HRD := hide (read_any hJ.dsk I.kon es.length hkc _ hll none (HOD.out.none_ hkc _))
        obtain ⟨lA, hlA⟩ : ∃ lA, lA = secA (lastAt C (shaF C (ss.getD 0 [])) es es.length) := ⟨_, rfl⟩
        rw [← hlA] at HRD hll1
        have HLD := hide hll1
        clear hll1 hll hlA hJ hGl I hz
        go_wp2_with ((with_reducible refine wpList_gives (o := ⟨some 40, _, _, _, _, _⟩) (v := Value.agg lA) (w' := wr) ?_ ?_ ?_); rfl; exact gives_load rfl rfl HLD.out)
        refine HRD.out.mono ?_
        rintro en w2 ⟨rfl, hB2⟩
        obtain ⟨w3', hw3⟩ : ∃ w3', w3' = w2.alloc (.cells (secA z32) 58) := ⟨_, rfl⟩
        have hB3 : Below w2.heap.size w2 w3' := by rw [hw3]; exact (Below.refl _ _).alloc (Nat.le_refl _) _
        have HA3 : Hid (∀ {o : Oper} {a : Act}, o.op = .alloc 58 → Gives o a w2 (.pointer (some ⟨w2.heap.size, 0, none⟩)) w3') := fun ho => by rw [hw3]; exact gives_alloc_dig ho
        have hD3 : Dig w3' w2.heap.size z32 := by unfold Dig; rw [hw3]; exact Box.new _ _ _
        obtain ⟨w4', hr4, hS4, hg4⟩ := hD3.store (d' := z32) (List.length_replicate ..) (List.length_replicate ..)
        have hs3 : w3'.heap.size = w2.heap.size + 1 := by rw [hw3]; simp
        have hB4 : Below w2.heap.size w2 w4' := hB3.grown hg4 (by omega) (fun k hk => by injection hk with hk; omega)
        obtain ⟨sA, hsA⟩ : ∃ sA, sA = secA z32 := ⟨_, rfl⟩
        rw [← hsA] at hr4 ⊢
        have HR4 := hide hr4
        have hBr : Below wr.heap.size wr w4' := hB2.trans (hB4.mono hB2.size)
        have HJq := hide (HJ.out.kept hBr)
        have HBq := hide (HI.out.below.trans (hBr.mono hsr))
        have HCL := hide (clear_ok HJq.out h8 hcl HZ.out)
        obtain ⟨g9, hg9⟩ : ∃ g9, g9 = w2.heap.size := ⟨_, rfl⟩
        rw [← hg9] at HA3 HR4
        clear hw3 hB3 hD3 hr4 hS4 hg4 hs3 hB4 hsA hB2 hBr hg9
        go_wp2_with (first | ((with_reducible refine wpList_gives (o := ⟨some 9, _, _, _, _, _⟩) (v := .pointer (some ⟨g9, 0, none⟩)) (w' := w3') ?_ ?_ ?_); rfl; exact HA3.out rfl) | ((with_reducible refine wpList_does (o := ⟨none, .store 58 _ _, _, _, _, _⟩) (w' := w4') ?_ ?_ ?_); rfl; exact does_store rfl rfl rfl HR4.out))
        refine HCL.out.mono ?_
        rintro en w9 ⟨rfl, hB9⟩
        go_wp2_with fail
        go_ret2
        exact ⟨j, G, rfl, HJq.out.kept hB9, HBq.out.trans (hB9.mono HBq.out.size), HGL.out⟩
      · have HCL := hide (clear_ok HJ.out h8 hcl HZ.out)
        have t1 : decide ((es.length : Int) < (capJ ss.length : Int)) = false := decide_eq_false (by omega)
        clear hJ hGl I hz
        go_wp2_with fail
        refine HCL.out.mono ?_
        rintro en w9 ⟨rfl, hB9⟩
        go_wp2_with fail
        go_ret2
        exact ⟨j, G, rfl, HJ.out.kept hB9, HI.out.below.trans (hB9.mono hsr), HGL.out⟩
end Go.Proofs.YtlelkhonkhlflaaDoor
