/-
  journal.read.
-/
import Derived.Test.YtlelkhonkhlflaaDoorAll
namespace Go.Proofs.YtlelkhonkhlflaaDoor
open Go.RowKit
set_option linter.unusedVariables false
set_option linter.unusedSimpArgs false

/-- m sectors from i on, in a row -/
def recL (ss : List (List UInt8)) (i : Nat) : Nat → List UInt8
  | 0 => []
  | m + 1 => recL ss i m ++ ss.getD (i + m) []
theorem recL_length {ss : List (List UInt8)} (h : ∀ s ∈ ss, s.length = 64) {i : Nat} : ∀ m, i + m ≤ ss.length → (recL ss i m).length = 64 * m
  | 0, _ => rfl
  | m + 1, hm => by
    rw [recL, List.length_append, recL_length h m (by omega), List.getD_eq_getElem?_getD, List.getElem?_eq_getElem (by omega), Option.getD_some, h _ (List.getElem_mem _)]
    omega
theorem Dsk.len64 {F : Nat → Prop} {w : World} {s : Nat} {ss : List (List UInt8)} {e : Nat → Option (List UInt8)} {fuse : Int} {dead : Bool} (h : Dsk F w s ss e fuse dead) : ∀ x ∈ ss, x.length = 64 := by
  obtain ⟨g, mb, h1, h2, h3⟩ := h.box
  exact h2.2
/-- what a read finds: nothing, or an entry -/
def ReadPost (w : World) : Option (List UInt8 × List UInt8) → Ending → World → Prop
  | none, en, w' => en = .returned (.tuple #[.slice none 0 0, .agg (secA z32), .bool false]) ∧ Below w.heap.size w w'
  | some (d, b), en, w' => ∃ A c, en = .returned (.tuple #[.slice A b.length c, .agg (secA d), .bool true]) ∧ OwnBy w.heap.size w' (.slice A b.length c) b ∧ Below w.heap.size w w'
/-- the record at hand -/
def RecIs (C : List Nat) (last R : List UInt8) : Option (List UInt8 × List UInt8) → Prop
  | none => R.getD 32 0 = 0
  | some (d, b) => d = linkF C last b ∧ 0 < b.length ∧ b.length ≤ 200 ∧ (R.getD 32 0).toNat = b.length ∧ R.take 32 = d ∧ (R.drop 33).take b.length = b
theorem results_tct {fn : Func} {p q r : Tmp} {ty : TypeId} {tmps : Array Value} {w : World} {a : Addr} {v : Value} (h : fn.results = #[.tmp p, .cell q ty, .tmp r]) (hp : tmps.getD q undef = .pointer (some a))
    (hl : (loadVar ty a).run Tryd.prog w = .ok v w) : (results fn tmps).run Tryd.prog w = .ok (.tuple #[tmps.getD p undef, v, tmps.getD r undef]) w := by
  have hp' : tmps[q]?.getD undef = .pointer (some a) := by simpa using hp
  simp [results, h, hp', asAddr, hl]
theorem gives_build_dig {o : Oper} {a : Act} {w : World} (ho : o.op = .build 58 #[]) : Gives o a w (.agg (secA z32)) w := by
  have h : Tryd.prog.built 58 [] = some (secA z32) := by kernel_rfl
  exact gives_build (vs := #[]) ho (by simp) h
theorem OwnBy.grown1 {B g : Nat} {w w' : World} {v : Value} {bs : List UInt8} (h : OwnBy B w v bs) (hg : w.grownBy w' (some g)) (hB : g < B) : OwnBy B w' v bs :=
  ownsRow_of h fun i hi hlt => hg.block i hlt (fun e => by
    have := h.lo i hi
    injection e with e
    omega)
set_option maxHeartbeats 3200000 in
set_option maxRecDepth 100000 in
theorem read_any {C : List Nat} {F : Nat → Prop} {w : World} {s : Nat} {ss : List (List UInt8)} {e : Nat → Option (List UInt8)} {fuse : Int} (h : Dsk F w s ss e fuse false) (hK : Kon C w) (k : Nat) (hk : k < capJ ss.length) (last : List UInt8) (hll : last.length = 32)
    (o : Option (List UInt8 × List UInt8)) (hR : RecIs C last (recL ss (4 + 4 * k) 4) o) :
    Calls Tryd.prog 35 #[.pointer (some ⟨s, 0, none⟩), .int .i64 (k : Int), .agg (secA last)] w (ReadPost w o) := by
  have h0 := hK.some_
  have hcap : 4 + 4 * k + 4 ≤ ss.length := by unfold capJ at hk; omega
  have hmo := h.most
  obtain ⟨lA, hlA⟩ : ∃ lA, lA = secA last := ⟨_, rfl⟩
  obtain ⟨w1, hw1⟩ : ∃ w1, w1 = w.alloc (.cells lA 58) := ⟨_, rfl⟩
  have hs1 : w1.heap.size = w.heap.size + 1 := by rw [hw1]; simp
  obtain ⟨w2, hw2⟩ : ∃ w2, w2 = w1.alloc (.cells (secA z32) 58) := ⟨_, rfl⟩
  have hs2 : w2.heap.size = w.heap.size + 1 + 1 := by rw [hw2]; simp [hs1]
  have HA1 : Hid (∀ {o : Oper} {a : Act} {x : Operand}, o.op = .box 58 x → a.eval x = .agg lA → Gives o a w (.pointer (some ⟨w.heap.size, 0, none⟩)) w1) := fun ho hx => by rw [hw1, hlA]; exact gives_box_dig ho (by rw [hx, hlA])
  have HA2 : Hid (∀ {o : Oper} {a : Act}, o.op = .alloc 58 → Gives o a w1 (.pointer (some ⟨w.heap.size + 1, 0, none⟩)) w2) := fun ho => by rw [hw2, ← hs1]; exact gives_alloc_dig ho
  have hB2 : Below w.heap.size w w2 := by rw [hw2, hw1]; exact ((Below.refl _ _).alloc (Nat.le_refl _) _).alloc (by simp) _
  have HD0 : Hid (Dig w2 w.heap.size last) := by unfold Hid Dig; rw [hw2, hw1, hlA]; exact (Box.new _ _ _).alloc _
  have HD1 : Hid (Dig w2 (w.heap.size + 1) z32) := by unfold Hid Dig; rw [hw2, ← hs1]; exact Box.new _ _ _
  have HDK := hide (h.kept hB2)
  have HK2 := hide (hK.below hB2 h0)
  have HB2 := hide hB2
  have HRL := hide (fun m hm => recL_length h.len64 (i := 4 + 4 * k) m hm)
  have HRI := hide hR
  have HLA := hide hlA
  have HLL := hide hll
  rw [← hlA]
  clear hw1 hw2 hs1 hlA hB2 hK h hR hll
  go_enter Tryd.func35, Tryd.ntmps35
  go_wp2_with (first | ((with_reducible refine wpList_gives (o := ⟨some 5, _, _, _, _, _⟩) (v := .pointer (some ⟨w.heap.size, 0, none⟩)) (w' := w1) ?_ ?_ ?_); rfl; exact HA1.out rfl rfl) | ((with_reducible refine wpList_gives (o := ⟨some 7, _, _, _, _, _⟩) (v := .pointer (some ⟨w.heap.size + 1, 0, none⟩)) (w' := w2) ?_ ?_ ?_); rfl; exact HA2.out rfl))
  go_loopw [9, 16] (fun v i wr => ∃ m : Nat, m ≤ 4 ∧ i = .int .i64 m ∧ ∃ A c, v = .slice A (64 * m) c ∧ Hid (OwnBy (w.heap.size + 1 + 1) wr (.slice A (64 * m) c) (recL ss (4 + 4 * k) m)) ∧ Hid (Below (w.heap.size + 1 + 1) w2 wr)) (fun _ i _ => 4 - (iOf i).toNat)
  case atStart => exact ⟨0, by omega, rfl, none, 0, rfl, OwnBy.nil _ _, Below.refl _ _⟩
  case round =>
    obtain ⟨m, hm, rfl, A, c, rfl, HO, HB⟩ := hrel
    have hsr := HB.out.size
    rw [hs2] at hsr
    by_cases hlt : m < 4
    · have hrl := HRL.out m (by omega)
      have hrl2 := HRL.out (m + 1) (by omega)
      have hsl : (ss.getD (4 + 4 * k + m) []).length = 64 := by
        rw [recL, List.length_append, hrl] at hrl2
        omega
      have HRD := hide (read_ok (HDK.out.agree (Agree.of_below HB.out fun i hi => by have := HDK.out.lt i hi; omega) (by omega)) (4 + 4 * k + m) (by omega))
      rw [show ((4 + 4 * k + m : Nat) : Int) = 4 + 4 * (k : Int) + (m : Int) by omega] at HRD
      have HRE : Hid (recL ss (4 + 4 * k) (m + 1) = recL ss (4 + 4 * k) m ++ ss.getD (4 + 4 * k + m) []) := rfl
      generalize ss.getD (4 + 4 * k + m) [] = sec at *
      have HSL := hide hsl
      have HR1 := hide hrl
      have HR2 := hide hrl2
      clear hrl hrl2 hsl
      go_wp2_with fail
      refine HRD.out.mono ?_
      rintro en w3 ⟨g, c3, hg, rfl, hRow, hB3, hc3⟩
      have hs3 := hB3.size
      obtain ⟨A4, d4, w4, hr4, hO4, hB4⟩ := push_bytes (c := c3) (HO.out.kept hB3) (by omega) (by rw [HR1.out]; omega) hRow.bys (by rw [HSL.out]; omega) (by rw [HSL.out]; omega) 22
      rw [← HRE.out] at hr4 hO4
      rw [HR2.out] at hr4 hO4
      have HR4 := hide hr4
      have HO4 := hide hO4
      have HB4 := hide (HB.out.trans ((hB3.mono (by omega)).trans hB4))
      obtain ⟨n4, hn4⟩ : ∃ n4, n4 = 64 * (m + 1) := ⟨_, rfl⟩
      rw [← hn4] at HR4 HO4
      clear hr4 hO4 hB3 hB4 hRow hg hc3
      go_wp2_with ((with_reducible refine wpList_gives (o := ⟨some 31, _, _, _, _, _⟩) (v := .slice A4 n4 d4) (w' := w4) ?_ ?_ ?_); rfl; exact gives_append rfl rfl rfl HR4.out)
      subst hn4
      go_roundw
      case rel => exact ⟨m + 1, by omega, by go_num, A4, d4, rfl, HO4, HB4⟩
      case measure => simp [iOf]; omega
    · obtain rfl : m = 4 := by omega
      have hrl := HRL.out 4 (by omega)
      rw [show 64 * 4 = 256 from rfl] at HO hrl ⊢
      obtain ⟨R, hRR⟩ : ∃ R, R = recL ss (4 + 4 * k) 4 := ⟨_, rfl⟩
      rw [← hRR] at HO hrl HRI
      obtain ⟨b0, cap, hv, hb0, hRow, hcp⟩ := own_row (n := 256) (bs := R) (by have := HO.out; rw [OwnBy, hrl] at this; exact this) (by omega)
      injection hv with e1 e2 e3
      subst e1
      subst e3
      have q32 : wr.cell? ⟨b0, 32, none⟩ = some (.int .u8 ((R.getD 32 0).toNat : Nat)) := hRow.cell (k := 32) (by omega)
      have hlo := HO.out.lo b0 rfl
      have HY := hide hRow.bys
      have HRR := hide hrl
      have HO0 : Hid (Dig wr w.heap.size last) := Box.below HD0.out HB.out (by omega)
      have HO1 : Hid (Dig wr (w.heap.size + 1) z32) := Box.below HD1.out HB.out (by omega)
      have HBW := hide (HB2.out.trans (HB.out.mono (by omega)))
      have HKW := hide (HK2.out.below HB.out (by omega))
      clear e2 hRow hRR hrl
      rcases o with _ | ⟨d, b⟩
      · have hz : R.getD 32 0 = 0 := HRI.out
        rw [hz] at q32
        have q33 : wr.cell? ⟨b0, 32, none⟩ = some (.int .u8 0) := q32
        clear q32 hz
        obtain ⟨w9, hr9, hS9, hg9⟩ := Dig.store (d' := z32) HO1.out (List.length_replicate ..) (List.length_replicate ..)
        have HR9 := hide hr9
        have HL9 := hide (load_dig hS9.bys (List.length_replicate ..))
        have HB9 := hide (HBW.out.grown hg9 HBW.out.size (fun k hk => by injection hk with hk; omega))
        obtain ⟨zA, hzA⟩ : ∃ zA, zA = secA z32 := ⟨_, rfl⟩
        have HZA := hide hzA
        have HG : Hid (∀ {o : Oper} {a : Act}, o.op = .build 58 #[] → Gives o a wr (.agg zA) wr) := fun ho => by rw [hzA]; exact gives_build_dig ho
        rw [← hzA] at HR9 HL9
        clear hr9 hS9 hg9 hzA
        go_wp2_with (first | ((with_reducible refine wpList_gives (o := ⟨some 43, _, _, _, _, _⟩) (v := Value.agg zA) (w' := wr) ?_ ?_ ?_); rfl; exact HG.out rfl) | ((with_reducible refine wpList_does (o := ⟨none, .store 58 _ _, _, _, _, _⟩) (w' := w9) ?_ ?_ ?_); rfl; exact does_store rfl rfl rfl HR9.out))
        refine bodyPost_ret (v := .tuple #[.slice none 0 0, .agg zA, .bool false]) (results_tct (p := 6) (q := 7) (r := 8) rfl rfl HL9.out) rfl ⟨?_, HB9.out⟩
        rw [HZA.out]
      · obtain ⟨hd, hb1, hb2, hlen, ht, hdr⟩ : d = linkF C last b ∧ 0 < b.length ∧ b.length ≤ 200 ∧ (R.getD 32 0).toNat = b.length ∧ R.take 32 = d ∧ (R.drop 33).take b.length = b := HRI.out
        rw [hlen] at q32
        have hbB : Bys wr (some ⟨b0, 33, none⟩) b := by
          have h1 := bys_take (bys_drop HY.out 33) b.length
          rw [hdr, Nat.zero_add] at h1
          exact h1
        have hdB : Bys wr (some ⟨b0, 0, none⟩) d := by
          have h1 := bys_take HY.out 32
          rw [ht] at h1
          exact h1
        have hdl : d.length = 32 := by rw [hd]; exact linkF_length _ _ _
        have hcn : b.length ≤ c - 33 := by omega
        have HLK := hide (link_any (c := c - 33) HKW.out HLL.out hbB hb1 (by omega) hcn)
        rw [← hd, ← HLA.out] at HLK
        have HBB := hide hbB
        have HDB := hide hdB
        have HDL := hide hdl
        have hlo0 := load_dig HO0.out.bys HLL.out
        rw [← HLA.out] at hlo0
        have HLO := hide hlo0
        obtain ⟨n, hn⟩ : ∃ n, n = b.length := ⟨_, rfl⟩
        rw [← hn] at q32 HLK hb1 hb2 hcn
        have HN := hide hn
        have t1 : decide ((n : Int) < 1) = false := decide_eq_false (by omega)
        have t2 : decide ((200 : Int) < (n : Int)) = false := decide_eq_false (by omega)
        have hn33 : 33 + n ≤ c := by omega
        clear hbB hdB hdl hd hlen ht hdr hlo0 hn
        go_upto_region 12 with fail
        rw [show 33 + n - 33 = n by omega]
        go_wp2_with ((with_reducible refine wpList_gives (o := ⟨some 48, _, _, _, _, _⟩) (v := Value.agg lA) (w' := wr) ?_ ?_ ?_); rfl; exact gives_load rfl rfl HLO.out)
        refine HLK.out.mono ?_
        rintro en w5 ⟨rfl, hB5⟩
        obtain ⟨w6, hw6⟩ : ∃ w6, w6 = w5.alloc (.cells (secA z32) 58) := ⟨_, rfl⟩
        have hb6 : Below w5.heap.size w5 w6 := by rw [hw6]; exact (Below.refl _ _).alloc (Nat.le_refl _) _
        have HA6 : Hid (∀ {o : Oper} {a : Act}, o.op = .alloc 58 → Gives o a w5 (.pointer (some ⟨w5.heap.size, 0, none⟩)) w6) := fun ho => by rw [hw6]; exact gives_alloc_dig ho
        have hD6 : Dig w6 w5.heap.size z32 := by unfold Dig; rw [hw6]; exact Box.new _ _ _
        obtain ⟨w7, hr7, hS7, hg7⟩ := hD6.store (d' := d) (List.length_replicate ..) HDL.out
        have hs6 : w6.heap.size = w5.heap.size + 1 := by rw [hw6]; simp
        have hb7 : Below w5.heap.size w5 w7 := hb6.grown hg7 (by omega) (fun k hk => by injection hk with hk; omega)
        have hs57 := hb7.size
        have hsr5 := hB5.size
        have hs67 := hg7.size
        have HB7 : Hid (Below wr.heap.size wr w7) := hB5.trans (hb7.mono hsr5)
        have HBW7 := hide (HBW.out.trans (HB7.out.mono HBW.out.size))
        have HS7 := hide hS7
        have hl7 := load_dig hS7.bys HDL.out
        obtain ⟨sD, hsD⟩ : ∃ sD, sD = secA d := ⟨_, rfl⟩
        rw [← hsD] at hr7 hl7 ⊢
        have HR7 := hide hr7
        have HL7 := hide hl7
        have HSD := hide hsD
        obtain ⟨g7, hg7'⟩ : ∃ g7, g7 = w5.heap.size := ⟨_, rfl⟩
        have hg7l : w.heap.size + 1 < g7 := by omega
        have hg7w : g7 < w7.heap.size := by omega
        rw [← hg7'] at HA6 HR7 HL7 HS7
        clear hw6 hb6 hD6 hr7 hS7 hg7 hl7 hsD hB5 hs6 hb7 hg7'
        go_upto_region 13 with (first | ((with_reducible refine wpList_gives (o := ⟨some 15, _, _, _, _, _⟩) (v := .pointer (some ⟨g7, 0, none⟩)) (w' := w6) ?_ ?_ ?_); rfl; exact HA6.out rfl) | ((with_reducible refine wpList_does (o := ⟨none, .store 58 _ _, _, _, _, _⟩) (w' := w7) ?_ ?_ ?_); rfl; exact does_store rfl rfl rfl HR7.out))
        have HLV : Hid (∀ v, Below w7.heap.size w7 v → (loadVar 58 ⟨g7, 0, none⟩).run Tryd.prog v = .ok (.agg sD) v) := fun v hv => by
          rw [HSD.out]
          exact load_dig (Dig.bys (Box.kept HS7.out hv)) HDL.out
        have HCL : Hid (∀ v, Below w7.heap.size w7 v → Calls Tryd.prog 26 #[.slice (some ⟨b0, 33, none⟩) n (c - 33)] v (NumPost v.heap.size v b)) := fun v hv => by
          rw [HN.out]
          exact bclone_any b0 33 (c - 33) b v ((HBB.out.below HB7.out).below hv) (by rw [← HN.out]; exact hb1) (by rw [← HN.out]; omega)
        have HEQ : Hid (∀ v, Below w7.heap.size w7 v → Calls Tryd.prog 45 #[.slice (some ⟨g7, 0, none⟩) 32 32, .slice (some ⟨b0, 0, none⟩) 32 c] v (fun e w' => e = .returned (.bool true) ∧ w' = v)) := fun v hv => by
          have h1 := equal_any (some ⟨g7, 0, none⟩) (some ⟨b0, 0, none⟩) 32 c d d v (Dig.bys (Box.kept HS7.out hv)) ((HDB.out.below HB7.out).below hv) (by rw [HDL.out]; omega) (by rw [HDL.out]; omega)
          rw [HDL.out, beq_self_eq_true] at h1
          exact h1
        have HST : Hid (∀ v, Below w7.heap.size w7 v → ∃ v9, (storeVar 58 ⟨w.heap.size + 1, 0, none⟩ (.agg sD)).run Tryd.prog v = .ok () v9 ∧ (loadVar 58 ⟨w.heap.size + 1, 0, none⟩).run Tryd.prog v9 = .ok (.agg sD) v9 ∧ v.grownBy v9 (some (w.heap.size + 1))) := fun v hv => by
          have h1 : Dig v (w.heap.size + 1) z32 := Box.kept (Box.kept HO1.out HB7.out) hv
          obtain ⟨v9, h2, h3, h4⟩ := h1.store (d' := d) (List.length_replicate ..) HDL.out
          rw [HSD.out]
          exact ⟨v9, h2, load_dig h3.bys HDL.out, h4⟩
        have hc32 : (32 : Int) ≤ (c : Int) := by omega
        have hX : Below w7.heap.size w7 w7.drew := below_drew (Below.refl _ _) 1
        clear HA6 HR7 HL7 HLK HLO HA1 HA2
        refine wp_region_held_drew (S := fun v => Below w.heap.size w v) (by kernel_rfl) (below_drew HBW7.out 1) (fun hH => ?_)
        refine wpAnyH_take (i := 0) (v := ?xv0) (by simp only [List.getElem?_toArray, List.getElem?_cons_succ, List.getElem?_cons_zero]; exact rfl) (by kernel_rfl) (by kernel_rfl) (by kernel_rfl) ?xq0 ?xy0 hH ?xr0
        case xq0 => exact fun _ _ _ h => h
        case xy0 =>
          refine Or.inl ⟨by rfl, fun v hv => ?_⟩
          go_simp
          rfl
        try simp only [Act.put, List.setIfInBounds_toArray, List.set_cons_zero, List.set_cons_succ]
        refine wpAnyH_take (i := 3) (v := ?xv3) (by simp only [List.getElem?_toArray, List.getElem?_cons_succ, List.getElem?_cons_zero]; exact rfl) (by kernel_rfl) (by kernel_rfl) (by kernel_rfl) ?xq3 ?xy3 hH ?xr3
        case xq3 => exact fun _ _ _ h => h
        case xy3 =>
          refine Or.inl ⟨by rfl, fun v hv => ?_⟩
          go_simp
          rfl
        try simp only [Act.put, List.setIfInBounds_toArray, List.set_cons_zero, List.set_cons_succ]
        refine wpAnyH_take (i := 4) (v := ?xv4) (by simp only [List.getElem?_toArray, List.getElem?_cons_succ, List.getElem?_cons_zero]; exact rfl) (by kernel_rfl) (by kernel_rfl) (by kernel_rfl) ?xq4 ?xy4 hH ?xr4
        case xq4 => exact fun _ _ _ h => h
        case xy4 =>
          refine Or.inl ⟨by rfl, fun v hv => ?_⟩
          go_simp
          rfl
        try simp only [Act.put, List.setIfInBounds_toArray, List.set_cons_zero, List.set_cons_succ]
        refine wpAnyH_take (i := 5) (v := ?xv5) (by simp only [List.getElem?_toArray, List.getElem?_cons_succ, List.getElem?_cons_zero]; exact rfl) (by kernel_rfl) (by kernel_rfl) (by kernel_rfl) ?xq5 ?xy5 hH ?xr5
        case xq5 => exact fun _ _ _ h => h
        case xy5 =>
          refine Or.inl ⟨by rfl, fun v hv => ?_⟩
          go_simp
          rfl
        try simp only [Act.put, List.setIfInBounds_toArray, List.set_cons_zero, List.set_cons_succ]
        refine wpAnyH_ready (rs := [1, 2]) (by kernel_rfl) (by simp) ?_
        refine AllReadyH.cons (by simp only [List.getElem?_toArray, List.getElem?_cons_succ, List.getElem?_cons_zero]; exact rfl) (fun K hK => ?xb1) (AllReadyH.cons (by simp only [List.getElem?_toArray, List.getElem?_cons_succ, List.getElem?_cons_zero]; exact rfl) (fun K hK => ?xb2) (AllReadyH.nil))
        case xb1 =>
          go_simp
          refine (HCL.out _ hX).mono ?_
          rintro en v1 ⟨Ac, cc, rfl, hO1, hb1'⟩
          have hN : Below w.heap.size w v1 := hH.trans (hb1'.mono hH.size)
          have HP1 : Hid (OwnBy (w.heap.size + 1 + 1) v1 (.slice Ac b.length cc) b) := hO1.base (by have := hX.size; omega)
          replace hX := below_then hX hb1'
          clear hb1' hO1
          refine hK.out _ _ hN (fun hH' => ?_)
          clear hK hH hN K
          have hH := hH'
          clear hH'
          try simp only [Act.put, List.setIfInBounds_toArray, List.set_cons_zero, List.set_cons_succ]
          refine wpAnyH_ready (rs := [2, 6]) (by kernel_rfl) (by simp) ?_
          refine AllReadyH.cons (by simp only [List.getElem?_toArray, List.getElem?_cons_succ, List.getElem?_cons_zero]; exact rfl) (fun K hK => ?xc1b2) (AllReadyH.cons (by simp only [List.getElem?_toArray, List.getElem?_cons_succ, List.getElem?_cons_zero]; exact rfl) (fun K hK => ?xc1b6) (AllReadyH.nil))
          case xc1b2 =>
            refine step_gives rfl (gives_load rfl rfl (HLV.out _ hX)) ?_
            have hN := hH
            refine hK.out _ _ hN (fun hH' => ?_)
            clear hK hH hN K
            have hH := hH'
            clear hH'
            try simp only [Act.put, List.setIfInBounds_toArray, List.set_cons_zero, List.set_cons_succ]
            refine wpAnyH_ready (rs := [6]) (by kernel_rfl) (by simp) ?_
            refine AllReadyH.cons (by simp only [List.getElem?_toArray, List.getElem?_cons_succ, List.getElem?_cons_zero]; exact rfl) (fun K hK => ?_) AllReadyH.nil
            go_simp
            refine (HEQ.out _ hX).mono ?_
            rintro en v2 ⟨rfl, rfl⟩
            have hN := hH
            refine hK.out _ _ hN (fun hH' => ?_)
            clear hK hH hN K
            have hH := hH'
            clear hH'
            try simp only [Act.put, List.setIfInBounds_toArray, List.set_cons_zero, List.set_cons_succ]
            refine wpAnyH_take (i := 7) (v := ?xc1c2v7) (by simp only [List.getElem?_toArray, List.getElem?_cons_succ, List.getElem?_cons_zero]; exact rfl) (by kernel_rfl) (by kernel_rfl) (by kernel_rfl) ?xc1c2q7 ?xc1c2y7 hH ?xc1c2r7
            case xc1c2q7 => exact fun _ _ _ h => h
            case xc1c2y7 =>
              refine Or.inl ⟨by rfl, fun v hv => ?_⟩
              go_simp
              rfl
            try simp only [Act.put, List.setIfInBounds_toArray, List.set_cons_zero, List.set_cons_succ]
            refine wpAnyH_ready (rs := [8]) (by kernel_rfl) (by simp) ?_
            refine AllReadyH.cons (by simp only [List.getElem?_toArray, List.getElem?_cons_succ, List.getElem?_cons_zero]; exact rfl) (fun K hK => ?_) AllReadyH.nil
            obtain ⟨v9, hr9, hL9, hB9⟩ := HST.out _ hX
            refine step_does rfl (does_store rfl rfl rfl hr9) ?_
            have HP9 := hide (HP1.out.grown1 hB9 (by omega))
            have HL9 := hide hL9
            have hN : Below w.heap.size w v9 := hH.grown hB9 hH.size (fun k hk => by injection hk with hk; omega)
            clear hr9 hL9 hB9 hX
            refine hK.out _ _ hN (fun hH' => ?_)
            clear hK hH hN K
            have hH := hH'
            clear hH'
            try simp only [Act.put, List.setIfInBounds_toArray, List.set_cons_zero, List.set_cons_succ]
            refine wpAnyH_take (i := 9) (v := ?xc1c2v9) (by simp only [List.getElem?_toArray, List.getElem?_cons_succ, List.getElem?_cons_zero]; exact rfl) (by kernel_rfl) (by kernel_rfl) (by kernel_rfl) ?xc1c2q9 ?xc1c2y9 hH ?xc1c2r9
            case xc1c2q9 => exact fun _ _ _ h => h
            case xc1c2y9 =>
              refine Or.inl ⟨by rfl, fun v hv => ?_⟩
              go_simp
              rfl
            try simp only [Act.put, List.setIfInBounds_toArray, List.set_cons_zero, List.set_cons_succ]
            refine wpAnyH_done (by kernel_rfl) ?_ _
            go_wp2_with fail
            exact bodyPost_ret (v := .tuple #[.slice Ac b.length cc, .agg sD, .bool true]) (results_tct (p := 6) (q := 7) (r := 8) rfl rfl HL9.out) rfl ⟨Ac, cc, by rw [HSD.out], HP9.out.base (by omega), hH⟩
          case xc1b6 =>
            go_simp
            refine (HEQ.out _ hX).mono ?_
            rintro en v2 ⟨rfl, rfl⟩
            have hN := hH
            refine hK.out _ _ hN (fun hH' => ?_)
            clear hK hH hN K
            have hH := hH'
            clear hH'
            try simp only [Act.put, List.setIfInBounds_toArray, List.set_cons_zero, List.set_cons_succ]
            refine wpAnyH_take (i := 7) (v := ?xc1c6v7) (by simp only [List.getElem?_toArray, List.getElem?_cons_succ, List.getElem?_cons_zero]; exact rfl) (by kernel_rfl) (by kernel_rfl) (by kernel_rfl) ?xc1c6q7 ?xc1c6y7 hH ?xc1c6r7
            case xc1c6q7 => exact fun _ _ _ h => h
            case xc1c6y7 =>
              refine Or.inl ⟨by rfl, fun v hv => ?_⟩
              go_simp
              rfl
            try simp only [Act.put, List.setIfInBounds_toArray, List.set_cons_zero, List.set_cons_succ]
            refine wpAnyH_ready (rs := [2]) (by kernel_rfl) (by simp) ?_
            refine AllReadyH.cons (by simp only [List.getElem?_toArray, List.getElem?_cons_succ, List.getElem?_cons_zero]; exact rfl) (fun K hK => ?_) AllReadyH.nil
            refine step_gives rfl (gives_load rfl rfl (HLV.out _ hX)) ?_
            have hN := hH
            refine hK.out _ _ hN (fun hH' => ?_)
            clear hK hH hN K
            have hH := hH'
            clear hH'
            try simp only [Act.put, List.setIfInBounds_toArray, List.set_cons_zero, List.set_cons_succ]
            refine wpAnyH_ready (rs := [8]) (by kernel_rfl) (by simp) ?_
            refine AllReadyH.cons (by simp only [List.getElem?_toArray, List.getElem?_cons_succ, List.getElem?_cons_zero]; exact rfl) (fun K hK => ?_) AllReadyH.nil
            obtain ⟨v9, hr9, hL9, hB9⟩ := HST.out _ hX
            refine step_does rfl (does_store rfl rfl rfl hr9) ?_
            have HP9 := hide (HP1.out.grown1 hB9 (by omega))
            have HL9 := hide hL9
            have hN : Below w.heap.size w v9 := hH.grown hB9 hH.size (fun k hk => by injection hk with hk; omega)
            clear hr9 hL9 hB9 hX
            refine hK.out _ _ hN (fun hH' => ?_)
            clear hK hH hN K
            have hH := hH'
            clear hH'
            try simp only [Act.put, List.setIfInBounds_toArray, List.set_cons_zero, List.set_cons_succ]
            refine wpAnyH_take (i := 9) (v := ?xc1c6v9) (by simp only [List.getElem?_toArray, List.getElem?_cons_succ, List.getElem?_cons_zero]; exact rfl) (by kernel_rfl) (by kernel_rfl) (by kernel_rfl) ?xc1c6q9 ?xc1c6y9 hH ?xc1c6r9
            case xc1c6q9 => exact fun _ _ _ h => h
            case xc1c6y9 =>
              refine Or.inl ⟨by rfl, fun v hv => ?_⟩
              go_simp
              rfl
            try simp only [Act.put, List.setIfInBounds_toArray, List.set_cons_zero, List.set_cons_succ]
            refine wpAnyH_done (by kernel_rfl) ?_ _
            go_wp2_with fail
            exact bodyPost_ret (v := .tuple #[.slice Ac b.length cc, .agg sD, .bool true]) (results_tct (p := 6) (q := 7) (r := 8) rfl rfl HL9.out) rfl ⟨Ac, cc, by rw [HSD.out], HP9.out.base (by omega), hH⟩
        case xb2 =>
          refine step_gives rfl (gives_load rfl rfl (HLV.out _ hX)) ?_
          have hN := hH
          refine hK.out _ _ hN (fun hH' => ?_)
          clear hK hH hN K
          have hH := hH'
          clear hH'
          try simp only [Act.put, List.setIfInBounds_toArray, List.set_cons_zero, List.set_cons_succ]
          refine wpAnyH_ready (rs := [1]) (by kernel_rfl) (by simp) ?_
          refine AllReadyH.cons (by simp only [List.getElem?_toArray, List.getElem?_cons_succ, List.getElem?_cons_zero]; exact rfl) (fun K hK => ?_) AllReadyH.nil
          go_simp
          refine (HCL.out _ hX).mono ?_
          rintro en v1 ⟨Ac, cc, rfl, hO1, hb1'⟩
          have hN : Below w.heap.size w v1 := hH.trans (hb1'.mono hH.size)
          have HP1 : Hid (OwnBy (w.heap.size + 1 + 1) v1 (.slice Ac b.length cc) b) := hO1.base (by have := hX.size; omega)
          replace hX := below_then hX hb1'
          clear hb1' hO1
          refine hK.out _ _ hN (fun hH' => ?_)
          clear hK hH hN K
          have hH := hH'
          clear hH'
          try simp only [Act.put, List.setIfInBounds_toArray, List.set_cons_zero, List.set_cons_succ]
          refine wpAnyH_ready (rs := [6]) (by kernel_rfl) (by simp) ?_
          refine AllReadyH.cons (by simp only [List.getElem?_toArray, List.getElem?_cons_succ, List.getElem?_cons_zero]; exact rfl) (fun K hK => ?_) AllReadyH.nil
          go_simp
          refine (HEQ.out _ hX).mono ?_
          rintro en v2 ⟨rfl, rfl⟩
          have hN := hH
          refine hK.out _ _ hN (fun hH' => ?_)
          clear hK hH hN K
          have hH := hH'
          clear hH'
          try simp only [Act.put, List.setIfInBounds_toArray, List.set_cons_zero, List.set_cons_succ]
          refine wpAnyH_take (i := 7) (v := ?xc2v7) (by simp only [List.getElem?_toArray, List.getElem?_cons_succ, List.getElem?_cons_zero]; exact rfl) (by kernel_rfl) (by kernel_rfl) (by kernel_rfl) ?xc2q7 ?xc2y7 hH ?xc2r7
          case xc2q7 => exact fun _ _ _ h => h
          case xc2y7 =>
            refine Or.inl ⟨by rfl, fun v hv => ?_⟩
            go_simp
            rfl
          try simp only [Act.put, List.setIfInBounds_toArray, List.set_cons_zero, List.set_cons_succ]
          refine wpAnyH_ready (rs := [8]) (by kernel_rfl) (by simp) ?_
          refine AllReadyH.cons (by simp only [List.getElem?_toArray, List.getElem?_cons_succ, List.getElem?_cons_zero]; exact rfl) (fun K hK => ?_) AllReadyH.nil
          obtain ⟨v9, hr9, hL9, hB9⟩ := HST.out _ hX
          refine step_does rfl (does_store rfl rfl rfl hr9) ?_
          have HP9 := hide (HP1.out.grown1 hB9 (by omega))
          have HL9 := hide hL9
          have hN : Below w.heap.size w v9 := hH.grown hB9 hH.size (fun k hk => by injection hk with hk; omega)
          clear hr9 hL9 hB9 hX
          refine hK.out _ _ hN (fun hH' => ?_)
          clear hK hH hN K
          have hH := hH'
          clear hH'
          try simp only [Act.put, List.setIfInBounds_toArray, List.set_cons_zero, List.set_cons_succ]
          refine wpAnyH_take (i := 9) (v := ?xc2v9) (by simp only [List.getElem?_toArray, List.getElem?_cons_succ, List.getElem?_cons_zero]; exact rfl) (by kernel_rfl) (by kernel_rfl) (by kernel_rfl) ?xc2q9 ?xc2y9 hH ?xc2r9
          case xc2q9 => exact fun _ _ _ h => h
          case xc2y9 =>
            refine Or.inl ⟨by rfl, fun v hv => ?_⟩
            go_simp
            rfl
          try simp only [Act.put, List.setIfInBounds_toArray, List.set_cons_zero, List.set_cons_succ]
          refine wpAnyH_done (by kernel_rfl) ?_ _
          go_wp2_with fail
          exact bodyPost_ret (v := .tuple #[.slice Ac b.length cc, .agg sD, .bool true]) (results_tct (p := 6) (q := 7) (r := 8) rfl rfl HL9.out) rfl ⟨Ac, cc, by rw [HSD.out], HP9.out.base (by omega), hH⟩
end Go.Proofs.YtlelkhonkhlflaaDoor
