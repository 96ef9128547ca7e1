/-
  The journal in memory; capacity, Room, Len.
-/
import Derived.Test.YtlelkhonkhlflaaDoorBytes
namespace Go.Proofs.YtlelkhonkhlflaaDoor
open Go.RowKit
set_option linter.unusedVariables false
set_option linter.unusedSimpArgs false

/-- the cells of a journal -/
def jL (s : Nat) (last : List UInt8) (v : Value) : List Value := .pointer (some ⟨s, 0, none⟩) :: (last.map u8v ++ [v])
def jA (s : Nat) (last : List UInt8) (v : Value) : Array Value := (jL s last v).toArray
theorem jA_size (s : Nat) (last : List UInt8) (v : Value) : (jA s last v).size = last.length + 2 := by simp [jA, jL]
/-- block j is a journal over the disk in block s -/
def JBox (w : World) (j s : Nat) (last : List UInt8) (v : Value) : Prop := Box w j 60 (jA s last v) ∧ last.length = 32
section
variable {w w' : World} {j s : Nat} {last : List UInt8} {v : Value}
theorem JBox.disk (h : JBox w j s last v) : w.cell? ⟨j, 0, none⟩ = some (.pointer (some ⟨s, 0, none⟩)) := h.1.cell 0
theorem JBox.entries (h : JBox w j s last v) : w.cell? ⟨j, 33, none⟩ = some v := by
  rw [h.1.cell 33, jA, jL, List.getElem?_toArray, List.getElem?_cons_succ, List.getElem?_append_right (by rw [List.length_map, h.2]; exact Nat.le_refl _), List.length_map, h.2]
  rfl
theorem JBox.bys (h : JBox w j s last v) : Bys w (some ⟨j, 1, none⟩) last := fun _ => ⟨j, 1, rfl, h.1.lt, fun k hk => by
  rw [h.1.cell (1 + k), jA, jL, List.getElem?_toArray, Nat.add_comm, List.getElem?_cons_succ, List.getElem?_append_left (by rw [List.length_map]; omega), List.getElem?_map, List.getElem?_eq_getElem hk, List.getD_eq_getElem?_getD, List.getElem?_eq_getElem hk]
  rfl⟩
theorem JBox.frozen (h : JBox w j s last v) (i : Nat) : w.frozen? ⟨j, i, none⟩ = false := h.1.frozen i
theorem JBox.of_eq (h : JBox w j s last v) (e : w'.heap[j]? = w.heap[j]?) : JBox w' j s last v := ⟨e.trans h.1, h.2⟩
theorem JBox.setEntries (h : JBox w j s last v) (v' : Value) : JBox (w.setCell ⟨j, 33, none⟩ v') j s last v' := by
  refine ⟨?_, h.2⟩
  have e : jA s last v' = (jA s last v).setIfInBounds 33 v' := by
    unfold jA jL
    rw [List.setIfInBounds_toArray]
    congr 1
    rw [List.set_cons_succ, List.set_append_right _ _ (by rw [List.length_map, h.2]; exact Nat.le_refl _), List.length_map, h.2]
    rfl
  rw [e]
  exact h.1.set 33 v'
set_option maxRecDepth 100000 in
theorem JBox.setLast (h : JBox w j s last v) {d : List UInt8} (hl : d.length = 32) :
    ∃ w', (storeVar 58 ⟨j, 1, none⟩ (.agg (secA d))).run Tryd.prog w = .ok () w' ∧ JBox w' j s d v ∧ w.grownBy w' (some j) := by
  have hr := run_storeCells_at Tryd.prog j 1 60 (d.map u8v) 0 (jA s last v) w h.1 (by rw [jA_size, List.length_map]; have := h.2; omega) one_byte
  have e0 : ((jA s last v).toList.take (1 + 0) ++ d.map u8v ++ (jA s last v).toList.drop (1 + 0 + (d.map u8v).length)) = jL s d v := by
    have h2 : (jA s last v).toList = jL s last v := by simp [jA]
    rw [h2, List.length_map, hl]
    unfold jL
    rw [show 1 + 0 = 1 from rfl, List.take_succ_cons, List.take_zero, show 1 + 32 = 32 + 1 from rfl, List.drop_succ_cons, List.drop_append_of_le_length (by rw [List.length_map, h.2]; exact Nat.le_refl _), List.drop_of_length_le (by rw [List.length_map, h.2]; exact Nat.le_refl _)]
    simp
  refine ⟨w.setRow j (jA s d v), ?_, ⟨setRow_heap w j _ _ _ _ h.1, hl⟩, setRow_grown _ _ _⟩
  obtain ⟨⟨i0, h2, _, h3⟩, h4⟩ := dig_type
  have e : (Value.agg (secA d)).cells.toList = d.map u8v := by simp [Value.cells, secA]
  have e2 : (Value.agg (secA d)).cells.size = 32 := by simp [Value.cells, secA, hl]
  simp [storeVar, sizeOf, typeInfo, h2, h3, e, e2]
  rw [hr]
  congr 2
  rw [show (1 : Nat) = 1 + 0 from rfl, e0]
  rfl
end
/-- a journal: its disk, its last digest, its entries -/
structure Jrn (F G : Nat → Prop) (w : World) (j s : Nat) (ss : List (List UInt8)) (e : Nat → Option (List UInt8)) (fuse : Int) (dead : Bool) (last : List UInt8) (es : List (List UInt8)) : Prop where
  box : ∃ v vals, JBox w j s last v ∧ GotsV (fun i => G i ∧ i ≠ j) w v es vals
  dsk : Dsk F w s ss e fuse dead
  mem : G j
  lt : Lt G w
  apart : ∀ i, F i → ¬ G i
section
variable {F G M : Nat → Prop} {w w' : World} {j s : Nat} {ss : List (List UInt8)} {e : Nat → Option (List UInt8)} {fuse : Int} {dead : Bool} {last : List UInt8} {es : List (List UInt8)}
theorem GotsV.agree {F : Nat → Prop} {a b : World} {v : Value} {fs : List (List UInt8)} {vals : List Value} (h : GotsV F a v fs vals) (hg : Agree F a b) : GotsV F b v fs vals := by
  obtain ⟨h1, h2, h3, h4⟩ := h
  refine ⟨ownsRow_of h1 fun g e _ => hg g (h3 g e), h2, h3, fun k hk => ?_⟩
  obtain ⟨Ak, ck, g1, g2, g3⟩ := h4 k hk
  exact ⟨Ak, ck, g1, g2.agree (hg.mono fun i hi => hi.1), g3⟩
theorem Jrn.kept (h : Jrn F G w j s ss e fuse dead last es) (hb : Below w.heap.size w w') : Jrn F G w' j s ss e fuse dead last es := by
  obtain ⟨v, vals, h1, h2⟩ := h.box
  exact ⟨⟨v, vals, h1.of_eq (hb.block j (h.lt j h.mem)), h2.agree (Agree.of_below hb fun i hi => h.lt i hi.1)⟩, h.dsk.kept hb, h.mem, h.lt.size hb.size, h.apart⟩
/-- the disk was turned, the journal's memory was not -/
theorem Jrn.turn {ss' : List (List UInt8)} {e' : Nat → Option (List UInt8)} {fuse' : Int} {dead' : Bool} (h : Jrn F G w j s ss e fuse dead last es) (hc : Chg F w w') (hd : Dsk F w' s ss' e' fuse' dead') : Jrn F G w' j s ss' e' fuse' dead' last es := by
  obtain ⟨v, vals, h1, h2⟩ := h.box
  have ha : Agree G w w' := Agree.of_chg hc h.lt fun i hi hf => h.apart i hf hi
  exact ⟨⟨v, vals, h1.of_eq (ha j h.mem), h2.agree (ha.mono fun i hi => hi.1)⟩, hd, h.mem, h.lt.size hc.size, h.apart⟩
/-- what the walks read -/
theorem Jrn.cells (h : Jrn F G w j s ss e fuse dead last es) : ∃ A c, w.cell? ⟨j, 0, none⟩ = some (.pointer (some ⟨s, 0, none⟩)) ∧ w.cell? ⟨j, 33, none⟩ = some (.slice A es.length c) ∧ es.length ≤ c ∧ FrIn G w A es := by
  obtain ⟨v, vals, h1, h2⟩ := h.box
  obtain ⟨A, c, rfl, hc, _, hf⟩ := Gots.shape ⟨vals, h2⟩
  exact ⟨A, c, h1.disk, h1.entries, hc, hf.mono fun i hi => hi.1⟩
theorem Jrn.last_ (h : Jrn F G w j s ss e fuse dead last es) : (loadVar 58 ⟨j, 1, none⟩).run Tryd.prog w = .ok (.agg (secA last)) w ∧ last.length = 32 := by
  obtain ⟨v, vals, h1, h2⟩ := h.box
  exact ⟨load_dig h1.bys h1.2, h1.2⟩
def capJ (n : Nat) : Nat := (n - 4) / 4
theorem capacity_any (h : Dsk F w s ss e fuse dead) (h4 : 4 ≤ ss.length) : Calls Tryd.prog 34 #[.pointer (some ⟨s, 0, none⟩)] w fun en w' => en = .returned (.int .i64 (capJ ss.length : Nat)) ∧ w = w' := by
  have HS := hide (sectors_any h)
  have hm := h.most
  have HC : Hid (((ss.length : Int) - 4) / 4 = (capJ ss.length : Nat)) := by
    unfold Hid capJ
    omega
  have ht : ((ss.length : Int) - 4).tdiv 4 = ((ss.length : Int) - 4) / 4 := Int.tdiv_eq_ediv_of_nonneg (by omega)
  generalize ss.length = n at *
  clear h
  go_enter Tryd.func34, Tryd.ntmps34
  go_wp2_with fail
  refine HS.out.mono ?_
  rintro en w' ⟨rfl, rfl⟩
  go_wp2_with fail
  go_ret
  exact ⟨by rw [← HC.out]; rfl, rfl⟩
theorem room_nil (w : World) : Calls Tryd.prog 22 #[.pointer none] w fun en w' => en = .returned (.int .i64 0) ∧ w = w' := by
  go_enter Tryd.func22, Tryd.ntmps22
  go_wp2_with fail
  go_ret
  exact ⟨rfl, rfl⟩
theorem len_nil (w : World) : Calls Tryd.prog 20 #[.pointer none] w fun en w' => en = .returned (.int .i64 0) ∧ w = w' := by
  go_enter Tryd.func20, Tryd.ntmps20
  go_wp2_with fail
  go_ret
  exact ⟨rfl, rfl⟩
theorem len_any (h : Jrn F G w j s ss e fuse dead last es) : Calls Tryd.prog 20 #[.pointer (some ⟨j, 0, none⟩)] w fun en w' => en = .returned (.int .i64 (es.length : Nat)) ∧ w = w' := by
  obtain ⟨A, c, c0, c33, _, _⟩ := h.cells
  clear h
  go_enter Tryd.func20, Tryd.ntmps20
  go_wp2_with fail
  go_ret
  exact ⟨rfl, rfl⟩
set_option maxHeartbeats 1600000 in
theorem room_any (h : Jrn F G w j s ss e fuse dead last es) (h4 : 4 ≤ ss.length) : Calls Tryd.prog 22 #[.pointer (some ⟨j, 0, none⟩)] w fun en w' => en = .returned (.int .i64 ((capJ ss.length : Nat) - (es.length : Nat) : Int)) ∧ Below w.heap.size w w' := by
  obtain ⟨A, c, c0, c33, hc, hf⟩ := h.cells
  have HD := hide h.dsk
  have hmo := h.dsk.most
  have HC : Hid (capJ ss.length ≤ 1024) := by unfold Hid capJ; omega
  have hem : es.length ≤ maxLen := by
    obtain ⟨v, vals, h1, h2⟩ := h.box
    rcases h2.1.2 with ⟨_, h0⟩ | ⟨_, _, _, _, _, _, h3, h4, _⟩
    · rw [h0]; exact Nat.zero_le _
    · omega
  have HS := hide (show w.drew.cell? ⟨j, 0, none⟩ = some (.pointer (some ⟨s, 0, none⟩)) ∧ w.drew.cell? ⟨j, 33, none⟩ = some (.slice A es.length c) ∧ Dsk F w.drew s ss e fuse dead ∧ Below w.heap.size w w.drew from ⟨c0, c33, h.dsk.kept (below_drew (Below.refl _ _) 1), below_drew (Below.refl _ _) 1⟩)
  have HW : Hid (IntKind.i64.wrap ((capJ ss.length : Nat) - (es.length : Nat) : Int) = ((capJ ss.length : Nat) - (es.length : Nat) : Int)) := by
    have := HC.out
    unfold maxLen at hem
    exact IntWalk.i64_in _ (by omega)
  clear h hf hmo
  go_enter Tryd.func22, Tryd.ntmps22
  go_upto_region 3 with fail
  refine wp_region_held_drew (S := fun v => v.cell? ⟨j, 0, none⟩ = some (.pointer (some ⟨s, 0, none⟩)) ∧ v.cell? ⟨j, 33, none⟩ = some (.slice A es.length c) ∧ Dsk F v s ss e fuse dead ∧ Below w.heap.size w v) (by kernel_rfl) (HS.out) (fun hH => ?_)
  refine wpAnyH_take (i := 0) (v := ?xv0) (by simp only [List.getElem?_toArray, List.getElem?_cons_succ, List.getElem?_cons_zero]; exact rfl) (by kernel_rfl) (by kernel_rfl) (by kernel_rfl) ?xq0 ?xy0 hH ?xr0
  case xq0 => exact fun _ _ _ h => h
  case xy0 =>
    refine Or.inl ⟨by rfl, fun v hv => ?_⟩
    go_simp
    rfl
  try simp only [Act.put, List.setIfInBounds_toArray, List.set_cons_zero, List.set_cons_succ]
  refine wpAnyH_take (i := 1) (v := ?xv1) (by simp only [List.getElem?_toArray, List.getElem?_cons_succ, List.getElem?_cons_zero]; exact rfl) (by kernel_rfl) (by kernel_rfl) (by kernel_rfl) ?xq1 ?xy1 hH ?xr1
  case xq1 => exact fun _ _ _ h => h
  case xy1 =>
    refine Or.inl ⟨by rfl, fun v hv => ?_⟩
    go_simp
    rfl
  try simp only [Act.put, List.setIfInBounds_toArray, List.set_cons_zero, List.set_cons_succ]
  refine wpAnyH_take (i := 2) (v := ?xv2) (by simp only [List.getElem?_toArray, List.getElem?_cons_succ, List.getElem?_cons_zero]; exact rfl) (by kernel_rfl) (by kernel_rfl) (by kernel_rfl) ?xq2 ?xy2 hH ?xr2
  case xq2 => exact fun _ _ _ h => h
  case xy2 =>
    refine Or.inl ⟨by rfl, fun v hv => ?_⟩
    go_simp
    rfl
  try simp only [Act.put, List.setIfInBounds_toArray, List.set_cons_zero, List.set_cons_succ]
  refine wpAnyH_take (i := 3) (v := ?xv3) (by simp only [List.getElem?_toArray, List.getElem?_cons_succ, List.getElem?_cons_zero]; exact rfl) (by kernel_rfl) (by kernel_rfl) (by kernel_rfl) ?xq3 ?xy3 hH ?xr3
  case xq3 => exact fun _ _ _ h => h
  case xy3 =>
    refine Or.inl ⟨by rfl, fun v hv => ?_⟩
    obtain ⟨y0, y33, _, _⟩ := hv
    go_simp
    rfl
  try simp only [Act.put, List.setIfInBounds_toArray, List.set_cons_zero, List.set_cons_succ]
  refine wpAnyH_take (i := 5) (v := ?xv5) (by simp only [List.getElem?_toArray, List.getElem?_cons_succ, List.getElem?_cons_zero]; exact rfl) (by kernel_rfl) (by kernel_rfl) (by kernel_rfl) ?xq5 ?xy5 hH ?xr5
  case xq5 => exact fun _ _ _ h => h
  case xy5 =>
    refine Or.inl ⟨by rfl, fun v hv => ?_⟩
    go_simp
    rfl
  try simp only [Act.put, List.setIfInBounds_toArray, List.set_cons_zero, List.set_cons_succ]
  refine wpAnyH_take (i := 6) (v := ?xv6) (by simp only [List.getElem?_toArray, List.getElem?_cons_succ, List.getElem?_cons_zero]; exact rfl) (by kernel_rfl) (by kernel_rfl) (by kernel_rfl) ?xq6 ?xy6 hH ?xr6
  case xq6 => exact fun _ _ _ h => h
  case xy6 =>
    refine Or.inl ⟨by rfl, fun v hv => ?_⟩
    go_simp
    rfl
  try simp only [Act.put, List.setIfInBounds_toArray, List.set_cons_zero, List.set_cons_succ]
  refine wpAnyH_take (i := 7) (v := ?xv7) (by simp only [List.getElem?_toArray, List.getElem?_cons_succ, List.getElem?_cons_zero]; exact rfl) (by kernel_rfl) (by kernel_rfl) (by kernel_rfl) ?xq7 ?xy7 hH ?xr7
  case xq7 => exact fun _ _ _ h => h
  case xy7 =>
    refine Or.inl ⟨by rfl, fun v hv => ?_⟩
    go_simp
    rfl
  try simp only [Act.put, List.setIfInBounds_toArray, List.set_cons_zero, List.set_cons_succ]
  refine wpAnyH_take (i := 8) (v := ?xv8) (by simp only [List.getElem?_toArray, List.getElem?_cons_succ, List.getElem?_cons_zero]; exact rfl) (by kernel_rfl) (by kernel_rfl) (by kernel_rfl) ?xq8 ?xy8 hH ?xr8
  case xq8 => exact fun _ _ _ h => h
  case xy8 =>
    refine Or.inl ⟨by rfl, fun v hv => ?_⟩
    obtain ⟨y0, y33, _, _⟩ := hv
    go_simp
    rfl
  try simp only [Act.put, List.setIfInBounds_toArray, List.set_cons_zero, List.set_cons_succ]
  refine wpAnyH_take (i := 9) (v := ?xv9) (by simp only [List.getElem?_toArray, List.getElem?_cons_succ, List.getElem?_cons_zero]; exact rfl) (by kernel_rfl) (by kernel_rfl) (by kernel_rfl) ?xq9 ?xy9 hH ?xr9
  case xq9 => exact fun _ _ _ h => h
  case xy9 =>
    refine Or.inl ⟨by rfl, fun v hv => ?_⟩
    go_simp
    rfl
  try simp only [Act.put, List.setIfInBounds_toArray, List.set_cons_zero, List.set_cons_succ]
  refine wpAnyH_ready (rs := [4]) (by kernel_rfl) (by simp) ?_
  refine AllReadyH.cons (by simp only [List.getElem?_toArray, List.getElem?_cons_succ, List.getElem?_cons_zero]; exact rfl) (fun K hK => ?_) AllReadyH.nil
  go_simp
  refine (capacity_any hH.2.2.1 h4).mono ?_
  rintro _ _ ⟨rfl, rfl⟩
  have hN := hH
  refine hK.out _ _ hN (fun hH' => ?_)
  clear hK hH hN K
  have hH := hH'
  clear hH'
  try simp only [Act.put, List.setIfInBounds_toArray, List.set_cons_zero, List.set_cons_succ]
  refine wpAnyH_take (i := 10) (v := ?xv10) (by simp only [List.getElem?_toArray, List.getElem?_cons_succ, List.getElem?_cons_zero]; exact rfl) (by kernel_rfl) (by kernel_rfl) (by kernel_rfl) ?xq10 ?xy10 hH ?xr10
  case xq10 => exact fun _ _ _ h => h
  case xy10 =>
    refine Or.inl ⟨by rfl, fun v hv => ?_⟩
    go_simp
    rfl
  try simp only [Act.put, List.setIfInBounds_toArray, List.set_cons_zero, List.set_cons_succ]
  refine wpAnyH_take (i := 11) (v := ?xv11) (by simp only [List.getElem?_toArray, List.getElem?_cons_succ, List.getElem?_cons_zero]; exact rfl) (by kernel_rfl) (by kernel_rfl) (by kernel_rfl) ?xq11 ?xy11 hH ?xr11
  case xq11 => exact fun _ _ _ h => h
  case xy11 =>
    refine Or.inl ⟨by rfl, fun v hv => ?_⟩
    go_simp
    rfl
  try simp only [Act.put, List.setIfInBounds_toArray, List.set_cons_zero, List.set_cons_succ]
  refine wpAnyH_done (by kernel_rfl) ?_ _
  clear c0 c33
  have HB := hide hH.2.2.2
  clear hH
  go_wp2_with fail
  go_ret
  exact ⟨congrArg (fun x => Ending.returned (.int .i64 x)) HW.out, HB.out⟩
end
end Go.Proofs.YtlelkhonkhlflaaDoor
