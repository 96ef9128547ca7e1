/-
  The receiver's map of early frames.
-/
import Derived.Test.YthhelhggggbaiaaCopyLaw
import Derived.Maps.OwnSet
import Derived.Maps.RangeWalk
namespace Go.Proofs.Ythhelhggggbaiaa
open Go.RowKit Go.Maps
set_option linter.unusedVariables false
set_option linter.unusedSimpArgs false

/-- what a slice reads as in the map: itself -/
def codeOf (A : Option Addr) (n c : Nat) : DataW Unit :=
  match A with
  | none => .agg [.lit (.int .i64 n), .lit (.int .i64 c)]
  | some a => .agg [.lit (.int .i64 a.block), .lit (.int .i64 a.off), .lit (.int .i64 n), .lit (.int .i64 c)]
def sliceElem : Value → Option (DataW Unit × List MemPlace)
  | .slice none n c => some (codeOf none n c, [])
  | .slice (some ⟨b, off, none⟩) n c => some (codeOf (some ⟨b, off, none⟩) n c, [])
  | _ => none
theorem sliceElem_none (n c : Nat) : sliceElem (.slice none n c) = some (codeOf none n c, []) := rfl
theorem sliceElem_some (b off n c : Nat) : sliceElem (.slice (some ⟨b, off, none⟩) n c) = some (codeOf (some ⟨b, off, none⟩) n c, []) := rfl
theorem sliceElem_inv {v : Value} {b off n c : Nat} {ps : List MemPlace} (h : sliceElem v = some (codeOf (some ⟨b, off, none⟩) n c, ps)) : v = .slice (some ⟨b, off, none⟩) n c := by
  unfold sliceElem at h
  split at h
  · simp [codeOf] at h
  · simp [codeOf] at h
    obtain ⟨⟨h1, h2, h3, h4⟩, _⟩ := h
    simp only [Value.slice.injEq, Option.some.injEq, Addr.mk.injEq]
    exact ⟨⟨by omega, by omega, trivial⟩, by omega, by omega⟩
  · cases h
theorem sliceElem_zero {v : Value} {ps : List MemPlace} (h : sliceElem v = some (codeOf none 0 0, ps)) : v = .slice none 0 0 := by
  unfold sliceElem at h
  split at h
  · simp [codeOf] at h
    obtain ⟨⟨h1, h2⟩, _⟩ := h
    simp only [Value.slice.injEq]
    exact ⟨trivial, by omega, by omega⟩
  · simp [codeOf] at h
  · cases h
theorem sliceElem_shape {v : Value} {y : DataW Unit × List MemPlace} (h : sliceElem v = some y) : ∃ A n c, v = .slice A n c := by
  unfold sliceElem at h
  split at h
  · exact ⟨_, _, _, rfl⟩
  · exact ⟨_, _, _, rfl⟩
  · cases h

theorem intKey : Keyed Try.prog 3 := int_keyed Try.underlying3
theorem zeroSlice (w : World) : (zeroValue 32).run Try.prog w = .ok (.slice none 0 0) w := by kernel_rfl
def InR (k : Int) : Prop := -9223372036854775808 ≤ k ∧ k ≤ 9223372036854775807
theorem keyInt {k : Int} (h : InR k) : keyOf Try.prog 3 (.int .i64 k) = some (.int .i64 k) := keyOf_int_mk Try.underlying3 (WalkArith.wf_i64 h)
theorem isKey {k : Int} (h : InR k) : WideAt.IsKeyLit (.int .i64 k) := intKey.key (keyInt h)

theorem sliceElem_plain {A : Option Addr} (h : Plain A) (n c : Nat) : sliceElem (.slice A n c) = some (codeOf A n c, []) := by
  rcases h with rfl | ⟨b, off, rfl⟩ <;> rfl
theorem sliceElem_back {A : Option Addr} (hA : Plain A) {n c : Nat} {v : Value} {ps : List MemPlace} (h : sliceElem v = some (codeOf A n c, ps)) : v = .slice A n c := by
  rcases hA with rfl | ⟨b, off, rfl⟩
  · unfold sliceElem at h
    split at h
    · simp [codeOf] at h
      obtain ⟨⟨h1, h2⟩, _⟩ := h
      simp only [Value.slice.injEq]
      exact ⟨trivial, by omega, by omega⟩
    · simp [codeOf] at h
    · cases h
  · exact sliceElem_inv h

/-- what an entry holds -/
def Entry (F : Nat → Prop) (w : World) (D : DataW Unit) (k : Int) (bs : List UInt8) : Prop :=
  Maps.has D (.int .i64 k) = true ∧ ∃ A c, Plain A ∧ (∀ z, D.atKey (.int .i64 k) z = codeOf A bs.length c) ∧ BysIn F w A bs ∧ bs.length ≤ c
/-- block mb is a map that reads as e: number to bytes; rows in blocks of F -/
def Early (F : Nat → Prop) (w : World) (mb n : Nat) (e : Int → Option (List UInt8)) : Prop :=
  ∃ D, w.ownsMap Try.prog 3 sliceElem mb n D ∧ ∀ k, InR k → (e k = none → Maps.has D (.int .i64 k) = false) ∧ ∀ bs, e k = some bs → Entry F w D k bs
section
variable {F G : Nat → Prop} {w w' : World} {mb n : Nat} {e : Int → Option (List UInt8)}
theorem Early.lt (h : Early F w mb n e) : mb < w.heap.size := by
  obtain ⟨D, h1, _⟩ := h
  exact h1.lt
theorem Entry.agree {D : DataW Unit} {k : Int} {bs : List UInt8} (h : Entry F w D k bs) (hg : Agree F w w') : Entry F w' D k bs := by
  obtain ⟨h1, A, c, h2, h3, h4, h5⟩ := h
  exact ⟨h1, A, c, h2, h3, h4.agree hg, h5⟩
theorem Early.agree (h : Early F w mb n e) (hm : w'.heap[mb]? = w.heap[mb]?) (hg : Agree F w w') : Early F w' mb n e := by
  obtain ⟨D, ⟨es, clock, hb, hr⟩, h2⟩ := h
  exact ⟨D, ⟨es, clock, hm.trans hb, hr⟩, fun k hk => ⟨(h2 k hk).1, fun bs hbs => ((h2 k hk).2 bs hbs).agree hg⟩⟩
theorem Early.mono (h : Early F w mb n e) (hs : ∀ i, F i → G i) : Early G w mb n e := by
  obtain ⟨D, h1, h2⟩ := h
  refine ⟨D, h1, fun k hk => ⟨(h2 k hk).1, fun bs hbs => ?_⟩⟩
  obtain ⟨g1, A, c, g2, g3, g4, g5⟩ := (h2 k hk).2 bs hbs
  exact ⟨g1, A, c, g2, g3, g4.mono hs, g5⟩
theorem Early.new (F : Nat → Prop) (w : World) : Early F (w.alloc (.map #[] 0)) w.heap.size 0 (fun _ => none) :=
  ⟨.map [], World.ownsMap_made w _ _ _, fun k hk => ⟨fun _ => rfl, fun bs h => by cases h⟩⟩
theorem Early.look_none (h : Early F w mb n e) {k : Int} (hk : InR k) (he : e k = none) (w' : World) (hw : w'.heap = w.heap) : (Instr.lookup 65 (.map (some mb)) (.int .i64 k) true).run Try.prog w' = .ok (.tuple #[.slice none 0 0, .bool false]) w' := by
  obtain ⟨D, ⟨es, clock, hb, hr⟩, h2⟩ := h
  have h1' : w'.ownsMap Try.prog 3 sliceElem mb n D := ⟨es, clock, by rw [hw]; exact hb, hr⟩
  obtain ⟨v, ps, hrun, hv⟩ := h1'.look_ok intKey Try.underlying65 (zeroSlice w') (sliceElem_none 0 0) (keyInt hk)
  have hn := (h2 k hk).1 he
  rw [Maps.atKey_of_not_has hn] at hv
  rw [hrun, hn, sliceElem_zero hv]
theorem Early.look_some (h : Early F w mb n e) {k : Int} (hk : InR k) {bs : List UInt8} (he : e k = some bs) : ∃ A c, Plain A ∧ BysIn F w A bs ∧ bs.length ≤ c ∧
    ∀ w' : World, w'.heap = w.heap → (Instr.lookup 65 (.map (some mb)) (.int .i64 k) true).run Try.prog w' = .ok (.tuple #[.slice A bs.length c, .bool true]) w' := by
  obtain ⟨D, ⟨es, clock, hb, hr⟩, h2⟩ := h
  obtain ⟨g1, A, c, g2, g3, g4, g5⟩ := (h2 k hk).2 bs he
  refine ⟨A, c, g2, g4, g5, fun w' hw => ?_⟩
  have h1' : w'.ownsMap Try.prog 3 sliceElem mb n D := ⟨es, clock, by rw [hw]; exact hb, hr⟩
  obtain ⟨v, ps, hrun, hv⟩ := h1'.look_ok intKey Try.underlying65 (zeroSlice w') (sliceElem_none 0 0) (keyInt hk)
  rw [g3] at hv
  rw [hrun, g1, sliceElem_back g2 hv]
theorem ne_key {a b : Int} (h : a ≠ b) : (Lit.int .i64 a) ≠ Lit.int .i64 b := fun e => h (by injection e)
theorem Early.store (h : Early F w mb n e) {k : Int} (hk : InR k) (hn : n < maxLen) (hF : ¬ F mb) {A : Option Addr} (hA : Plain A) {c : Nat} {bs : List UInt8} (hb : BysIn F w A bs) (hc : bs.length ≤ c) :
    ∃ w', (Instr.mapUpdate 65 (.map (some mb)) (.int .i64 k) (.slice A bs.length c)).run Try.prog w = .ok () w' ∧ Early F w' mb (n + 1) (fun j => if j = k then some bs else e j) ∧ w.grownBy w' (some mb) := by
  obtain ⟨D, h1, h2⟩ := h
  obtain ⟨w', hrun, g1, g2⟩ := h1.update intKey Try.underlying65 hn (keyInt hk) (sliceElem_plain hA bs.length c)
  have hlt : ∀ {A' : Option Addr} {bs' : List UInt8}, BysIn F w A' bs' → BysIn F w' A' bs' := fun {A' bs'} hb' hp => by
    obtain ⟨b, off, e1, hFb, hcl⟩ := hb' hp
    have hb0 : b < w.heap.size := World.block_lt_of_cell? w ⟨b, off + 0, none⟩ (hcl 0 hp)
    exact ⟨b, off, e1, hFb, fun j hj => (World.cell?_of_block (a := ⟨b, off + j, none⟩) (g2.block b hb0 (fun e => hF (by injection e with e; exact e ▸ hFb)))).trans (hcl j hj)⟩
  refine ⟨w', hrun, ⟨_, g1, fun j hj => ?_⟩, g2⟩
  by_cases e1 : j = k
  · subst e1
    refine ⟨fun h => by simp at h, fun bs' h => ?_⟩
    simp only [if_true, Option.some.injEq] at h
    subst h
    exact ⟨Maps.has_put_same h1.isMap (isKey hj) _, A, c, hA, fun z => Maps.atKey_put_same h1.isMap (isKey hj) _ z, hlt hb, hc⟩
  · simp only [if_neg e1]
    refine ⟨fun h => (Maps.has_put_other (ne_key e1) _).trans ((h2 j hj).1 h), fun bs' h => ?_⟩
    obtain ⟨q1, A', c', q2, q3, q4, q5⟩ := (h2 j hj).2 bs' h
    exact ⟨(Maps.has_put_other (ne_key e1) _).trans q1, A', c', q2, fun z => (Maps.atKey_put_other (ne_key e1) _ z).trans (q3 z), hlt q4, q5⟩
theorem Early.drop (h : Early F w mb n e) {k : Int} (hk : InR k) (hF : ¬ F mb) (ty : TypeId) :
    ∃ w', (Builtin.delete_ #[65, 3] ty #[.map (some mb), .int .i64 k]).run Try.prog w = .ok (.tuple #[]) w' ∧ Early F w' mb n (fun j => if j = k then none else e j) ∧ w.grownBy w' (some mb) := by
  obtain ⟨D, h1, h2⟩ := h
  obtain ⟨w', hrun, g1, g2⟩ := h1.drop intKey Try.underlying65 (keyInt hk) ty
  have g2 := g2.grown
  have hlt : ∀ {A' : Option Addr} {bs' : List UInt8}, BysIn F w A' bs' → BysIn F w' A' bs' := fun {A' bs'} hb' hp => by
    obtain ⟨b, off, e1, hFb, hcl⟩ := hb' hp
    have hb0 : b < w.heap.size := World.block_lt_of_cell? w ⟨b, off + 0, none⟩ (hcl 0 hp)
    exact ⟨b, off, e1, hFb, fun j hj => (World.cell?_of_block (a := ⟨b, off + j, none⟩) (g2.block b hb0 (fun e => hF (by injection e with e; exact e ▸ hFb)))).trans (hcl j hj)⟩
  refine ⟨w', hrun, ⟨_, g1, fun j hj => ?_⟩, g2⟩
  by_cases e1 : j = k
  · subst e1
    exact ⟨fun _ => Maps.has_del_same, fun bs' h => by simp at h⟩
  · simp only [if_neg e1]
    refine ⟨fun h => (Maps.has_del_other (ne_key e1)).trans ((h2 j hj).1 h), fun bs' h => ?_⟩
    obtain ⟨q1, A', c', q2, q3, q4, q5⟩ := (h2 j hj).2 bs' h
    exact ⟨(Maps.has_del_other (ne_key e1)).trans q1, A', c', q2, fun z => (Maps.atKey_del_other (ne_key e1) z).trans (q3 z), hlt q4, q5⟩
end

/-- at a step of a region that draws: 'm[k] = v' -/
theorem step_mapUpdate {w : World} {ops : Array Oper} {o : Oper} {a : Act} {K : Act → World → Prop} {Q : Exit → Act → World → Prop} {E : Prop} (hgd : o.guard = none) (m x v : Operand) (ho : o.op = Op.mapUpdate 65 m x v)
    {F : Nat → Prop} {mb n : Nat} {e : Int → Option (List UInt8)} (h : Early F w mb n e) {k : Int} (hk : InR k) (hn : n < maxLen) (hF : ¬ F mb) {A : Option Addr} (hA : Plain A) {c : Nat} {bs : List UInt8} (hb : BysIn F w A bs) (hc : bs.length ≤ c)
    (h1 : a.eval m = .map (some mb)) (h2 : a.eval x = .int .i64 k) (h3 : a.eval v = .slice A bs.length c)
    (hK : ∀ w', Early F w' mb (n + 1) (fun j => if j = k then some bs else e j) → w.grownBy w' (some mb) → K (a.put o.dst undef) w') :
    if Region.wanted o (yielded ops a.tmps) = true then Oper.wp Try.prog o a w K Q else E := by
  have hw : Region.wanted o (yielded ops a.tmps) = true := by simp [Region.wanted, hgd]
  rw [if_pos hw]
  obtain ⟨w', hr, g1, g2⟩ := h.store hk hn hF hA hb hc
  unfold Oper.wp
  simp [execOp, ho, h1, h2, h3, hr, Result.andThen]
  exact hK w' g1 g2
/-- at a step of a region that draws: 'delete(m, k)' -/
theorem step_delete {w : World} {ops : Array Oper} {o : Oper} {a : Act} {K : Act → World → Prop} {Q : Exit → Act → World → Prop} {E : Prop} (hgd : o.guard = none) (m x : Operand) (ho : o.op = Op.call { callee := Callee.builtin Builtin.delete, args := #[m, x], argTypes := #[65, 3] })
    {F : Nat → Prop} {mb n : Nat} {e : Int → Option (List UInt8)} (h : Early F w mb n e) {k : Int} (hk : InR k) (hF : ¬ F mb)
    (h1 : a.eval m = .map (some mb)) (h2 : a.eval x = .int .i64 k)
    (hK : ∀ w', Early F w' mb n (fun j => if j = k then none else e j) → w.grownBy w' (some mb) → K (a.put o.dst (.tuple #[])) w') :
    if Region.wanted o (yielded ops a.tmps) = true then Oper.wp Try.prog o a w K Q else E := by
  have hw : Region.wanted o (yielded ops a.tmps) = true := by simp [Region.wanted, hgd]
  rw [if_pos hw]
  obtain ⟨w', hr, g1, g2⟩ := h.drop hk hF o.type
  unfold Oper.wp
  simp [execOp, ho, resolve, invoke, builtin, h1, h2, hr, Result.andThen]
  exact hK w' g1 g2
end Go.Proofs.Ythhelhggggbaiaa
