/-
  'append([]byte{}, x...)' and 'append([]byte(nil), x...)': a copy of x in a block of its own.
-/
import Derived.Test.YtlelkhonkhlflaaDoorFoot
import Derived.ArgAppend
import Derived.Deep.AppendLies
import Derived.Deep.RegionHeld3
namespace Go.Proofs.YtlelkhonkhlflaaDoor
open Go.RowKit
set_option linter.unusedVariables false
set_option linter.unusedSimpArgs false

/-- the slice at D holds the bytes bs in a block that was not there in the heap of size B -/
def NewB (B : Nat) (w : World) (D : Option Addr) (d : Nat) (bs : List UInt8) : Prop :=
  bs.length ≤ d ∧ (0 < bs.length → ∃ g, D = some ⟨g, 0, none⟩ ∧ B ≤ g ∧ g < w.heap.size ∧ Row w g bs)
theorem NewB.bysIn {B : Nat} {w : World} {D : Option Addr} {d : Nat} {bs : List UInt8} (h : NewB B w D d bs) : BysIn (fun i => B ≤ i ∧ i < w.heap.size) w D bs := fun hp => by
  obtain ⟨g, e, hB, hlt, hr⟩ := h.2 hp
  exact ⟨g, 0, e, ⟨hB, hlt⟩, fun k hk => by rw [Nat.zero_add]; exact hr.cell hk⟩
theorem NewB.kept {B : Nat} {w w' : World} {D : Option Addr} {d : Nat} {bs : List UInt8} (h : NewB B w D d bs) (hb : Below w.heap.size w w') : NewB B w' D d bs :=
  ⟨h.1, fun hp => by
    obtain ⟨g, e, hB, hlt, hr⟩ := h.2 hp
    exact ⟨g, e, hB, Nat.lt_of_lt_of_le hlt hb.size, hr.kept hb⟩⟩
theorem NewB.mono {B C : Nat} {w : World} {D : Option Addr} {d : Nat} {bs : List UInt8} (h : NewB B w D d bs) (hC : C ≤ B) : NewB C w D d bs :=
  ⟨h.1, fun hp => by
    obtain ⟨g, e, hB, hlt, hr⟩ := h.2 hp
    exact ⟨g, e, Nat.le_trans hC hB, hlt, hr⟩⟩
theorem NewB.far {B : Nat} {w : World} {D : Option Addr} {d : Nat} {bs : List UInt8} (h : NewB B w D d bs) {p : Addr} (hp : p.block < B) (u : Value) : NewB B (w.setCell p u) D d bs :=
  ⟨h.1, fun hq => by
    obtain ⟨g, e, hB, hlt, hr⟩ := h.2 hq
    exact ⟨g, e, hB, by simpa [World.setCell] using hlt, hr.far (by omega) u⟩⟩
theorem NewB.bys {B : Nat} {w : World} {D : Option Addr} {d : Nat} {bs : List UInt8} (h : NewB B w D d bs) : Bys w D bs := h.bysIn.bys fun i hi => hi.2
theorem NewB.chg {B : Nat} {w w' : World} {D : Option Addr} {d : Nat} {bs : List UInt8} {M : Nat → Prop} (h : NewB B w D d bs) (hc : Chg M w w') (hM : ∀ i, B ≤ i → ¬ M i) : NewB B w' D d bs :=
  ⟨h.1, fun hp => by
    obtain ⟨g, e, hB, hlt, r, hr⟩ := h.2 hp
    exact ⟨g, e, hB, Nat.lt_of_lt_of_le hlt hc.size, r, (hc.block g hlt (hM g hB)).trans hr⟩⟩

theorem run_append_copy (w : World) (ty : TypeId) (E0 : Option Addr) (A : Option Addr) (c : Nat) (bs : List UInt8) (hb : Bys w A bs) (hm : bs.length ≤ 1000000) :
    ∃ D d w', (Builtin.append_ #[22, 22] ty #[.slice E0 0 0, .slice A bs.length c]).run Tryd.prog w = .ok (.slice D bs.length d) w' ∧ NewB w.heap.size w' D d bs ∧ Below w.heap.size w w' := by
  obtain ⟨i0, hi, hz0, hz1, hz2⟩ := info_parts u8info
  by_cases hl : bs.length = 0
  · obtain rfl := List.length_eq_zero_iff.1 hl
    refine ⟨E0, 0, w, ?_, ⟨Nat.le_refl _, fun h => absurd h (by simp)⟩, Below.refl _ _⟩
    have hf : (Builtin.firstCells i0.size 0 (.slice A 0 c)).run Tryd.prog w = .ok #[] w := by
      cases A with
      | none => exact run_firstCells_none w i0.size 0 0 c
      | some b =>
        have := run_firstCells_some (P := Tryd.prog) w i0.size 0 b 0 c [] (by simp) (fun j v h => by simp at h)
        simpa using this
    cases E0 <;> simp [Builtin.append_, run_underlying Tryd.underlying22, sizeOf, typeInfo, hi, Builtin.lenOf, hf, storeCells]
  · have hp : 0 < bs.length := by omega
    obtain ⟨b, off, rfl, hlt, hc⟩ := hb hp
    have hnews : ∀ j u, (bs.map u8v)[j]? = some u → w.cell? ((⟨b, off, none⟩ : Addr).add j) = some u := news_of_bys (fun _ => ⟨b, off, rfl, hlt, hc⟩)
    have key : ∃ v' w', (Builtin.append_ #[22, 22] ty #[.slice E0 0 0, .slice (some ⟨b, off, none⟩) bs.length c]).run Tryd.prog w = .ok v' w' ∧ w'.ownsRow w.heap.size 5 1 v' (0 + bs.length) ([] ++ bs.map u8v) ∧ w.grownBy w' none := by
      cases E0 with
      | some e => exact run_append_arg_grows (P := Tryd.prog) w 22 ty 5 i0 (.int .u8 0) 1 1 Tryd.underlying22 hi hz0 hz1 hz2 rfl (by decide) e 0 0 [] rfl (fun j u h => by simp at h) ⟨b, off, none⟩ bs.length c (bs.map u8v) (by simp) hnews (by omega) (by unfold maxLen; omega) (by omega)
      | none =>
        obtain ⟨v', w', r, r1, r2, _⟩ := run_append_own (P := Tryd.prog) w w.heap.size 22 ty 5 i0 (.int .u8 0) 1 1 Tryd.underlying22 hi hz0 hz1 hz2 rfl (by decide) (.slice none 0 0) 0 [] (World.ownsRow_nil w _ _ 1) ⟨b, off, none⟩ bs.length c (bs.map u8v) (by simp) hnews one_byte (by unfold maxLen; omega) (by omega) (Nat.le_refl _)
        exact ⟨v', w', r, r1, r2⟩
    obtain ⟨v', w', hr, ho, hg⟩ := key
    rw [Nat.zero_add, List.nil_append] at ho
    obtain ⟨g, cap, rfl, hB, hrow, hcap⟩ := own_row ho hp
    exact ⟨_, cap, w', hr, ⟨hcap, fun _ => ⟨g, rfl, hB, hrow.lt, hrow⟩⟩, ⟨hg.os, hg.tape, hg.output, hg.size, fun i hi => hg.block i hi (by simp)⟩⟩

def Plain (D : Option Addr) : Prop := D = none ∨ ∃ b off, D = some ⟨b, off, none⟩
theorem run_append_copyP (w : World) (ty : TypeId) (E0 : Option Addr) (hE : Plain E0) (A : Option Addr) (c : Nat) (bs : List UInt8) (hb : Bys w A bs) (hm : bs.length ≤ 1000000) :
    ∃ D d w', (Builtin.append_ #[22, 22] ty #[.slice E0 0 0, .slice A bs.length c]).run Tryd.prog w = .ok (.slice D bs.length d) w' ∧ NewB w.heap.size w' D d bs ∧ Below w.heap.size w w' ∧ Plain D := by
  obtain ⟨D, d, w', hr, h1, h2⟩ := run_append_copy w ty E0 A c bs hb hm
  by_cases hl : bs.length = 0
  · obtain rfl := List.length_eq_zero_iff.1 hl
    obtain ⟨i0, hi, hz0, hz1, hz2⟩ := info_parts u8info
    have hf : (Builtin.firstCells i0.size 0 (.slice A 0 c)).run Tryd.prog w = .ok #[] w := by
      cases A with
      | none => exact run_firstCells_none w i0.size 0 0 c
      | some b =>
        have := run_firstCells_some (P := Tryd.prog) w i0.size 0 b 0 c [] (by simp) (fun j v h => by simp at h)
        simpa using this
    have e : (Builtin.append_ #[22, 22] ty #[.slice E0 0 0, .slice A ([] : List UInt8).length c]).run Tryd.prog w = .ok (.slice E0 0 0) w := by
      cases E0 <;> simp [Builtin.append_, run_underlying Tryd.underlying22, sizeOf, typeInfo, hi, Builtin.lenOf, hf, storeCells]
    have hr0 := hr
    rw [e] at hr
    injection hr with hr1 hr2
    injection hr1 with hr3
    exact ⟨D, d, w', hr0, h1, h2, hr3 ▸ hE⟩
  · obtain ⟨g, rfl, _⟩ := h1.2 (by omega)
    exact ⟨_, d, w', hr, h1, h2, .inr ⟨_, _, rfl⟩⟩

theorem wp_append_copy {w : World} {o : Oper} {a : Act} {K : Act → World → Prop} {Q : Exit → Act → World → Prop} (s x : Operand) (ho : o.op = .call { callee := .builtin .append, args := #[s, x], argTypes := #[22, 22] })
    (E0 : Option Addr) (A : Option Addr) (c : Nat) (bs : List UInt8) (hs : a.eval s = .slice E0 0 0) (hx : a.eval x = .slice A bs.length c) (hb : Bys w A bs) (hm : bs.length ≤ 1000000)
    (h : ∀ D d w', NewB w.heap.size w' D d bs → Below w.heap.size w w' → K (a.put o.dst (.slice D bs.length d)) w') : o.wp Tryd.prog a w K Q := by
  obtain ⟨D, d, w', hr, h1, h2⟩ := run_append_copy w o.type E0 A c bs hb hm
  unfold Oper.wp execOp
  simp only [ho, resolve, invoke, builtin, Sem.run_bind, Sem.run_pure, Result.andThen_ok, List.map_toArray, List.map_cons, List.map_nil, hs, hx, hr]
  exact h D d w' h1 h2
theorem wpList_append_copy {w : World} {ops : Array Oper} {rest : List Oper} {o : Oper} {a : Act} {Q : Exit → Act → World → Prop} (hgd : o.guard = none) (s x : Operand) (ho : o.op = .call { callee := .builtin .append, args := #[s, x], argTypes := #[22, 22] })
    (E0 : Option Addr) (A : Option Addr) (c : Nat) (bs : List UInt8) (hs : a.eval s = .slice E0 0 0) (hx : a.eval x = .slice A bs.length c) (hb : Bys w A bs) (hm : bs.length ≤ 1000000)
    (h : ∀ D d w', NewB w.heap.size w' D d bs → Below w.heap.size w w' → wpList Tryd.prog ops Q rest (a.put o.dst (.slice D bs.length d)) w') : wpList Tryd.prog ops Q (o :: rest) a w :=
  wpList_plain hgd fun _ hK => wp_append_copy s x ho E0 A c bs hs hx hb hm fun D d w' h1 h2 => hK _ _ (h D d w' h1 h2)
theorem step_append_copy {w : World} {ops : Array Oper} {o : Oper} {a : Act} {K : Act → World → Prop} {Q : Exit → Act → World → Prop} {E : Prop} (hgd : o.guard = none) (s x : Operand) (ho : o.op = .call { callee := .builtin .append, args := #[s, x], argTypes := #[22, 22] })
    (E0 : Option Addr) (A : Option Addr) (c : Nat) (bs : List UInt8) (hs : a.eval s = .slice E0 0 0) (hx : a.eval x = .slice A bs.length c) (hb : Bys w A bs) (hm : bs.length ≤ 1000000)
    (h : ∀ D d w', NewB w.heap.size w' D d bs → Below w.heap.size w w' → K (a.put o.dst (.slice D bs.length d)) w') :
    if Region.wanted o (yielded ops a.tmps) = true then Oper.wp Tryd.prog o a w K Q else E := by
  have hw : Region.wanted o (yielded ops a.tmps) = true := by simp [Region.wanted, hgd]
  rw [if_pos hw]
  exact wp_append_copy s x ho E0 A c bs hs hx hb hm h
theorem step_append_copyP {w : World} {ops : Array Oper} {o : Oper} {a : Act} {K : Act → World → Prop} {Q : Exit → Act → World → Prop} {E : Prop} (hgd : o.guard = none) (s x : Operand) (ho : o.op = .call { callee := .builtin .append, args := #[s, x], argTypes := #[22, 22] })
    (E0 : Option Addr) (A : Option Addr) (c : Nat) (bs : List UInt8) (hs : a.eval s = .slice E0 0 0) (hx : a.eval x = .slice A bs.length c) (hE : Plain E0) (hb : Bys w A bs) (hm : bs.length ≤ 1000000)
    (h : ∀ D d w', NewB w.heap.size w' D d bs → Below w.heap.size w w' → Plain D → K (a.put o.dst (.slice D bs.length d)) w') :
    if Region.wanted o (yielded ops a.tmps) = true then Oper.wp Tryd.prog o a w K Q else E := by
  have hw : Region.wanted o (yielded ops a.tmps) = true := by simp [Region.wanted, hgd]
  rw [if_pos hw]
  obtain ⟨D, d, w', hr, h1, h2, h3⟩ := run_append_copyP w o.type E0 hE A c bs hb hm
  unfold Oper.wp execOp
  simp only [ho, resolve, invoke, builtin, Sem.run_bind, Sem.run_pure, Result.andThen_ok, List.map_toArray, List.map_cons, List.map_nil, hs, hx, hr]
  exact h D d w' h1 h2 h3
end Go.Proofs.YtlelkhonkhlflaaDoor
