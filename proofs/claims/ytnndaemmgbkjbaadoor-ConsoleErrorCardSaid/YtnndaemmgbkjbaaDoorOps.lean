/-
  Laws of the walk for operations whose run is known.
-/
import Derived.Test.YtnndaemmgbkjbaaDoorMem
import Derived.StillTailTactics
namespace Go.Proofs.YtnndaemmgbkjbaaDoor
open Go.RowKit
set_option linter.unusedVariables false
set_option linter.unusedSimpArgs false

section
variable {w w' : World} {ops : Array Oper} {rest : List Oper} {o : Oper} {a : Act} {Q : Exit → Act → World → Prop} {K : Act → World → Prop} {E : Prop} {v : Value}
/-- the operation gives v and leaves the world w' -/
def Gives (o : Oper) (a : Act) (w : World) (v : Value) (w' : World) : Prop := (execOp a.eval o).run Tryd.prog w = .ok (.value v) w'
def Does (o : Oper) (a : Act) (w : World) (w' : World) : Prop := (execOp a.eval o).run Tryd.prog w = .ok .skip w'
theorem wpList_gives (hgd : o.guard = none) (hr : Gives o a w v w') (h : wpList Tryd.prog ops Q rest (a.put o.dst v) w') : wpList Tryd.prog ops Q (o :: rest) a w :=
  wpList_plain hgd fun K hK => by
    unfold Oper.wp
    rw [show (execOp a.eval o).run Tryd.prog w = .ok (.value v) w' from hr, Oper.upon_value]
    exact hK _ _ h
theorem wpList_does (hgd : o.guard = none) (hr : Does o a w w') (h : wpList Tryd.prog ops Q rest (a.put o.dst undef) w') : wpList Tryd.prog ops Q (o :: rest) a w :=
  wpList_plain hgd fun K hK => by
    unfold Oper.wp
    rw [show (execOp a.eval o).run Tryd.prog w = .ok .skip w' from hr, Oper.upon_skip]
    exact hK _ _ h
theorem step_gives (hgd : o.guard = none) (hr : Gives o a w v w') (h : K (a.put o.dst v) w') : if Region.wanted o (yielded ops a.tmps) = true then Oper.wp Tryd.prog o a w K Q else E := by
  have hw : Region.wanted o (yielded ops a.tmps) = true := by simp [Region.wanted, hgd]
  rw [if_pos hw]
  unfold Oper.wp
  rw [show (execOp a.eval o).run Tryd.prog w = .ok (.value v) w' from hr, Oper.upon_value]
  exact h
theorem step_does (hgd : o.guard = none) (hr : Does o a w w') (h : K (a.put o.dst undef) w') : if Region.wanted o (yielded ops a.tmps) = true then Oper.wp Tryd.prog o a w K Q else E := by
  have hw : Region.wanted o (yielded ops a.tmps) = true := by simp [Region.wanted, hgd]
  rw [if_pos hw]
  unfold Oper.wp
  rw [show (execOp a.eval o).run Tryd.prog w = .ok .skip w' from hr, Oper.upon_skip]
  exact h
theorem wpStill_gives {R : Act → Prop} (hgd : o.guard = none) (hr : Gives o a w v w) (h : wpStill Tryd.prog ops w R rest (a.put o.dst v)) : wpStill Tryd.prog ops w R (o :: rest) a := by
  refine wpStill_step fun K hK => ?_
  have hw : Region.wanted o (yielded ops a.tmps) = true := by simp [Region.wanted, hgd]
  rw [if_pos hw]
  unfold Oper.still
  rw [show (execOp a.eval o).run Tryd.prog w = .ok (.value v) w from hr, Oper.stillUpon_value]
  exact hK _ h
theorem gives_load {ty : TypeId} {x : Operand} {p : Addr} (ho : o.op = .load ty x) (hx : a.eval x = .pointer (some p)) (h : (loadVar ty p).run Tryd.prog w = .ok v w) : Gives o a w v w := by
  unfold Gives execOp
  simp only [ho, hx, Instr.loadAt, Instr.sureAddr, Sem.run_bind, Sem.run_pure, Result.andThen_ok, h]
theorem does_store {ty : TypeId} {x y : Operand} {p : Addr} (ho : o.op = .store ty x y) (hx : a.eval x = .pointer (some p)) (hy : a.eval y = v) (h : (storeVar ty p v).run Tryd.prog w = .ok () w') : Does o a w w' := by
  unfold Does execOp
  simp only [ho, hx, hy, Instr.storeAt, Instr.sureAddr, Sem.run_bind, Sem.run_pure, Result.andThen_ok, h]
theorem gives_copy {x y : Operand} {t1 t2 : TypeId} {xv yv : Value} (ho : o.op = .call { callee := .builtin .copy, args := #[x, y], argTypes := #[t1, t2] }) (hx : a.eval x = xv) (hy : a.eval y = yv) (h : (Builtin.copy_ #[t1, t2] o.type #[xv, yv]).run Tryd.prog w = .ok v w') : Gives o a w v w' := by
  unfold Gives execOp
  simp only [ho, resolve, invoke, builtin, Sem.run_bind, Sem.run_pure, Result.andThen_ok, List.map_toArray, List.map_cons, List.map_nil, hx, hy, h]
theorem gives_len {x : Operand} {t1 : TypeId} {xv : Value} (ho : o.op = .call { callee := .builtin .len, args := #[x], argTypes := #[t1] }) (hx : a.eval x = xv) (h : (Builtin.len_ #[t1] o.type #[xv]).run Tryd.prog w = .ok v w') : Gives o a w v w' := by
  unfold Gives execOp
  simp only [ho, resolve, invoke, builtin, Sem.run_bind, Sem.run_pure, Result.andThen_ok, List.map_toArray, List.map_cons, List.map_nil, hx, h]
theorem gives_clear {x : Operand} {t1 : TypeId} {xv : Value} (ho : o.op = .call { callee := .builtin .clear, args := #[x], argTypes := #[t1] }) (hx : a.eval x = xv) (h : (Builtin.clear_ #[t1] o.type #[xv]).run Tryd.prog w = .ok v w') : Gives o a w v w' := by
  unfold Gives execOp
  simp only [ho, resolve, invoke, builtin, Sem.run_bind, Sem.run_pure, Result.andThen_ok, List.map_toArray, List.map_cons, List.map_nil, hx, h]
theorem gives_make {ty : TypeId} {l c : Operand} {lv cv : Value} (ho : o.op = .makeSlice ty l c) (hl : a.eval l = lv) (hc : a.eval c = cv) (h : (Instr.makeSlice ty lv cv).run Tryd.prog w = .ok v w') : Gives o a w v w' := by
  unfold Gives execOp
  simp only [ho, hl, hc, Sem.run_bind, Sem.run_pure, Result.andThen_ok, h]
theorem gives_lookup {ty : TypeId} {m x : Operand} {mv xv : Value} {b : Bool} (ho : o.op = .lookup ty m x b) (hm : a.eval m = mv) (hx : a.eval x = xv) (h : (Instr.lookup ty mv xv b).run Tryd.prog w = .ok v w') : Gives o a w v w' := by
  unfold Gives execOp
  simp only [ho, hm, hx, Sem.run_bind, Sem.run_pure, Result.andThen_ok, h]
theorem does_mapUpdate {ty : TypeId} {m x y : Operand} {mv xv yv : Value} (ho : o.op = .mapUpdate ty m x y) (hm : a.eval m = mv) (hx : a.eval x = xv) (hy : a.eval y = yv) (h : (Instr.mapUpdate ty mv xv yv).run Tryd.prog w = .ok () w') : Does o a w w' := by
  unfold Does execOp
  simp only [ho, hm, hx, hy, Sem.run_bind, Sem.run_pure, Result.andThen_ok, h]
theorem gives_append {x y : Operand} {t1 t2 : TypeId} {xv yv : Value} (ho : o.op = .call { callee := .builtin .append, args := #[x, y], argTypes := #[t1, t2] }) (hx : a.eval x = xv) (hy : a.eval y = yv) (h : (Builtin.append_ #[t1, t2] o.type #[xv, yv]).run Tryd.prog w = .ok v w') : Gives o a w v w' := by
  unfold Gives execOp
  simp only [ho, resolve, invoke, builtin, Sem.run_bind, Sem.run_pure, Result.andThen_ok, List.map_toArray, List.map_cons, List.map_nil, hx, hy, h]
end
end Go.Proofs.YtnndaemmgbkjbaaDoor
