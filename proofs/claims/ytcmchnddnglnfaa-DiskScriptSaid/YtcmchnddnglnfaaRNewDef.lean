/-
  The reference's disk in the making: three lists that grow.
-/
import Derived.Test.YtcmchnddnglnfaaRSync
import Derived.Maps.AppendAt
namespace Go.Proofs.Ytcmchnddnglnfaa
open Go.RowKit
set_option linter.unusedVariables false
set_option linter.unusedSimpArgs false

theorem boolinfo : (Try.prog.info? 4).map (fun i => (i.zero, i.size, i.bytes)) = some (some (.bool false), 1, 1) := by kernel_rfl
/-- a list of Bools to which the program appends -/
def OwnB (F : Nat → Prop) (w : World) (v : Value) (bs : List Bool) : Prop := w.ownsRow 0 4 1 v bs.length (bs.map Value.bool) ∧ ∀ g, v.ownBlock = some g → F g
section
variable {F G : Nat → Prop} {w w' : World} {v : Value} {fs : List (List UInt8)} {bs : List Bool}
theorem OwnB.agree (h : OwnB F w v bs) (ha : Agree F w w') : OwnB F w' v bs := ⟨ownsRow_of h.1 fun g e _ => ha g (h.2 g e), h.2⟩
theorem OwnB.mono (h : OwnB F w v bs) (hs : ∀ i, F i → G i) : OwnB G w v bs := ⟨h.1, fun g e => hs g (h.2 g e)⟩
theorem ownRow_lt {w : World} {B : Nat} {e : TypeId} {z : Nat} {v : Value} {n : Nat} {xs : List Value} (h : w.ownsRow B e z v n xs) : ∀ i, v.ownBlock = some i → i < w.heap.size := fun i hi => by
  rcases h.2 with ⟨rfl, _⟩ | ⟨g, cap, cur, rfl, _, hg, _⟩
  · cases hi
  · have e : g = i := by injection hi
    subst e
    rcases Nat.lt_or_ge g w.heap.size with hlt | hge
    · exact hlt
    · rw [Array.getElem?_eq_none hge] at hg; cases hg
/-- a new row of 64 zeros is appended -/
theorem push_row (h : Gots F w v fs) (hl : Lt F w) (hn : fs.length ≤ 8) (ty : TypeId) (v1 v2 : World) (e1 : v1 = w.alloc (.cells (madeCells #[.int .u8 0] 64) 5)) (e2 : v2 = v1.alloc (.cells #[.slice (some ⟨w.heap.size, 0, none⟩) 64 64] 22)) :
    ∃ v' w' F', (Builtin.append_ #[64, 64] ty #[v, .slice (some ⟨v1.heap.size, 0, none⟩) 1 1]).run Try.prog v2 = .ok v' w' ∧ Gots F' w' v' (fs ++ [zeroS]) ∧ Chg F w w' ∧ (∀ i, F i → F' i) ∧ (∀ i, F' i → F i ∨ w.heap.size ≤ i) ∧ Lt F' w' := by
  obtain ⟨i0, hi, hz0, hz1, hz2⟩ := info_parts sliceinfo
  have hs1 : v1.heap.size = w.heap.size + 1 := by rw [e1]; simp
  have hs2 : v2.heap.size = w.heap.size + 2 := by rw [e2]; simp [hs1]
  have hB1 : Below w.heap.size w v1 := by rw [e1]; exact (Below.refl _ _).alloc (Nat.le_refl _) _
  have hB2 : Below w.heap.size w v2 := by rw [e2]; exact hB1.alloc (by omega) _
  have hR : Row v2 w.heap.size zeroS := by
    rw [e2]
    refine Row.alloc ?_ _
    rw [e1]
    exact Row.made w 64
  have h2 := (h.agree (Agree.of_below hB2 hl)).mono (G := fun i => F i ∨ i = w.heap.size) fun i hi => .inl hi
  obtain ⟨vals, hV⟩ := h2
  have hnews : ∀ j u, ([.slice (some ⟨w.heap.size, 0, none⟩) 64 64] : List Value)[j]? = some u → v2.cell? ((⟨v1.heap.size, 0, none⟩ : Addr).add j) = some u := by
    rw [e2]; exact World.news_of_block (heap_alloc_new _ _)
  obtain ⟨v', w', hr, ho, hg, _, hor⟩ := run_append_own_at (P := Try.prog) v2 0 64 ty 22 i0 (.slice none 0 0) 1 24 Try.underlying64 hi hz0 hz1 hz2 rfl (by decide) v fs.length vals hV.1 ⟨v1.heap.size, 0, none⟩ 1 1 [.slice (some ⟨w.heap.size, 0, none⟩) 64 64] (by rfl) hnews (by intro u hu; simp at hu; subst hu; rfl) (by unfold maxLen; omega) (by omega) (Nat.zero_le _)
  have hvF : ∀ g, v.ownBlock = some g → F g := fun g e => by
    obtain ⟨vals0, h0⟩ := h
    exact h0.2.2.1 g e
  have hl2 : Lt (fun i => F i ∨ i = w.heap.size) v2 := fun i hi => by
    rcases hi with hi | hi
    · have := hl i hi; omega
    · omega
  have hvn : v.ownBlock ≠ some w.heap.size := fun e => by have := hl _ (hvF _ e); omega
  have hP := GotsV.push (f := zeroS) (ck := 64) (Ak := some ⟨w.heap.size, 0, none⟩) hV hl2 (fun _ => ⟨w.heap.size, 0, rfl, ⟨.inr rfl, hvn⟩, fun k hk => by rw [Nat.zero_add]; exact hR.cell hk⟩) (by rw [zeroS_length]; omega) ho hg rfl hor
  refine ⟨v', w', _, hr, hP, ?_, fun i hi => .inl (.inl hi), fun i hi => ?_, fun i hi => ?_⟩
  · exact (Chg.of_below hB2 F).trans (Chg.of_grown hg) fun i _ e => hvF i e
  · rcases hi with (hi | hi) | hi
    · exact .inl hi
    · exact .inr (by omega)
    · rcases hor with e | e
      · exact .inl (hvF i (by rw [← e]; exact hi))
      · rw [e] at hi; injection hi with hi; exact .inr (by omega)
  · have hgs := hg.size
    rcases hi with hi | hi
    · exact Nat.lt_of_lt_of_le (hl2 i hi) hgs
    · exact ownRow_lt ho i hi
/-- 'false' is appended -/
theorem push_bool (h : OwnB F w v bs) (hl : Lt F w) (hn : bs.length ≤ 8) (ty : TypeId) :
    ∃ v' w' F', (Builtin.append_ #[30, 30] ty #[v, .slice (some ⟨w.heap.size, 0, none⟩) 1 1]).run Try.prog (w.alloc (.cells #[.bool false] 4)) = .ok v' w' ∧ OwnB F' w' v' (bs ++ [false]) ∧ Chg F w w' ∧ (∀ i, F i → F' i) ∧ (∀ i, F' i → F i ∨ w.heap.size ≤ i) ∧ Lt F' w' := by
  obtain ⟨i0, hi, hz0, hz1, hz2⟩ := info_parts boolinfo
  have hB1 : Below w.heap.size w (w.alloc (.cells #[.bool false] 4)) := (Below.refl _ _).alloc (Nat.le_refl _) _
  have hV := h.agree (Agree.of_below hB1 hl)
  have hnews : ∀ j u, ([.bool false] : List Value)[j]? = some u → (w.alloc (.cells #[.bool false] 4)).cell? ((⟨w.heap.size, 0, none⟩ : Addr).add j) = some u := World.news_of_block (heap_alloc_new _ _)
  obtain ⟨v', w', hr, ho, hg, _, hor⟩ := run_append_own_at (P := Try.prog) (w.alloc (.cells #[.bool false] 4)) 0 30 ty 4 i0 (.bool false) 1 1 Try.underlying30 hi hz0 hz1 hz2 rfl (by decide) v bs.length (bs.map Value.bool) hV.1 ⟨w.heap.size, 0, none⟩ 1 1 [.bool false] (by rfl) hnews (by intro u hu; simp at hu; subst hu; rfl) (by unfold maxLen; omega) (by omega) (Nat.zero_le _)
  have hgs := hg.size
  have hs1 : (w.alloc (.cells #[.bool false] 4)).heap.size = w.heap.size + 1 := by simp
  refine ⟨v', w', fun i => F i ∨ v'.ownBlock = some i, hr, ⟨by rw [List.length_append, List.map_append]; exact ho, fun g e => .inr e⟩, (Chg.of_below hB1 F).trans (Chg.of_grown hg) fun i _ e => h.2 i e, fun i hi => .inl hi, fun i hi => ?_, fun i hi => ?_⟩
  · rcases hi with hi | hi
    · exact .inl hi
    · rcases hor with e | e
      · exact .inl (h.2 i (by rw [← e]; exact hi))
      · rw [e] at hi; injection hi with hi; exact .inr (by omega)
  · rcases hi with hi | hi
    · have := hl i hi; omega
    · exact ownRow_lt ho i hi
end
/-- the disk in the making: k sectors are there -/
structure NewSt (B : Nat) (w : World) (m : Nat) (vS vL vD : Value) (FS FL FD : Nat → Prop) (fS fL : List (List UInt8)) (fD : List Bool) : Prop where
  box : Box w m 66 #[vS, vL, vD, .bool false, .int .i64 0, .bool false]
  s : Gots FS w vS fS
  l : Gots FL w vL fL
  d : OwnB FD w vD fD
  sl : ∀ i, FS i → ¬ FL i
  sd : ∀ i, FS i → ¬ FD i
  ld : ∀ i, FL i → ¬ FD i
  ms : ¬ FS m
  ml : ¬ FL m
  md : ¬ FD m
  ls : Lt FS w
  ll : Lt FL w
  lD : Lt FD w
  bs : ∀ i, FS i → B ≤ i
  bl : ∀ i, FL i → B ≤ i
  bd : ∀ i, FD i → B ≤ i
  bm : B ≤ m
section
variable {B : Nat} {w w' : World} {m : Nat} {vS vL vD v' : Value} {FS FL FD F' : Nat → Prop} {fS fL fS' : List (List UInt8)} {fD fD' : List Bool}
theorem NewSt.pushS (h : NewSt B w m vS vL vD FS FL FD fS fL fD) (hG : Gots F' w' v' fS') (hC : Chg FS w w') (h1 : ∀ i, FS i → F' i) (h2 : ∀ i, F' i → FS i ∨ w.heap.size ≤ i) (h3 : Lt F' w') : NewSt B (w'.setCell ⟨m, 0, none⟩ v') m v' vL vD F' FL FD fS' fL fD := by
  have hm := h.box.lt
  have hBw : B ≤ w.heap.size := Nat.le_trans h.bm (Nat.le_of_lt hm)
  have ha : Agree (fun i => i ≠ m) w' (w'.setCell ⟨m, 0, none⟩ v') := fun j hj => Below.heap_setCell _ _ _ _ hj
  have hF'm : ¬ F' m := fun e => by
    rcases h2 m e with e | e
    · exact h.ms e
    · omega
  have hLs : Lt FL (w'.setCell ⟨m, 0, none⟩ v') := (h.ll.chg hC).size (by simp [World.setCell])
  have hDs : Lt FD (w'.setCell ⟨m, 0, none⟩ v') := (h.lD.chg hC).size (by simp [World.setCell])
  refine ⟨(h.box.agree (F := fun i => i = m) (Agree.of_chg hC (fun i hi => by subst hi; exact hm) (fun i hi e => by subst hi; exact h.ms e)) rfl).set 0 v', hG.agree (ha.mono fun i hi e => hF'm (e ▸ hi)), ?_, ?_, fun i hi hl => ?_, fun i hi hd => ?_, h.ld, hF'm, h.ml, h.md, h3.size (by simp [World.setCell]), hLs, hDs, fun i hi => ?_, h.bl, h.bd, h.bm⟩
  · exact (h.l.agree (Agree.of_chg hC h.ll fun i hi e => h.sl i e hi)).agree (ha.mono fun i hi e => h.ml (e ▸ hi))
  · exact (h.d.agree (Agree.of_chg hC h.lD fun i hi e => h.sd i e hi)).agree (ha.mono fun i hi e => h.md (e ▸ hi))
  · rcases h2 i hi with e | e
    · exact h.sl i e hl
    · have := h.ll i hl; omega
  · rcases h2 i hi with e | e
    · exact h.sd i e hd
    · have := h.lD i hd; omega
  · rcases h2 i hi with e | e
    · exact h.bs i e
    · omega
theorem NewSt.pushL (h : NewSt B w m vS vL vD FS FL FD fS fL fD) (hG : Gots F' w' v' fS') (hC : Chg FL w w') (h1 : ∀ i, FL i → F' i) (h2 : ∀ i, F' i → FL i ∨ w.heap.size ≤ i) (h3 : Lt F' w') : NewSt B (w'.setCell ⟨m, 1, none⟩ v') m vS v' vD FS F' FD fS fS' fD := by
  have hm := h.box.lt
  have hBw : B ≤ w.heap.size := Nat.le_trans h.bm (Nat.le_of_lt hm)
  have ha : Agree (fun i => i ≠ m) w' (w'.setCell ⟨m, 1, none⟩ v') := fun j hj => Below.heap_setCell _ _ _ _ hj
  have hF'm : ¬ F' m := fun e => by
    rcases h2 m e with e | e
    · exact h.ml e
    · omega
  have hLs : Lt FS (w'.setCell ⟨m, 1, none⟩ v') := (h.ls.chg hC).size (by simp [World.setCell])
  have hDs : Lt FD (w'.setCell ⟨m, 1, none⟩ v') := (h.lD.chg hC).size (by simp [World.setCell])
  refine ⟨(h.box.agree (F := fun i => i = m) (Agree.of_chg hC (fun i hi => by subst hi; exact hm) (fun i hi e => by subst hi; exact h.ml e)) rfl).set 1 v', ?_, hG.agree (ha.mono fun i hi e => hF'm (e ▸ hi)), ?_, fun i hi hl => ?_, h.sd, fun i hi hd => ?_, h.ms, hF'm, h.md, hLs, h3.size (by simp [World.setCell]), hDs, h.bs, fun i hi => ?_, h.bd, h.bm⟩
  · exact (h.s.agree (Agree.of_chg hC h.ls fun i hi e => h.sl i hi e)).agree (ha.mono fun i hi e => h.ms (e ▸ hi))
  · exact (h.d.agree (Agree.of_chg hC h.lD fun i hi e => h.ld i e hi)).agree (ha.mono fun i hi e => h.md (e ▸ hi))
  · rcases h2 i hl with e | e
    · exact h.sl i hi e
    · have := h.ls i hi; omega
  · rcases h2 i hi with e | e
    · exact h.ld i e hd
    · have := h.lD i hd; omega
  · rcases h2 i hi with e | e
    · exact h.bl i e
    · omega
theorem NewSt.pushD (h : NewSt B w m vS vL vD FS FL FD fS fL fD) (hG : OwnB F' w' v' fD') (hC : Chg FD w w') (h1 : ∀ i, FD i → F' i) (h2 : ∀ i, F' i → FD i ∨ w.heap.size ≤ i) (h3 : Lt F' w') : NewSt B (w'.setCell ⟨m, 2, none⟩ v') m vS vL v' FS FL F' fS fL fD' := by
  have hm := h.box.lt
  have hBw : B ≤ w.heap.size := Nat.le_trans h.bm (Nat.le_of_lt hm)
  have ha : Agree (fun i => i ≠ m) w' (w'.setCell ⟨m, 2, none⟩ v') := fun j hj => Below.heap_setCell _ _ _ _ hj
  have hF'm : ¬ F' m := fun e => by
    rcases h2 m e with e | e
    · exact h.md e
    · omega
  have hLs : Lt FS (w'.setCell ⟨m, 2, none⟩ v') := (h.ls.chg hC).size (by simp [World.setCell])
  have hDs : Lt FL (w'.setCell ⟨m, 2, none⟩ v') := (h.ll.chg hC).size (by simp [World.setCell])
  refine ⟨(h.box.agree (F := fun i => i = m) (Agree.of_chg hC (fun i hi => by subst hi; exact hm) (fun i hi e => by subst hi; exact h.md e)) rfl).set 2 v', ?_, ?_, hG.agree (ha.mono fun i hi e => hF'm (e ▸ hi)), h.sl, fun i hi hd => ?_, fun i hi hd => ?_, h.ms, h.ml, hF'm, hLs, hDs, h3.size (by simp [World.setCell]), h.bs, h.bl, fun i hi => ?_, h.bm⟩
  · exact (h.s.agree (Agree.of_chg hC h.ls fun i hi e => h.sd i hi e)).agree (ha.mono fun i hi e => h.ms (e ▸ hi))
  · exact (h.l.agree (Agree.of_chg hC h.ll fun i hi e => h.ld i hi e)).agree (ha.mono fun i hi e => h.ml (e ▸ hi))
  · rcases h2 i hd with e | e
    · exact h.sd i hi e
    · have := h.ls i hi; omega
  · rcases h2 i hd with e | e
    · exact h.ld i hi e
    · have := h.ll i hi; omega
  · rcases h2 i hi with e | e
    · exact h.bd i e
    · omega
/-- a list of rows that is not empty, as the disk has it -/
theorem Gots.rows {F : Nat → Prop} {w : World} {v : Value} {fs : List (List UInt8)} (h : Gots F w v fs) (hp : 0 < fs.length) (h64 : ∀ k, k < fs.length → (fs.getD k []).length = 64) : ∃ g c, v = .slice (some ⟨g, 0, none⟩) fs.length c ∧ F g ∧ RowsAt (fun i => F i ∧ i ≠ g) w g fs := by
  obtain ⟨vals, h1, h2, h3, h4⟩ := h
  obtain ⟨_, hr⟩ := h1
  rcases hr with ⟨_, hn⟩ | ⟨g, cap, cur, rfl, hb, hg, hc, hm, hz, ht⟩
  · omega
  · refine ⟨g, cap, rfl, h3 g rfl, cur, hg, fun k hk => ⟨h64 k hk, ?_⟩⟩
    obtain ⟨Ak, ck, g1, g2, g3⟩ := h4 k hk
    rw [h64 k hk] at g1 g3
    refine ⟨Ak, ck, ?_, g3, g2.mono fun i hi => ⟨hi.1, fun e => hi.2 (by rw [e]; rfl)⟩⟩
    rw [← g1, ← ht, List.getElem?_take_of_lt (by omega)]
    simp
theorem OwnB.at_ {F : Nat → Prop} {w : World} {v : Value} {bs : List Bool} (h : OwnB F w v bs) (hp : 0 < bs.length) : ∃ g c, v = .slice (some ⟨g, 0, none⟩) bs.length c ∧ F g ∧ BoolsAt w g bs := by
  obtain ⟨⟨_, hr⟩, h3⟩ := h
  rcases hr with ⟨_, hn⟩ | ⟨g, cap, cur, rfl, hb, hg, hc, hm, hz, ht⟩
  · omega
  · refine ⟨g, cap, rfl, h3 g rfl, cur, hg, fun k hk => ?_⟩
    have e : (bs.map Value.bool)[k]? = some (.bool (bs.getD k false)) := by
      rw [List.getElem?_map, List.getElem?_eq_getElem hk, List.getD_eq_getElem?_getD, List.getElem?_eq_getElem hk]; rfl
    rw [← e, ← ht, List.getElem?_take_of_lt (by omega)]
    simp
theorem NewSt.rdat {n : Nat} (h : NewSt B w m vS vL vD FS FL FD (List.replicate n zeroS) (List.replicate n zeroS) (List.replicate n false)) (h1 : 1 ≤ n) (h8 : n ≤ 8) : RDsk (fun i => B ≤ i ∧ i < w.heap.size) w m (List.replicate n zeroS) (List.replicate n zeroS) (List.replicate n false) false 0 false := by
  have hln : (List.replicate n zeroS).length = n := List.length_replicate ..
  have hlb : (List.replicate n false).length = n := List.length_replicate ..
  have h64 : ∀ k, k < (List.replicate n zeroS).length → ((List.replicate n zeroS).getD k []).length = 64 := fun k hk => by
    rw [hln] at hk
    rw [List.getD_eq_getElem?_getD, List.getElem?_replicate, if_pos hk]
    exact zeroS_length
  obtain ⟨gs, cS, rfl, hgs, hRS⟩ := h.s.rows (by omega) h64
  obtain ⟨gl, cL, rfl, hgl, hRL⟩ := h.l.rows (by omega) h64
  obtain ⟨gd, cD, rfl, hgd, hBD⟩ := h.d.at_ (by omega)
  have hb := h.box
  have hm := h.box.lt
  rw [hln, hlb] at hb
  refine ⟨gs, gl, gd, cS, cL, cD, ⟨by rw [hln]; exact hb, hRS.mono fun i hi => ?_, hRL.mono fun i hi => ?_, hBD, rfl, by rw [hln, hlb], ⟨⟨h.bm, hm⟩, ⟨h.bs _ hgs, h.ls _ hgs⟩, ⟨h.bl _ hgl, h.ll _ hgl⟩, ⟨h.bd _ hgd, h.lD _ hgd⟩⟩, ?_, fun i hi => hi.2, by rw [hln]; exact h1, by rw [hln]; exact h8⟩⟩
  · exact ⟨⟨h.bs i hi.1, h.ls i hi.1⟩, fun e => h.ms (e ▸ hi.1), hi.2, fun e => h.sl i hi.1 (e ▸ hgl), fun e => h.sd i hi.1 (e ▸ hgd)⟩
  · exact ⟨⟨h.bl i hi.1, h.ll i hi.1⟩, fun e => h.ml (e ▸ hi.1), fun e => h.sl gs hgs (e ▸ hi.1), hi.2, fun e => h.ld i hi.1 (e ▸ hgd)⟩
  · exact ⟨fun e => h.ms (e ▸ hgs), fun e => h.ml (e ▸ hgl), fun e => h.md (e ▸ hgd), fun e => h.sl gs hgs (e ▸ hgl), fun e => h.sd gs hgs (e ▸ hgd), fun e => h.ld gl hgl (e ▸ hgd)⟩
end
end Go.Proofs.Ytcmchnddnglnfaa
