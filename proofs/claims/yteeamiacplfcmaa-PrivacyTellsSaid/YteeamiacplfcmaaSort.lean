/-
  slices.SortFunc of the groups: sorted by their preferences.
-/
import Derived.Test.YteeamiacplfcmaaTail
import Derived.Test.YteeamiacplfcmaaShelf
namespace Go.Proofs.Yteeamiacplfcmaa
open Go.RowKit Go.Sort Go.Shelf
set_option linter.unusedVariables false
set_option linter.unusedSimpArgs false

set_option maxHeartbeats 2000000 in
theorem mcmp_any {x y : Grp} {F G : Nat → Prop} {v0 v1 u0 u1 : Value} {w : World} (h : GrpE F w v0 v1 x) (hF : Lt F w) (h' : GrpE G w u0 u1 y) (hG : Lt G w) :
    Calls Try.prog 58 #[.agg #[v0, v1], .agg #[u0, u1]] w fun e w' => e = .returned (.int .i64 (cmpL x.1 y.1)) ∧ ∃ q os', w' = grow (w.drewN q) os' := by
  obtain ⟨A, c, rfl, hc, hm, hi, hj, hI, rfl⟩ := h
  obtain ⟨A', c', rfl, hc', hm', hi', hj', hI', rfl⟩ := h'
  have HC := hide (fun wq (hq : Below w.heap.size w wq) => compare_any (c := c) (d := c') (w := wq) (Ints.below (hI.ints hF) hq) (Ints.below (hI'.ints hG) hq) (by omega) (by omega) hi hi')
  obtain ⟨xl, xn⟩ := x
  obtain ⟨yl, yn⟩ := y
  simp only [] at *
  have HB : Hid (Below w.heap.size w ((w.alloc (.cells #[.slice A xl.length c, .int .i64 xn] 52)).alloc (.cells #[.slice A' yl.length c', .int .i64 yn] 52))) := ((Below.refl _ _).alloc (Nat.le_refl _) _).alloc (by simp) _
  have HC1 := hide (HC.out _ HB.out)
  clear HC hI hI' hi hi'
  generalize cmpL xl yl = r at *
  go_enter Try.func58, Try.ntmps58
  go_wp2_with fail
  refine HC1.out.mono ?_
  rintro e w1 ⟨rfl, rfl⟩
  go_wp2_with fail
  go_ret
  exact ⟨rfl, 0, _, by rw [alloc_eq_grow, alloc_eq_grow, grow_grow]; rfl⟩
/-- a group as it lies in the list: its two cells, what they bear in the blocks of w other than g -/
def PG (D : Nat → Prop) (w : World) (g : Nat) : Type := { p : (Value × Value) × Grp // GrpE (fun b => (b < w.heap.size ∧ b ≠ g) ∧ D b) w p.1.1 p.1.2 p.2 }
def PG.enc {D : Nat → Prop} {w : World} {g : Nat} (x : PG D w g) : List Value := [x.1.1.1, x.1.1.2]
def PG.grp {D : Nat → Prop} {w : World} {g : Nat} (x : PG D w g) : Grp := x.1.2
instance (D : Nat → Prop) (w : World) (g : Nat) : Inhabited (PG D w g) := ⟨⟨((.slice none 0 0, .int .i64 0), ([], 0)), none, 0, rfl, by simp, by simp, by simp, by unfold InI; simp, IntsIn.nil _ _ _, rfl⟩⟩
def PG.cmp {D : Nat → Prop} {w : World} {g : Nat} (x y : PG D w g) : Int := cmpL x.grp.1 y.grp.1
theorem PG.lt {D : Nat → Prop} {w : World} {g : Nat} (x y : PG D w g) : ltOf PG.cmp x y = lexLt x.grp.1 y.grp.1 := cmpL_lt _ _
theorem PG.swo (D : Nat → Prop) (w : World) (g : Nat) : SWO (ltOf (PG.cmp (D := D) (w := w) (g := g))) where
  irrefl x := by rw [PG.lt, lexLt_irrefl]
  trans x y z h1 h2 := by rw [PG.lt] at *; exact lexLt_trans h1 h2
  ntrans x y z h1 h2 := by
    rw [PG.lt] at *
    cases h : lexLt x.grp.1 z.grp.1 with
    | false => rfl
    | true =>
      cases h3 : lexLt y.grp.1 x.grp.1 with
      | true => rw [lexLt_trans h3 h] at h2; cases h2
      | false => rw [lexLt_conn h1 h3] at h; rw [h] at h2; cases h2
theorem grown_sorted {α : Type} [Inhabited α] {enc : α → List Value} {w : World} {g n k : Nat} {os : Array Obj} (d : Array α) : w.grownBy (sortWorldK enc k w g 0 n d os) (some g) := by
  refine ⟨rfl, rfl, rfl, by simp [sortWorldK, putRowK, putRow, mapBlock, Sort.ahead], fun i hi hne => ?_⟩
  have hsz : i < (putRowK enc k (Sort.ahead w n) g 0 d).heap.size := by simpa [putRowK, putRow, mapBlock, Sort.ahead] using hi
  unfold sortWorldK
  rw [heap_grow_old _ _ hsz]
  have : g ≠ i := fun e => hne (by rw [e])
  simp [putRowK, putRow, mapBlock, Sort.ahead, Array.getElem?_modify, this]
theorem heap_sorted {α : Type} [Inhabited α] {enc : α → List Value} {w : World} {g n k : Nat} {os : Array Obj} {cur : Array Value} {e : TypeId} {fr : Nat × Nat} (d : Array α) (hb : w.heap[g]? = some (.cells cur e fr)) :
    (sortWorldK enc k w g 0 n d os).heap[g]? = some (.cells (putCells id 0 (flatK enc k d) cur) e fr) := by
  have hg : g < w.heap.size := (Array.getElem?_eq_some_iff.1 hb).1
  unfold sortWorldK
  rw [heap_grow_old _ _ (by simpa [putRowK, putRow, mapBlock, Sort.ahead] using hg)]
  simp [putRowK, putRow, mapBlock, Sort.ahead, Array.getElem?_modify, hb, onCells]
theorem PG.lays (D : Nat → Prop) (w : World) (g n : Nat) : CmpLays Try.prog 58 #[] (PG.enc (D := D) (w := w) (g := g)) 2 PG.cmp g 0 n w := fun m os dk _ x y => by
  have hg : w.grownBy (sortWorldK PG.enc 2 w g 0 m dk os) (some g) := grown_sorted dk
  have hag : Agree (fun b => (b < w.heap.size ∧ b ≠ g) ∧ D b) w (sortWorldK PG.enc 2 w g 0 m dk os) := fun i hi => hg.block i hi.1.1 (fun e => hi.1.2 (by injection e))
  exact mcmp_any (goodG.agree x.2 hag) (fun i hi => Nat.lt_of_lt_of_le hi.1.1 hg.size) (goodG.agree y.2 hag) (fun i hi => Nat.lt_of_lt_of_le hi.1.1 hg.size)
theorem getD_ofGet {α : Type} [Inhabited α] {d : Array α} {k : Nat} (hk : k < d.size) : d.toList.getD k default = d[k]! := by
  rw [getElem!_pos d k hk, List.getD_eq_getElem?_getD, List.getElem?_eq_getElem (by simpa using hk), Option.getD_some, Array.getElem_toList]
theorem perm_whole {α : Type} [Inhabited α] {d d' : Array α} (h : PermIn 0 d.size d d') : d'.size = d.size ∧ d'.toList.Perm d.toList := by
  obtain ⟨h1, _, h3⟩ := h
  refine ⟨h1, ?_⟩
  have e1 : d.extract 0 d.size = d := by simp
  have e2 : d'.extract 0 d.size = d' := by rw [← h1]; simp
  rwa [e1, e2] at h3
set_option maxHeartbeats 2000000 in
/-- the groups are sorted in place -/
theorem sortfunc_any {D : Nat → Prop} {B : Nat} {w : World} {v : Value} {xs : List Grp} (h : OwnD D B w v xs) (hl : xs.length ≤ 1000000) :
    Calls Try.prog 57 #[v, .func (.func 58) #[] #[]] w fun e w' => e = .returned (.tuple #[]) ∧ ∃ ys : List Grp, ys.Perm xs ∧ (ys.Pairwise fun a b => lexLt b.1 a.1 = false) ∧ OwnD D B w' v ys ∧ w.grownBy w' v.ownBlock := by
  rcases Nat.eq_zero_or_pos xs.length with h0 | h0
  · obtain ⟨A, c, hv, _, _, _⟩ := h.shape (goodD D)
    rw [h0] at hv
    obtain rfl := List.length_eq_zero_iff.1 h0
    subst hv
    refine (AnyF.slices_SortFunc_none Try.sortG A c _ w).mono ?_
    rintro e w' ⟨rfl, rfl⟩
    exact ⟨rfl, [], List.Perm.refl _, List.Pairwise.nil, h, grown_refl _ _⟩
  · obtain ⟨⟨vals, ⟨hvl, hr⟩, hF, hel⟩, hB⟩ := id h
    rcases hr with ⟨_, hn⟩ | ⟨g, cap, cur, rfl, hb, hg, hc, hm, hz, ht⟩
    · omega
    have hglt : g < w.heap.size := (Array.getElem?_eq_some_iff.1 hg).1
    have hown : (Value.slice (some ⟨g, 0, none⟩) xs.length cap).ownBlock = some g := rfl
    have hpick : ∀ k : Fin xs.length, ∃ p : PG D w g, vals[k.1 * 2]? = some p.1.1.1 ∧ vals[k.1 * 2 + 1]? = some p.1.1.2 ∧ p.grp = xs.getD k.1 default := fun k => by
      obtain ⟨v0, v1, g0, g1, g2⟩ := hel k.1 k.2
      exact ⟨⟨((v0, v1), xs.getD k.1 default), goodG.mono g2 fun i hi => ⟨⟨hi.1.1, fun e => hi.1.2 (by rw [e]; rfl)⟩, hi.2⟩⟩, g0, g1, rfl⟩
    let d : Array (PG D w g) := Array.ofFn fun k : Fin xs.length => Classical.choose (hpick k)
    have hds : d.size = xs.length := by simp [d]
    have hdk : ∀ k, k < xs.length → vals[k * 2]? = some (d[k]!).1.1.1 ∧ vals[k * 2 + 1]? = some (d[k]!).1.1.2 ∧ (d[k]!).grp = xs.getD k default := fun k hk => by
      have := Classical.choose_spec (hpick ⟨k, hk⟩)
      have e : d[k]! = Classical.choose (hpick ⟨k, hk⟩) := by
        rw [getElem!_pos d k (by omega)]
        exact Array.getElem_ofFn _
      rw [e]; exact this
    have hxs : d.toList.map PG.grp = xs := by
      apply List.ext_getElem (by simp [hds])
      intro i h1 h2
      have := (hdk i h2).2.2
      rw [getElem!_pos d i (by omega), List.getD_eq_getElem?_getD, List.getElem?_eq_getElem h2, Option.getD_some] at this
      simp [this]
    clear_value d
    have hH : HoldsK PG.enc 2 w g 0 d := fun j hj => by
      rw [size_flatK] at hj
      refine ⟨?_, by simp [World.frozen?, hg]⟩
      rw [get_flatK _ _ _ _ hj, Nat.zero_add]
      obtain ⟨k0, k1, _⟩ := hdk (j / 2) (by omega)
      have hvj : vals[j]? = some ((d[j / 2]!).enc[j % 2]!) := by
        rcases Nat.mod_two_eq_zero_or_one j with e | e
        · have : j / 2 * 2 = j := by omega
          rw [this] at k0
          rw [k0, e]; rfl
        · have : j / 2 * 2 + 1 = j := by omega
          rw [this] at k1
          rw [k1, e]; rfl
      rw [cell_of_row w g j _ _ (0, 0) hg, ← Array.getElem?_toList, ← List.getElem?_take_of_lt (show j < xs.length * 2 by omega), ht]
      exact hvj
    have hcon := AnyQ.slices_SortFunc Try.sortG 2 Try.isAgg52 Try.sizeOf52 PG.enc (fun _ => rfl) (fun x v hv => by
      obtain ⟨o0, o1⟩ := goodG.one x.2
      simp [PG.enc] at hv
      rcases hv with rfl | rfl
      · exact o0
      · exact o1) PG.cmp (PG.swo D w g) 58 #[] g 0 cap d w (enters_of Try.func58 (by kernel_rfl) rfl) (PG.lays D w g _) hH hglt (by omega)
    rw [hds] at hcon
    refine Calls.mono hcon ?_
    rintro e w' ⟨rfl, d', n, os, hp, hs, rfl⟩
    rw [← hds] at hp
    obtain ⟨hs', hperm⟩ := perm_whole hp
    have hgr : w.grownBy (sortWorldK PG.enc 2 w g 0 n d' os) (some g) := grown_sorted d'
    have hcur := heap_sorted (enc := PG.enc) (n := n) (k := 2) (os := os) d' hg
    have hyl : (d'.toList.map PG.grp).length = xs.length := by simp; omega
    refine ⟨rfl, d'.toList.map PG.grp, by rw [← hxs]; exact hperm.map _, ?_, ⟨⟨(putCells id 0 (flatK PG.enc 2 d') cur).toList.take (xs.length * 2), ⟨?_, ?_⟩, ?_, ?_⟩, hB⟩, hgr⟩
    · rw [List.pairwise_map, List.pairwise_iff_getElem]
      intro i j hi hj hij
      have h1 := hs i j (Nat.zero_le _) hij (by simp at hj; omega)
      rw [PG.lt] at h1
      rw [getElem!_pos d' i (by simpa using hi), getElem!_pos d' j (by simpa using hj)] at h1
      simpa using h1
    · rw [hyl, List.length_take]
      simp [putCells, hz]
      omega
    · exact .inr ⟨g, cap, _, by rw [hyl], Nat.zero_le _, hcur, by omega, hm, by simp [putCells, hz], by rw [hyl]⟩
    · intro g' e
      rw [hown] at e
      injection e with e
      subst e
      exact Nat.lt_of_lt_of_le hglt hgr.size
    · intro k hk
      rw [hyl] at hk
      have hcell : ∀ t, t < xs.length * 2 → ((putCells id 0 (flatK PG.enc 2 d') cur).toList.take (xs.length * 2))[t]? = some ((d'[t / 2]!).enc[t % 2]!) := fun t htl => by
        rw [List.getElem?_take_of_lt htl, Array.getElem?_toList]
        have e1 : (flatK PG.enc 2 d').size = d'.size * 2 := size_flatK _ _ _
        have htc : t < cur.size := by omega
        rw [putCells, Array.getElem?_mapIdx, Array.getElem?_eq_getElem htc, Option.map_some, if_pos (by omega)]
        show some ((flatK PG.enc 2 d')[t - 0]!) = _
        rw [Nat.sub_zero, get_flatK _ _ _ t (by omega)]
      refine ⟨(d'[k]!).1.1.1, (d'[k]!).1.1.2, ?_, ?_, ?_⟩
      · rw [hcell _ (by omega), show k * 2 / 2 = k by omega, show k * 2 % 2 = 0 by omega]; rfl
      · rw [hcell _ (by omega), show (k * 2 + 1) / 2 = k by omega, show (k * 2 + 1) % 2 = 1 by omega]; rfl
      · have e2 : (d'.toList.map PG.grp).getD k default = (d'[k]!).1.2 := by
          rw [List.getD_eq_getElem?_getD, List.getElem?_map, List.getElem?_eq_getElem (by simp; omega), getElem!_pos d' k (by omega)]
          simp [PG.grp]
        rw [e2]
        refine goodG.mono (goodG.agree (d'[k]!).2 fun i hi => hgr.block i hi.1.1 (fun e => hi.1.2 (by injection e))) fun i hi => ⟨⟨Nat.lt_of_lt_of_le hi.1.1 hgr.size, fun e => hi.1.2 ?_⟩, hi.2⟩
        rw [hown] at e
        injection e with e
        exact e.symm
end Go.Proofs.Yteeamiacplfcmaa
