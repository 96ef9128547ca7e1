/-
  slices.Delete of one cell of a list.
-/
import Derived.Test.YteeamiacplfcmaaPCell
namespace Go.Proofs.Yteeamiacplfcmaa
open Go.RowKit
set_option linter.unusedVariables false
set_option linter.unusedSimpArgs false

set_option maxHeartbeats 1000000 in
theorem del_mem {B : Nat} {w : World} {g n cap i : Nat} {xs : List Cel} (h : OwnC B w (.slice (some ⟨g, 0, none⟩) n cap) xs) (hn : xs.length = n) (hi : i < n) {Ad : Option Addr} (hAd : Ad = if cap = i + 1 then some ⟨g, 0, none⟩ else some ⟨g, (i + 1) * 2, none⟩) (d e2 : Nat) (ty : TypeId) :
    ∃ w1 w2, (Builtin.append_ #[23, 23] ty #[.slice (some ⟨g, 0, none⟩) i cap, .slice Ad (n - (i + 1)) d]).run Try.prog w = .ok (.slice (some ⟨g, 0, none⟩) (n - 1) cap) w1 ∧
      (Builtin.clear_ #[23] 23 #[.slice (some ⟨g, (n - 1) * 2, none⟩) 1 e2]).run Try.prog w1 = .ok (.tuple #[]) w2 ∧
      OwnC B w2 (.slice (some ⟨g, 0, none⟩) (n - 1) cap) (xs.take i ++ xs.drop (i + 1)) ∧ w.grownBy w2 (some g) := by
  obtain ⟨i0, hi0, hz0, hz1, hz2⟩ := info_parts cellinfo
  obtain ⟨⟨vals, ⟨hvl, hr⟩, hF, hel⟩, hB⟩ := h
  rw [hn] at hr hvl
  rcases hr with ⟨hv, _⟩ | ⟨g', cap', cur, hv, hb, hg, hc, hm, hz, ht⟩
  · cases hv
  injection hv with v1 v2 v3
  injection v1 with v1
  injection v1 with v1
  subst v1 v3
  have hone : ∀ u ∈ vals, u.oneCell' = true := fun u hu => by
    obtain ⟨t, ht1, rfl⟩ := List.getElem_of_mem hu
    obtain ⟨v0, v1, g0, g1, g2⟩ := hel (t / 2) (by omega)
    obtain ⟨o0, o1⟩ := goodC.one g2
    rcases Nat.mod_two_eq_zero_or_one t with e | e
    · rw [show t / 2 * 2 = t by omega, List.getElem?_eq_getElem ht1] at g0
      rw [Option.some.inj g0]; exact o0
    · rw [show t / 2 * 2 + 1 = t by omega, List.getElem?_eq_getElem ht1] at g1
      rw [Option.some.inj g1]; exact o1
  have hcv : ∀ t, t < n * 2 → cur.toList[t]? = vals[t]? := fun t htl => by rw [← ht, List.getElem?_take_of_lt htl]
  have hsz : i0.size = 2 := hz1
  have hnl : (vals.drop ((i + 1) * 2)).length = (n - (i + 1)) * i0.size := by rw [List.length_drop, hvl, hsz]; omega
  obtain ⟨ad, had⟩ : ∃ ad, Ad = some ad := by
    rw [hAd]; split <;> exact ⟨_, rfl⟩
  have hnews : ∀ j u, (vals.drop ((i + 1) * 2))[j]? = some u → w.cell? (ad.add j) = some u := fun j u hu => by
    have hj : j < (vals.drop ((i + 1) * 2)).length := by
      rcases Nat.lt_or_ge j (vals.drop ((i + 1) * 2)).length with h | h
      · exact h
      · rw [List.getElem?_eq_none h] at hu; cases hu
    rw [hnl, hsz] at hj
    have e : ad = ⟨g, (i + 1) * 2, none⟩ := by
      rw [had, if_neg (by omega)] at hAd
      exact Option.some.inj hAd
    rw [e, add_off, cell_of_row w g _ _ _ (0, 0) hg, ← Array.getElem?_toList, hcv _ (by omega), ← hu, List.getElem?_drop]
  have hr1 := run_append_room (P := Try.prog) w 23 ty 34 i0 Try.underlying23 hi0 g i cap cur hg ad (n - (i + 1)) d (vals.drop ((i + 1) * 2)) hnl hnews (fun u hu => hone u (List.mem_of_mem_drop hu)) (by omega) (by rw [hnl, hsz, hz]; omega)
  rw [show i + (n - (i + 1)) = n - 1 by omega, ← had] at hr1
  generalize hrow1 : (cur.toList.take (i * i0.size) ++ vals.drop ((i + 1) * 2) ++ cur.toList.drop (i * i0.size + (vals.drop ((i + 1) * 2)).length)).toArray = row1 at hr1
  have hg1 : (w.setRow g row1).heap[g]? = some (.cells row1 34 (0, 0)) := setRow_heap w g cur row1 _ _ hg
  have hs1 : row1.size = cap * 2 := by
    rw [← hrow1, List.size_toArray, List.length_append, List.length_append, hnl, hsz, List.length_take, List.length_drop, Array.length_toList, hz]
    omega
  have hst := run_storeCells_at Try.prog g ((n - 1) * 2) 34 [.slice none 0 0, .slice none 0 0] 0 row1 (w.setRow g row1) hg1 (by rw [hs1]; simp; omega) (by intro u hu; simp at hu; subst hu; rfl)
  have hr2 : (Builtin.clear_ #[23] 23 #[.slice (some ⟨g, (n - 1) * 2, none⟩) 1 e2]).run Try.prog (w.setRow g row1) = .ok (.tuple #[]) ((w.setRow g row1).setRow g (row1.toList.take ((n - 1) * 2) ++ [Value.slice none 0 0, Value.slice none 0 0] ++ row1.toList.drop ((n - 1) * 2 + 2)).toArray) := by
    have hzc : (Builtin.zeroCells (Value.agg #[.slice none 0 0, .slice none 0 0]).cells 1).toList = [Value.slice none 0 0, Value.slice none 0 0] := by simp [Builtin.zeroCells, Value.cells, List.range_succ]
    simp only [Nat.add_zero] at hst
    simp [Builtin.clear_, run_underlying Try.underlying23, Try.zeroValue34, hzc, hst]
  generalize hrow2 : (row1.toList.take ((n - 1) * 2) ++ [Value.slice none 0 0, Value.slice none 0 0] ++ row1.toList.drop ((n - 1) * 2 + 2)).toArray = row2 at hr2
  have hg2 : ((w.setRow g row1).setRow g row2).heap[g]? = some (.cells row2 34 (0, 0)) := setRow_heap _ g row1 row2 _ _ hg1
  have hs2 : row2.size = cap * 2 := by
    rw [← hrow2, List.size_toArray, List.length_append, List.length_append, List.length_take, List.length_drop, Array.length_toList, hs1]
    simp
    omega
  have hoth : ∀ k, k ≠ g → ((w.setRow g row1).setRow g row2).heap[k]? = w.heap[k]? := fun k hk => (setRow_other _ g k row2 hk).trans (setRow_other w g k row1 hk)
  have hlen2 : ((w.setRow g row1).setRow g row2).heap.size = w.heap.size := by simp
  have hgr : w.grownBy ((w.setRow g row1).setRow g row2) (some g) := ⟨rfl, rfl, rfl, by rw [hlen2]; exact Nat.le_refl _, fun k _ hk => hoth k (fun e => hk (by rw [e]))⟩
  have htk : row2.toList.take ((n - 1) * 2) = vals.take (i * 2) ++ vals.drop ((i + 1) * 2) := by
    have e1 : row1.toList.take ((n - 1) * 2) = vals.take (i * 2) ++ vals.drop ((i + 1) * 2) := by
      rw [← hrow1]
      have e3 : (cur.toList.take (i * i0.size)) = vals.take (i * 2) := by rw [hsz, ← ht, List.take_take, Nat.min_eq_left (by omega)]
      show ((cur.toList.take (i * i0.size) ++ vals.drop ((i + 1) * 2)) ++ _).take ((n - 1) * 2) = _
      rw [e3, List.take_append_of_le_length (by rw [List.length_append, List.length_take, hnl, hsz, hvl]; omega), List.take_of_length_le (by rw [List.length_append, List.length_take, hnl, hsz, hvl]; omega)]
    rw [← hrow2]
    show ((row1.toList.take ((n - 1) * 2) ++ _) ++ _).take ((n - 1) * 2) = _
    rw [List.append_assoc, List.take_append_of_le_length (by rw [List.length_take, Array.length_toList, hs1]; omega), List.take_take, Nat.min_self, e1]
  have hxl : (xs.take i ++ xs.drop (i + 1)).length = n - 1 := by rw [List.length_append, List.length_take, List.length_drop, hn]; omega
  refine ⟨_, _, hr1, hr2, ⟨⟨vals.take (i * 2) ++ vals.drop ((i + 1) * 2), ⟨?_, ?_⟩, ?_, ?_⟩, hB⟩, hgr⟩
  · rw [hxl, List.length_append, List.length_take, List.length_drop, hvl]; omega
  · exact .inr ⟨g, cap, row2, by rw [hxl], Nat.zero_le _, hg2, by omega, hm, hs2, by rw [hxl]; exact htk⟩
  · intro k e
    unfold All
    rw [hlen2]
    exact hF k e
  · intro k hk
    rw [hxl] at hk
    have hag : Agree (fun b => All w b ∧ (Value.slice (some ⟨g, 0, none⟩) n cap).ownBlock ≠ some b) w ((w.setRow g row1).setRow g row2) := fun j hj => hoth j fun e => hj.2 (by rw [e]; rfl)
    have hall : ∀ j, (All w j ∧ (Value.slice (some ⟨g, 0, none⟩) n cap).ownBlock ≠ some j) → (All ((w.setRow g row1).setRow g row2) j ∧ (Value.slice (some ⟨g, 0, none⟩) (n - 1) cap).ownBlock ≠ some j) := fun j hj => ⟨by unfold All; rw [hlen2]; exact hj.1, hj.2⟩
    by_cases e : k < i
    · obtain ⟨u0, u1, h0, h1, h2⟩ := hel k (by omega)
      refine ⟨u0, u1, ?_, ?_, ?_⟩
      · rw [List.getElem?_append_left (by rw [List.length_take, hvl]; omega), List.getElem?_take_of_lt (by omega)]; exact h0
      · rw [List.getElem?_append_left (by rw [List.length_take, hvl]; omega), List.getElem?_take_of_lt (by omega)]; exact h1
      · have e2 : (xs.take i ++ xs.drop (i + 1)).getD k default = xs.getD k default := by
          rw [List.getD_eq_getElem?_getD, List.getElem?_append_left (by rw [List.length_take]; omega), List.getElem?_take_of_lt e, List.getD_eq_getElem?_getD]
        rw [e2]
        exact goodC.mono (goodC.agree h2 hag) hall
    · obtain ⟨u0, u1, h0, h1, h2⟩ := hel (k + 1) (by omega)
      have hlt : (vals.take (i * 2)).length = i * 2 := by rw [List.length_take, hvl]; omega
      refine ⟨u0, u1, ?_, ?_, ?_⟩
      · rw [List.getElem?_append_right (by omega), hlt, List.getElem?_drop, show (i + 1) * 2 + (k * 2 - i * 2) = (k + 1) * 2 by omega]; exact h0
      · rw [List.getElem?_append_right (by omega), hlt, List.getElem?_drop, show (i + 1) * 2 + (k * 2 + 1 - i * 2) = (k + 1) * 2 + 1 by omega]; exact h1
      · have e2 : (xs.take i ++ xs.drop (i + 1)).getD k default = xs.getD (k + 1) default := by
          rw [List.getD_eq_getElem?_getD, List.getElem?_append_right (by rw [List.length_take]; omega), List.length_take, List.getElem?_drop, List.getD_eq_getElem?_getD, Nat.min_eq_left (by omega), show i + 1 + (k - i) = k + 1 by omega]
        rw [e2]
        exact goodC.mono (goodC.agree h2 hag) hall
set_option maxHeartbeats 4000000 in
set_option maxRecDepth 100000 in
theorem delete_any {B : Nat} {w : World} {g n cap i : Nat} {xs : List Cel} (h : OwnC B w (.slice (some ⟨g, 0, none⟩) n cap) xs) (hn : xs.length = n) (hi : i < n) (hm : n ≤ 1000000) {a b : Int} (ha : a = i) (hb : b = (i : Int) + 1) :
    Calls Try.prog 27 #[.slice (some ⟨g, 0, none⟩) n cap, .int .i64 a, .int .i64 b] w fun e w' => e = .returned (.slice (some ⟨g, 0, none⟩) (n - 1) cap) ∧ OwnC B w' (.slice (some ⟨g, 0, none⟩) (n - 1) cap) (xs.take i ++ xs.drop (i + 1)) ∧ w.grownBy w' (some g) := by
  subst ha hb
  have hc : n ≤ cap := by
    obtain ⟨_, _, e, hc, _⟩ := h.shape goodC
    injection e with _ _ e3
    omega
  have hd : OwnC B w.drew (.slice (some ⟨g, 0, none⟩) n cap) xs := h.kept goodC (below_drew (Below.refl _ _) 1)
  obtain ⟨w1, w2, hr1, hr2, hO, hg⟩ := del_mem hd hn hi (Ad := if cap = i + 1 then some ⟨g, 0, none⟩ else some ⟨g, (i + 1) * 2, none⟩) rfl (cap - (i + 1)) (cap - (n - 1)) 23
  have HR1 := hide hr1
  have HR2 := hide hr2
  have HO := hide hO
  have HG := hide (grown_trans (grown_of_below (below_drew (Below.refl w.heap.size w) 1) (some g)) hg)
  clear hr1 hr2 hO hg h hd hn
  have i1 : (0 : Int) ≤ (i : Int) := by omega
  have i2 : (0 : Int) ≤ (i : Int) + 1 := by omega
  have i3 : (i : Int) + 1 ≤ (n : Int) := by omega
  have i4 : (i : Int) ≤ (i : Int) + 1 := by omega
  have i5 : (n : Int) ≤ (cap : Int) := by omega
  have i6 : ((i : Int) == (i : Int) + 1) = false := by rw [beq_eq_false_iff_ne]; omega
  have i7 : ((i : Int) + 1).toNat = i + 1 := by omega
  have i8 : i + 1 ≤ n := by omega
  have i9 : i ≤ cap := by omega
  have i10 : (i : Int) ≤ (cap : Int) := by omega
  go_enter Try.func27, Try.ntmps27
  go_wp2_with fail
  go_region_held_law (fun _ => True) (trivial) ((refine step_gives rfl (gives_append rfl rfl rfl HR1.out) ?_))
  have k1 : (0 : Int) ≤ ((n - 1 : Nat) : Int) := by omega
  have k2 : ((n - 1 : Nat) : Int) ≤ (n : Int) := by omega
  have k3 : ¬ cap = n - 1 := by omega
  have k4 : n - (n - 1) = 1 := by omega
  have k5 : n - 1 ≤ n := by omega
  go_wp2_with ((with_reducible refine wpList_gives (o := ⟨none, .call { callee := .builtin .clear, args := _, argTypes := _ }, _, _, _, _⟩) (v := Value.tuple #[]) (w' := w2) ?_ ?_ ?_); rfl; exact gives_clear rfl rfl HR2.out)
  · rename_i h
    go_ret
    exact ⟨rfl, by have := HO.out; rw [h] at this; exact this, HG.out⟩
  · go_ret
    exact ⟨rfl, HO.out, HG.out⟩
end Go.Proofs.Yteeamiacplfcmaa
