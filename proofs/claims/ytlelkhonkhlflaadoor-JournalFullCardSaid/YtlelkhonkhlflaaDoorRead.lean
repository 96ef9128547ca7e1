/-
  Write's errors; Read; Sync.
-/
import Derived.Test.YtlelkhonkhlflaaDoorWrite
namespace Go.Proofs.YtlelkhonkhlflaaDoor
open Go.RowKit
set_option linter.unusedVariables false
set_option linter.unusedSimpArgs false

section
variable {F : Nat → Prop} {w : World} {s : Nat} {ss : List (List UInt8)} {e : Nat → Option (List UInt8)} {fuse : Int} {dead : Bool}
theorem chkE_ok {n i : Nat} (hi : i < n) : chkE false n (i : Int) = 0 := by unfold chkE; rw [if_neg (by simp), if_neg (by omega), if_neg (by omega)]
theorem write_err (h : Dsk F w s ss e fuse dead) (i : Int) (k : Int) (hk : chkE dead ss.length i = k) (hk0 : k ≠ 0) (A : Option Addr) (n c : Nat) :
    Calls Tryd.prog 27 #[.pointer (some ⟨s, 0, none⟩), .int .i64 i, .slice A n c] w fun en w' => en = .returned (.int .i64 k) ∧ w = w' := by
  have HK := hide (check_any h i)
  rw [hk] at HK
  clear h hk
  have t1 : (k == 0) = false := beq_eq_false_iff_ne.2 hk0
  have t1' : (!k == 0) = true := by rw [t1]; rfl
  go_enter Tryd.func27, Tryd.ntmps27
  go_wp2_with fail
  refine HK.out.mono ?_
  rintro en w1 ⟨rfl, rfl⟩
  go_wp2_with fail
  go_ret
  exact ⟨rfl, rfl⟩
theorem write_nil (i : Int) (w : World) (A : Option Addr) (n c : Nat) :
    Calls Tryd.prog 27 #[.pointer none, .int .i64 i, .slice A n c] w fun en w' => en = .returned (.int .i64 12) ∧ w = w' := by
  have HK := hide (check_nil i w)
  go_enter Tryd.func27, Tryd.ntmps27
  go_wp2_with fail
  refine HK.out.mono ?_
  rintro en w1 ⟨rfl, rfl⟩
  go_wp2_with fail
  go_ret
  exact ⟨rfl, rfl⟩
theorem write_long (h : Dsk F w s ss e fuse false) (i : Nat) (hi : i < ss.length) (A : Option Addr) (n c : Nat) (hn : 64 < n) :
    Calls Tryd.prog 27 #[.pointer (some ⟨s, 0, none⟩), .int .i64 (i : Int), .slice A n c] w fun en w' => en = .returned (.int .i64 7) ∧ w = w' := by
  have HK := hide (check_any h (i : Int))
  rw [chkE_ok hi] at HK
  clear h
  have t1 : decide ((64 : Int) < (n : Int)) = true := decide_eq_true (by omega)
  go_enter Tryd.func27, Tryd.ntmps27
  go_wp2_with fail
  refine HK.out.mono ?_
  rintro en w1 ⟨rfl, rfl⟩
  go_wp2_with fail
  go_ret
  exact ⟨rfl, rfl⟩
theorem write_burnt (h : Dsk F w s ss e 0 false) (i : Nat) (hi : i < ss.length) (A : Option Addr) (n c : Nat) (hn : n ≤ 64) :
    Calls Tryd.prog 27 #[.pointer (some ⟨s, 0, none⟩), .int .i64 (i : Int), .slice A n c] w (WrPost F w s ss e 0 true 12) := by
  have HF := hide h.mem
  have HK := hide (check_any h (i : Int))
  rw [chkE_ok hi] at HK
  have HB := hide (burn_any h (by omega) (by omega))
  unfold BurnPost at HB
  rw [show burnF 0 = 0 from rfl, show decide ((0 : Int) = 0) = true from rfl] at HB
  clear h
  have t1 : decide ((64 : Int) < (n : Int)) = false := decide_eq_false (by omega)
  go_enter Tryd.func27, Tryd.ntmps27
  go_wp2_with fail
  refine HK.out.mono ?_
  rintro en w1 ⟨rfl, rfl⟩
  go_wp2_with fail
  refine HB.out.mono ?_
  rintro en w1 ⟨rfl, hC1, hD1⟩
  have HC := hide hC1
  have HD := hide hD1
  clear hC1 hD1
  go_wp2_with fail
  go_ret
  exact ⟨rfl, HC.out.mono (N := F) fun j _ hj => by subst hj; exact HF.out, HD.out⟩
/-- a sector was read into new memory -/
def RdPost (w : World) (bs : List UInt8) (en : Ending) (w' : World) : Prop :=
  ∃ g c, w.heap.size ≤ g ∧ en = .returned (.tuple #[.slice (some ⟨g, 0, none⟩) bs.length c, .int .i64 0]) ∧ Row w' g bs ∧ Below w.heap.size w w' ∧ bs.length ≤ c
set_option maxHeartbeats 1600000 in
set_option maxRecDepth 100000 in
theorem read_ok (h : Dsk F w s ss e fuse false) (i : Nat) (hi : i < ss.length) :
    Calls Tryd.prog 31 #[.pointer (some ⟨s, 0, none⟩), .int .i64 (i : Int)] w (RdPost w (ss.getD i [])) := by
  have HK := hide (check_any h (i : Int))
  rw [chkE_ok hi] at HK
  obtain ⟨g, mb, c0, c1, c2, c3, hfz, hS, _⟩ := h.cells
  have hl := hS.at_len hi
  have hmo := h.most
  have HCL := hide (clone_any g (i * 64) 64 (ss.getD i []) w (hS.bys hi) (by omega) (by omega))
  rw [hl] at HCL
  unfold RdPost
  clear hS h
  generalize ss.getD i [] = x at *
  go_enter Tryd.func31, Tryd.ntmps31
  go_wp2_with fail
  refine HK.out.mono ?_
  rintro en w1 ⟨rfl, rfl⟩
  go_wp2_with fail
  refine HCL.out.mono ?_
  rintro en w1 ⟨g1, cc, hg1, rfl, hR, hB, hcc⟩
  rw [hl]
  have HR := hide hR
  have HB := hide hB
  clear hR hB
  go_wp2_with fail
  go_ret2
  exact ⟨g1, cc, hg1, by rw [hl]; rfl, HR.out, HB.out, hcc⟩
theorem read_err (h : Dsk F w s ss e fuse dead) (i : Int) (k : Int) (hk : chkE dead ss.length i = k) (hk0 : k ≠ 0) :
    Calls Tryd.prog 31 #[.pointer (some ⟨s, 0, none⟩), .int .i64 i] w fun en w' => en = .returned (.tuple #[.slice none 0 0, .int .i64 k]) ∧ w = w' := by
  have HK := hide (check_any h i)
  rw [hk] at HK
  clear h hk
  have t1 : (k == 0) = false := beq_eq_false_iff_ne.2 hk0
  have t1' : (!k == 0) = true := by rw [t1]; rfl
  go_enter Tryd.func31, Tryd.ntmps31
  go_wp2_with fail
  refine HK.out.mono ?_
  rintro en w1 ⟨rfl, rfl⟩
  go_wp2_with fail
  go_ret2
  exact ⟨rfl, rfl⟩
theorem sync_nil (w : World) : Calls Tryd.prog 24 #[.pointer none] w fun en w' => en = .returned (.int .i64 12) ∧ w = w' := by
  go_enter Tryd.func24, Tryd.ntmps24
  go_wp2_with fail
  go_ret
  exact ⟨rfl, rfl⟩
theorem sync_dead (h : Dsk F w s ss e fuse true) : Calls Tryd.prog 24 #[.pointer (some ⟨s, 0, none⟩)] w fun en w' => en = .returned (.int .i64 12) ∧ w = w' := by
  obtain ⟨g, mb, c0, c1, c2, c3, hfz, hS, _⟩ := h.cells
  clear hS h
  go_enter Tryd.func24, Tryd.ntmps24
  go_wp2_with fail
  go_ret
  exact ⟨rfl, rfl⟩
theorem sync_burnt (h : Dsk F w s ss e 0 false) : Calls Tryd.prog 24 #[.pointer (some ⟨s, 0, none⟩)] w (WrPost F w s ss e 0 true 12) := by
  have HF := hide h.mem
  have HB := hide (burn_any h (by omega) (by omega))
  unfold BurnPost at HB
  rw [show burnF 0 = 0 from rfl, show decide ((0 : Int) = 0) = true from rfl] at HB
  obtain ⟨g, mb, c0, c1, c2, c3, hfz, hS, _⟩ := h.cells
  clear h hS
  go_enter Tryd.func24, Tryd.ntmps24
  go_wp2_with fail
  refine HB.out.mono ?_
  rintro en w1 ⟨rfl, hC1, hD1⟩
  have HC := hide hC1
  have HD := hide hD1
  clear hC1 hD1
  go_wp2_with fail
  go_ret
  exact ⟨rfl, HC.out.mono (N := F) fun j _ hj => by subst hj; exact HF.out, HD.out⟩
set_option maxHeartbeats 1600000 in
set_option maxRecDepth 100000 in
theorem sync_ok (h : Dsk F w s ss e fuse false) (hf1 : -1 ≤ fuse) (hf2 : fuse ≤ 9223372036854775807) (hf0 : fuse ≠ 0) :
    Calls Tryd.prog 24 #[.pointer (some ⟨s, 0, none⟩)] w (WrPost F w s ss (fun _ => none) (burnF fuse) false 0) := by
  have HF := hide h.mem
  have HB := hide (burn_any h hf1 hf2)
  have hfz : decide (fuse = 0) = false := decide_eq_false hf0
  unfold BurnPost at HB
  rw [hfz] at HB
  obtain ⟨g, mb, c0, c1, c2, c3, _⟩ := h.cells
  clear h hfz
  generalize hfu : burnF fuse = fu at HB ⊢
  clear hfu hf0 hf1 hf2
  go_enter Tryd.func24, Tryd.ntmps24
  go_wp2_with fail
  refine HB.out.mono ?_
  rintro en w1 ⟨rfl, hC1, hD1⟩
  clear c0 c1 c2 c3
  obtain ⟨g, mb, hD1⟩ := hD1.at_
  obtain ⟨c0, c1, _, _⟩ := hD1.cells
  obtain ⟨w2, hr2, hM2, hg2⟩ := hD1.safe.clear 3
  have HC := hide ((hC1.mono (N := F) fun j _ hj => by subst hj; exact HF.out).trans (Chg.of_grown hg2) fun j _ e => by injection e with e; subst e; exact hD1.mm)
  have HD := hide (hD1.newSafe hM2 hg2)
  have HR2 := hide hr2
  clear hC1 hD1 hM2 hg2 hr2
  go_wp2_with ((with_reducible refine wpList_gives (v := .tuple #[]) (w' := w2) ?_ ?_ ?_); rfl; exact gives_clear rfl rfl HR2.out)
  go_ret
  exact ⟨rfl, HC.out, HD.out.dsk⟩
end
end Go.Proofs.YtlelkhonkhlflaaDoor
