/-
  The calls of DiskScript on both sides.
-/
import Derived.Test.YtcmchnddnglnfaaOpArg
namespace Go.Proofs.Ytcmchnddnglnfaa
open Go.RowKit
set_option linter.unusedVariables false
set_option linter.unusedSimpArgs false

/-- the disk s and the reference's disk m, in blocks of F, none below B -/
def Both (B : Nat) (F : Nat → Prop) (w : World) (s m k : Nat) : Prop :=
  ∃ Fd Fr ss e fuse dead safe dirt has left, Dsk Fd w s ss e fuse dead ∧ RDsk Fr w m safe ss dirt has left dead ∧ Tie k ss e fuse safe dirt has left ∧ (∀ i, Fd i → ¬ Fr i) ∧ (∀ i, Fd i → F i) ∧ (∀ i, Fr i → F i) ∧ Lt F w ∧ ∀ i, F i → B ≤ i
section
variable {B : Nat} {F : Nat → Prop} {w w' : World} {s m k : Nat}
theorem Both.kept (h : Both B F w s m k) (hb : Below w.heap.size w w') : Both B F w' s m k := by
  obtain ⟨Fd, Fr, ss, e, fuse, dead, safe, dirt, has, left, h1, h2, h3, h4, h5, h6, h7, h8⟩ := h
  exact ⟨Fd, Fr, ss, e, fuse, dead, safe, dirt, has, left, h1.kept hb, h2.kept hb, h3, h4, h5, h6, h7.size hb.size, h8⟩
theorem Both.chg {M : Nat → Prop} (h : Both B F w s m k) (hc : Chg M w w') (hM : ∀ i, F i → ¬ M i) : Both B F w' s m k := by
  obtain ⟨Fd, Fr, ss, e, fuse, dead, safe, dirt, has, left, h1, h2, h3, h4, h5, h6, h7, h8⟩ := h
  exact ⟨Fd, Fr, ss, e, fuse, dead, safe, dirt, has, left, h1.chg hc fun i hi => hM i (h5 i hi), h2.chg hc fun i hi => hM i (h6 i hi), h3, h4, h5, h6, h7.size hc.size, h8⟩
theorem Both.lt (h : Both B F w s m k) : Lt F w := by
  obtain ⟨Fd, Fr, ss, e, fuse, dead, safe, dirt, has, left, h1, h2, h3, h4, h5, h6, h7, h8⟩ := h
  exact h7
theorem Both.lo (h : Both B F w s m k) : ∀ i, F i → B ≤ i := by
  obtain ⟨Fd, Fr, ss, e, fuse, dead, safe, dirt, has, left, h1, h2, h3, h4, h5, h6, h7, h8⟩ := h
  exact h8
theorem Both.next (h : Both B F w s m k) : Both B F w s m (k + 1) := by
  obtain ⟨Fd, Fr, ss, e, fuse, dead, safe, dirt, has, left, h1, h2, h3, h4, h5, h6, h7, h8⟩ := h
  exact ⟨Fd, Fr, ss, e, fuse, dead, safe, dirt, has, left, h1, h2, h3.next, h4, h5, h6, h7, h8⟩
/-- both calls were made -/
theorem both_end {Fd Fr F' : Nat → Prop} {w1 w2 : World} {ss : List (List UInt8)} {e : Nat → Option (List UInt8)} {fuse : Int} {dead : Bool} {safe : List (List UInt8)} {dirt : List Bool} {has : Bool} {left : Int}
    (h1 : Dsk Fd w1 s ss e fuse dead) (hC : Chg Fr w1 w2) (h2 : RDsk F' w2 m safe ss dirt has left dead) (hF' : ∀ i, F' i → Fr i ∨ w1.heap.size ≤ i) (T : Tie k ss e fuse safe dirt has left) (h4 : ∀ i, Fd i → ¬ Fr i) (h5 : ∀ i, Fd i → F i) (h6 : ∀ i, Fr i → F i) (h7 : Lt F w1) (h8 : ∀ i, F i → B ≤ i) (hB : B ≤ w1.heap.size) : Both B (fun i => F i ∨ F' i) w2 s m k := by
  refine ⟨Fd, F', ss, e, fuse, dead, safe, dirt, has, left, h1.chg hC h4, h2, T, fun i hi hF => ?_, fun i hi => .inl (h5 i hi), fun i hi => .inr hi, fun i hi => ?_, fun i hi => ?_⟩
  · rcases hF' i hF with h | h
    · exact h4 i hi h
    · have := h1.lt i hi; omega
  · rcases hi with hi | hi
    · exact Nat.lt_of_lt_of_le (h7 i hi) hC.size
    · exact h2.lt i hi
  · rcases hi with hi | hi
    · exact h8 i hi
    · rcases hF' i hi with h | h
      · exact h8 i (h6 i h)
      · omega
theorem step_write (h : Both B F w s m k) (hk : k ≤ 30) (hB : B ≤ w.heap.size) (i : Int) (A : Option Addr) (c : Nat) (bs : List UInt8) (hb : BysIn (fun j => j < B) w A bs) :
    ∃ code : Int, ∃ M : World → Prop, Calls Try.prog 9 #[.pointer (some ⟨s, 0, none⟩), .int .i64 i, .slice A bs.length c] w (fun en w' => en = .returned (.int .i64 code) ∧ Chg F w w' ∧ M w') ∧
      ∀ w1, M w1 → Calls Try.prog 19 #[.pointer (some ⟨m, 0, none⟩), .int .i64 i, .slice A bs.length c] w1 (fun en w2 => en = .returned (.int .i64 code) ∧ Chg F w1 w2 ∧ ∃ F', Both B F' w2 s m (k + 1)) := by
  obtain ⟨Fd, Fr, ss, e, fuse, dead, safe, dirt, has, left, h1, h2, T, h4, h5, h6, h7, h8⟩ := h
  obtain ⟨code, ss', e', fuse', dead', safe', dirt', left', T', c1, c2⟩ := both_write (G := fun j => j < B) T hk h1 h2 i A c bs hb (fun j hj => by omega) (fun j hj hF => by have := h8 j (h5 j hF); omega) (fun j hj hF => by have := h8 j (h6 j hF); omega)
  refine ⟨code, fun w1 => Chg Fd w w1 ∧ Dsk Fd w1 s ss' e' fuse' dead', c1.mono ?_, fun w1 hM => ?_⟩
  · rintro en w' ⟨rfl, hC, hD⟩
    exact ⟨rfl, hC.mono fun j _ hj => h5 j hj, hC, hD⟩
  · obtain ⟨hC, hD⟩ := hM
    have hs := hC.size
    refine (c2 w1 (h2.chg hC fun j hj hF => h4 j hF hj) (hb.agree (Agree.of_chg hC (fun j hj => by omega) fun j hj hF => by have := h8 j (h5 j hF); omega)) (fun j hj => by omega)).mono ?_
    rintro en w2 ⟨rfl, hC2, F', hR, hF'⟩
    exact ⟨rfl, hC2.mono fun j _ hj => h6 j hj, _, both_end hD hC2 hR hF' T' h4 h5 h6 (h7.size hs) h8 (by omega)⟩
theorem step_sync (h : Both B F w s m k) (hk : k ≤ 30) (hB : B ≤ w.heap.size) :
    ∃ code : Int, ∃ M : World → Prop, Calls Try.prog 14 #[.pointer (some ⟨s, 0, none⟩)] w (fun en w' => en = .returned (.int .i64 code) ∧ Chg F w w' ∧ M w') ∧
      ∀ w1, M w1 → Calls Try.prog 21 #[.pointer (some ⟨m, 0, none⟩)] w1 (fun en w2 => en = .returned (.int .i64 code) ∧ Chg F w1 w2 ∧ ∃ F', Both B F' w2 s m (k + 1)) := by
  obtain ⟨Fd, Fr, ss, e, fuse, dead, safe, dirt, has, left, h1, h2, T, h4, h5, h6, h7, h8⟩ := h
  obtain ⟨code, ss', e', fuse', dead', safe', dirt', left', T', c1, c2⟩ := both_sync (Fr := Fr) (m := m) T hk h1
  refine ⟨code, fun w1 => Chg Fd w w1 ∧ Dsk Fd w1 s ss' e' fuse' dead', c1.mono ?_, fun w1 hM => ?_⟩
  · rintro en w' ⟨rfl, hC, hD⟩
    exact ⟨rfl, hC.mono fun j _ hj => h5 j hj, hC, hD⟩
  · obtain ⟨hC, hD⟩ := hM
    have hs := hC.size
    refine (c2 w1 (h2.chg hC fun j hj hF => h4 j hF hj)).mono ?_
    rintro en w2 ⟨rfl, hC2, F', hR, hF'⟩
    exact ⟨rfl, hC2.mono fun j _ hj => h6 j hj, _, both_end hD hC2 hR hF' T' h4 h5 h6 (h7.size hs) h8 (by omega)⟩
theorem step_fuse (h : Both B F w s m k) (hB : B ≤ w.heap.size) (z : Int) (hz : z ≤ 9223372036854775807) :
    ∃ M : World → Prop, Calls Try.prog 22 #[.pointer (some ⟨s, 0, none⟩), .int .i64 z] w (fun en w' => en = .returned (.tuple #[]) ∧ Chg F w w' ∧ M w') ∧
      ∀ w1, M w1 → Calls Try.prog 23 #[.pointer (some ⟨m, 0, none⟩), .int .i64 z] w1 (fun en w2 => en = .returned (.tuple #[]) ∧ Chg F w1 w2 ∧ ∃ F', Both B F' w2 s m (k + 1)) := by
  obtain ⟨Fd, Fr, ss, e, fuse, dead, safe, dirt, has, left, h1, h2, T, h4, h5, h6, h7, h8⟩ := h
  refine ⟨fun w1 => Chg (fun i => i = s) w w1 ∧ Dsk Fd w1 s ss e (max z (-1)) dead, (fuse_any h1 z).mono ?_, fun w1 hM => ?_⟩
  · rintro en w' ⟨rfl, hC, hD⟩
    exact ⟨rfl, hC.mono fun j _ hj => by subst hj; exact h5 _ h1.mem, hC, hD⟩
  · obtain ⟨hC, hD⟩ := hM
    have hs := hC.size
    have h2' := h2.chg hC fun j hj hF => by subst hF; exact h4 _ h1.mem hj
    obtain ⟨gs, gl, gd, cS, cL, cD, hR⟩ := h2'
    refine (rfuse_any hR z).mono ?_
    rintro en w2 ⟨rfl, hC2, hR2⟩
    have hC2' : Chg Fr w1 w2 := hC2.mono fun j _ hj => by subst hj; exact hR.mem.1
    exact ⟨rfl, hC2'.mono fun j _ hj => h6 j hj, _, both_end hD hC2' hR2.rdsk (fun i hi => .inl hi) (T.setFuse z hz) h4 h5 h6 (h7.size hs) h8 (by omega)⟩
theorem step_crash (h : Both B F w s m k) (hB : B ≤ w.heap.size) (A : Option Addr) (c : Nat) (keep : List Bool) (hkp : BoolsIn (fun j => j < B) w A keep) (hkl : keep.length ≤ 1000000) :
    ∃ M : Nat → World → Prop, Calls Try.prog 11 #[.pointer (some ⟨s, 0, none⟩), .slice A keep.length c] w (fun en w' => ∃ s', en = .returned (.pointer (some ⟨s', 0, none⟩)) ∧ Below w.heap.size w w' ∧ M s' w') ∧
      ∀ s' w1, M s' w1 → Calls Try.prog 24 #[.pointer (some ⟨m, 0, none⟩), .slice A keep.length c] w1 (fun en w2 => ∃ m', en = .returned (.pointer (some ⟨m', 0, none⟩)) ∧ Below w1.heap.size w1 w2 ∧ ∃ F', Both B F' w2 s' m' (k + 1)) := by
  obtain ⟨Fd, Fr, ss, e, fuse, dead, safe, dirt, has, left, h1, h2, T, h4, h5, h6, h7, h8⟩ := h
  refine ⟨fun s' w1 => Below w.heap.size w w1 ∧ Dsk (fun i => w.heap.size ≤ i ∧ i < w1.heap.size) w1 s' (crashS ss e keep (dirtyL ss.length e) (dirtyL ss.length e).length) (fun _ => none) (-1) false, (crash_any (Gk := fun j => j < B) (hide keys_ok) h1 A c keep hkp (fun j hj => by omega) hkl).mono ?_, fun s' w1 hM => ?_⟩
  · rintro en w' ⟨s', rfl, hBw, hD⟩
    exact ⟨s', rfl, hBw, hBw, hD⟩
  · obtain ⟨hBw, hD⟩ := hM
    have hs := hBw.size
    obtain ⟨gs, gl, gd, cS, cL, cD, hR⟩ := h2.kept hBw
    refine (rcrash_any (Gk := fun j => j < B) hR A c keep (hkp.agree (Agree.of_below hBw fun j hj => by omega)) (fun j hj => by omega) hkl).mono ?_
    rintro en w2 ⟨m', bs, rfl, hBw2, hbl, hbs, hR2⟩
    rw [crash_eq T keep bs hbl hbs] at hD
    rw [← hbl] at hR2
    have hs2 := hBw2.size
    refine ⟨m', rfl, hBw2, fun i => w.heap.size ≤ i ∧ i < w2.heap.size, ?_⟩
    exact ⟨_, _, bs, fun _ => none, -1, false, bs, _, false, 0, hD.kept hBw2, hR2, Tie.fresh bs _, fun i hi hi2 => by omega, fun i hi => ⟨hi.1, by omega⟩, fun i hi => ⟨by omega, hi.2⟩, fun i hi => hi.2, fun i hi => by omega⟩
theorem step_read (h : Both B F w s m k) (i : Int) :
    ∃ (code : Int) (x : List UInt8), x.length ≤ 64 ∧ Calls Try.prog 10 #[.pointer (some ⟨s, 0, none⟩), .int .i64 i] w (fun en w' => ∃ A c, en = .returned (.tuple #[.slice A x.length c, .int .i64 code]) ∧ Bys w' A x ∧ Below w.heap.size w w') ∧
      ∀ w1, Below w.heap.size w w1 → Calls Try.prog 20 #[.pointer (some ⟨m, 0, none⟩), .int .i64 i] w1 (fun en w2 => w1 = w2 ∧ ∃ A c, en = .returned (.tuple #[.slice A x.length c, .int .i64 code]) ∧ Bys w1 A x) := by
  obtain ⟨Fd, Fr, ss, e, fuse, dead, safe, dirt, has, left, h1, h2, T, h4, h5, h6, h7, h8⟩ := h
  by_cases hc : chkE dead ss.length i = 0
  · have hdf : dead = false := by
      cases dead
      · rfl
      · unfold chkE at hc; rw [if_pos rfl] at hc; omega
    subst hdf
    have hin : 0 ≤ i ∧ i < ss.length := by
      unfold chkE at hc
      rw [if_neg (by simp)] at hc
      by_cases h1 : i < 0
      · rw [if_pos h1] at hc; omega
      · rw [if_neg h1] at hc
        by_cases h2 : (ss.length : Int) ≤ i
        · rw [if_pos h2] at hc; omega
        · omega
    obtain ⟨j, rfl⟩ : ∃ j : Nat, i = (j : Int) := ⟨i.toNat, by omega⟩
    have hj : j < ss.length := by omega
    obtain ⟨gs, gl, gd, cS, cL, cD, hR⟩ := h2
    have h64 := (hR.rowsL.at_ hj).1
    refine ⟨0, ss.getD j [], by omega, (read_x h1 j hj _ h64 rfl).mono ?_, fun w1 hB1 => (rread_x (hR.kept hB1) j hj _ rfl).mono ?_⟩
    · rintro en w' ⟨g, c, rfl, hRw, hBw⟩
      exact ⟨some ⟨g, 0, none⟩, c, by rw [h64], hRw.bys, hBw⟩
    · rintro en w2 ⟨rfl, A, c, rfl, hb⟩
      exact ⟨rfl, A, c, by rw [h64], hb.bys (hR.kept hB1).lt⟩
  · refine ⟨chkE dead ss.length i, [], by simp, (read_err h1 i _ rfl hc).mono ?_, fun w1 hB1 => ?_⟩
    · rintro en w' ⟨rfl, rfl⟩
      exact ⟨none, 0, rfl, fun h => absurd h (by simp), Below.refl _ _⟩
    · obtain ⟨gs, gl, gd, cS, cL, cD, hR⟩ := h2.kept hB1
      refine (rread_err hR i _ rfl hc).mono ?_
      rintro en w2 ⟨rfl, rfl⟩
      exact ⟨rfl, none, 0, rfl, fun h => absurd h (by simp)⟩
theorem step_same (h : Both B F w s m k) : Calls Try.prog 25 #[.pointer (some ⟨s, 0, none⟩), .pointer (some ⟨m, 0, none⟩)] w fun en w' => en = .returned (.bool true) ∧ Below w.heap.size w w' := by
  obtain ⟨Fd, Fr, ss, e, fuse, dead, safe, dirt, has, left, h1, h2, T, h4, h5, h6, h7, h8⟩ := h
  exact same_any h1 h2 (tie_dirty T)
end
end Go.Proofs.Ytcmchnddnglnfaa
