/-
  DiskOwn: changing a slice that was written or read does not change the disk, and a crashed copy and its original do not influence each other: for every content, and whether it survives or not.
-/
import Derived.Test.YtcmchnddnglnfaaLawSafe
namespace Go.Proofs.Ytcmchnddnglnfaa.lawOwn
open Go.ChangeShapes Go.WideShapes Go.ChangeAt Go.RowKit Go.Proofs.Ytcmchnddnglnfaa.lawSafe
set_option linter.unusedVariables false
set_option linter.unusedSimpArgs false

theorem boolK (w : World) (b : Bool) : BoolsIn (fun i => i = w.heap.size) (w.alloc (.cells #[.bool b] 4)) (some ⟨w.heap.size, 0, none⟩) [b] := fun _ => ⟨w.heap.size, 0, rfl, rfl, fun k hk => by
  obtain rfl : k = 0 := by have : k < 1 := hk; omega
  exact (Box.new w 4 #[.bool b]).cell 0⟩
def otherB : List UInt8 := [111, 116, 104, 101, 114]
theorem conv_other (w : World) : (convert 22 22 (.slice (some ⟨w.heap.size, 0, none⟩) 5 5)).run Try.prog (w.alloc (.cells #[.int .u8 111, .int .u8 116, .int .u8 104, .int .u8 101, .int .u8 114] 5)) = .ok (.slice (some ⟨w.heap.size, 0, none⟩) 5 5) (w.alloc (.cells #[.int .u8 111, .int .u8 116, .int .u8 104, .int .u8 101, .int .u8 114] 5 (5, 6))) :=
  Lib.run_convert_bytes_const w 22 5 #[.int .u8 111, .int .u8 116, .int .u8 104, .int .u8 101, .int .u8 114] 5 5 Try.underlying22 Try.underlying5
theorem bys_other (w : World) : Bys (w.alloc (.cells #[.int .u8 111, .int .u8 116, .int .u8 104, .int .u8 101, .int .u8 114] 5 (5, 6))) (some ⟨w.heap.size, 0, none⟩) otherB := fun _ => ⟨w.heap.size, 0, rfl, by simp, fun k hk => by
  have : k = 0 ∨ k = 1 ∨ k = 2 ∨ k = 3 ∨ k = 4 := by have : k < 5 := hk; omega
  rcases this with rfl | rfl | rfl | rfl | rfl <;> exact World.cell?_alloc_mark w _ 5 (5, 6) _⟩
/-- the copy behind the crash, its first sector -/
theorem crash_two (xs : List UInt8) (kp : Bool) (ss : List (List UInt8)) (hss : ss = List.replicate 2 zeroS) :
    crashS (ss.set 0 (padS xs)) (markE (fun _ => none) ss 0) [kp] (dirtyL (ss.set 0 (padS xs)).length (markE (fun _ => none) ss 0)) (dirtyL (ss.set 0 (padS xs)).length (markE (fun _ => none) ss 0)).length = [padS (if kp then xs else []), zeroS] := by
  subst hss
  have e : dirtyL ((List.replicate 2 zeroS).set 0 (padS xs)).length (markE (fun _ => none) (List.replicate 2 zeroS) 0) = [0] := rfl
  rw [e]
  cases kp <;> rfl

theorem eq64 {w : World} {g h : Nat} {p q : List UInt8} (c d : Nat) (hp : Row w g p) (hq : Row w h q) (lp : p.length = 64) (lq : q.length = 64) :
    Calls Try.prog 13 #[.slice (some ⟨g, 0, none⟩) 64 c, .slice (some ⟨h, 0, none⟩) 64 d] w fun e w' => e = .returned (.bool (p == q)) ∧ Below w.heap.size w w' := by
  have h := eq04_any (some ⟨g, 0, none⟩) (some ⟨h, 0, none⟩) c d p q w hp.bys hq.bys (by unfold maxLen; omega) (by unfold maxLen; omega)
  rw [lp, lq] at h
  exact h
theorem pad_nil : padS [] = List.replicate 64 0 := rfl
theorem splice_pad (xs : List UInt8) : (splice (List.replicate 64 (Value.int .u8 0)) 0 (xs.map u8v)) = (padS xs).map u8v := by
  unfold splice padS
  simp only [List.take_zero, List.nil_append, List.length_map, Nat.zero_add, List.drop_replicate, List.map_append, List.map_replicate]
  rfl

set_option maxHeartbeats 3200000 in
set_option maxRecDepth 100000 in
theorem walk (A : Option Addr) (c : Nat) (us : List UInt8) (kp : Bool) (W : World) (hu : Bys W A us) (hm : us.length ≤ maxLen) (hcu : us.length ≤ c) : Calls Try.prog 3 #[.slice A us.length c, .bool kp] W fun e W' => e = .returned (.bool true) ∧ Below W.heap.size W W' := by
  obtain ⟨xs, hxs⟩ : ∃ xs, xs = us.take 64 := ⟨_, rfl⟩
  have lx : xs.length = min us.length 64 := by rw [hxs, List.length_take]; omega
  have ex : min (us.length : Int) 64 = (xs.length : Int) := by omega
  have ax : xs.length ≤ c := by omega
  have x64 : xs.length ≤ 64 := by omega
  have HXS := hide hxs
  have HX : Hid (Bys W A xs) := by rw [hxs]; exact take_bys hu 64
  clear lx hxs hu hcu
  go_enter Try.func3, Try.ntmps3
  go_wp2_with (at_builtin; refine wpList_append_copy rfl _ _ rfl none A c xs rfl rfl HX.out (by omega) ?_; intro D d w1 hD1 hB1; have HN1 := hide hD1; have HB1 := hide hB1; clear hD1 hB1)
  refine (new_ok 2 w1 (by omega) (by omega)).mono ?_
  rintro en w2 ⟨s, rfl, hB2, hD2⟩
  have HN2 := hide (HN1.out.kept hB2)
  have hs1 := HB1.out.size
  have hs2 := hB2.size
  have HB2 := hide (HB1.out.trans (hB2.mono hs1))
  have HD2 := hide hD2
  have HG1 : Hid (BysIn (fun i => W.heap.size ≤ i ∧ i < w1.heap.size) w2 D xs) := HN1.out.bysIn.agree (Agree.of_below hB2 fun i hi => hi.2)
  clear hB2 hD2
  go_wp2_with fail
  refine (write_ok (G := fun i => W.heap.size ≤ i ∧ i < w1.heap.size) HD2.out (by omega) (by omega) (by omega) 0 (by decide) D d xs HG1.out (fun i hi => by omega) (fun i hi hF => by omega) x64).mono ?_
  rintro en w3 ⟨rfl, hC3, hD3⟩
  have hs3 := hC3.size
  have HB3 : Hid (Below W.heap.size W w3) := HB2.out.trans (hC3.below (fun i hi hF => by omega) HB2.out.size)
  have HD3 : Hid (Dsk (fun i => w1.heap.size ≤ i ∧ i < w2.heap.size) w3 s ((List.replicate 2 zeroS).set 0 (padS xs)) (markE (fun _ => none) (List.replicate 2 zeroS) 0) (-1) false) := hD3
  have HG3 : Hid (BysIn (fun i => W.heap.size ≤ i ∧ i < w1.heap.size) w3 D xs) := HG1.out.agree (Agree.of_chg hC3 (fun i hi => by omega) fun i hi hF => by omega)
  have HR3 : Hid (0 < xs.length → ∃ g, D = some ⟨g, 0, none⟩ ∧ W.heap.size ≤ g ∧ g < w1.heap.size ∧ Row w3 g xs) := fun hp => by
    obtain ⟨g, e, h1, h2, h3⟩ := HN1.out.2 hp
    obtain ⟨g', e', h1', h2', h3'⟩ := HN2.out.2 hp
    rw [e] at e'
    injection e' with e'
    injection e' with e'
    subst e'
    exact ⟨g, e, h1, h2, h3'.agree (F := fun i => W.heap.size ≤ i ∧ i < w1.heap.size) (Agree.of_chg hC3 (fun i hi => by omega) fun i hi hF => by omega) ⟨h1, h2⟩⟩
  clear hC3 hD3
  go_wp2_with (at_builtin; refine wpList_append_copy rfl _ _ rfl none D d xs rfl rfl (HG3.out.bys (fun i hi => by omega)) (by omega) ?_; intro D2 d2 w4 hD4 hB4; have HN4 := hide hD4; have HB4 := hide hB4; clear hD4 hB4)
  have hs4 := HB4.out.size
  have HD4 := hide (HD3.out.kept HB4.out)
  have HR4 : Hid (0 < xs.length → ∃ g, D = some ⟨g, 0, none⟩ ∧ W.heap.size ≤ g ∧ g < w1.heap.size ∧ ∃ bs : List UInt8, bs.length = xs.length ∧ Row w4 g bs) := fun hp => by
    obtain ⟨g, e, h1, h2, h3⟩ := HR3.out hp
    exact ⟨g, e, h1, h2, xs, rfl, h3.kept HB4.out⟩
  have HB4' := hide (HB3.out.trans (HB4.out.mono HB3.out.size))
  go_loopw [31] (fun i wr => ∃ k : Nat, k ≤ xs.length ∧ i = .int .i64 k ∧ Hid (Chg (fun i => W.heap.size ≤ i ∧ i < w1.heap.size) w4 wr) ∧ Hid (0 < xs.length → ∃ g, D = some ⟨g, 0, none⟩ ∧ W.heap.size ≤ g ∧ g < w1.heap.size ∧ ∃ bs : List UInt8, bs.length = xs.length ∧ Row wr g bs)) (fun i _ => xs.length - (iOf i).toNat)
  case atStart => exact ⟨0, by omega, rfl, Chg.refl _ _, HR4⟩
  case round =>
    obtain ⟨k, hk, rfl, HC, HR⟩ := hrel
    by_cases hlt : k < xs.length
    · obtain ⟨g, rfl, hg1, hg2, bs, hbl, hRow⟩ := HR.out (by omega)
      obtain ⟨x, hx1, HXX, q⟩ := hRow.at_ (k := k) (by omega)
      have hfz := hRow.frozen k
      have HRow := hide hRow
      clear hRow
      have HGL := hide (HRow.out.lt)
      have HS : Hid (Row (wr.setCell ⟨g, k, none⟩ (.int .u8 (((x : Nat) + 1 : Int) % 256))) g (bs.set k (UInt8.ofNat (x + 1)))) := by
        have h := HRow.out.set (i := k) (by omega) (UInt8.ofNat (x + 1))
        have e : u8v (UInt8.ofNat (x + 1)) = .int .u8 (((x : Nat) + 1 : Int) % 256) := by
          unfold u8v
          rw [UInt8.toNat_ofNat']
          congr 1
        rw [e] at h
        exact h
      have HC' : Hid (Chg (fun i => W.heap.size ≤ i ∧ i < w1.heap.size) w4 (wr.setCell ⟨g, k, none⟩ (.int .u8 (((x : Nat) + 1 : Int) % 256)))) := HC.out.setCell (fun _ => ⟨hg1, hg2⟩) _ _
      have HL' : Hid ((bs.set k (UInt8.ofNat (x + 1))).length = xs.length) := by rw [List.length_set]; exact hbl
      go_wp2_with fail
      go_roundw
      case rel => exact ⟨k + 1, by omega, by go_num, HC', fun _ => ⟨g, rfl, hg1, hg2, _, HL'.out, HS.out⟩⟩
      case measure => simp [iOf]; omega
    · obtain rfl : xs.length = k := by omega
      have hsr := HC.out.size
      have HDr := hide (HD4.out.chg HC.out (fun i hi hF => by omega))
      have HBr : Hid (Below W.heap.size W wr) := HB4'.out.trans (HC.out.below (fun i hi hF => by omega) HB4'.out.size)
      have HNr : Hid (BysIn (fun i => w3.heap.size ≤ i ∧ i < w4.heap.size) wr D2 xs) := HN4.out.bysIn.agree (Agree.of_chg HC.out (fun i hi => hi.2) fun i hi hF => by omega)
      clear HR
      go_wp2_with fail
      refine (read_pad HDr.out 0 (by simp) xs x64 (by rw [set_at _ _ _ (by simp)])).mono ?_
      rintro en w5 ⟨gx, cx, hgx, rfl, hR5, hB5, hcx⟩
      have hs5 := hB5.size
      have HD5 := hide (HDr.out.kept hB5)
      have HN5 := hide (HNr.out.agree (Agree.of_below hB5 fun i hi => by omega))
      have HB5 := hide (HBr.out.trans (hB5.mono HBr.out.size))
      obtain ⟨x, hx1, HXX, q⟩ := hR5.at_ (k := 63) (by rw [padS_length x64]; omega)
      have hfz := hR5.frozen 63
      have HGX := hide hR5.lt
      have HC6 : Hid (Chg (fun i => i = gx) w5 (w5.setCell ⟨gx, 63, none⟩ (.int .u8 (((x : Nat) + 1 : Int) % 256)))) := Chg.set1 _ _ _ _
      obtain ⟨w6, hw6⟩ : ∃ w6, w6 = w5.setCell ⟨gx, 63, none⟩ (.int .u8 (((x : Nat) + 1 : Int) % 256)) := ⟨_, rfl⟩
      rw [← hw6] at HC6
      have HW6 := hide hw6
      have HG := hide hgx
      clear hR5 hB5 hw6 hgx
      have hsz : w6.heap.size = w5.heap.size := by rw [HW6.out]; simp [World.setCell]
      have HD6 := hide (HD5.out.chg HC6.out (fun i hi e => by have := HG.out; omega))
      have HN6 := hide (HN5.out.agree (Agree.of_chg HC6.out (fun i hi => by omega) fun i hi e => by have := HG.out; omega))
      have HB6 : Hid (Below W.heap.size W w6) := HB5.out.trans (HC6.out.below (fun i hi e => by have := HG.out; omega) HB5.out.size)
      have HSZ := hide hsz
      clear hsz
      go_wp2_with fail
      rw [← HW6.out, ← HSZ.out]
      have HB6b := hide ((Below.refl _ w6).alloc (Nat.le_refl _) (.cells #[.bool kp] 4))
      have HD6b := hide (HD6.out.kept HB6b.out)
      have hw6 := HC6.out.size
      have HN6b := hide (HN6.out.agree (Agree.of_below HB6b.out fun i hi => by omega))
      refine (crash_any (Gk := fun i => i = w6.heap.size) (hide keys_ok) HD6b.out (some ⟨w6.heap.size, 0, none⟩) 1 [kp] (boolK w6 kp) (fun i hi => by subst hi; simp) (by simp)).mono ?_
      rw [crash_two xs kp _ rfl]
      rintro en w7 ⟨cc, rfl, hB7, hD7⟩
      have hs6b : (w6.alloc (.cells #[.bool kp] 4)).heap.size = w6.heap.size + 1 := by simp
      have hs7 := hB7.size
      have HE7 := hide hD7
      have HD7 := hide (HD6b.out.kept hB7)
      have HN7 := hide (HN6b.out.agree (Agree.of_below hB7 fun i hi => by omega))
      have HB7 : Hid (Below W.heap.size W w7) := (HB6.out.alloc HB6.out.size _).trans (hB7.mono (by have := HB6.out.size; omega))
      clear hB7 hD7
      have hcv := conv_one w7 122 122 rfl
      go_wp2_with fail
      refine (write_one HE7.out 1 (by simp) 122).mono ?_
      rintro en w8 ⟨rfl, hC8, hD8⟩
      have HE8 : Hid (Dsk (fun i => (w6.alloc (.cells #[.bool kp] 4)).heap.size ≤ i ∧ i < w7.heap.size) w8 cc [padS (if kp then xs else []), padS [122]] (markE (fun _ => none) [padS (if kp then xs else []), zeroS] 1) (-1) false) := hD8
      have hs7b : (w7.alloc (.cells #[u8v 122] 5 (1, 2))).heap.size = w7.heap.size + 1 := by simp
      have hs8 := hC8.size
      have HD8 := hide ((HD7.out.kept ((Below.refl _ w7).alloc (Nat.le_refl _) (.cells #[u8v 122] 5 (1, 2)))).chg hC8 (fun i hi hF => by omega))
      have HN8 := hide ((HN7.out.agree (Agree.of_below ((Below.refl _ w7).alloc (Nat.le_refl _) (.cells #[u8v 122] 5 (1, 2))) fun i hi => by omega)).agree (Agree.of_chg hC8 (fun i hi => by omega) fun i hi hF => by omega))
      have HB8 : Hid (Below W.heap.size W w8) := (HB7.out.alloc HB7.out.size _).trans (hC8.below (fun i hi hF => by have := HB6.out.size; omega) (by have := HB7.out.size; omega))
      clear hC8 hD8 hcv
      have hcv := conv_other w8
      go_wp2_with fail
      have HB8b := hide ((Below.refl _ w8).alloc (Nat.le_refl _) (.cells #[.int .u8 111, .int .u8 116, .int .u8 104, .int .u8 101, .int .u8 114] 5 (5, 6)))
      have hs8b : (w8.alloc (.cells #[.int .u8 111, .int .u8 116, .int .u8 104, .int .u8 101, .int .u8 114] 5 (5, 6))).heap.size = w8.heap.size + 1 := by simp
      refine (write_box (HD8.out.kept HB8b.out) (by omega) (by omega) (by omega) 0 (by simp) w8.heap.size 5 otherB (bys_other w8) (fun hF => by omega) (by decide)).mono ?_
      rintro en w9 ⟨rfl, hC9, hD9⟩
      have hs9 := hC9.size
      have HD9 : Hid (Dsk (fun i => w1.heap.size ≤ i ∧ i < w2.heap.size) w9 s (((List.replicate 2 zeroS).set 0 (padS xs)).set 0 (padS otherB)) _ (-1) false) := hD9
      have HE9 := hide ((HE8.out.kept HB8b.out).chg hC9 (fun i hi hF => by omega))
      have HN9 := hide ((HN8.out.agree (Agree.of_below HB8b.out fun i hi => by omega)).agree (Agree.of_chg hC9 (fun i hi => by omega) fun i hi hF => by omega))
      have HB9 : Hid (Below W.heap.size W w9) := (HB8.out.alloc HB8.out.size _).trans (hC9.below (fun i hi hF => by omega) (by have := HB8.out.size; omega))
      clear hC9 hD9 hcv
      have ki : (if kp then xs else []).length ≤ 64 := by cases kp <;> simp [x64]
      go_wp2_with fail
      refine (read_pad HE9.out 0 (by simp) (if kp then xs else []) ki rfl).mono ?_
      rintro en w10 ⟨gy, cy, hgy, rfl, hR10, hB10, hcy⟩
      have hs10 := hB10.size
      have HD10 := hide (HD9.out.kept hB10)
      have HN10 := hide (HN9.out.agree (Agree.of_below hB10 fun i hi => by omega))
      have HY10 := hide hR10
      have HB10 := hide (HB9.out.trans (hB10.mono HB9.out.size))
      have HGY := hide hgy
      clear hR10 hB10 hgy ki
      go_wp2_with fail
      refine (read_pad HD10.out 1 (by simp) [] (by simp) rfl).mono ?_
      rintro en w11 ⟨gz, cz, hgz, rfl, hR11, hB11, hcz⟩
      have hs11 := hB11.size
      have HN11 := hide (HN10.out.agree (Agree.of_below hB11 fun i hi => by omega))
      have HY11 := hide (HY10.out.kept hB11)
      have HZ11 := hide hR11
      have HB11 := hide (HB10.out.trans (hB11.mono HB10.out.size))
      have HGZ := hide hgz
      clear hR11 hB11 hgz
      have hmk : ∀ (w : World), (Instr.makeSlice 22 (.int .i64 64) (.int .i64 64)).run Try.prog w = .ok (.slice (some ⟨w.heap.size, 0, none⟩) 64 64) (w.alloc (.cells (madeCells #[.int .u8 0] 64) 5)) := fun w =>
        run_make_row' 22 5 (.int .u8 0) 1 Try.underlying22 u8info rfl .i64 .i64 64 (by omega) (by omega) w
      have HW12 : Hid ((w11.alloc (.cells (madeCells #[.int .u8 0] 64) 5)).heap[w11.heap.size]? = some (.cells (List.replicate 64 (Value.int .u8 0)).toArray 5 (0, 0))) := by
        have e : madeCells #[Value.int .u8 0] 64 = (List.replicate 64 (Value.int .u8 0)).toArray := by
          apply Array.toList_inj.1
          rw [toList_madeCells_one]
        rw [Hid, e]
        exact heap_alloc_new w11 _
      have HB12a := hide ((Below.refl _ w11).alloc (Nat.le_refl _) (.cells (madeCells #[.int .u8 0] 64) 5))
      have HN12 := hide (HN11.out.agree (Agree.of_below HB12a.out fun i hi => by omega))
      have HY12 := hide (HY11.out.kept HB12a.out)
      have HZ12 := hide (HZ11.out.kept HB12a.out)
      have HB12 := hide (HB11.out.trans (HB12a.out.mono HB11.out.size))
      have HR12 := hide (Row.made w11 64)
      have hs12 : (w11.alloc (.cells (madeCells #[.int .u8 0] 64) 5)).heap.size = w11.heap.size + 1 := by simp
      have hmn : xs.length = Nat.min xs.length 64 := (Nat.min_eq_left x64).symm
      have HMN := hide hmn
      clear hmn
      cases kp with
      | true =>
        go_wp2_with (refine wpList_copy_splice rfl (.tmp 82) (.tmp 83) 22 22 rfl 5 Try.underlying22 (by kernel_rfl) (some ⟨w11.heap.size, 0, none⟩) D2 64 64 xs.length d2 rfl rfl w11.heap.size 0 (List.replicate 64 (.int .u8 0)) 5 HW12.out (xs.map u8v) (by rw [List.length_map]; exact HMN.out) (fun hp => ⟨rfl, by obtain ⟨b2, o2, e2, _, _⟩ := HN12.out (by simpa using hp); exact ⟨⟨b2, o2, none⟩, e2, news_of_bys (by rw [← e2]; exact HN12.out.bys (fun i hi => by omega))⟩⟩) (by simp; omega) one_byte w11.heap.size w11 HB12a.out (Nat.le_refl _) ?_; intro w13 hrow hb13)
        have HY13 : Hid (Row w13 gy (padS xs)) := HY11.out.kept hb13
        have HZ13 := hide (HZ11.out.kept hb13)
        have HR13 : Hid (Row w13 w11.heap.size (padS xs)) := ⟨[], by rw [List.append_nil, ← splice_pad]; exact hrow.out⟩
        have HB13 := hide (HB11.out.trans (hb13.mono HB11.out.size))
        clear hrow hb13
        refine (awake_any _).mono ?_
        rintro en w14 ⟨rfl, hB14⟩
        have HY14 := hide (HY13.out.kept hB14)
        have HZ14 := hide (HZ13.out.kept hB14)
        have HR14 := hide (HR13.out.kept hB14)
        have HB14 := hide (HB13.out.trans (hB14.mono HB13.out.size))
        clear hB14
        go_wp2_with fail
        refine (eq64 cy 64 HY14.out HR14.out (padS_length x64) (padS_length x64)).mono ?_
        rintro en w15 ⟨rfl, hB15⟩
        rw [show (padS xs == padS xs) = true from beq_self_eq_true _]
        have HZ15 := hide (HZ14.out.kept hB15)
        have HB15 := hide (HB14.out.trans (hB15.mono HB14.out.size))
        clear hB15
        go_wp2_with fail
        have HB16 := hide (HB15.out.alloc HB15.out.size (.cells (madeCells #[.int .u8 0] 64) 5))
        refine (eq64 cz 64 (HZ15.out.alloc _) (Row.made w15 64) rfl rfl).mono ?_
        rintro en w17 ⟨rfl, hB17⟩
        rw [show (padS [] == List.replicate 64 0) = true from beq_self_eq_true _]
        have HB17 := hide (HB16.out.trans (hB17.mono HB16.out.size))
        clear hB17
        go_wp2_with fail
        go_ret
        exact ⟨rfl, HB17.out⟩
      | false =>
        go_wp2_with fail
        have HY13 : Hid (Row (w11.alloc (.cells (madeCells #[.int .u8 0] 64) 5)) gy (padS [])) := HY12.out
        have HZ13 := hide HZ12.out
        have HR13 : Hid (Row (w11.alloc (.cells (madeCells #[.int .u8 0] 64) 5)) w11.heap.size (padS [])) := HR12.out
        have HB13 := hide HB12.out
        refine (awake_any _).mono ?_
        rintro en w14 ⟨rfl, hB14⟩
        have HY14 := hide (HY13.out.kept hB14)
        have HZ14 := hide (HZ13.out.kept hB14)
        have HR14 := hide (HR13.out.kept hB14)
        have HB14 := hide (HB13.out.trans (hB14.mono HB13.out.size))
        clear hB14
        go_wp2_with fail
        refine (eq64 cy 64 HY14.out HR14.out (padS_length (Nat.zero_le 64)) (padS_length (Nat.zero_le 64))).mono ?_
        rintro en w15 ⟨rfl, hB15⟩
        rw [show (padS [] == padS []) = true from beq_self_eq_true _]
        have HZ15 := hide (HZ14.out.kept hB15)
        have HB15 := hide (HB14.out.trans (hB15.mono HB14.out.size))
        clear hB15
        go_wp2_with fail
        have HB16 := hide (HB15.out.alloc HB15.out.size (.cells (madeCells #[.int .u8 0] 64) 5))
        refine (eq64 cz 64 (HZ15.out.alloc _) (Row.made w15 64) rfl rfl).mono ?_
        rintro en w17 ⟨rfl, hB17⟩
        rw [show (padS [] == List.replicate 64 0) = true from beq_self_eq_true _]
        have HB17 := hide (HB16.out.trans (hB17.mono HB16.out.size))
        clear hB17
        go_wp2_with fail
        go_ret
        exact ⟨rfl, HB17.out⟩

set_option maxRecDepth 100000 in
theorem lifted (os : Os) (started : os.Started) (H : Type) (enc : TypeId × Value → H) :
    ReturnsInHanded {} Try.checked os 3 .any (Rows.diskOwnSpec.pre6 enc Try.prog Try.f3 Rows.diskOwnRow.domain false) (Rows.diskOwnSpec.post enc Try.prog Try.f3 false true false false) := by
  refine returnsInHanded_of_change (C := Try.checked) own started (by kernel_rfl) Try.func3
    (ChangeSpec.witness6 (enc := enc) (C := Try.checked) false ⟨#[], #[.slice none 0 0, .bool false], []⟩ 8 (by kernel_rfl) (by kernel_rfl) (by kernel_rfl) (by kernel_rfl)) ?_
  intro W base args ds gs before hval0 hW hcnd _
  have hval : ∀ (j : Nat) t v, Try.f3.params[j]? = some t → args[j]? = some v → Value.okWide Try.prog W .any base t v := hval0
  have hW' := hW
  obtain ⟨p, q, hA0, hV, rfl, hfz, hnd⟩ := hW
  have hA : DataW.TrodAll enc Try.prog W 0 (fun _ => true) true Try.f3.params.toList args.toList ds p := hA0
  rw [Try.params3] at hA hval
  obtain ⟨v0, vs0, d0, ds0, p0, q0, hargs, rfl, rfl, h0, r0⟩ := trodAll_cons hA
  obtain ⟨v1, vs1, d1, ds1, p1, q1, rfl, rfl, rfl, h1, r1⟩ := trodAll_cons r0
  obtain ⟨rfl, rfl, rfl⟩ := trodAll_nil r1
  obtain rfl : args = #[v0, v1] := by cases args; simp_all
  obtain ⟨A0, c0, bs0, rfl, hb0, hm0, hcp0⟩ := open_bytes_arg (hval 0 22 v0 rfl rfl) h0
  obtain ⟨b1, rfl, _, _⟩ := open_bool Try.underlying4 (hval 1 4 v1 rfl rfl) h1
  refine (walk A0 c0 bs0 b1 W hb0 hm0 hcp0).mono fun e W' ⟨he, hb⟩ => ?_
  subst he
  exact ⟨_, rfl, post_law hW' rfl hb (by rw [Try.params3]; exact params_ok (by kernel_rfl)) rfl rfl⟩

theorem over : Rows.diskOwnRow.holds Try.pinned (OpenSpec.ofChange Rows.diskOwnSpec) :=
  OpenClaim.holds_of_wide 3 Try.f3 rfl rfl rfl rfl rfl rfl rfl ⟨rfl, rfl, rfl, rfl, rfl⟩ rfl rfl rfl rfl rfl (by kernel_rfl) Try.func3 (by kernel_rfl)
    (of_decide_eq_true (by kernel_rfl)) (by unfold Func.isWrapper; first | (rw [if_pos (by decide +kernel)]; kernel_rfl) | (rw [if_neg (by decide +kernel)]; exact ⟨rfl, rfl⟩))
    (fun os started H enc _ => lifted os started H enc)

theorem proved : Rows.DiskOwnSaid := over
end Go.Proofs.Ytcmchnddnglnfaa.lawOwn
