/-
  A network in memory: the sender, the receiver and the messages between them.
-/
import Derived.Test.YthhelhggggbaiaaAir
namespace Go.Proofs.Ythhelhggggbaiaa
open Go.RowKit
set_option linter.unusedVariables false
set_option linter.unusedSimpArgs false

structure NetC (w0 w : World) (s r W : Nat) (fs : List (List UInt8)) (ka kr : Nat) (v : Value) (base nxt : Nat) (H : Nat → Option (List UInt8)) (g : Nat) (last : Int) (nR : Nat) (FS FR FA : Nat → Prop) (air : List Msg) (As : Nat → Option Addr) (Cs : Nat → Nat) : Prop where
  snd : Snd 64 FS w s fs W base nxt
  rcv : Rcv FR w r W (gots H g) (earlyOf H g) last nR
  own : OwnMs FA w v air As Cs
  lt : Lt FA w
  d1 : ∀ i, FS i → ¬ FR i
  d2 : ∀ i, FS i → ¬ FA i
  d3 : ∀ i, FR i → ¬ FA i
  f1 : ∀ i, FS i → w0.heap.size ≤ i
  f2 : ∀ i, FR i → w0.heap.size ≤ i
  f3 : ∀ i, FA i → w0.heap.size ≤ i
  below : Below w0.heap.size w0 w
  got : GotP fs H g last
  bg : base ≤ g
  nx : nxt ≤ fs.length
  good : ∀ j, j < air.length → GoodM fs g (air.getD j zeroM)
  len : air.length ≤ ka
  nr : nR ≤ kr
def Net (w0 : World) (s r W : Nat) (fs : List (List UInt8)) (ka kr : Nat) (v : Value) (w : World) : Prop :=
  ∃ base nxt H g last nR FS FR FA air As Cs, NetC w0 w s r W fs ka kr v base nxt H g last nR FS FR FA air As Cs
/-- a message at hand -/
def NetM (w0 : World) (s r W : Nat) (fs : List (List UInt8)) (ka kr : Nat) (v : Value) (m : Msg) (D : Option Addr) (d : Nat) (w : World) : Prop :=
  ∃ base nxt H g last nR FS FR FA air As Cs, NetC w0 w s r W fs ka kr v base nxt H g last nR FS FR FA air As Cs ∧ GoodM fs g m ∧ BysIn (fun b => FA b ∧ v.ownBlock ≠ some b) w D m.data ∧ m.data.length ≤ d
section
variable {w0 w w' : World} {s r W : Nat} {fs : List (List UInt8)} {ka kr : Nat} {v v' : Value} {base nxt : Nat} {H : Nat → Option (List UInt8)} {g : Nat} {last : Int} {nR : Nat} {FS FR FA : Nat → Prop} {air : List Msg} {As : Nat → Option Addr} {Cs : Nat → Nat} {m : Msg} {D : Option Addr} {d : Nat}
theorem NetC.kept (h : NetC w0 w s r W fs ka kr v base nxt H g last nR FS FR FA air As Cs) (hb : Below w.heap.size w w') : NetC w0 w' s r W fs ka kr v base nxt H g last nR FS FR FA air As Cs :=
  { h with snd := h.snd.kept hb, rcv := h.rcv.kept hb, own := h.own.agree (Agree.of_below hb h.lt), lt := h.lt.size hb.size, below := h.below.trans (hb.mono h.below.size) }
theorem Net.kept (h : Net w0 s r W fs ka kr v w) (hb : Below w.heap.size w w') : Net w0 s r W fs ka kr v w' := by
  obtain ⟨base, nxt, H, g, last, nR, FS, FR, FA, air, As, Cs, h⟩ := h
  exact ⟨base, nxt, H, g, last, nR, FS, FR, FA, air, As, Cs, h.kept hb⟩
theorem NetM.kept (h : NetM w0 s r W fs ka kr v m D d w) (hb : Below w.heap.size w w') : NetM w0 s r W fs ka kr v m D d w' := by
  obtain ⟨base, nxt, H, g, last, nR, FS, FR, FA, air, As, Cs, h, h1, h2, h3⟩ := h
  exact ⟨base, nxt, H, g, last, nR, FS, FR, FA, air, As, Cs, h.kept hb, h1, h2.agree (Agree.of_below hb fun i hi => h.lt i hi.1), h3⟩
theorem NetM.net (h : NetM w0 s r W fs ka kr v m D d w) : Net w0 s r W fs ka kr v w := by
  obtain ⟨base, nxt, H, g, last, nR, FS, FR, FA, air, As, Cs, h, _⟩ := h
  exact ⟨base, nxt, H, g, last, nR, FS, FR, FA, air, As, Cs, h⟩
theorem Net.more {ka' kr' : Nat} (h : Net w0 s r W fs ka kr v w) (h1 : ka ≤ ka') (h2 : kr ≤ kr') : Net w0 s r W fs ka' kr' v w := by
  obtain ⟨base, nxt, H, g, last, nR, FS, FR, FA, air, As, Cs, h⟩ := h
  exact ⟨base, nxt, H, g, last, nR, FS, FR, FA, air, As, Cs, { h with len := Nat.le_trans h.len h1, nr := Nat.le_trans h.nr h2 }⟩
theorem NetM.bys (h : NetM w0 s r W fs ka kr v m D d w) : Bys w D m.data ∧ m.data.length ≤ d := by
  obtain ⟨base, nxt, H, g, last, nR, FS, FR, FA, air, As, Cs, h, h1, h2, h3⟩ := h
  exact ⟨h2.bys fun i hi => h.lt i hi.1, h3⟩
theorem Net.below (h : Net w0 s r W fs ka kr v w) : Below w0.heap.size w0 w := by
  obtain ⟨base, nxt, H, g, last, nR, FS, FR, FA, air, As, Cs, h⟩ := h
  exact h.below
/-- what the walk wants to know of the list -/
theorem NetM.row (h : NetM w0 s r W fs ka kr v m D d w) : ∃ n xs, n ≤ ka ∧ w.ownsRow 0 34 4 v n xs ∧ (∀ i, v.ownBlock = some i → i < w.heap.size) ∧
    ∀ v' w', w'.ownsRow 0 34 4 v' (n + 1) (xs ++ [.bool m.ack, .int .i64 m.num, .bool m.last, .slice D m.data.length d]) → w.grownBy w' v.ownBlock → (v'.ownBlock = v.ownBlock ∨ v'.ownBlock = some w.heap.size) → Net w0 s r W fs (ka + 1) kr v' w' := by
  obtain ⟨base, nxt, H, g, last, nR, FS, FR, FA, air, As, Cs, h, h1, h2, h3⟩ := h
  refine ⟨air.length, msVals air As Cs, h.len, h.own.1, fun i hi => h.lt i (h.own.2.1 i hi), fun v' w' ho hg hor => ?_⟩
  have hN := h.own.push h.lt h2 h3 ho hg hor
  have hC : Chg (fun i => v.ownBlock = some i) w w' := Chg.of_grown hg
  have hnew : ∀ i, (FA i ∨ v'.ownBlock = some i) → FA i ∨ i = w.heap.size := fun i hi => by
    rcases hi with hi | hi
    · exact .inl hi
    · rcases hor with e | e
      · rw [e] at hi; exact .inl (h.own.2.1 i hi)
      · rw [e] at hi; injection hi with hi; exact .inr hi.symm
  have hw0 := h.below.size
  have hgs := hg.size
  refine ⟨base, nxt, H, g, last, nR, FS, FR, _, air ++ [m], _, _, { snd := h.snd.chg hC (fun i hi e => h.d2 i hi (h.own.2.1 i e)), rcv := h.rcv.chg hC (fun i hi e => h.d3 i hi (h.own.2.1 i e)), own := hN, lt := fun i hi => ?_, d1 := h.d1, d2 := fun i hi e => ?_, d3 := fun i hi e => ?_, f1 := h.f1, f2 := h.f2, f3 := fun i hi => ?_, below := h.below.trans (hC.below (fun i hi e => by have := h.f3 i (h.own.2.1 i e); omega) hw0), got := h.got, bg := h.bg, nx := h.nx, good := fun j hj => ?_, len := by rw [List.length_append, List.length_singleton]; have := h.len; omega, nr := h.nr }⟩
  · rcases hi with hi | hi
    · have := h.lt i hi; omega
    · exact ownsRow_lt ho i hi
  · rcases hnew i e with e | e
    · exact h.d2 i hi e
    · have := h.snd.lt i hi; omega
  · rcases hnew i e with e | e
    · exact h.d3 i hi e
    · have := h.rcv.lt i hi; omega
  · rcases hnew i hi with e | e
    · exact h.f3 i e
    · omega
  · rw [List.length_append, List.length_singleton] at hj
    by_cases e : j < air.length
    · have e2 : (air ++ [m]).getD j zeroM = air.getD j zeroM := by simp [List.getD_eq_getElem?_getD, List.getElem?_append, e]
      rw [e2]; exact h.good j e
    · obtain rfl : j = air.length := by omega
      have e2 : (air ++ [m]).getD air.length zeroM = m := by simp [List.getD_eq_getElem?_getD]
      rw [e2]; exact h1
/-- the list is read -/
theorem Net.list (h : Net w0 s r W fs ka kr v w) : ∃ n : Nat, n ≤ ka ∧ (∃ A c, v = .slice A n c ∧ n ≤ c) ∧ (0 < n → ∃ (b c : Nat) (xs : List Value), v = .slice (some ⟨b, 0, none⟩) n c ∧ n ≤ c ∧ b < w.heap.size ∧ xs.length = n * 4 ∧ (∀ j u, xs[j]? = some u → w.cell? ⟨b, j, none⟩ = some u) ∧ (∀ u ∈ xs, u.oneCell' = true) ∧
    ∀ k, k < n → ∃ (m : Msg) (D : Option Addr) (d : Nat), w.cell? ⟨b, k * 4, none⟩ = some (.bool m.ack) ∧ w.cell? ⟨b, k * 4 + 1, none⟩ = some (.int .i64 m.num) ∧ w.cell? ⟨b, k * 4 + 2, none⟩ = some (.bool m.last) ∧ w.cell? ⟨b, k * 4 + 3, none⟩ = some (.slice D m.data.length d) ∧ NetM w0 s r W fs ka kr v m D d w ∧
      ∀ w1, Below w.heap.size w w1 → ∀ v' w', Part w1 w' v' (k + (n - (k + 1))) (([] ++ xs.take (k * 4)) ++ xs.drop ((k + 1) * 4)) → NetM w0 s r W fs ka kr v' m D d w') := by
  obtain ⟨base, nxt, H, g, last, nR, FS, FR, FA, air, As, Cs, h⟩ := h
  refine ⟨air.length, h.len, ?_, fun hp => ?_⟩
  · obtain ⟨A, c, e, hc, _⟩ := h.own.shape
    exact ⟨A, c, e, hc⟩
  · obtain ⟨b, cap, e, hcap, hb, hFb, hcell⟩ := h.own.cells hp
    refine ⟨b, cap, msVals air As Cs, e, hcap, hb, msVals_length _ _ _, hcell, one_cells _ _ _, fun k hk => ⟨air.getD k zeroM, As k, Cs k, hcell _ _ (msVals_at air As Cs hk (by omega : 0 < 4)), hcell _ _ (msVals_at air As Cs hk (by omega : 1 < 4)), hcell _ _ (msVals_at air As Cs hk (by omega : 2 < 4)), hcell _ _ (msVals_at air As Cs hk (by omega : 3 < 4)), ⟨base, nxt, H, g, last, nR, FS, FR, FA, air, As, Cs, h, h.good k hk, (h.own.2.2 k hk).1, (h.own.2.2 k hk).2⟩, fun w1 hb1 v' w' hp => ?_⟩⟩
    have h := h.kept hb1
    have hO := h.own.without h.lt hk hp
    have hB : Below w1.heap.size w1 w' := hp.2
    have hK := h.kept hB
    have hw0 := h.below.size
    refine ⟨base, nxt, H, g, last, nR, FS, FR, _, without air k, _, _, { hK with own := hO, lt := fun i hi => ?_, d2 := fun i hi e => ?_, d3 := fun i hi e => ?_, f3 := fun i hi => ?_, good := fun j hj => ?_, len := by rw [without_length hk]; have := h.len; omega }, h.good k hk, ?_, (h.own.2.2 k hk).2⟩
    · rcases hi with hi | hi
      · exact hK.lt i hi
      · exact ownsRow_lt hp.1 i hi
    · rcases e with e | e
      · exact h.d2 i hi e
      · have h1 := part_own hp i e
        have h2 := h.snd.lt i hi
        omega
    · rcases e with e | e
      · exact h.d3 i hi e
      · have h1 := part_own hp i e
        have h2 := h.rcv.lt i hi
        omega
    · rcases hi with e | e
      · exact h.f3 i e
      · have h1 := part_own hp i e
        omega
    · rw [without_length hk] at hj
      rw [without_at hk]
      split
      · exact h.good j (by omega)
      · exact h.good (j + 1) (by omega)
    · refine ((h.own.2.2 k hk).1.agree (Agree.of_below hB fun i hi => h.lt i hi.1)).mono fun i hi => ⟨.inl hi.1, fun e => ?_⟩
      have h1 := part_own hp i e
      have h2 := h.lt i hi.1
      omega
end

/-- the frames and the window of a network -/
structure NetF (fs : List (List UInt8)) (W : Nat) : Prop where
  l1 : 1 ≤ fs.length
  l8 : fs.length ≤ 8
  bd : ∀ k, k < fs.length → (fs.getD k []).length ≤ 10
  w1 : 1 ≤ W
  w8 : W ≤ 8
theorem nextMsg_good {fs : List (List UInt8)} {W base nxt g : Nat} (hb : base < fs.length) : GoodM fs g (nextMsg fs W base nxt) := by
  have h1 := nextAt_lt (W := W) (nxt := nxt) hb
  refine .inr ?_
  unfold nextMsg
  rw [if_neg (by omega)]
  exact ⟨rfl, _, h1, rfl, rfl, rfl⟩
def NextN (w0 : World) (s r W : Nat) (fs : List (List UInt8)) (ka kr : Nat) (v : Value) (e : Ending) (w' : World) : Prop :=
  ∃ (m : Msg) (ok : Bool) (D : Option Addr) (d : Nat), e = .returned (.tuple #[.agg #[.bool m.ack, .int .i64 m.num, .bool m.last, .slice D m.data.length d], .bool ok]) ∧ Net w0 s r W fs ka kr v w' ∧ (ok = true → NetM w0 s r W fs ka kr v m D d w')
theorem net_next {w0 w : World} {s r W : Nat} {fs : List (List UInt8)} {ka kr : Nat} {v : Value} (hF : NetF fs W) (h : Net w0 s r W fs ka kr v w) :
    Calls Try.prog 12 #[.pointer (some ⟨s, 0, none⟩)] w (NextN w0 s r W fs ka kr v) := by
  obtain ⟨base, nxt, H, g, last, nR, FS, FR, FA, air, As, Cs, h⟩ := h
  have hgl := h.got.le
  have hbg := h.bg
  have hnx := h.nx
  have hl8 := hF.l8
  refine (next_any h.snd (by omega) (by omega) hF.w8 (by omega) (fun k hk => Nat.le_trans (hF.bd k hk) (by decide))).mono fun e w' hp => ?_
  obtain ⟨D, d, he, hby, hd, hC, hS⟩ := hp
  have hss : ∀ i, i = s → FS i := fun i hi => hi ▸ h.snd.mem
  have hsz := hC.size
  have hw0 := h.below.size
  have hB : Below w0.heap.size w0 w' := h.below.trans (hC.below (fun i hi e => by have := h.f1 i (hss i e); omega) hw0)
  have hN : ∀ GA : Nat → Prop, (∀ i, GA i → FA i ∨ (w.heap.size ≤ i ∧ i < w'.heap.size)) → (∀ i, FA i → GA i) → NetC w0 w' s r W fs ka kr v base (nextNxt fs W base nxt) H g last nR FS FR GA air As Cs := fun GA hG1 hG2 =>
    { h with snd := hS, rcv := h.rcv.chg hC (fun i hi e => h.d1 i (hss i e) hi), own := (h.own.agree (Agree.of_chg hC h.lt (fun i hi e => h.d2 i (hss i e) hi))).mono hG2, lt := fun i hi => (by
        rcases hG1 i hi with e | e
        · have := h.lt i e; omega
        · exact e.2), d2 := fun i hi e => (by
        rcases hG1 i e with e | e
        · exact h.d2 i hi e
        · have := h.snd.lt i hi; omega), d3 := fun i hi e => (by
        rcases hG1 i e with e | e
        · exact h.d3 i hi e
        · have := h.rcv.lt i hi; omega), f3 := fun i hi => (by
        rcases hG1 i hi with e | e
        · exact h.f3 i e
        · omega), below := hB, nx := nextNxt_le (by omega) hnx }
  refine ⟨nextMsg fs W base nxt, _, D, d, he, ⟨_, _, _, _, _, _, _, _, _, _, _, _, hN FA (fun i hi => .inl hi) (fun i hi => hi)⟩, fun hok => ?_⟩
  have hne : base ≠ fs.length := of_decide_eq_true hok
  refine ⟨_, _, _, _, _, _, _, _, _, _, _, _, hN (fun i => FA i ∨ (w.heap.size ≤ i ∧ i < w'.heap.size)) (fun i hi => hi) (fun i hi => .inl hi), nextMsg_good (by omega), hby.mono fun i hi => ⟨.inr hi, fun e => ?_⟩, hd⟩
  have := h.lt i (h.own.2.1 i e)
  omega
def RecvN (w0 : World) (s r W : Nat) (fs : List (List UInt8)) (ka kr : Nat) (v : Value) (e : Ending) (w' : World) : Prop :=
  ∃ (ok : Bool) (rn : Int), e = .returned (.tuple #[.agg #[.bool ok, .int .i64 rn, .bool false, .slice none 0 0], .bool ok]) ∧ Net w0 s r W fs ka (kr + 1) v w' ∧ (ok = true → NetM w0 s r W fs ka (kr + 1) v ⟨ok, rn, false, []⟩ none 0 w')
theorem NetC.recv {w0 w w' : World} {s r W : Nat} {fs : List (List UInt8)} {ka kr : Nat} {v : Value} {base nxt : Nat} {H H' : Nat → Option (List UInt8)} {g g' : Nat} {last last' : Int} {nR : Nat} {FS FR FA : Nat → Prop} {air : List Msg} {As : Nat → Option Addr} {Cs : Nat → Nat} {ok : Bool} {rn : Int} {e : Ending}
    (h : NetC w0 w s r W fs ka kr v base nxt H g last nR FS FR FA air As Cs) (hG : GotP fs H' g' last') (hgg : g ≤ g') (hp : REnd FR w r W H' g' last' (nR + 1) ok rn e w') : e = .returned (.tuple #[.agg #[.bool ok, .int .i64 rn, .bool false, .slice none 0 0], .bool ok]) ∧ ∃ FR', NetC w0 w' s r W fs ka (kr + 1) v base nxt H' g' last' (nR + 1) FS FR' FA air As Cs := by
  obtain ⟨he, FR', hR, hf, hC⟩ := hp
  have hsz := hC.size
  have hw0 := h.below.size
  have hbg := h.bg
  have hnr := h.nr
  refine ⟨he, FR', { h with snd := h.snd.chg hC (fun i hi e => h.d1 i hi e), rcv := hR, own := h.own.agree (Agree.of_chg hC h.lt (fun i hi e => h.d3 i e hi)), lt := h.lt.size hsz, d1 := fun i hi e => ?_, d3 := fun i hi e => ?_, f2 := fun i hi => ?_, below := h.below.trans (hC.below (fun i hi e => by have := h.f2 i e; omega) hw0), got := hG, bg := (by omega), good := fun j hj => (h.good j hj).mono hgg, nr := (by omega) }⟩
  · rcases hf i e with q | q
    · exact h.d1 i hi q
    · have := h.snd.lt i hi; omega
  · rcases hf i hi with q | q
    · exact h.d3 i q e
    · have := h.lt i e; omega
  · rcases hf i hi with q | q
    · exact h.f2 i q
    · omega
theorem net_recv {w0 w : World} {s r W : Nat} {fs : List (List UInt8)} {ka kr : Nat} {v : Value} {m : Msg} {D : Option Addr} {d : Nat} (hF : NetF fs W) (hkr : kr ≤ 1000) (h : NetM w0 s r W fs ka kr v m D d w) :
    Calls Try.prog 21 #[.pointer (some ⟨r, 0, none⟩), .agg #[.bool m.ack, .int .i64 m.num, .bool m.last, .slice D m.data.length d]] w (RecvN w0 s r W fs ka kr v) := by
  have hbys := h.bys.1
  obtain ⟨base, nxt, H, g, last, nR, FS, FR, FA, air, As, Cs, h, hm, h2, h3⟩ := h
  have hnr := h.nr
  obtain ⟨H', g', last', ok, rn, hG', hgg, hrn, _, _, hcall⟩ := recv_good h.got hF.l1 hF.l8 hF.bd hF.w1 hF.w8 hm nR (by omega) d
  refine (hcall FR w r D h.rcv hbys).mono fun e w' hp => ?_
  obtain ⟨he, FR', hN⟩ := h.recv hG' hgg hp
  refine ⟨ok, rn, he, ⟨_, _, _, _, _, _, _, _, _, _, _, _, hN⟩, fun hok => ⟨_, _, _, _, _, _, _, _, _, _, _, _, hN, .inl ⟨hok, ?_, ?_, rfl⟩, BysIn.nil _ _ _, Nat.le_refl _⟩⟩
  · rw [hrn hok]; show (0 : Int) ≤ (g' : Int); omega
  · rw [hrn hok]; exact Int.le_refl _
def SRecvN (w0 : World) (s r W : Nat) (fs : List (List UInt8)) (ka kr : Nat) (v : Value) (e : Ending) (w' : World) : Prop := e = .returned (.tuple #[]) ∧ Net w0 s r W fs ka kr v w'
theorem NetC.srecv {w0 w w' : World} {s r W : Nat} {fs : List (List UInt8)} {ka kr : Nat} {v : Value} {base base' nxt : Nat} {H : Nat → Option (List UInt8)} {g : Nat} {last : Int} {nR : Nat} {FS FR FA : Nat → Prop} {air : List Msg} {As : Nat → Option Addr} {Cs : Nat → Nat} {e : Ending}
    (h : NetC w0 w s r W fs ka kr v base nxt H g last nR FS FR FA air As Cs) (hb : base' ≤ g) (hp : RecvPost 64 FS w s fs W base' nxt e w') : e = .returned (.tuple #[]) ∧ NetC w0 w' s r W fs ka kr v base' nxt H g last nR FS FR FA air As Cs := by
  obtain ⟨he, hC, hS⟩ := hp
  have hss : ∀ i, i = s → FS i := fun i hi => hi ▸ h.snd.mem
  have hw0 := h.below.size
  exact ⟨he, { h with snd := hS, rcv := h.rcv.chg hC (fun i hi e => h.d1 i (hss i e) hi), own := h.own.agree (Agree.of_chg hC h.lt (fun i hi e => h.d2 i (hss i e) hi)), lt := h.lt.size hC.size, below := h.below.trans (hC.below (fun i hi e => by have := h.f1 i (hss i e); omega) hw0), bg := hb }⟩
theorem newBase_bd {fs : List (List UInt8)} {g base : Nat} {m : Msg} (hm : GoodM fs g m) (hb : base ≤ g) : newBase fs.length base m.ack m.num ≤ g := by
  unfold newBase
  split
  · rename_i h
    rcases hm with ⟨_, h1, h2, _⟩ | ⟨h1, _⟩
    · omega
    · rw [h.1] at h1; cases h1
  · exact hb
theorem net_srecv {w0 w : World} {s r W : Nat} {fs : List (List UInt8)} {ka kr : Nat} {v : Value} {m : Msg} {D : Option Addr} {d : Nat} (hF : NetF fs W) (h : NetM w0 s r W fs ka kr v m D d w) :
    Calls Try.prog 15 #[.pointer (some ⟨s, 0, none⟩), .agg #[.bool m.ack, .int .i64 m.num, .bool m.last, .slice D m.data.length d]] w (SRecvN w0 s r W fs ka kr v) := by
  obtain ⟨base, nxt, H, g, last, nR, FS, FR, FA, air, As, Cs, h, hm, h2, h3⟩ := h
  have hl8 := hF.l8
  refine (s_recv h.snd (by omega) m.ack m.last m.num D m.data.length d).mono fun e w' hp => ?_
  obtain ⟨he, hN⟩ := h.srecv (newBase_bd hm h.bg) hp
  exact ⟨he, _, _, _, _, _, _, _, _, _, _, _, _, hN⟩
end Go.Proofs.Ythhelhggggbaiaa
