/-
  Decode of all bytes, and of an encoding.
-/
import Derived.Test.YtebahhmajllmnaaDecode
namespace Go.Proofs.Ytebahhmajllmnaa
open Go.RowKit

theorem decode_any (A : Option Addr) (c : Nat) (b : List UInt8) (w : World) (hb : Bys w A b) (hm : b.length ≤ 600000) (hcap : b.length ≤ c) :
    Calls Try.prog 32 #[.slice A b.length c] w (DecPost w b) := by
  by_cases hl : b.length < 4
  · exact decode_short A c b w hl
  · by_cases hs : 1 ≤ (b.getD 0 0).toNat * 256 + (b.getD 1 0).toNat ∧ (b.getD 0 0).toNat * 256 + (b.getD 1 0).toNat ≤ 512 ∧ 1 ≤ (b.getD 2 0).toNat * 256 + (b.getD 3 0).toNat ∧ (b.getD 2 0).toNat * 256 + (b.getD 3 0).toNat ≤ 512
    · exact decode_good A c b _ _ w hb hm hcap (by omega) rfl rfl hs.1 hs.2.1 hs.2.2.1 hs.2.2.2
    · exact decode_bad A c b w hb hm (by omega) hs
theorem hdr_at (W H : Nat) (hW : W ≤ 512) (hH : H ≤ 512) (xs : List UInt8) : ((hdr W H ++ xs).getD 0 0).toNat * 256 + ((hdr W H ++ xs).getD 1 0).toNat = W ∧ ((hdr W H ++ xs).getD 2 0).toNat * 256 + ((hdr W H ++ xs).getD 3 0).toNat = H := by
  have e1 : ∀ n : Nat, n ≤ 512 → (UInt8.ofNat (n / 256)).toNat * 256 + (UInt8.ofNat (n % 256)).toNat = n := fun n hn => by
    rw [UInt8.toNat_ofNat', UInt8.toNat_ofNat']; omega
  exact ⟨e1 W hW, e1 H hH⟩
theorem decodeB_code {W H : Nat} (f : Nat → Bool) (hW1 : 1 ≤ W) (hW : W ≤ 512) (hH1 : 1 ≤ H) (hH : H ≤ 512) : ∃ f', decodeB (encode W H f) = some (W, H, f') ∧ ∀ j, j < W * H → f' j = f j := by
  obtain ⟨e, he, _, hf⟩ := decGo_code f (W * H)
  refine ⟨e.f, ?_, hf⟩
  have hl := (length_encode W H f).1
  obtain ⟨h1, h2⟩ := hdr_at W H hW hH (encB f (W * H))
  have hE : encode W H e.f = encode W H f := encode_congr hf
  unfold decodeB
  rw [if_neg (by omega)]
  unfold encode at hE ⊢
  simp only [h1, h2]
  rw [if_pos ⟨hW1, hW, hH1, hH⟩]
  rw [show (hdr W H ++ encB f (W * H)).drop 4 = encB f (W * H) from rfl, he]
  show (if encode W H e.f = _ then _ else _) = _
  rw [if_pos]
  exact hE
theorem decode_code {w : World} {W H : Nat} {f : Nat → Bool} (hW1 : 1 ≤ W) (hW : W ≤ 512) (hH1 : 1 ≤ H) (hH : H ≤ 512) {e : Ending} {w' : World} (h : DecPost w (encode W H f) e w') : Fresh2 w W H (pack (W * H) f) (.bool true) e w' := by
  obtain ⟨f', h1, h2⟩ := decodeB_code f hW1 hW hH1 hH
  unfold DecPost at h
  rw [h1] at h
  rw [pack_congr fun j hj => (h2 j hj).symm]
  exact h
end Go.Proofs.Ytebahhmajllmnaa
