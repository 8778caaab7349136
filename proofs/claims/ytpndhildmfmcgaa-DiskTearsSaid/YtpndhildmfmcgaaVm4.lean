/- Slices of slices of bytes. -/
import Derived.Test.YtpndhildmfmcgaaVm3
namespace Coup
open Go Go.RowKit

/-- Slices, one for each list of bytes, none in block o. -/
structure SlsAt (w : World) (lo : Nat) (o : Option Nat) (vs : List Value) (L : List (List UInt8)) : Prop where
  len : vs.length = L.length
  at_ : ∀ (i : Nat) l, L[i]? = some l → ∃ b off c, vs[i]? = some (.slice (some ⟨b, off, none⟩) l.length c) ∧ SlAt w (some ⟨b, off, none⟩) l.length 1 (bv l) ∧ b < w.heap.size ∧ some b ≠ o ∧ l.length ≤ c ∧ lo ≤ b
namespace SlsAt
variable {w w' : World} {lo : Nat} {o : Option Nat} {vs : List Value} {L : List (List UInt8)}
theorem nil (w : World) (lo : Nat) (o : Option Nat) : SlsAt w lo o [] [] := ⟨rfl, fun i l h => by simp at h⟩
theorem kp {M : List Nat} (h : SlsAt w lo o vs L) (k : Kp M w w') (hM : ∀ g, g ∈ M → w.heap.size ≤ g ∨ o = some g) : SlsAt w' lo o vs L := ⟨h.len, fun i l hl => by
  obtain ⟨b, off, c, h1, h2, h3, h4, h5⟩ := h.at_ i l hl
  refine ⟨b, off, c, h1, h2.kpd k fun b' o' e hm => ?_, Nat.lt_of_lt_of_le h3 k.size, h4, h5⟩
  cases e
  exact (hM b hm).elim (fun e => by omega) fun e => h4 e.symm⟩
theorem new (h : SlsAt w lo o vs L) (hb : Below w.heap.size w w') : SlsAt w' lo o vs L := h.kp (M := []) (Kp.of_below hb) (by simp)
theorem to {o' : Option Nat} (h : SlsAt w lo o vs L) (ho : ∀ g, o' = some g → o = some g ∨ w.heap.size ≤ g) : SlsAt w lo o' vs L := ⟨h.len, fun i l hl => by
  obtain ⟨b, off, c, h1, h2, h3, h4, h5⟩ := h.at_ i l hl
  exact ⟨b, off, c, h1, h2, h3, fun e => (ho b e.symm).elim (fun e' => h4 e'.symm) (fun e' => by omega), h5⟩⟩
/-- The list of the slices itself is grown. -/
theorem grow {v v' : Value} (h : SlsAt w lo v.ownBlock vs L) (hg : w.grownBy w' v.ownBlock) (hf : ∀ g, v'.ownBlock = some g → v.ownBlock = some g ∨ w.heap.size ≤ g) : SlsAt w' lo v'.ownBlock vs L := ⟨h.len, fun i l hl => by
  obtain ⟨b, off, c, h1, h2, h3, h4, h5⟩ := h.at_ i l hl
  refine ⟨b, off, c, h1, h2.kpd (Kp.of_grown hg) fun b' o' e hm => ?_, Nat.lt_of_lt_of_le h3 hg.size, fun e => (hf b e.symm).elim (fun e' => h4 e'.symm) (fun e' => by omega), h5⟩
  cases e
  simp only [Option.mem_toList] at hm
  exact h4 hm.symm⟩
theorem snoc {b off c : Nat} {l : List UInt8} (h : SlsAt w lo o vs L) (h2 : SlAt w (some ⟨b, off, none⟩) l.length 1 (bv l)) (h3 : b < w.heap.size) (h4 : some b ≠ o) (h5 : l.length ≤ c) (h6 : lo ≤ b) : SlsAt w lo o (vs ++ [.slice (some ⟨b, off, none⟩) l.length c]) (L ++ [l]) :=
  ⟨by simp [h.len], fun i l' hl => by
    by_cases hi : i < L.length
    · rw [List.getElem?_append_left hi] at hl
      obtain ⟨b', off', c', e1, e2, e3, e4, e5⟩ := h.at_ i l' hl
      exact ⟨b', off', c', by rw [List.getElem?_append_left (by rw [h.len]; exact hi)]; exact e1, e2, e3, e4, e5⟩
    · have hi' : i = L.length := by
        have := (List.getElem?_eq_some_iff.1 hl).1
        simp at this; omega
      subst hi'
      simp at hl
      subst hl
      exact ⟨b, off, c, by rw [← h.len]; simp, h2, h3, h4, h5, h6⟩⟩
theorem mono {lo' : Nat} (h : SlsAt w lo o vs L) (hl : lo' ≤ lo) : SlsAt w lo' o vs L := ⟨h.len, fun i l hl' => by
  obtain ⟨b, off, c, h1, h2, h3, h4, h5, h6⟩ := h.at_ i l hl'
  exact ⟨b, off, c, h1, h2, h3, h4, h5, Nat.le_trans hl h6⟩⟩
end SlsAt
end Coup
