/- Lists of lists of halves in memory. -/
import Derived.Test.YtnlocpldghpfcaaHalfU
namespace Go.Proofs.Ytnlocpldghpfcaa
open Go Go.RowKit Coup

theorem SlsAt_apart {w : World} {lo : Nat} {o o' : Option Nat} {vs : List Value} {L : List (List UInt8)} (h : SlsAt w lo o vs L) (ho : ∀ g, o' = some g → g < lo) : SlsAt w lo o' vs L := ⟨h.len, fun i l hl => by
  obtain ⟨b, off, c, h1, h2, h3, _, h5, h6⟩ := h.at_ i l hl
  exact ⟨b, off, c, h1, h2, h3, fun e => by have := ho b e.symm; omega, h5, h6⟩⟩
/-- Slices of slices of halves, one for each row, none in block o. -/
structure AllAt (w : World) (o : Option Nat) (vs : List Value) (R : List RowD) : Prop where
  len : vs.length = R.length
  at_ : ∀ (i : Nat) (x : RowD), R[i]? = some x → ∃ b off cp ws, vs[i]? = some (.slice (some ⟨b, off, none⟩) (manyN x.2.2.length) cp) ∧ SlAt w (some ⟨b, off, none⟩) (manyN x.2.2.length) 1 ws ∧ b < w.heap.size ∧ some b ≠ o ∧ SlsAt w 0 o ws (halvesR x)
theorem AllAt.nil (w : World) (o : Option Nat) : AllAt w o [] [] := ⟨rfl, fun i x h => by simp at h⟩
theorem AllAt.new {w w' : World} {o : Option Nat} {vs : List Value} {R : List RowD} (h : AllAt w o vs R) (hb : Below w.heap.size w w') : AllAt w' o vs R := ⟨h.len, fun i x hx => by
  obtain ⟨b, off, cp, ws, h1, h2, h3, h4, h5⟩ := h.at_ i x hx
  exact ⟨b, off, cp, ws, h1, h2.below hb (Nat.le_refl _), Nat.lt_of_lt_of_le h3 hb.size, h4, h5.new hb⟩⟩
theorem AllAt.grow {w w' : World} {v v' : Value} {vs : List Value} {R : List RowD} (h : AllAt w v.ownBlock vs R) (hg : w.grownBy w' v.ownBlock) (hf : ∀ g, v'.ownBlock = some g → v.ownBlock = some g ∨ w.heap.size ≤ g) : AllAt w' v'.ownBlock vs R := ⟨h.len, fun i x hx => by
  obtain ⟨b, off, cp, ws, h1, h2, h3, h4, h5⟩ := h.at_ i x hx
  refine ⟨b, off, cp, ws, h1, h2.kpd (Kp.of_grown hg) fun b' o' e hm => ?_, Nat.lt_of_lt_of_le h3 hg.size, fun e => (hf b e.symm).elim (fun e' => h4 e'.symm) (fun e' => by omega), h5.grow hg hf⟩
  cases e
  simp only [Option.mem_toList] at hm
  exact h4 hm.symm⟩
theorem AllAt.snoc {w : World} {o : Option Nat} {vs ws : List Value} {R : List RowD} {x : RowD} {b off cp : Nat} (h : AllAt w o vs R) (h2 : SlAt w (some ⟨b, off, none⟩) (manyN x.2.2.length) 1 ws) (h3 : b < w.heap.size) (h4 : some b ≠ o) (h5 : SlsAt w 0 o ws (halvesR x)) :
    AllAt w o (vs ++ [.slice (some ⟨b, off, none⟩) (manyN x.2.2.length) cp]) (R ++ [x]) := ⟨by simp [h.len], fun i x' hx => by
  by_cases hi : i < R.length
  · rw [List.getElem?_append_left hi] at hx
    obtain ⟨b', off', cp', ws', e1, e2, e3, e4, e5⟩ := h.at_ i x' hx
    exact ⟨b', off', cp', ws', by rw [List.getElem?_append_left (by rw [h.len]; exact hi)]; exact e1, e2, e3, e4, e5⟩
  · have hi' : i = R.length := by
      have := (List.getElem?_eq_some_iff.1 hx).1
      simp at this; omega
    subst hi'
    simp at hx
    subst hx
    exact ⟨b, off, cp, ws, by rw [← h.len]; simp, h2, h3, h4, h5⟩⟩
end Go.Proofs.Ytnlocpldghpfcaa
