/- Heaps of what was lost: plain lists. -/
import Derived.Test.YtknjiohhlemeiaaFareE
namespace Go.Proofs.Ytknjiohhlemeiaa
open Go Go.RowKit Coup

abbrev LossT := Nat × Nat
/-- Ahead of: more was lost, or as much, at a lesser place. -/
def ltH (a b : LossT) : Prop := b.1 < a.1 ∨ (a.1 = b.1 ∧ a.2 < b.2)
instance (a b : LossT) : Decidable (ltH a b) := by unfold ltH; infer_instance
def at0 (H : List LossT) (i : Nat) : LossT := H.getD i (0, 0)
theorem at0_get {H : List LossT} {i : Nat} (h : i < H.length) : H[i]? = some (at0 H i) := by rw [at0, List.getD_eq_getElem?_getD, List.getElem?_eq_getElem h]; rfl
def swapH (H : List LossT) (i j : Nat) : List LossT := (H.set i (at0 H j)).set j (at0 H i)
theorem swapH_len (H : List LossT) (i j : Nat) : (swapH H i j).length = H.length := by simp [swapH]
theorem swapH_at {H : List LossT} {i j k : Nat} (hi : i < H.length) (hj : j < H.length) : at0 (swapH H i j) k = if k = j then at0 H i else if k = i then at0 H j else at0 H k := by
  unfold swapH
  by_cases h1 : k = j
  · subst h1
    rw [if_pos rfl, at0, List.getD_eq_getElem?_getD, List.getElem?_set_self (by rw [List.length_set]; exact hj)]; rfl
  · rw [if_neg h1]
    by_cases h2 : k = i
    · subst h2
      rw [if_pos rfl, at0, List.getD_eq_getElem?_getD, List.getElem?_set_ne (Ne.symm h1), List.getElem?_set_self hi]; rfl
    · rw [if_neg h2, at0, List.getD_eq_getElem?_getD, List.getElem?_set_ne (Ne.symm h1), List.getElem?_set_ne (Ne.symm h2), ← List.getD_eq_getElem?_getD]; rfl
theorem swapH_perm {H : List LossT} {i j : Nat} (hi : i < H.length) (hj : j < H.length) : (swapH H i j).Perm H := by
  have h1 : at0 H i = H[i] := by rw [at0, List.getD_eq_getElem?_getD, List.getElem?_eq_getElem hi]; rfl
  have h2 : at0 H j = H[j] := by rw [at0, List.getD_eq_getElem?_getD, List.getElem?_eq_getElem hj]; rfl
  rw [swapH, h1, h2]
  exact List.set_set_perm hi hj
def HeapB (H : List LossT) (n : Nat) : Prop := ∀ k, 0 < k → k < n → ¬ ltH (at0 H k) (at0 H ((k - 1) / 2))
structure UpI (H : List LossT) (j : Nat) : Prop where
  lt : j < H.length
  le : ∀ k, 0 < k → k < H.length → k ≠ j → ¬ ltH (at0 H k) (at0 H ((k - 1) / 2))
  two : ∀ k, 0 < k → k < H.length → (k - 1) / 2 = j → 0 < j → ¬ ltH (at0 H k) (at0 H ((j - 1) / 2))
theorem UpI.done {H : List LossT} {j : Nat} (h : UpI H j) (hd : j = 0 ∨ ¬ ltH (at0 H j) (at0 H ((j - 1) / 2))) : HeapB H H.length := fun k h0 hk => by
  by_cases e : k = j
  · subst e; rcases hd with h1 | h1
    · omega
    · exact h1
  · exact h.le k h0 hk e
theorem UpI.step {H : List LossT} {j : Nat} (h : UpI H j) (hj : 0 < j) (hl : ltH (at0 H j) (at0 H ((j - 1) / 2))) : UpI (swapH H ((j - 1) / 2) j) ((j - 1) / 2) := by
  have hjl := h.lt
  generalize hi : (j - 1) / 2 = i at *
  have hij : i < j := by omega
  have sw : ∀ k, at0 (swapH H i j) k = if k = j then at0 H i else if k = i then at0 H j else at0 H k := fun k => swapH_at (by omega) hjl
  have trans : ∀ a b c : LossT, ¬ ltH a b → ¬ ltH b c → ¬ ltH a c := fun a b c => by unfold ltH; omega
  refine ⟨by rw [swapH_len]; omega, fun k h0 hk hne => ?_, fun k h0 hk hp hi0 => ?_⟩
  · rw [swapH_len] at hk
    rw [sw k, sw ((k - 1) / 2)]
    by_cases e1 : k = j
    · subst e1
      rw [if_pos rfl, hi, if_neg (by omega), if_pos rfl]
      revert hl; unfold ltH; omega
    · rw [if_neg e1, if_neg hne]
      by_cases e2 : (k - 1) / 2 = j
      · rw [if_pos e2]
        have := h.two k h0 hk e2 hj
        rwa [hi] at this
      · rw [if_neg e2]
        have h1 := h.le k h0 hk e1
        by_cases e3 : (k - 1) / 2 = i
        · rw [if_pos e3]
          rw [e3] at h1
          revert hl h1; unfold ltH; omega
        · rw [if_neg e3]; exact h1
  · rw [swapH_len] at hk
    rw [sw k, sw ((i - 1) / 2), if_neg (show ¬ (i - 1) / 2 = j by omega), if_neg (show ¬ (i - 1) / 2 = i by omega)]
    have h2 := h.le i hi0 (by omega) (by omega)
    by_cases e1 : k = j
    · rw [if_pos e1]; exact h2
    · rw [if_neg e1, if_neg (by omega)]
      have h1 := h.le k h0 hk e1
      rw [hp] at h1
      exact trans _ _ _ h1 h2
structure DownI (H : List LossT) (i n : Nat) : Prop where
  lt : n ≤ H.length
  le : ∀ k, 0 < k → k < n → (k - 1) / 2 ≠ i → ¬ ltH (at0 H k) (at0 H ((k - 1) / 2))
  two : ∀ k, 0 < k → k < n → (k - 1) / 2 = i → 0 < i → ¬ ltH (at0 H k) (at0 H ((i - 1) / 2))
theorem DownI.done0 {H : List LossT} {i n : Nat} (h : DownI H i n) (hd : n ≤ 2 * i + 1) : HeapB H n := fun k h0 hk => h.le k h0 hk (by omega)
theorem DownI.done {H : List LossT} {i n j : Nat} (h : DownI H i n) (hj : j = 2 * i + 1 ∨ j = 2 * i + 2) (hjn : j < n) (h1 : ¬ ltH (at0 H (2 * i + 1)) (at0 H j)) (h2 : 2 * i + 2 < n → ¬ ltH (at0 H (2 * i + 2)) (at0 H j)) (hd : ¬ ltH (at0 H j) (at0 H i)) : HeapB H n := fun k h0 hk => by
  by_cases e : (k - 1) / 2 = i
  · rw [e]
    have : k = 2 * i + 1 ∨ k = 2 * i + 2 := by omega
    rcases this with rfl | rfl
    · revert h1 hd; unfold ltH; omega
    · have h3 := h2 hk
      revert h3 hd; unfold ltH; omega
  · exact h.le k h0 hk e
theorem DownI.step {H : List LossT} {i n j : Nat} (h : DownI H i n) (hj : j = 2 * i + 1 ∨ j = 2 * i + 2) (hjn : j < n) (h1 : ¬ ltH (at0 H (2 * i + 1)) (at0 H j)) (h2 : 2 * i + 2 < n → ¬ ltH (at0 H (2 * i + 2)) (at0 H j)) (hd : ltH (at0 H j) (at0 H i)) : DownI (swapH H i j) j n := by
  have hl := h.lt
  have sw : ∀ k, at0 (swapH H i j) k = if k = j then at0 H i else if k = i then at0 H j else at0 H k := fun k => swapH_at (by omega) (by omega)
  have kids : ∀ k, 0 < k → k < n → (k - 1) / 2 = i → ¬ ltH (at0 H k) (at0 H j) := fun k h0 hk e => by
    have : k = 2 * i + 1 ∨ k = 2 * i + 2 := by omega
    rcases this with rfl | rfl
    · exact h1
    · exact h2 hk
  refine ⟨by rw [swapH_len]; exact hl, fun k h0 hk hne => ?_, fun k h0 hk hp hj0 => ?_⟩
  · rw [sw k, sw ((k - 1) / 2), if_neg hne]
    by_cases e1 : k = j
    · subst e1
      rw [if_pos rfl, if_pos (show (k - 1) / 2 = i by omega)]
      revert hd; unfold ltH; omega
    · rw [if_neg e1]
      by_cases e2 : k = i
      · rw [if_pos e2, if_neg (by omega)]
        have hi0 : 0 < i := by omega
        have h3 := h.two j (by omega) hjn (by omega) hi0
        rw [e2]; exact h3
      · rw [if_neg e2]
        by_cases e3 : (k - 1) / 2 = i
        · rw [if_pos e3]; exact kids k h0 hk e3
        · rw [if_neg e3]; exact h.le k h0 hk e3
  · rw [sw k, sw ((j - 1) / 2), if_neg (show ¬ k = j by omega), if_neg (show ¬ k = i by omega), if_neg (show ¬ (j - 1) / 2 = j by omega), if_pos (show (j - 1) / 2 = i by omega)]
    have := h.le k h0 hk (by omega)
    rwa [hp] at this
/-- The first one of a heap is ahead of all. -/
theorem HeapB.top {H : List LossT} {n : Nat} (h : HeapB H n) : ∀ k, k < n → ¬ ltH (at0 H k) (at0 H 0) := by
  intro k
  induction k using Nat.strongRecOn with
  | _ k ih =>
    intro hk
    by_cases h0 : k = 0
    · subst h0; unfold ltH; omega
    · have h1 := h k (by omega) hk
      have h2 := ih ((k - 1) / 2) (by omega) (by omega)
      revert h1 h2; unfold ltH; omega
theorem heap_snoc {H : List LossT} (h : HeapB H H.length) (x : LossT) : UpI (H ++ [x]) H.length := by
  have e : ∀ k, k < H.length → at0 (H ++ [x]) k = at0 H k := fun k hk => by
    rw [at0, at0, List.getD_eq_getElem?_getD, List.getD_eq_getElem?_getD, List.getElem?_append_left hk]
  refine ⟨by simp, fun k h0 hk hne => ?_, fun k h0 hk hp _ => ?_⟩
  · simp at hk
    rw [e k (by omega), e _ (by omega)]
    exact h k h0 (by omega)
  · simp at hk; omega
theorem heap_pop {H : List LossT} {n : Nat} (h : HeapB H H.length) (hn : H.length = n + 1) : DownI (swapH H 0 n) 0 n := by
  have sw : ∀ k, at0 (swapH H 0 n) k = if k = n then at0 H 0 else if k = 0 then at0 H n else at0 H k := fun k => swapH_at (by omega) (by omega)
  refine ⟨by rw [swapH_len]; omega, fun k h0 hk hne => ?_, fun k h0 hk hp hi => absurd hi (Nat.lt_irrefl 0)⟩
  rw [sw k, sw ((k - 1) / 2), if_neg (by omega), if_neg (by omega), if_neg (by omega), if_neg hne]
  exact h k h0 (by omega)
end Go.Proofs.Ytknjiohhlemeiaa
