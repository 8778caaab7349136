/- Dealing out, plainly: what is left, and a heap's first one. -/
import Derived.Test.YtknjiohhlemeiaaFareJ
namespace Go.Proofs.Ytknjiohhlemeiaa
open Go Go.RowKit Coup

def sharesOf (a s : Int) (ws : List Int) : List Int := ws.map fun x => a * x / s
def lostOf (a s : Int) (ws : List Int) : List Int := ws.map fun x => a * x % s
def leftOf (a : Int) (ws : List Int) : Int := a - sumI (sharesOf a (sumI ws) ws)
def dealS (a : Int) (ws : List Int) : List Int := bumps (leftOf a ws).toNat (sharesOf a (sumI ws) ws) (lostOf a (sumI ws) ws)
theorem deal_sum (a s : Int) : ∀ ws : List Int, s * sumI (sharesOf a s ws) + sumI (lostOf a s ws) = a * sumI ws
  | [] => by simp [sharesOf, lostOf, sumI]
  | x :: ws => by
    have h1 := deal_sum a s ws
    have h2 := Int.mul_ediv_add_emod (a * x) s
    simp only [sharesOf, lostOf, List.map_cons, sumI] at h1 ⊢
    rw [Int.mul_add, Int.mul_add]
    omega
theorem lost_bounds {a s : Int} (hs : 0 < s) (ws : List Int) : ∀ x ∈ lostOf a s ws, 0 ≤ x ∧ x ≤ s - 1 := by
  intro x hx
  obtain ⟨y, _, rfl⟩ := List.mem_map.1 hx
  have := Int.emod_nonneg (a * y) (Int.ne_of_gt hs)
  have := Int.emod_lt_of_pos (a * y) hs
  omega
theorem gi_mem {l : List Int} {i : Nat} (h : i < l.length) : gi l i ∈ l := List.mem_of_getElem? (gi_get h)
theorem act_all {l : List Int} (h : ∀ x ∈ l, 0 ≤ x) : act l = l.length := by
  unfold act
  rw [List.countP_eq_length.2, List.length_range]
  intro k hk
  exact decide_eq_true (h _ (gi_mem (List.mem_range.1 hk)))
theorem mem_le_sumI {l : List Int} (h : ∀ x ∈ l, 0 ≤ x) : ∀ x ∈ l, x ≤ sumI l := by
  induction l with
  | nil => intro x hx; simp at hx
  | cons y l ih =>
    intro x hx
    have h1 := sumI_ge l 0 fun z hz => h z (by simp [hz])
    have h2 := h y (by simp)
    simp only [sumI]
    rcases List.mem_cons.1 hx with rfl | hx
    · omega
    · have := ih (fun z hz => h z (by simp [hz])) x hx; omega
/-- What is left is no more than there are weights. -/
theorem left_bounds {a : Int} {ws : List Int} (hs : 0 < sumI ws) : 0 ≤ leftOf a ws ∧ leftOf a ws ≤ ws.length ∧ leftOf a ws * sumI ws = sumI (lostOf a (sumI ws) ws) := by
  have h1 := deal_sum a (sumI ws) ws
  have h2 := lost_bounds (a := a) hs ws
  have h3 := sumI_ge _ 0 fun x hx => (h2 x hx).1
  have h4 := sumI_le _ (sumI ws - 1) fun x hx => (h2 x hx).2
  have hlen : (lostOf a (sumI ws) ws).length = ws.length := by simp [lostOf]
  rw [hlen] at h3 h4
  have e : leftOf a ws * sumI ws = sumI (lostOf a (sumI ws) ws) := by
    unfold leftOf
    rw [Int.sub_mul, Int.mul_comm (sumI (sharesOf a (sumI ws) ws))]
    omega
  refine ⟨?_, ?_, e⟩
  · rcases Int.lt_or_le (leftOf a ws) 0 with h | h
    · have := Int.mul_neg_of_neg_of_pos h hs; omega
    · exact h
  · have h5 : leftOf a ws * sumI ws ≤ ws.length * sumI ws := by
      rw [e]
      have : (ws.length : Int) * (sumI ws - 1) = ws.length * sumI ws - ws.length := by rw [Int.mul_sub]; omega
      omega
    exact Int.le_of_mul_le_mul_right h5 hs
theorem share_bounds {a s : Int} {ws : List Int} (ha : 0 ≤ a) (hs : 0 < s) (hw : ∀ x ∈ ws, 0 ≤ x ∧ x ≤ s) : ∀ x ∈ sharesOf a s ws, 0 ≤ x ∧ x ≤ a := by
  intro x hx
  obtain ⟨y, hy, rfl⟩ := List.mem_map.1 hx
  obtain ⟨h0, h1⟩ := hw y hy
  refine ⟨Int.ediv_nonneg (Int.mul_nonneg ha h0) (Int.le_of_lt hs), ?_⟩
  have := Int.ediv_le_ediv hs (Int.mul_le_mul_of_nonneg_left h1 ha)
  rwa [Int.mul_ediv_cancel _ (Int.ne_of_gt hs)] at this

/-- What was lost, each with its place: those that were not told yet. -/
def pairsF : Nat → List Int → List LossT
  | _, [] => []
  | k, x :: l => if 0 ≤ x then (x.toNat, k) :: pairsF (k + 1) l else pairsF (k + 1) l
theorem pairsF_mem (y : LossT) : ∀ (l : List Int) (k : Nat), y ∈ pairsF k l ↔ ∃ i, i < l.length ∧ 0 ≤ gi l i ∧ y = ((gi l i).toNat, k + i)
  | [], k => by simp [pairsF]
  | x :: l, k => by
    have ih := pairsF_mem y l (k + 1)
    have hs : ∀ i, gi (x :: l) (i + 1) = gi l i := fun i => by simp [gi]
    have h0 : gi (x :: l) 0 = x := rfl
    constructor
    · intro h
      unfold pairsF at h
      split at h
      · rcases List.mem_cons.1 h with h | h
        · exact ⟨0, by simp, by rw [h0]; assumption, by rw [h0]; exact h⟩
        · obtain ⟨i, h1, h2, h3⟩ := ih.1 h
          exact ⟨i + 1, by simp; omega, by rw [hs]; exact h2, by rw [hs, h3]; congr 1; omega⟩
      · obtain ⟨i, h1, h2, h3⟩ := ih.1 h
        exact ⟨i + 1, by simp; omega, by rw [hs]; exact h2, by rw [hs, h3]; congr 1; omega⟩
    · rintro ⟨i, h1, h2, h3⟩
      unfold pairsF
      cases i with
      | zero =>
        rw [h0] at h2 h3
        rw [if_pos h2]
        exact List.mem_cons.2 (Or.inl h3)
      | succ i =>
        rw [hs] at h2 h3
        have hm : y ∈ pairsF (k + 1) l := ih.2 ⟨i, by simp at h1; omega, h2, by rw [h3]; congr 1; omega⟩
        split
        · exact List.mem_cons.2 (Or.inr hm)
        · exact hm
theorem pairsF_set : ∀ (l : List Int) (k j : Nat), j < l.length → 0 ≤ gi l j → (pairsF k l).Perm (((gi l j).toNat, k + j) :: pairsF k (l.set j (-1)))
  | [], k, j, h, _ => by simp at h
  | x :: l, k, 0, _, h0 => by
    have e : gi (x :: l) 0 = x := rfl
    rw [e] at h0 ⊢
    simp only [List.set_cons_zero, pairsF, if_pos h0]
    rw [if_neg (by decide)]
    exact .refl _
  | x :: l, k, j + 1, h, h0 => by
    have e : gi (x :: l) (j + 1) = gi l j := by simp [gi]
    rw [e] at h0 ⊢
    have ih := pairsF_set l (k + 1) j (by simpa using h) h0
    rw [show k + 1 + j = k + (j + 1) by omega] at ih
    simp only [List.set_cons_succ, pairsF]
    split
    · exact (ih.cons _).trans (List.Perm.swap _ _ _)
    · exact ih
theorem pairsF_snoc : ∀ (l : List Int) (k : Nat) (x : Int), 0 ≤ x → pairsF k (l ++ [x]) = pairsF k l ++ [(x.toNat, k + l.length)]
  | [], k, x, h => by simp [pairsF, h]
  | y :: l, k, x, h => by
    simp only [List.cons_append, pairsF, pairsF_snoc l (k + 1) x h, List.length_cons]
    rw [show k + 1 + l.length = k + (l.length + 1) by omega]
    split <;> rfl
theorem pairsF_len : ∀ (l : List Int) (k : Nat), (pairsF k l).length ≤ l.length
  | [], _ => Nat.le_refl _
  | x :: l, k => by
    have := pairsF_len l (k + 1)
    unfold pairsF
    split
    · simp; omega
    · simp; omega
theorem act_pos {lo : List Int} {H : List LossT} (hp : H.Perm (pairsF 0 lo)) (h : 0 < act lo) : 0 < H.length := by
  obtain ⟨k, hk, h0⟩ := countP_pos _ _ h
  have hm : ((gi lo k).toNat, 0 + k) ∈ pairsF 0 lo := (pairsF_mem _ _ _).2 ⟨k, hk, of_decide_eq_true h0, rfl⟩
  have := hp.mem_iff.2 hm
  exact List.length_pos_of_mem this
/-- The heap's first one is the greatest loss, the first of alike ones. -/
theorem heap_first {lo : List Int} {H : List LossT} (hp : H.Perm (pairsF 0 lo)) (hh : HeapB H H.length) (hn : 0 < H.length) :
    amax lo < lo.length ∧ 0 ≤ gi lo (amax lo) ∧ (at0 H 0).2 = amax lo ∧ ∀ H', (at0 H 0 :: H').Perm H → H'.Perm (pairsF 0 (lo.set (amax lo) (-1))) := by
  have hx : at0 H 0 ∈ H := List.mem_of_getElem? (at0_get hn)
  obtain ⟨j, h1, h2, h3⟩ := (pairsF_mem _ _ _).1 (hp.mem_iff.1 hx)
  rw [Nat.zero_add] at h3
  have hj : ∀ k, k < lo.length → k ≠ j → bef lo j k := fun k hk hne => by
    by_cases h0 : 0 ≤ gi lo k
    · have hm : ((gi lo k).toNat, 0 + k) ∈ H := hp.mem_iff.2 ((pairsF_mem _ _ _).2 ⟨k, hk, h0, rfl⟩)
      obtain ⟨m, hm⟩ := List.mem_iff_getElem?.1 hm
      have hml := (List.getElem?_eq_some_iff.1 hm).1
      have ht := hh.top m hml
      have e : at0 H m = ((gi lo k).toNat, 0 + k) := by
        have := at0_get hml; rw [hm] at this; exact (Option.some.inj this).symm
      rw [e, h3] at ht
      unfold ltH at ht
      unfold bef
      simp only at ht
      omega
    · unfold bef; omega
  have hJ := amax_uniq h1 hj
  rw [hJ]
  refine ⟨h1, h2, by rw [h3], fun H' hp' => ?_⟩
  have := (hp'.trans hp).trans (pairsF_set lo 0 j h1 h2)
  rw [h3, Nat.zero_add] at this
  exact this.cons_inv
end Go.Proofs.Ytknjiohhlemeiaa
