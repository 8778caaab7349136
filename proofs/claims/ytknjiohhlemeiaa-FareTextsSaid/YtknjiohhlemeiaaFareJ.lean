/- Dealing out, plainly: what is bumped, and by whose rank. -/
import Derived.Test.YtknjiohhlemeiaaFareI
namespace Go.Proofs.Ytknjiohhlemeiaa
open Go Go.RowKit Coup

abbrev gi (l : List Int) (i : Nat) : Int := l.getD i 0
theorem gi_get {l : List Int} {i : Nat} (h : i < l.length) : l[i]? = some (gi l i) := by simp [gi, List.getD_eq_getElem?_getD, List.getElem?_eq_getElem h]
theorem gi_set {l : List Int} {i k : Nat} {x : Int} (h : i < l.length) : gi (l.set i x) k = if k = i then x else gi l k := by
  unfold gi
  rw [List.getD_eq_getElem?_getD, List.getD_eq_getElem?_getD]
  by_cases e : k = i
  · subst e; rw [if_pos rfl, List.getElem?_set_self h]; rfl
  · rw [if_neg e, List.getElem?_set_ne (Ne.symm e)]
/-- The first one of the greatest of the first i. -/
def amaxTo (l : List Int) : Nat → Nat
  | 0 => 0
  | i + 1 => if gi l (amaxTo l i) < gi l i then i else amaxTo l i
def amax (l : List Int) : Nat := amaxTo l l.length
/-- k stands ahead of i. -/
def bef (l : List Int) (k i : Nat) : Prop := gi l i < gi l k ∨ (gi l k = gi l i ∧ k < i)
instance (l : List Int) (k i : Nat) : Decidable (bef l k i) := by unfold bef; infer_instance
theorem amaxTo_max (l : List Int) : ∀ i, 0 < i → amaxTo l i < i ∧ ∀ k, k < i → k ≠ amaxTo l i → bef l (amaxTo l i) k := by
  intro i
  induction i with
  | zero => intro h; omega
  | succ i ih =>
    intro _
    rcases Nat.eq_zero_or_pos i with rfl | h0
    · refine ⟨by simp [amaxTo], fun k hk hne => ?_⟩
      have : k = 0 := by omega
      subst this
      simp [amaxTo] at hne
    · obtain ⟨h1, h2⟩ := ih h0
      unfold amaxTo
      by_cases hl : gi l (amaxTo l i) < gi l i
      · rw [if_pos hl]
        refine ⟨by omega, fun k hk hne => ?_⟩
        by_cases e : k = amaxTo l i
        · subst e; exact Or.inl hl
        · have := h2 k (by omega) e
          unfold bef at *; omega
      · rw [if_neg hl]
        refine ⟨by omega, fun k hk hne => ?_⟩
        by_cases e : k = i
        · subst e; unfold bef; omega
        · exact h2 k (by omega) hne
theorem amax_uniq {l : List Int} {j : Nat} (h : j < l.length) (hj : ∀ k, k < l.length → k ≠ j → bef l j k) : amax l = j := by
  obtain ⟨h1, h2⟩ := amaxTo_max l l.length (by omega)
  by_cases e : j = amaxTo l l.length
  · exact e.symm
  · exfalso
    have a := h2 j h e
    have b := hj _ h1 (Ne.symm e)
    unfold bef at *; omega
def bumps : Nat → List Int → List Int → List Int
  | 0, sh, _ => sh
  | m + 1, sh, lo => bumps m (sh.set (amax lo) (gi sh (amax lo) + 1)) (lo.set (amax lo) (-1))
theorem bumps_len : ∀ (m : Nat) (sh lo : List Int), (bumps m sh lo).length = sh.length
  | 0, _, _ => rfl
  | m + 1, sh, lo => by rw [bumps, bumps_len m]; simp
/-- How many stand ahead. -/
def rank (l : List Int) (i : Nat) : Nat := (List.range l.length).countP fun k => decide (bef l k i)
def act (l : List Int) : Nat := (List.range l.length).countP fun k => decide (0 ≤ gi l k)
theorem countP_one (p q : Nat → Bool) (j : Nat) : ∀ n, j < n → p j = true → q j = false → (∀ k, k ≠ j → k < n → p k = q k) → (List.range n).countP p = (List.range n).countP q + 1 := by
  intro n
  induction n with
  | zero => intro h; omega
  | succ n ih =>
    intro hj hp hq hne
    rw [List.range_succ, List.countP_append, List.countP_append]
    simp only [List.countP_singleton]
    by_cases e : j = n
    · subst e
      have : (List.range j).countP p = (List.range j).countP q := List.countP_congr fun k hk => by
        have hk := List.mem_range.1 hk
        rw [hne k (by omega) (by omega)]
      rw [this, hp, hq]; simp
    · rw [ih (by omega) hp hq fun k h1 h2 => hne k h1 (by omega), hne n (Ne.symm e) (by omega)]
      omega
theorem countP_zero (p : Nat → Bool) (n : Nat) (h : ∀ k, k < n → p k = false) : (List.range n).countP p = 0 := List.countP_eq_zero.2 fun k hk => by rw [h k (List.mem_range.1 hk)]; simp
theorem countP_pos (p : Nat → Bool) (n : Nat) (h : 0 < (List.range n).countP p) : ∃ k, k < n ∧ p k = true := by
  obtain ⟨k, h1, h2⟩ := List.countP_pos_iff.1 h
  exact ⟨k, List.mem_range.1 h1, h2⟩
/-- What bumping comes to: each whose rank is low enough has one more. -/
theorem bumps_rank : ∀ (m : Nat) (sh lo : List Int), sh.length = lo.length → (∀ k, k < lo.length → -1 ≤ gi lo k) → m ≤ act lo → ∀ i, i < lo.length → gi (bumps m sh lo) i = gi sh i + if 0 ≤ gi lo i ∧ rank lo i < m then 1 else 0 := by
  intro m
  induction m with
  | zero => intro sh lo _ _ _ i _; rw [bumps, if_neg (by omega)]; omega
  | succ m ih =>
    intro sh lo hl hge hm i hi
    obtain ⟨k0, hk0, hp0⟩ := countP_pos (fun k => decide (0 ≤ gi lo k)) lo.length (by unfold act at hm; omega)
    have hp0 := of_decide_eq_true hp0
    obtain ⟨hjl, hj⟩ := amaxTo_max lo lo.length (by omega)
    have hjl : amax lo < lo.length := hjl
    have hj : ∀ k, k < lo.length → k ≠ amax lo → bef lo (amax lo) k := hj
    rw [bumps]
    generalize hJ : amax lo = j at *
    have hj0 : 0 ≤ gi lo j := by
      by_cases e : k0 = j
      · subst e; exact hp0
      · have := hj k0 hk0 e; unfold bef at this; omega
    have hact : act lo = act (lo.set j (-1)) + 1 := by
      unfold act
      rw [List.length_set]
      refine countP_one _ _ j lo.length hjl (decide_eq_true hj0) ?_ fun k hk _ => ?_
      · rw [gi_set hjl, if_pos rfl]; rfl
      · rw [gi_set hjl, if_neg hk]
    have h1 := ih (sh.set j (gi sh j + 1)) (lo.set j (-1)) (by simp [hl]) (fun k hk => by
      rw [List.length_set] at hk
      rw [gi_set hjl]
      split
      · omega
      · exact hge k hk) (by omega) i (by rw [List.length_set]; exact hi)
    rw [h1, gi_set (by omega), gi_set hjl]
    by_cases e : i = j
    · subst e
      have hr : rank lo i = 0 := countP_zero _ _ fun k hk => decide_eq_false (by
        by_cases e2 : k = i
        · subst e2; unfold bef; omega
        · have := hj k hk e2
          unfold bef at *; omega)
      rw [if_pos rfl, if_pos rfl, if_neg (by omega), if_pos (by omega)]
      omega
    · rw [if_neg e, if_neg e]
      by_cases hi0 : 0 ≤ gi lo i
      · have hr : rank lo i = rank (lo.set j (-1)) i + 1 := by
          unfold rank
          rw [List.length_set]
          refine countP_one _ _ j lo.length hjl (decide_eq_true (hj i hi e)) ?_ fun k hk _ => ?_
          · refine decide_eq_false ?_
            unfold bef
            rw [gi_set hjl, gi_set hjl, if_pos rfl, if_neg e]
            omega
          · rw [decide_eq_decide]
            unfold bef
            rw [gi_set hjl, gi_set hjl, if_neg hk, if_neg e]
        by_cases hlt : rank (lo.set j (-1)) i < m
        · rw [if_pos ⟨hi0, hlt⟩, if_pos ⟨hi0, by omega⟩]
        · rw [if_neg (by omega), if_neg (by omega)]
      · rw [if_neg (by omega), if_neg (by omega)]
end Go.Proofs.Ytknjiohhlemeiaa
