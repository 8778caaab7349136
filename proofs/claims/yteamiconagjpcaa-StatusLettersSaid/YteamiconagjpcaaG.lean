/- slices.Reverse of a slice that the caller has for its own. -/
import Derived.Test.YteamiconagjpcaaF
namespace Go.Proofs.Yteamiconagjpcaa
open Go Go.RowKit

theorem ownsRow_set {w : World} {base : Nat} {e : TypeId} {g n c : Nat} {xs : List Value} (h : w.ownsRow base e 1 (.slice (some ⟨g, 0, none⟩) n c) n xs) (t : Nat) (u : Value) :
    (w.setCell ⟨g, t, none⟩ u).ownsRow base e 1 (.slice (some ⟨g, 0, none⟩) n c) n (xs.set t u) := by
  refine ⟨by rw [List.length_set]; exact h.1, ?_⟩
  rcases h.2 with ⟨hv, _⟩ | ⟨g', cap, cur, hv, hb, hg, h1, h2, h3, h4⟩
  · cases hv
  · cases hv
    refine .inr ⟨g, c, cur.setIfInBounds t u, rfl, hb, ?_, h1, h2, by simpa using h3, ?_⟩
    · simp only [World.setCell, Array.getElem?_modify, if_pos, hg, Option.map_some]
      rfl
    · rw [← h4, Array.toList_setIfInBounds, List.take_set]

def revTo (zs : List Int) : Nat → List Int
  | 0 => zs
  | k + 1 => ((revTo zs k).set k (nth (revTo zs k) (zs.length - 1 - k))).set (zs.length - 1 - k) (nth (revTo zs k) k)
theorem revTo_len (zs : List Int) : ∀ k, (revTo zs k).length = zs.length
  | 0 => rfl
  | k + 1 => by rw [revTo, List.length_set, List.length_set, revTo_len zs k]
theorem nth_set (l : List Int) (i t : Nat) (x : Int) (hi : i < l.length) : nth (l.set i x) t = if i = t then x else nth l t := by
  simp only [nth, List.getD_eq_getElem?_getD, List.getElem?_set]
  split <;> simp_all
theorem revTo_nth (zs : List Int) : ∀ k, 2 * k ≤ zs.length → ∀ t, t < zs.length → nth (revTo zs k) t = if t < k ∨ zs.length - k ≤ t then nth zs (zs.length - 1 - t) else nth zs t
  | 0, _, t, ht => by rw [if_neg (by omega)]; rfl
  | k + 1, hk, t, ht => by
    have hl := revTo_len zs k
    rw [revTo, nth_set _ _ _ _ (by rw [List.length_set]; omega), nth_set _ _ _ _ (by omega)]
    have ih := revTo_nth zs k (by omega)
    by_cases h1 : zs.length - 1 - k = t
    · rw [if_pos h1, ih k (by omega), if_neg (by omega), if_pos (by omega)]
      congr 1; omega
    · rw [if_neg h1]
      by_cases h2 : k = t
      · rw [if_pos h2, ih _ (by omega), if_neg (by omega), if_pos (by omega)]
        congr 1; omega
      · rw [if_neg h2, ih t ht]
        by_cases h3 : t < k ∨ zs.length - k ≤ t
        · rw [if_pos h3, if_pos (by omega)]
        · rw [if_neg h3, if_neg (by omega)]
theorem revTo_end (zs : List Int) (k : Nat) (hk : 2 * k ≤ zs.length) (h : zs.length ≤ 2 * k + 1) : revTo zs k = zs.reverse := by
  refine eq_of_getD _ _ (by rw [revTo_len, List.length_reverse]) fun t ht => ?_
  rw [revTo_len] at ht
  have e : nth zs.reverse t = nth zs (zs.length - 1 - t) := by
    simp only [nth, List.getD_eq_getElem?_getD]
    rw [List.getElem?_reverse ht]
  rw [e, revTo_nth zs k hk t ht]
  by_cases h3 : t < k ∨ zs.length - k ≤ t
  · rw [if_pos h3]
  · rw [if_neg h3]; congr 1; omega

/-- A cell of an owned row of numbers. -/
theorem own_cell {w : World} {base : Nat} {e : TypeId} {g n c : Nat} {zs : List Int} (h : w.ownsRow base e 1 (.slice (some ⟨g, 0, none⟩) n c) n (zs.map (.int .i64))) (k : Nat) (hk : k < n) : w.cell? ⟨g, k, none⟩ = some (.int .i64 (nth zs k)) ∧ w.frozen? ⟨g, k, none⟩ = false := by
  have hl := h.1
  rw [List.length_map, Nat.mul_one] at hl
  constructor
  · have := h.cells (g := g) rfl k (.int .i64 (nth zs k)) (by rw [List.getElem?_map, nth, List.getD_eq_getElem?_getD, List.getElem?_eq_getElem (by omega)]; rfl)
    rw [Addr.add_lit, Nat.zero_add] at this
    exact this
  · rcases h.2 with ⟨hv, _⟩ | ⟨g', cap, cur, hv, hb, hg, _⟩
    · cases hv
    · cases hv
      simp [World.frozen?, hg]

theorem reverse28 (g n c base : Nat) (zs : List Int) (w : World) (h : w.ownsRow base 22 1 (.slice (some ⟨g, 0, none⟩) n c) n (zs.map (.int .i64))) (hn : n ≤ 1000) (hb : base ≤ g) :
    Calls Try.prog 28 #[.slice (some ⟨g, 0, none⟩) n c] w fun e w' => e = .returned (.tuple #[]) ∧ w'.ownsRow base 22 1 (.slice (some ⟨g, 0, none⟩) n c) n (zs.reverse.map (.int .i64)) ∧ Below base w w' := by
  go_enter Try.func28, Try.ntmps28
  go_wp2
  go_loopw [2, 3] (fun i j wr => ∃ k : Nat, 2 * k ≤ n ∧ i = .int .i64 k ∧ j = .int .i64 ((n : Int) - 1 - k) ∧ wr.ownsRow base 22 1 (.slice (some ⟨g, 0, none⟩) n c) n ((revTo zs k).map (.int .i64)) ∧ Below base w wr) (fun i _ _ => n - (intOf i).toNat)
  case atStart => exact ⟨0, by omega, rfl, by go_num, h, Below.refl _ _⟩
  case round =>
    obtain ⟨k, hk, rfl, rfl, hown, hbw⟩ := hrel
    by_cases hlt : (k : Int) < (n : Int) - 1 - k
    · have hk2 : n - 1 - k < n := by omega
      obtain ⟨h1, f1⟩ := own_cell hown k (by omega)
      obtain ⟨h2, f2⟩ := own_cell hown (n - 1 - k) hk2
      have hx0 : (0 : Int) ≤ (n : Int) - 1 - k := by omega
      have hx1 : (n : Int) - 1 - k < n := by omega
      have hx2 : (k : Int) < n := by omega
      have hx3 : ((n : Int) - 1 - k).toNat = n - 1 - k := by omega
      have hl := h.1
      rw [List.length_map, Nat.mul_one] at hl
      have HL := Lib.hid hl; clear hl
      have hown2 := (ownsRow_set (ownsRow_set hown k (.int .i64 (nth (revTo zs k) (n - 1 - k)))) (n - 1 - k) (.int .i64 (nth (revTo zs k) k)))
      rw [← List.map_set, ← List.map_set] at hown2
      go_wp2
      go_region
      go_wp2
      go_roundw
      case rel => exact ⟨k + 1, by omega, by go_num, by go_num, by rw [revTo, HL.out]; exact hown2, ((hbw.setCell hb _).setCell hb _).drew⟩
      case measure => simp [intOf]; omega
    · have hl := h.1
      rw [List.length_map, Nat.mul_one] at hl
      have hr := revTo_end zs k (by omega) (by omega)
      rw [hr] at hown
      have HL := Lib.hid hl; clear hl
      clear hr
      go_wp2
      go_end0
      exact ⟨rfl, by rw [← List.map_reverse]; exact hown, hbw⟩
end Go.Proofs.Yteamiconagjpcaa
