/- What a list of rows (a pair of numbers, and a slice of bytes, each) that came in says of the memory. -/
import Derived.Test.YtpndhildmfmcgaaVm8
namespace Coup
open Go Go.RowKit Go.ChangeShapes Go.WideShapes Go.Deep
section
variable {H : Type} {enc : TypeId × Value → H} {P : Program} {W : World} {base : Nat} {spare : Nat → Bool} {held : Bool}
/-- The cells of one row. -/
def RowCells (W : World) (c k : Int) (l : List UInt8) (cs : List Value) : Prop := ∃ q cp, cs = [.int .u64 c, .int .i64 k, .slice q l.length cp] ∧ SlAt W q l.length 1 (bv l)
theorem elem_row {e e8 : TypeId} {f0 f1 g0 g1 : Field} (hC : P.cellsOf e = 3) (hs : P.underlying e = some (.struct #[f0, f1])) (o0 : f0.offset = 0) (o1 : f1.offset = 2) (c0 : P.cellsOf f0.type = 2) (c1 : P.cellsOf f1.type = 1)
    (hs0 : P.underlying f0.type = some (.struct #[g0, g1])) (p0 : g0.offset = 0) (p1 : g1.offset = 1) (d0 : P.cellsOf g0.type = 1) (d1 : P.cellsOf g1.type = 1) (u0 : P.underlying g0.type = some (.int .u64)) (u1 : P.underlying g1.type = some (.int .i64))
    (hsl : P.underlying f1.type = some (.slice e8)) (h8 : P.underlying e8 = some (.int .u8)) (c8 : P.cellsOf e8 = 1) (fuel : Nat) (cs : List Value) (x : DataW H × List MemPlace) (h : DataW.trod enc P W base spare held fuel e cs = some x) : ∃ c k l, RowCells W c k l cs := by
  obtain ⟨xs, m, rfl, _, hl, hx, hel⟩ := DataW.trod_struct hs h
  rw [hC] at hl
  have hx2 : xs.length = 2 := hx
  have h0 := hel 0 f0 rfl
  have h1 := hel 1 f1 rfl
  rw [o0, c0, List.getElem?_eq_getElem (by omega)] at h0
  rw [o1, c1, List.getElem?_eq_getElem (by omega)] at h1
  match cs, hl with
  | [u, v, s], _ =>
    simp only [List.drop_zero, List.take_succ_cons, List.take_zero, List.drop_succ_cons] at h0 h1
    obtain ⟨ys, m', hm', _, hl0, hy, hel0⟩ := DataW.trod_struct hs0 h0
    have hy2 : ys.length = 2 := hy
    have k0 := hel0 0 g0 rfl
    have k1 := hel0 1 g1 rfl
    rw [p0, d0, List.getElem?_eq_getElem (by omega)] at k0
    rw [p1, d1, List.getElem?_eq_getElem (by omega)] at k1
    obtain ⟨a, e0, _, _⟩ := DataW.trod_int u0 k0
    obtain ⟨b, e1, _, _⟩ := DataW.trod_int u1 k1
    simp at e0 e1
    subst e0; subst e1
    have hform : ∃ q n cp, s = .slice q n cp := by
      rcases open_slice hsl h1 with ⟨hcs, _⟩ | ⟨a', len', cap', m2, n', D, Pl, hcs, _⟩
      · simp at hcs; exact ⟨_, _, _, hcs⟩
      · simp at hcs; exact ⟨_, _, _, hcs⟩
    obtain ⟨q, n, cp, rfl⟩ := hform
    obtain ⟨⟨l, hl2⟩, _⟩ := open_flat (enc := enc) (d := (xs[1]'(by omega)).1) (p := (xs[1]'(by omega)).2) (n := 1) hsl c8 (flat_byte h8) ⟨m, h1⟩
    have hll : l.length = n := by simpa [bv_length] using hl2.len
    exact ⟨a, b, l, q, cp, by rw [hll], by rw [hll]; exact hl2⟩
theorem open_elems {t e n : TypeId} {a : Option Addr} {len cap : Nat} {d : DataW H} {p : List MemPlace} {α : Type} (Q : α → List Value → Prop) (ht : P.underlying t = some (.slice e)) (hC : P.cellsOf e = n)
    (hf : ∀ fuel cs x, DataW.trod enc P W base spare held fuel e cs = some x → ∃ r, Q r cs)
    (h : DataW.Trod enc P W base spare held t (.slice a len cap) d p) : (∃ (R : List α) (cs : List Value), R.length = len ∧ SlAt W a len n cs ∧ ∀ i r, R[i]? = some r → Q r ((cs.drop (i * n)).take n)) ∧ len ≤ cap := by
  obtain ⟨fuel, hh⟩ := h
  rcases open_slice ht hh with ⟨hcs, _⟩ | ⟨a', len', cap', m, n', D, Pl, hcs, hb, hl, hm, hmm, hx, hel⟩
  · simp [Value.cells] at hcs
    obtain ⟨rfl, rfl, rfl⟩ := hcs
    exact ⟨⟨[], [], rfl, SlAt.nil _ _ _, by intro i r h; simp at h⟩, Nat.le_refl _⟩
  · simp [Value.cells] at hcs
    obtain ⟨rfl, rfl, rfl⟩ := hcs
    refine ⟨?_, hl⟩
    have hlm : len ≤ m := by rw [hmm]; split <;> omega
    have key : ∀ k, k ≤ len → ∃ (R : List α) (cs : List Value), R.length = k ∧ cs.length = k * n ∧ (∀ j, j < k * n → W.cell? (a'.add j) = cs[j]?) ∧ ∀ i r, R[i]? = some r → Q r ((cs.drop (i * n)).take n) := by
      intro k
      induction k with
      | zero => intro _; exact ⟨[], [], rfl, by simp, by intro j hj; omega, by intro i r h; simp at h⟩
      | succ k ih =>
        intro hk
        obtain ⟨R, cs, h1, h1', h2, hQ⟩ := ih (by omega)
        obtain ⟨cs', h3, h4⟩ := hel k (by omega)
        obtain ⟨r, hr⟩ := hf _ _ _ h4
        rw [hC] at h3
        obtain ⟨_, h6, h7⟩ := World.cells?_some h3
        refine ⟨R ++ [r], cs ++ cs', by simp [h1], by rw [List.length_append, h1', h6, Nat.succ_mul], fun j hj => ?_, fun i r' hi => ?_⟩
        · by_cases hj' : j < k * n
          · rw [List.getElem?_append_left (by omega)]; exact h2 j hj'
          · have hj2 : j - k * n < n := by rw [Nat.succ_mul] at hj; omega
            have := h7 (j - k * n) hj2
            rw [add_add, show k * n + (j - k * n) = j by omega] at this
            rw [List.getElem?_append_right (by omega), h1']
            exact this
        · by_cases hik : i < k
          · rw [List.getElem?_append_left (by omega)] at hi
            have hle : i * n + n ≤ k * n := by rw [← Nat.succ_mul]; exact Nat.mul_le_mul_right _ hik
            rw [List.drop_append_of_le_length (by omega), List.take_append_of_le_length (by rw [List.length_drop]; omega)]
            exact hQ i r' hi
          · have hi' : i = k := by
              have := (List.getElem?_eq_some_iff.1 hi).1
              simp at this; omega
            subst hi'
            rw [List.getElem?_append_right (by omega), h1] at hi
            simp at hi
            subst hi
            rw [List.drop_append_of_le_length (by omega), List.drop_of_length_le (by omega), List.nil_append, List.take_of_length_le (by omega)]
            exact hr
    obtain ⟨R, cs, h1, h1', h2, hQ⟩ := key len (Nat.le_refl _)
    refine ⟨R, cs, h1, ⟨h1', Nat.le_trans hl hm, fun h0 => ?_⟩, hQ⟩
    obtain ⟨b, off, spot⟩ := a'
    have hc0 : W.cell? ⟨b, off, spot⟩ = some (cs[0]'(by omega)) := by
      have := h2 0 h0
      rw [List.getElem?_eq_getElem (by omega)] at this
      simpa [Addr.add] using this
    have hspot : spot = none := by simpa using World.cell?_spot hc0
    subst hspot
    exact ⟨b, off, rfl, World.block_lt_of_cell? _ _ hc0, fun k hk => by rw [← h2 k hk, Addr.add_lit]⟩
end
end Coup
