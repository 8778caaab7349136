/- Lists of acts that came in. -/
import Derived.Test.YtjdcopfnhkfimaaPageS
import Derived.Test.YtjdcopfnhkfimaaVm9
namespace Go.Proofs.Ytjdcopfnhkfimaa
open Go Go.RowKit Coup Go.ChangeShapes Go.WideShapes Go.Deep

section
variable {H : Type} {enc : TypeId × Value → H} {P : Program} {W : World} {base : Nat} {spare : Nat → Bool} {held : Bool}
/-- The cells of one act. -/
def ActCells (W : World) (a : ActT) (cs : List Value) : Prop := ∃ q cp, cs = actC a q cp ∧ SlAt W q a.b.length 1 (bv a.b)
theorem elem_act {e e8 : TypeId} {f0 f1 f2 f3 : Field} (hC : P.cellsOf e = 4) (hs : P.underlying e = some (.struct #[f0, f1, f2, f3])) (o0 : f0.offset = 0) (o1 : f1.offset = 1) (o2 : f2.offset = 2) (o3 : f3.offset = 3)
    (c0 : P.cellsOf f0.type = 1) (c1 : P.cellsOf f1.type = 1) (c2 : P.cellsOf f2.type = 1) (c3 : P.cellsOf f3.type = 1)
    (u0 : P.underlying f0.type = some (.int .i64)) (u1 : P.underlying f1.type = some (.int .i64)) (u2 : P.underlying f2.type = some (.int .i64))
    (hsl : P.underlying f3.type = some (.slice e8)) (h8 : P.underlying e8 = some (.int .u8)) (c8 : P.cellsOf e8 = 1) (fuel : Nat) (cs : List Value) (x : DataW H × List MemPlace) (h : DataW.trod enc P W base spare held fuel e cs = some x) : ∃ a, ActCells W a cs := by
  obtain ⟨xs, m, rfl, _, hl, hx, hel⟩ := DataW.trod_struct hs h
  rw [hC] at hl
  have hx2 : xs.length = 4 := hx
  have h0 := hel 0 f0 rfl
  have h1 := hel 1 f1 rfl
  have h2 := hel 2 f2 rfl
  have h3 := hel 3 f3 rfl
  rw [o0, c0, List.getElem?_eq_getElem (by omega)] at h0
  rw [o1, c1, List.getElem?_eq_getElem (by omega)] at h1
  rw [o2, c2, List.getElem?_eq_getElem (by omega)] at h2
  rw [o3, c3, List.getElem?_eq_getElem (by omega)] at h3
  match cs, hl with
  | [u, v, t, s], _ =>
    simp only [List.drop_zero, List.take_succ_cons, List.take_zero, List.drop_succ_cons] at h0 h1 h2 h3
    obtain ⟨a, e0, _, _⟩ := DataW.trod_int u0 h0
    obtain ⟨b, e1, _, _⟩ := DataW.trod_int u1 h1
    obtain ⟨c, e2, _, _⟩ := DataW.trod_int u2 h2
    simp at e0 e1 e2
    subst e0; subst e1; subst e2
    have hform : ∃ q n cp, s = .slice q n cp := by
      rcases open_slice hsl h3 with ⟨hcs, _⟩ | ⟨a', len', cap', m2, n', D, Pl, hcs, _⟩
      · simp at hcs; exact ⟨_, _, _, hcs⟩
      · simp at hcs; exact ⟨_, _, _, hcs⟩
    obtain ⟨q, n, cp, rfl⟩ := hform
    obtain ⟨⟨l, hl2⟩, _⟩ := open_flat (enc := enc) (d := (xs[3]'(by omega)).1) (p := (xs[3]'(by omega)).2) (n := 1) hsl c8 (flat_byte h8) ⟨m, h3⟩
    have hll : l.length = n := by simpa [bv_length] using hl2.len
    exact ⟨⟨a, b, c, l⟩, q, cp, by rw [actC, hll], by rw [hll]; exact hl2⟩
end
/-- A list of acts in memory. -/
def ActsAt (w : World) (p : Option Addr) (n : Nat) (R : List ActT) : Prop :=
  R.length = n ∧ ∃ cs, SlAt w p n 4 cs ∧ ∀ (i : Nat) (a : ActT), R[i]? = some a → ActCells w a ((cs.drop (i * 4)).take 4)
theorem ActCells.below {w w' : World} {a : ActT} {cs : List Value} (h : ActCells w a cs) (hb : Below w.heap.size w w') : ActCells w' a cs := by
  obtain ⟨q, cp, h1, h2⟩ := h
  exact ⟨q, cp, h1, h2.below hb (Nat.le_refl _)⟩
namespace ActsAt
variable {w w' : World} {p : Option Addr} {n : Nat} {R : List ActT}
theorem below (h : ActsAt w p n R) (hb : Below w.heap.size w w') : ActsAt w' p n R := by
  obtain ⟨h1, cs, h2, h3⟩ := h
  exact ⟨h1, cs, h2.below hb (Nat.le_refl _), fun i a hi => (h3 i a hi).below hb⟩
theorem some (h : ActsAt w p n R) (h0 : 0 < n) : ∃ g o, p = Option.some ⟨g, o, none⟩ ∧ g < w.heap.size := by
  obtain ⟨_, cs, h2, _⟩ := h
  exact h2.some (by omega)
theorem max (h : ActsAt w p n R) : n ≤ maxLen := h.2.choose_spec.1.max
theorem get {i : Nat} (h : ActsAt w p n R) (hi : i < n) : ∃ a, R[i]? = Option.some a := ⟨_, List.getElem?_eq_getElem (by have := h.1; omega)⟩
/-- An act, as it stands in the list. -/
theorem ld {g o i : Nat} {a : ActT} (h : ActsAt w (Option.some ⟨g, o, none⟩) n R) (hi : R[i]? = Option.some a) : ∃ q cp, SlAt w q a.b.length 1 (bv a.b) ∧ ∀ w', Below w.heap.size w w' →
    Ld Try.prog w' 39 ⟨g, o + i * 4, none⟩ (.agg (actC a q cp).toArray) ∧ ∀ j v, (actC a q cp)[j]? = Option.some v → w'.cell? ⟨g, o + (i * 4 + j), none⟩ = Option.some v := by
  obtain ⟨h1, cs, h2, h3⟩ := h
  obtain ⟨q, cp, e1, e2⟩ := h3 i a hi
  have hn := (List.getElem?_eq_some_iff.1 hi).1
  have hl := h2.len
  refine ⟨q, cp, e2, fun w' hb => ⟨?_, fun j v hv => ?_⟩⟩
  · have := Ld.slN (P := Try.prog) (t := 39) (j := i * 4) (k := 4) (h2.below hb (Nat.le_refl _)) (by kernel_rfl) (by kernel_rfl) (by omega)
    rw [e1] at this
    exact this
  · have hj := (List.getElem?_eq_some_iff.1 hv).1
    rw [← e1, List.getElem?_take, List.getElem?_drop] at hv
    split at hv
    · exact (h2.below hb (Nat.le_refl _)).cell _ hv
    · cases hv
end ActsAt
theorem openRows {H : Type} {enc : TypeId × Value → H} {W : World} {a : Option Addr} {len cap : Nat} {d : DataW H} {p : List MemPlace} (h : DataW.Trod enc Try.prog W 0 (fun _ => true) true 33 (.slice a len cap) d p) : (∃ R, ActsAt W a len R) ∧ len ≤ cap := by
  obtain ⟨⟨R, cs, h1, h2, h3⟩, h4⟩ := open_elems (P := Try.prog) (e := 39) (n := 4) (fun (r : ActT) cs => ActCells W r cs) (by kernel_rfl) (by kernel_rfl)
    (fun fuel cs x hx => elem_act (e8 := 5) (by kernel_rfl) Try.underlying39 rfl rfl rfl rfl (by kernel_rfl) (by kernel_rfl) (by kernel_rfl) (by kernel_rfl) (by kernel_rfl) (by kernel_rfl) (by kernel_rfl) (by kernel_rfl) (by kernel_rfl) (by kernel_rfl) fuel cs x hx) h
  exact ⟨⟨R, h1, cs, h2, h3⟩, h4⟩
end Go.Proofs.Ytjdcopfnhkfimaa
