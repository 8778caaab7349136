/- What came in, of any type made of numbers, bools, arrays of bytes, slices and structs: one law for each, to be put together. -/
import Derived.Test.YtpndhildmfmcgaaVm9
import Derived.Test.YtpndhildmfmcgaaVm10
namespace Coup
open Go Go.RowKit Go.ChangeShapes Go.WideShapes Go.Deep
section
variable {H : Type} {enc : TypeId × Value → H} {P : Program} {W : World} {base : Nat} {spare : Nat → Bool} {held : Bool}
/-- What is read at e are cells that Q says. -/
def Opn (enc : TypeId × Value → H) (P : Program) (W : World) (base : Nat) (spare : Nat → Bool) (held : Bool) (e : TypeId) {α : Type} (Q : α → List Value → Prop) : Prop :=
  ∀ fuel cs x, DataW.trod enc P W base spare held fuel e cs = some x → ∃ r, Q r cs
theorem opn_int {e : TypeId} {k : IntKind} (he : P.underlying e = some (.int k)) : Opn enc P W base spare held e (fun (i : Int) cs => cs = [.int k i] ∧ (Lit.int k i).wf = true) := fun fuel cs x h => by
  obtain ⟨n, rfl, _, hw⟩ := DataW.trod_int he h
  exact ⟨n, rfl, hw⟩
theorem opn_bool {e : TypeId} (he : P.underlying e = some .bool) : Opn enc P W base spare held e (fun (b : Bool) cs => cs = [.bool b]) := fun fuel cs x h => by
  obtain ⟨b, rfl, _⟩ := DataW.trod_bool he h
  exact ⟨b, rfl⟩
theorem opn_bytes {t e : TypeId} {n : Nat} (ht : P.underlying t = some (.array n e)) (he : P.underlying e = some (.int .u8)) (hc : P.cellsOf e = 1) (hC : P.cellsOf t = n) : Opn enc P W base spare held t (fun (l : List UInt8) cs => cs = bv l ∧ l.length = n) :=
  fun fuel cs x h => flat_array ht he hc hC fuel cs x h
/-- A slice's elements in memory. -/
def ElsAt {α : Type} (Q : α → List Value → Prop) (W : World) (n : Nat) (p : Option Addr) (len : Nat) (R : List α) : Prop :=
  R.length = len ∧ ∃ cs, SlAt W p len n cs ∧ ∀ (i : Nat) (r : α), R[i]? = some r → Q r ((cs.drop (i * n)).take n)
theorem opn_slice {t e : TypeId} {n : Nat} {α : Type} {Q : α → List Value → Prop} (ht : P.underlying t = some (.slice e)) (hC : P.cellsOf e = n) (hq : Opn enc P W base spare held e Q) :
    Opn enc P W base spare held t (fun (R : List α) cs => ∃ p cp, cs = [.slice p R.length cp] ∧ R.length ≤ cp ∧ ElsAt Q W n p R.length R) := fun fuel cs x h => by
  have hform : ∃ q m cp, cs = [.slice q m cp] := by
    rcases open_slice ht h with ⟨hcs, _⟩ | ⟨a', len', cap', m2, n', D, Pl, hcs, _⟩
    · exact ⟨_, _, _, hcs⟩
    · exact ⟨_, _, _, hcs⟩
  obtain ⟨q, m, cp, rfl⟩ := hform
  obtain ⟨⟨R, cs, h1, h2, h3⟩, h4⟩ := open_elems (enc := enc) (d := x.1) (p := x.2) (n := n) Q ht hC hq ⟨fuel, h⟩
  exact ⟨R, q, cp, by rw [h1], by rw [h1]; exact h4, by rw [h1]; exact ⟨h1, cs, h2, h3⟩⟩
theorem opn_flds {e : TypeId} {fs : Array Field} (hs : P.underlying e = some (.struct fs)) {fuel : Nat} {cs : List Value} {x : DataW H × List MemPlace} (h : DataW.trod enc P W base spare held fuel e cs = some x) :
    cs.length = P.cellsOf e ∧ ∃ m, ∀ (i : Nat) (f : Field), fs[i]? = some f → ∃ y, DataW.trod enc P W base spare held m f.type ((cs.drop f.offset).take (P.cellsOf f.type)) = some y := by
  obtain ⟨xs, m, rfl, _, hl, hx, hel⟩ := DataW.trod_struct hs h
  refine ⟨hl, m, fun i f hi => ?_⟩
  have h0 := hel i f hi
  have hlt : i < xs.length := by
    rw [hx]
    exact (Array.getElem?_eq_some_iff.1 hi).1
  rw [List.getElem?_eq_getElem hlt] at h0
  exact ⟨_, h0⟩
theorem fld {fs : Array Field} {m : Nat} {cs : List Value} (hf : ∀ (i : Nat) (f : Field), fs[i]? = some f → ∃ y, DataW.trod enc P W base spare held m f.type ((cs.drop f.offset).take (P.cellsOf f.type)) = some y) (i o k : Nat) {f : Field} (hi : fs[i]? = some f) (ho : f.offset = o) (hc : P.cellsOf f.type = k) :
    ∃ y, DataW.trod enc P W base spare held m f.type ((cs.drop o).take k) = some y := by
  subst ho; subst hc; exact hf i f hi
/-- An argument that is a slice. -/
theorem opn_arg {t e : TypeId} {n : Nat} {α : Type} {Q : α → List Value → Prop} {a : Option Addr} {len cap : Nat} {d : DataW H} {p : List MemPlace} (ht : P.underlying t = some (.slice e)) (hC : P.cellsOf e = n) (hq : Opn enc P W base spare held e Q)
    (h : DataW.Trod enc P W base spare held t (.slice a len cap) d p) : (∃ R, ElsAt Q W n a len R) ∧ len ≤ cap := by
  obtain ⟨⟨R, cs, h1, h2, h3⟩, h4⟩ := open_elems (n := n) Q ht hC hq h
  exact ⟨⟨R, h1, cs, h2, h3⟩, h4⟩
end
namespace ElsAt
variable {α : Type} {Q Q' : α → List Value → Prop} {w w' : World} {n : Nat} {p : Option Addr} {len : Nat} {R : List α}
theorem some (h : ElsAt Q w n p len R) (h0 : 0 < len * n) : ∃ g o, p = Option.some ⟨g, o, none⟩ ∧ g < w.heap.size := by
  obtain ⟨_, cs, h2, _⟩ := h
  exact h2.some h0
theorem max (h : ElsAt Q w n p len R) : len ≤ maxLen := h.2.choose_spec.1.max
theorem get {i : Nat} (h : ElsAt Q w n p len R) (hi : i < len) : ∃ a, R[i]? = Option.some a := ⟨_, List.getElem?_eq_getElem (by have := h.1; omega)⟩
theorem to (h : ElsAt Q w n p len R) (hb : Below w.heap.size w w') (hq : ∀ r cs, Q r cs → Q' r cs) : ElsAt Q' w' n p len R := by
  obtain ⟨h1, cs, h2, h3⟩ := h
  exact ⟨h1, cs, h2.below hb (Nat.le_refl _), fun i r hi => hq r _ (h3 i r hi)⟩
theorem kpd {M : List Nat} (h : ElsAt Q w n p len R) (k : Kp M w w') (hM : ∀ b o, p = Option.some ⟨b, o, none⟩ → b ∉ M) : ElsAt Q w' n p len R := by
  obtain ⟨h1, cs, h2, h3⟩ := h
  exact ⟨h1, cs, h2.kpd k hM, h3⟩
/-- An element, as it stands in the slice. -/
theorem el {g o i : Nat} {a : α} (h : ElsAt Q w n (Option.some ⟨g, o, none⟩) len R) (hi : R[i]? = Option.some a) : ∃ cs, Q a cs ∧ cs.length = n ∧ ∀ j v, cs[j]? = Option.some v → w.cell? ⟨g, o + i * n + j, none⟩ = Option.some v := by
  obtain ⟨h1, cs, h2, h3⟩ := h
  have hn := (List.getElem?_eq_some_iff.1 hi).1
  have hl := h2.len
  have hle : i * n + n ≤ len * n := by rw [← Nat.succ_mul]; exact Nat.mul_le_mul_right _ (by omega)
  refine ⟨_, h3 i a hi, by rw [List.length_take, List.length_drop]; omega, fun j v hv => ?_⟩
  rw [List.getElem?_take] at hv
  split at hv
  · rw [List.getElem?_drop] at hv
    have := h2.cell _ hv
    rw [Nat.add_assoc]; exact this
  · cases hv
/-- The whole element, loaded. -/
theorem ld {P : Program} {t g o i : Nat} {a : α} (h : ElsAt Q w n (Option.some ⟨g, o, none⟩) len R) (ht : isRowT P t = true) (hs : sizeIs P t n = true) (hi : R[i]? = Option.some a) : ∃ cs, Q a cs ∧ cs.length = n ∧ Ld P w t ⟨g, o + i * n, none⟩ (.agg cs.toArray) ∧ ∀ j v, cs[j]? = Option.some v → w.cell? ⟨g, o + i * n + j, none⟩ = Option.some v := by
  obtain ⟨cs, h1, h2, h3⟩ := h.el hi
  exact ⟨cs, h1, h2, Ld.rng (fun j v hv => h3 j v hv) ht (by rw [h2]; exact hs), h3⟩
/-- The same, in any world that came of it. -/
theorem ldB {P : Program} {t g o i : Nat} {a : α} (h : ElsAt Q w n (Option.some ⟨g, o, none⟩) len R) (ht : isRowT P t = true) (hs : sizeIs P t n = true) (hi : R[i]? = Option.some a) : ∃ cs, Q a cs ∧ cs.length = n ∧ ∀ w', Below w.heap.size w w' → Ld P w' t ⟨g, o + i * n, none⟩ (.agg cs.toArray) ∧ ∀ j v, cs[j]? = Option.some v → w'.cell? ⟨g, o + i * n + j, none⟩ = Option.some v := by
  obtain ⟨cs, h1, h2, h3⟩ := h.el hi
  have hlt : 0 < n → g < w.heap.size := fun h0 => by
    have hn := (List.getElem?_eq_some_iff.1 hi).1
    obtain ⟨g', o', e, hl⟩ := h.some (Nat.mul_pos (by have := h.1; omega) h0)
    cases e; exact hl
  refine ⟨cs, h1, h2, fun w' hb => ?_⟩
  have hc : ∀ j v, cs[j]? = Option.some v → w'.cell? ⟨g, o + i * n + j, none⟩ = Option.some v := fun j v hv => by
    have hj := (List.getElem?_eq_some_iff.1 hv).1
    rw [← h3 j v hv]
    simp only [World.cell?, hb.block g (hlt (by omega))]
  exact ⟨Ld.rng hc ht (by rw [h2]; exact hs), hc⟩
end ElsAt
/-- A part of cells ahead of the others. -/
theorem cut_at (cs : List Value) (o k : Nat) : cs.drop o = (cs.drop o).take k ++ cs.drop (o + k) := by
  rw [← List.drop_drop, List.take_append_drop]
theorem el_ints {W : World} {p : Option Addr} {len : Nat} {R : List Int} (h : ElsAt (fun (i : Int) cs => cs = [.int .i64 i] ∧ (Lit.int .i64 i).wf = true) W 1 p len R) : SlAt W p len 1 (iv R) ∧ okI R := by
  obtain ⟨h1, cs, h2, h3⟩ := h
  have hl := h2.len
  refine ⟨?_, fun x hx => ?_⟩
  · have : cs = iv R := by
      refine List.ext_getElem? fun i => ?_
      by_cases hi : i < R.length
      · have := (h3 i _ (List.getElem?_eq_getElem hi)).1
        have := congrArg (fun z => z[0]?) this
        rw [iv_get, List.getElem?_eq_getElem hi]
        simpa [List.getElem?_take, List.getElem?_drop] using this
      · rw [List.getElem?_eq_none (by omega), List.getElem?_eq_none (by rw [iv_length]; omega)]
    rw [← this]; exact h2
  · obtain ⟨i, hi⟩ := List.mem_iff_getElem?.1 hx
    exact i64_of_wf (h3 i x hi).2
theorem u8_of_els {W : World} {p : Option Addr} {len : Nat} {R : List Int} (h : ElsAt (fun (i : Int) cs => cs = [.int .u8 i] ∧ (Lit.int .u8 i).wf = true) W 1 p len R) : ∃ l : List UInt8, l.length = len ∧ SlAt W p len 1 (bv l) := by
  obtain ⟨h1, cs, h2, h3⟩ := h
  have hl := h2.len
  obtain ⟨l, rfl⟩ := bytes_of_cells cs fun i hi => by
    obtain ⟨h4, h5⟩ := h3 i _ (List.getElem?_eq_getElem (by omega : i < R.length))
    obtain ⟨b, hb⟩ := byte_of_wf h5
    refine ⟨b, ?_⟩
    have := congrArg (fun z => z[0]?) h4
    rw [hb] at this
    show cs[i]? = some (Value.int .u8 (b.toNat : Int))
    simpa [List.getElem?_take, List.getElem?_drop] using this
  exact ⟨l, by simpa [bv_length] using hl, h2⟩
end Coup
