/- Slices of integers: what one that came in says of the memory; reading one. -/
import Derived.Test.YtpndhildmfmcgaaVm9
namespace Coup
open Go Go.RowKit Go.ChangeShapes Go.WideShapes Go.Deep
def iv (l : List Int) : List Value := l.map (.int .i64)
theorem iv_length (l : List Int) : (iv l).length = l.length := by simp [iv]
theorem iv_get (l : List Int) (i : Nat) : (iv l)[i]? = (l[i]?).map (.int .i64) := by simp [iv]
theorem iv_some {l : List Int} {i : Nat} {x : Int} (h : l[i]? = some x) : (iv l)[i]? = some (.int .i64 x) := by simp [iv, h]
theorem iv_append (a b : List Int) : iv (a ++ b) = iv a ++ iv b := by simp [iv]
theorem iv_set (l : List Int) (i : Nat) (x : Int) : (iv l).set i (.int .i64 x) = iv (l.set i x) := by simp [iv, List.map_set]
theorem iv_one (l : List Int) : ∀ u ∈ iv l, u.oneCell' = true := by
  intro u hu
  obtain ⟨x, _, rfl⟩ := List.mem_map.1 hu
  rfl
def okI (l : List Int) : Prop := ∀ x ∈ l, -9223372036854775808 ≤ x ∧ x ≤ 9223372036854775807
theorem okI.at_ {l : List Int} (h : okI l) {i : Nat} {x : Int} (hx : l[i]? = some x) : -9223372036854775808 ≤ x ∧ x ≤ 9223372036854775807 := h x (List.mem_of_getElem? hx)
theorem i64_of_wf {n : Int} (h : (Lit.int .i64 n).wf = true) : -9223372036854775808 ≤ n ∧ n ≤ 9223372036854775807 := by
  have h2 : IntKind.i64.min ≤ n ∧ n ≤ IntKind.i64.max := by simpa [Lit.wf] using h
  have e1 : IntKind.i64.min = -9223372036854775808 := by decide
  have e2 : IntKind.i64.max = 9223372036854775807 := by decide
  omega
theorem slAt_getI {w : World} {p : Option Addr} {n : Nat} {l : List Int} (h : SlAt w p n 1 (iv l)) {i : Nat} (hi : i < n) : ∃ x, l[i]? = Option.some x := by
  have := h.len
  rw [iv_length] at this
  exact ⟨_, List.getElem?_eq_getElem (by omega)⟩
section
variable {H : Type} {enc : TypeId × Value → H} {P : Program} {W : World} {base : Nat} {spare : Nat → Bool} {held : Bool}
theorem open_intsL {t e : TypeId} {a : Option Addr} {len cap : Nat} {d : DataW H} {p : List MemPlace} (ht : P.underlying t = some (.slice e)) (he : P.underlying e = some (.int .i64)) (hC : P.cellsOf e = 1)
    (h : DataW.Trod enc P W base spare held t (.slice a len cap) d p) : (∃ l, SlAt W a len 1 (iv l) ∧ okI l) ∧ len ≤ cap := by
  obtain ⟨⟨R, cs, h1, h2, h3⟩, h4⟩ := open_elems (n := 1) (fun (r : Int) cs => cs = [.int .i64 r] ∧ -9223372036854775808 ≤ r ∧ r ≤ 9223372036854775807) ht hC
    (fun fuel cs x hx => by
      obtain ⟨k, h5, _, hw⟩ := DataW.trod_int he hx
      exact ⟨k, h5, i64_of_wf hw⟩) h
  refine ⟨⟨R, ?_, fun x hx => ?_⟩, h4⟩
  · have hl := h2.len
    have : cs = iv R := by
      refine List.ext_getElem? fun i => ?_
      by_cases hi : i < R.length
      · have := (h3 i _ (List.getElem?_eq_getElem hi)).1
        have := congrArg (fun z => z[0]?) this
        rw [iv_get, List.getElem?_eq_getElem hi]
        simpa [List.getElem?_take, List.getElem?_drop] using this
      · rw [List.getElem?_eq_none (by omega), List.getElem?_eq_none (by rw [iv_length]; omega)]
    rw [← this]; exact h2
  · obtain ⟨i, hi⟩ := List.mem_iff_getElem?.1 hx
    exact (h3 i x hi).2
end
end Coup
