/- A list of rows that came in. -/
import Derived.Test.YtnlocpldghpfcaaHalfS
import Derived.Test.YtnlocpldghpfcaaVm9
namespace Go.Proofs.Ytnlocpldghpfcaa
open Go Go.RowKit Coup
theorem openRows {H : Type} {enc : TypeId × Value → H} {W : World} {a : Option Addr} {len cap : Nat} {d : DataW H} {p : List MemPlace} (h : DataW.Trod enc Try.prog W 0 (fun _ => true) true 36 (.slice a len cap) d p) : (∃ R, RowsAt W a len R) ∧ len ≤ cap := by
  obtain ⟨⟨R, cs, h1, h2, h3⟩, h4⟩ := open_elems (P := Try.prog) (e := 40) (n := 3) (fun (r : RowD) cs => RowCells W r.1 r.2.1 r.2.2 cs) (by kernel_rfl) (by kernel_rfl)
    (fun fuel cs x hx => by
      obtain ⟨c, k, l, hr⟩ := elem_row (e8 := 5) (by kernel_rfl) Try.underlying40 rfl rfl (by kernel_rfl) (by kernel_rfl) Try.underlying24 rfl rfl (by kernel_rfl) (by kernel_rfl) (by kernel_rfl) (by kernel_rfl) (by kernel_rfl) (by kernel_rfl) (by kernel_rfl) fuel cs x hx
      exact ⟨(c, k, l), hr⟩) h
  refine ⟨⟨R, h1, cs, h2, fun i c k l hi => ?_⟩, h4⟩
  obtain ⟨q, cp, he, hs⟩ := h3 i (c, k, l) hi
  have g : ∀ j, j < 3 → cs[i * 3 + j]? = [Value.int .u64 c, .int .i64 k, .slice q l.length cp][j]? := fun j hj => by
    have := congrArg (fun z => z[j]?) he
    simpa [List.getElem?_take, hj, List.getElem?_drop] using this
  exact ⟨g 0 (by omega), g 1 (by omega), q, cp, g 2 (by omega), hs⟩
end Go.Proofs.Ytnlocpldghpfcaa
