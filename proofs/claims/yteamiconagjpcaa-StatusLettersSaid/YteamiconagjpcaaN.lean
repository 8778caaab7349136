/- From the reading of an argument that is a slice of numbers to what the walks take. -/
import Derived.Test.YteamiconagjpcaaM
namespace Go.Proofs.Yteamiconagjpcaa
open Go Go.RowKit Coup

theorem intsAt_row {w : World} {a : Option Addr} {len cap : Nat} {zs : List Int}
    (h : (a = none ∧ len = 0 ∧ cap = 0 ∧ zs = []) ∨ ∃ x, a = some x ∧ len ≤ cap ∧ cap ≤ maxLen ∧ zs.length = cap ∧ (∀ i, i < zs.length → w.cell? (x.add i) = some (.int .i64 (zs.getD i 0))) ∧ ∀ n ∈ zs, (Lit.int .i64 n).wf = true) :
    IntsAt w a len (zs.take len) := by
  rcases h with ⟨rfl, rfl, rfl, rfl⟩ | ⟨x, rfl, hl, hm, hz, hcell, _⟩
  · exact ⟨rfl, Nat.zero_le _, fun h => absurd h (Nat.lt_irrefl 0)⟩
  · refine ⟨by rw [List.length_take]; omega, Nat.le_trans hl hm, fun h0 => ?_⟩
    obtain ⟨b, off, spot⟩ := x
    have hc := hcell 0 (by omega)
    have hspot : spot = none := by simpa [Addr.add] using World.cell?_spot hc
    subst hspot
    refine ⟨b, off, rfl, World.block_lt_of_cell? _ _ hc, fun k hk => ?_⟩
    have := hcell k (by omega)
    rw [Addr.add_lit] at this
    rw [this, nth, List.getD_eq_getElem?_getD, List.getD_eq_getElem?_getD, List.getElem?_take, if_pos hk]

theorem law6 (p : Option Addr) (n c : Nat) (xs : List Int) (w : World) (hx : IntsAt w p n xs) : Calls Try.prog 6 #[.slice p n c] w fun e w' => e = .returned (.bool true) ∧ Below w.heap.size w w' := by
  by_cases hn : 60 < n
  · exact law6_long p n c w hn
  · rcases ha : xs.all mayB with _ | _
    · exact law6_not p n c xs w hx (by omega) ha
    · exact law6_yes p n c xs w hx (by omega) ha
end Go.Proofs.Yteamiconagjpcaa
