/- Values that are built: noughts, and a struct of two numbers. -/
import Derived.Test.YtnlocpldghpfcaaVm6
namespace Coup
open Go Go.RowKit
section
variable {P : Program} {ρ : Env} {w : World} {d : Option Nat} {ty : TypeId} {pos : String} {af : Array Edge} {gd : Option (Nat × Bool)}
theorem rn_zeroed {t : Nat} (cs : List Value) (hb : P.built t [] = some cs.toArray) : (execOp (ev ρ) ⟨d, .build t #[], ty, pos, af, gd⟩).run P w = .ok (.value (.agg cs.toArray)) w := by
  have := run_build (P := P) w t #[] cs.toArray (by simpa using hb)
  simp only [execOp, List.map_toArray, List.map_nil, Sem.run_bind, this, Result.andThen_ok]
  rfl
theorem rn_pair {t : Nat} {k0 k1 : IntKind} {x y : Operand} {a b : Int} (hp : placesOf P t = some [(0, 1), (1, 1)]) (hk : (P.info? t).map (fun i => i.zero.map (·.cells.size)) = some (some 2)) (hx : ev ρ x = .int k0 a) (hy : ev ρ y = .int k1 b) :
    (execOp (ev ρ) ⟨d, .build t #[(0, x), (1, y)], ty, pos, af, gd⟩).run P w = .ok (.value (.agg #[.int k0 a, .int k1 b])) w :=
  rn_build (parts := [(0, x), (1, y)]) [(0, .int k0 a), (1, .int k1 b)] [(0, 1), (1, 1)] hp hk (by simp [hx, hy])
    (by intro i hi; rcases i with _ | _ | i <;> first | rfl | (exfalso; simp only [List.length_cons, List.length_nil] at hi; omega)) rfl
theorem rn_pair0 {t : Nat} {k0 k1 : IntKind} {x : Operand} {a : Int} (hp : (P.built t [(0, .int k0 a)]) = some #[.int k0 a, .int k1 0]) (hx : ev ρ x = .int k0 a) :
    (execOp (ev ρ) ⟨d, .build t #[(0, x)], ty, pos, af, gd⟩).run P w = .ok (.value (.agg #[.int k0 a, .int k1 0])) w := by
  have := run_build (P := P) w t #[(0, .int k0 a)] #[.int k0 a, .int k1 0] (by simpa using hp)
  simp only [execOp, List.map_toArray, List.map_cons, List.map_nil, hx, Sem.run_bind, this, Result.andThen_ok]
  rfl
theorem rn_eqlb {t t' : TypeId} {x y : Operand} {a b : Bool} (ht : P.underlying t = some .bool) (hx : ev ρ x = .bool a) (hy : ev ρ y = .bool b) : (execOp (ev ρ) ⟨d, .binOp .eql t x y t', ty, pos, af, gd⟩).run P w = .ok (.value (.bool (a == b))) w := by
  simp [execOp, hx, hy, eqGuard, run_eql_bool w t a b ht, Result.andThen]
theorem rn_neqb {t t' : TypeId} {x y : Operand} {a b : Bool} (ht : P.underlying t = some .bool) (hx : ev ρ x = .bool a) (hy : ev ρ y = .bool b) : (execOp (ev ρ) ⟨d, .binOp .neq t x y t', ty, pos, af, gd⟩).run P w = .ok (.value (.bool (a != b))) w := by
  have h := run_equal_bool (P := P) w t a b ht
  have e : (a != b) = !(a == b) := rfl
  simp [execOp, hx, hy, eqGuard, binOp, h, Result.andThen, e]
end
end Coup
