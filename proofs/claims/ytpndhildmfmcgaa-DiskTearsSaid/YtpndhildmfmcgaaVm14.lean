/- Slices that are nil, or not. -/
import Derived.Test.YtpndhildmfmcgaaVm13
namespace Coup
open Go Go.RowKit
section
variable {P : Program} {ρ : Env} {w : World} {d : Option Nat} {ty : TypeId} {pos : String} {af : Array Edge} {gd : Option (Nat × Bool)}
theorem eqIn_nilSl {t e : Nat} (ht : P.underlying t = some (.slice e)) (n : Nat) (p : Option Addr) (a b : Nat) : (Op.equalIn (n + 1) t (.slice p a b) (.slice none 0 0)).run P w = .ok p.isNone w := by
  cases p <;> simp [Op.equalIn, run_underlying ht, Result.andThen]
theorem rn_eqlNil {t t' e : Nat} {x y : Operand} {p : Option Addr} {a b : Nat} (ht : P.underlying t = some (.slice e)) (hx : ev ρ x = .slice p a b) (hy : ev ρ y = .slice none 0 0) : (execOp (ev ρ) ⟨d, .binOp .eql t x y t', ty, pos, af, gd⟩).run P w = .ok (.value (.bool p.isNone)) w := by
  have := eqIn_nilSl (w := w) ht 9999 p a b
  simp [execOp, hx, hy, eqGuard, binOp, Op.equal, Op.maxDepth, this, Result.andThen]
theorem rn_neqNil {t t' e : Nat} {x y : Operand} {p : Option Addr} {a b : Nat} (ht : P.underlying t = some (.slice e)) (hx : ev ρ x = .slice p a b) (hy : ev ρ y = .slice none 0 0) : (execOp (ev ρ) ⟨d, .binOp .neq t x y t', ty, pos, af, gd⟩).run P w = .ok (.value (.bool (!p.isNone))) w := by
  have := eqIn_nilSl (w := w) ht 9999 p a b
  simp [execOp, hx, hy, eqGuard, binOp, Op.equal, Op.maxDepth, this, Result.andThen]
theorem rn_sliceArz {t e n : Nat} {x : Operand} {lo hi mx : Option Operand} {g off : Nat} (l h m k : Nat) (ht : arrayOf P t n e 1 = true) (hx : ev ρ x = .pointer (some ⟨g, off, none⟩))
    (hl : ob ρ lo 0 l) (hh : ob ρ hi n h) (hm : ob ρ mx n m) (hmh : mx.isSome = true → hi.isSome = true) (h1 : l ≤ h) (h2 : h ≤ m) (h3 : m ≤ n) (hk : h - l = k) :
    (execOp (ev ρ) ⟨d, .slice t x lo hi mx, ty, pos, af, gd⟩).run P w = .ok (.value (.slice (some ⟨g, if m = l then off else off + l, none⟩) k (m - l))) w := by
  subst hk
  rw [rn_sliceAr l h m ht hx hl hh hm hmh h1 h2 h3]
  split <;> simp
/-- append onto an empty slice that is there: what comes is there too, even where nothing is appended. -/
theorem mk_appendE {K : Value → World → Prop} {t t' e sz bytes : Nat} {s x : Operand} {k c g0 o0 : Nat} {news : List Value} {sp : Option Addr} {z : Value} (ht : P.underlying t = some (.slice e)) (ht' : t' = t)
    (hi : (P.info? e).map (fun i => (i.zero, i.size, i.bytes)) = some (some z, sz, bytes)) (hzs : z.cells.size = sz) (hsz : 0 < sz) (hs : ev ρ s = .slice (some ⟨g0, o0, none⟩) 0 0) (hg0 : g0 < w.heap.size)
    (hx : ev ρ x = .slice sp k c) (hsrc : SlAt w sp k sz news) (h63 : k ≤ maxLen) (hbytes : k * bytes ≤ 140737488355328)
    (h : ∀ g o c' w', SlAt w' (some ⟨g, o, none⟩) k sz news → (g = g0 ∨ w.heap.size ≤ g) → g < w'.heap.size → Below w.heap.size w w' → K (.slice (some ⟨g, o, none⟩) k c') w') : Mk P ρ w ⟨d, .call ⟨.builtin .append, #[s, x], #[t, t']⟩, ty, pos, af, gd⟩ K := by
  subst ht'
  obtain ⟨i, hq, hzz⟩ := Option.map_eq_some_iff.1 hi
  simp only [Prod.mk.injEq] at hzz
  obtain ⟨hz, hsize, hby⟩ := hzz
  by_cases hk : k = 0
  · subst hk
    obtain rfl : news = [] := List.eq_nil_of_length_eq_zero (by simpa using hsrc.len)
    have hrun : (Builtin.append_ #[t', t'] ty #[.slice (some ⟨g0, o0, none⟩) 0 0, .slice sp 0 c]).run P w = .ok (.slice (some ⟨g0, o0, none⟩) 0 0) w := by
      cases sp with
      | none => simp [Builtin.append_, run_underlying ht, Go.sizeOf, typeInfo, hq, Builtin.lenOf, Builtin.firstCells, storeCells, Result.andThen]
      | some a => simp [Builtin.append_, run_underlying ht, Go.sizeOf, typeInfo, hq, Builtin.lenOf, Builtin.firstCells, loadCells, loadCellsFrom, storeCells, Result.andThen]
    refine ⟨_, w, ?_, h g0 o0 0 w ⟨by simp, Nat.zero_le _, fun h => by omega⟩ (.inl rfl) hg0 (Below.refl _ _)⟩
    simp [execOp, resolve, invoke, builtin, hs, hx, hrun, Result.andThen]
  · have hk := Nat.pos_of_ne_zero hk
    obtain ⟨g1, o1, rfl, _⟩ := hsrc.some (Nat.mul_pos hk hsz)
    obtain ⟨v', w', hr, h2, h3⟩ := run_append_arg_grows (P := P) (w := w) t' ty e i z sz bytes ht hq hz hsize hby hzs hsz ⟨g0, o0, none⟩ 0 0 [] (by simp) (fun j u hu => by simp at hu) ⟨g1, o1, none⟩ k c news hsrc.len
      (fun j u hu => by rw [Addr.add_lit]; exact hsrc.cell j hu) (by omega) (by omega) (by rw [Nat.zero_add]; exact hbytes)
    rw [Nat.zero_add, List.nil_append] at h2
    have ho := ownsAt_of_row h2
    obtain ⟨g, o, c', rfl, hb, hlt, _⟩ := ho.form' hk
    refine ⟨_, w', ?_, h g o c' w' ho.sl (.inr hb) hlt ⟨h3.os, h3.tape, h3.output, h3.size, fun k hk => h3.block k hk (by simp)⟩⟩
    simp [execOp, resolve, invoke, builtin, hs, hx, hr, Result.andThen]
theorem row.slZ {g t : Nat} {L : List UInt8} (h : row w g (bv L) t) (o k : Nat) (ho : o + k ≤ L.length) (hm : k ≤ maxLen) : SlAt w (some ⟨g, if o + k = o then 0 else 0 + o, none⟩) k 1 (bv ((L.drop o).take k)) := by
  by_cases hk : k = 0
  · subst hk
    exact ⟨by simp [bv], Nat.zero_le _, fun h => by omega⟩
  · rw [if_neg (by omega), Nat.zero_add]
    exact h.slB o k ho hm
theorem rn_built1 {t i : Nat} {x : Operand} (v : Value) (cs : List Value) (hx : ev ρ x = v) (hb : P.built t [(i, v)] = some cs.toArray) : (execOp (ev ρ) ⟨d, .build t #[(i, x)], ty, pos, af, gd⟩).run P w = .ok (.value (.agg cs.toArray)) w := by
  have := run_build (P := P) w t #[(i, v)] cs.toArray (by simpa using hb)
  simp only [execOp, List.map_toArray, List.map_cons, List.map_nil, hx, Sem.run_bind, this, Result.andThen_ok]
  rfl
theorem rn_built2 {t i j : Nat} {x y : Operand} (v u : Value) (cs : List Value) (hx : ev ρ x = v) (hy : ev ρ y = u) (hb : P.built t [(i, v), (j, u)] = some cs.toArray) : (execOp (ev ρ) ⟨d, .build t #[(i, x), (j, y)], ty, pos, af, gd⟩).run P w = .ok (.value (.agg cs.toArray)) w := by
  have := run_build (P := P) w t #[(i, v), (j, u)] cs.toArray (by simpa using hb)
  simp only [execOp, List.map_toArray, List.map_cons, List.map_nil, hx, hy, Sem.run_bind, this, Result.andThen_ok]
  rfl
end
end Coup
