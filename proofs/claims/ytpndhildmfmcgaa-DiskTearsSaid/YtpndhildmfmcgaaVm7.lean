/- Values that are built: noughts, and a struct of two numbers. -/
import Derived.Test.YtpndhildmfmcgaaVm6
import Derived.ArgAppend
namespace Coup
open Go Go.RowKit
section
variable {P : Program} {ρ : Env} {w : World} {d : Option Nat} {ty : TypeId} {pos : String} {af : Array Edge} {gd : Option (Nat × Bool)}
theorem rn_zeroed {t : Nat} (cs : List Value) (hb : P.built t [] = some cs.toArray) : (execOp (ev ρ) ⟨d, .build t #[], ty, pos, af, gd⟩).run P w = .ok (.value (.agg cs.toArray)) w := by
  have := run_build (P := P) w t #[] cs.toArray (by simpa using hb)
  simp only [execOp, List.map_toArray, List.map_nil, Sem.run_bind, this, Result.andThen_ok]
  rfl
theorem rn_pair {t : Nat} {k0 k1 : IntKind} {x y : Operand} {a b : Int} (hp : placesOf P t = some [(0, 1), (1, 1)]) (hk : (P.info? t).map (fun i => i.zero.map (·.cells.size)) = some (some 2)) (hx : ev ρ x = .int k0 a) (hy : ev ρ y = .int k1 b) :
    (execOp (ev ρ) ⟨d, .build t #[(0, x), (1, y)], ty, pos, af, gd⟩).run P w = .ok (.value (.agg #[.int k0 a, .int k1 b])) w :=
  rn_build (parts := [(0, x), (1, y)]) [(0, .int k0 a), (1, .int k1 b)] [(0, 1), (1, 1)] hp hk (by simp [hx, hy])
    (by intro i hi; rcases i with _ | _ | i <;> first | rfl | (exfalso; simp only [List.length_cons, List.length_nil] at hi; omega)) rfl
theorem rn_pair0 {t : Nat} {k0 k1 : IntKind} {x : Operand} {a : Int} (hp : (P.built t [(0, .int k0 a)]) = some #[.int k0 a, .int k1 0]) (hx : ev ρ x = .int k0 a) :
    (execOp (ev ρ) ⟨d, .build t #[(0, x)], ty, pos, af, gd⟩).run P w = .ok (.value (.agg #[.int k0 a, .int k1 0])) w := by
  have := run_build (P := P) w t #[(0, .int k0 a)] #[.int k0 a, .int k1 0] (by simpa using hp)
  simp only [execOp, List.map_toArray, List.map_cons, List.map_nil, hx, Sem.run_bind, this, Result.andThen_ok]
  rfl
theorem rn_eqlb {t t' : TypeId} {x y : Operand} {a b : Bool} (ht : P.underlying t = some .bool) (hx : ev ρ x = .bool a) (hy : ev ρ y = .bool b) : (execOp (ev ρ) ⟨d, .binOp .eql t x y t', ty, pos, af, gd⟩).run P w = .ok (.value (.bool (a == b))) w := by
  simp [execOp, hx, hy, eqGuard, run_eql_bool w t a b ht, Result.andThen]
theorem rn_neqb {t t' : TypeId} {x y : Operand} {a b : Bool} (ht : P.underlying t = some .bool) (hx : ev ρ x = .bool a) (hy : ev ρ y = .bool b) : (execOp (ev ρ) ⟨d, .binOp .neq t x y t', ty, pos, af, gd⟩).run P w = .ok (.value (.bool (a != b))) w := by
  have h := run_equal_bool (P := P) w t a b ht
  have e : (a != b) = !(a == b) := rfl
  simp [execOp, hx, hy, eqGuard, binOp, h, Result.andThen, e]
/-- append onto a slice of the walk's own, which stays what it was. -/
theorem mk_appendK {K : Value → World → Prop} {t t' e sz bytes : Nat} {s x : Operand} {base m k c : Nat} {v : Value} {xs news : List Value} {sp : Option Addr} {z : Value} (ht : P.underlying t = some (.slice e)) (ht' : t' = t)
    (hi : (P.info? e).map (fun i => (i.zero, i.size, i.bytes)) = some (some z, sz, bytes)) (hzs : z.cells.size = sz) (hsz : 0 < sz) (hs : ev ρ s = v) (hown : ownsAt w base e sz v m xs)
    (hx : ev ρ x = .slice sp k c) (hsrc : SlAt w sp k sz news) (h1 : ∀ u ∈ news, u.oneCell' = true) (h63 : m + k ≤ maxLen) (hbytes : (m + k) * bytes ≤ 140737488355328) (hbase : base ≤ w.heap.size) (hk : 0 < k)
    (h : ∀ v' w', ownsAt w' base e sz v' (m + k) (xs ++ news) → w.grownBy w' v.ownBlock → (∀ g, v'.ownBlock = some g → v.ownBlock = some g ∨ w.heap.size ≤ g) → ownsAt w' base e sz v m xs → K v' w') : Mk P ρ w ⟨d, .call ⟨.builtin .append, #[s, x], #[t, t']⟩, ty, pos, af, gd⟩ K := by
  subst ht'
  obtain ⟨i, hq, hzz⟩ := Option.map_eq_some_iff.1 hi
  simp only [Prod.mk.injEq] at hzz
  obtain ⟨hz, hsize, hby⟩ := hzz
  obtain ⟨g0, o0, rfl, _⟩ := hsrc.some (Nat.mul_pos hk hsz)
  obtain ⟨g, off, cap, w', hr, h2, h3, h4, h5, h6⟩ := run_append_at (P := P) w base t' ty e i z sz bytes ht hq hz hsize hby hzs hsz v m xs hown ⟨g0, o0, none⟩ k c news hsrc.len
    (fun j u hu => by rw [Addr.add_lit]; exact hsrc.cell j hu) h1 hk h63 hbytes hbase
  refine ⟨_, w', ?_, h _ w' h2 h3 (fun g' hg' => ?_) h6⟩
  · simp [execOp, resolve, invoke, builtin, hs, hx, hr, Result.andThen]
  · simp [Value.ownBlock] at hg'
    subst hg'
    exact h4.imp id (fun e => by omega)
/-- append onto a slice that has no room: a new one. -/
theorem mk_appendG {K : Value → World → Prop} {t t' e sz bytes : Nat} {s x : Operand} {m k c cap g0 o0 : Nat} {xs news : List Value} {sp : Option Addr} {z : Value} (ht : P.underlying t = some (.slice e)) (ht' : t' = t)
    (hi : (P.info? e).map (fun i => (i.zero, i.size, i.bytes)) = some (some z, sz, bytes)) (hzs : z.cells.size = sz) (hsz : 0 < sz) (hs : ev ρ s = .slice (some ⟨g0, o0, none⟩) m cap) (hold : SlAt w (some ⟨g0, o0, none⟩) m sz xs)
    (hx : ev ρ x = .slice sp k c) (hsrc : SlAt w sp k sz news) (hcap : cap < m + k) (hk : 0 < k) (h63 : m + k ≤ maxLen) (hbytes : (m + k) * bytes ≤ 140737488355328)
    (h : ∀ p c' w', Below w.heap.size w w' → K (.slice p (m + k) c') w') : Mk P ρ w ⟨d, .call ⟨.builtin .append, #[s, x], #[t, t']⟩, ty, pos, af, gd⟩ K := by
  subst ht'
  obtain ⟨i, hq, hzz⟩ := Option.map_eq_some_iff.1 hi
  simp only [Prod.mk.injEq] at hzz
  obtain ⟨hz, hsize, hby⟩ := hzz
  obtain ⟨g1, o1, rfl, _⟩ := hsrc.some (Nat.mul_pos hk hsz)
  obtain ⟨v', w', hr, h2, h3⟩ := run_append_arg_grows (P := P) (w := w) t' ty e i z sz bytes ht hq hz hsize hby hzs hsz ⟨g0, o0, none⟩ m cap xs hold.len (fun j u hu => by rw [Addr.add_lit]; exact hold.cell j hu) ⟨g1, o1, none⟩ k c news hsrc.len
    (fun j u hu => by rw [Addr.add_lit]; exact hsrc.cell j hu) hcap h63 hbytes
  obtain ⟨p, c', rfl⟩ : ∃ p c', v' = .slice p (m + k) c' := by
    rcases h2.2 with ⟨rfl, h0⟩ | ⟨g, cp, cur, rfl, _⟩
    · rw [h0]; exact ⟨_, _, rfl⟩
    · exact ⟨_, _, rfl⟩
  refine ⟨_, w', ?_, h p c' w' ⟨h3.os, h3.tape, h3.output, h3.size, fun k hk => h3.block k hk (by simp)⟩⟩
  simp [execOp, resolve, invoke, builtin, hs, hx, hr, Result.andThen]
end
end Coup
