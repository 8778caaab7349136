/- Maps from small numbers: what one holds, as a function; reading, writing, deleting, making one. -/
import Derived.Test.YtpndhildmfmcgaaVm14
import Derived.Maps.OwnSet
import Derived.Maps.Keyed
namespace Coup
open Go Go.RowKit Go.Maps
/-- The entries of a map that holds f at the keys from a on, m of them. -/
def kvL (f : Nat → Option Value) (a : Nat) : Nat → List (Lit × DataW Value)
  | 0 => []
  | m + 1 => match f a with
    | some v => (.int .i64 (a : Int), .held v) :: kvL f (a + 1) m
    | none => kvL f (a + 1) m
theorem kvL_congr {f g : Nat → Option Value} : ∀ (m a : Nat), (∀ i, a ≤ i → i < a + m → f i = g i) → kvL f a m = kvL g a m
  | 0, a, h => rfl
  | m + 1, a, h => by
    rw [kvL, kvL, h a (Nat.le_refl _) (by omega), kvL_congr m (a + 1) (fun i h1 h2 => h i (by omega) (by omega))]
theorem kvL_len (f : Nat → Option Value) : ∀ m a, (kvL f a m).length ≤ m
  | 0, a => Nat.le_refl _
  | m + 1, a => by
    have := kvL_len f m (a + 1)
    rw [kvL]; split <;> simp <;> omega
theorem kvL_mem {f : Nat → Option Value} : ∀ {m a : Nat} {x : Lit × DataW Value}, x ∈ kvL f a m → ∃ i, a ≤ i ∧ i < a + m ∧ x.1 = .int .i64 (i : Int)
  | 0, a, x, h => by simp [kvL] at h
  | m + 1, a, x, h => by
    rw [kvL] at h
    split at h
    · rcases List.mem_cons.1 h with rfl | h
      · exact ⟨a, Nat.le_refl _, by omega, rfl⟩
      · obtain ⟨i, h1, h2, h3⟩ := kvL_mem h; exact ⟨i, by omega, by omega, h3⟩
    · obtain ⟨i, h1, h2, h3⟩ := kvL_mem h; exact ⟨i, by omega, by omega, h3⟩
theorem same_int (a b : Nat) : Lit.sameKey (.int .i64 (a : Int)) (.int .i64 (b : Int)) = decide (a = b) := by
  simp only [Lit.sameKey, true_and]
  by_cases h : a = b
  · simp [h]
  · have : ¬ ((a : Int) = b) := by omega
    simp [h, this]
theorem kvL_find {f : Nat → Option Value} {i : Nat} : ∀ (m a : Nat), a ≤ i → i < a + m → (kvL f a m).find? (fun p => p.1.sameKey (.int .i64 (i : Int))) = (f i).map fun v => (.int .i64 (i : Int), .held v)
  | 0, a, h1, h2 => by omega
  | m + 1, a, h1, h2 => by
    have hno : ∀ (m' a' : Nat), i < a' → (kvL f a' m').find? (fun p => p.1.sameKey (.int .i64 (i : Int))) = none := fun m' a' h => by
      rw [List.find?_eq_none]
      intro x hx
      obtain ⟨j, h3, h4, h5⟩ := kvL_mem hx
      rw [h5, same_int]; simp; omega
    by_cases h : a = i
    · subst h
      rw [kvL]
      cases hf : f a with
      | some v => simp only [List.find?_cons, same_int]; simp
      | none => exact hno m (a + 1) (by omega)
    · rw [kvL]
      have ih := kvL_find (f := f) (i := i) m (a + 1) (by omega) (by omega)
      cases hf : f a with
      | some v => simp only [List.find?_cons, same_int]; simp [h, ih]
      | none => exact ih
def updF (f : Nat → Option Value) (i : Nat) (v : Option Value) : Nat → Option Value := fun j => if j = i then v else f j
theorem kvL_del {f : Nat → Option Value} {i : Nat} : ∀ (m a : Nat), (kvL f a m).filter (fun p => !p.1.sameKey (.int .i64 (i : Int))) = kvL (updF f i none) a m
  | 0, a => rfl
  | m + 1, a => by
    have ih := kvL_del (f := f) (i := i) m (a + 1)
    rw [kvL, kvL]
    by_cases h : a = i
    · rw [show updF f i none a = none from if_pos h]
      cases hf : f a with
      | some v => subst h; simp only [List.filter_cons, same_int]; simpa using ih
      | none => exact ih
    · rw [show updF f i none a = f a from if_neg h]
      cases hf : f a with
      | some v => simp only [List.filter_cons, same_int]; simp [h, ih]
      | none => exact ih
theorem kvL_ins {f : Nat → Option Value} {i : Nat} {v : Value} : ∀ (m a : Nat), f i = none → a ≤ i → i < a + m → DataW.insert (.int .i64 (i : Int), .held v) (kvL f a m) = kvL (updF f i (some v)) a m
  | 0, a, _, h1, h2 => by omega
  | m + 1, a, hn, h1, h2 => by
    rw [kvL, kvL]
    by_cases h : a = i
    · subst h
      rw [show updF f a (some v) a = some v from if_pos rfl, hn]
      have e : kvL (updF f a (some v)) (a + 1) m = kvL f (a + 1) m := kvL_congr m (a + 1) fun j h3 h4 => if_neg (by omega)
      simp only [e]
      cases hk : kvL f (a + 1) m with
      | nil => rfl
      | cons y r =>
        obtain ⟨j, h3, h4, h5⟩ := kvL_mem (f := f) (x := y) (m := m) (a := a + 1) (by rw [hk]; exact List.mem_cons_self ..)
        rw [DataW.insert]
        rw [if_pos (by rw [h5]; simp [Lit.before]; omega)]
    · rw [show updF f i (some v) a = f a from if_neg h]
      have ih := kvL_ins (f := f) (i := i) (v := v) m (a + 1) hn (by omega) (by omega)
      cases hf : f a with
      | some u =>
        simp only
        rw [DataW.insert, if_neg (by simp [Lit.before]; omega), ih]
      | none => exact ih
def RH : Value → Option (DataW Value × List MemPlace) := fun v => some (.held v, [])
/-- The map in block m holds f at the keys below N, and no other key. -/
def MapAt (P : Program) (k : TypeId) (w : World) (m N : Nat) (f : Nat → Option Value) : Prop := w.ownsMap P k RH m N (.map (kvL f 0 N))
theorem ownsMap_tight {P : Program} {k : TypeId} {R : Value → Option (DataW Value × List MemPlace)} {w : World} {b n N : Nat} {es : List (Lit × DataW Value)} (h : w.ownsMap P k R b n (.map es)) (hN : es.length ≤ N) : w.ownsMap P k R b N (.map es) := by
  obtain ⟨e, clock, hb, F, hs, hD⟩ := h
  refine ⟨e, clock, hb, F, ?_, hD⟩
  have h1 : es = (e.toList.map (Go.WideElems.rg P k R)).foldr DataW.insert [] := by injection hD
  have h2 := length_sorted (e.toList.map (Go.WideElems.rg P k R))
  rw [← h1] at h2
  simp at h2
  omega
namespace MapAt
variable {P : Program} {k : TypeId} {w w' : World} {m N : Nat} {f : Nat → Option Value}
theorem lt (h : MapAt P k w m N f) : m < w.heap.size := World.ownsMap.lt h
theorem same (h : MapAt P k w m N f) (he : w'.heap[m]? = w.heap[m]?) : MapAt P k w' m N f := by
  obtain ⟨es, clock, hb, r⟩ := h
  exact ⟨es, clock, he.trans hb, r⟩
theorem kpd {M : List Nat} (h : MapAt P k w m N f) (hk : Kp M w w') (hM : m ∉ M) : MapAt P k w' m N f := h.same (hk.block m h.lt hM)
theorem new (h : MapAt P k w m N f) (hb : Below w.heap.size w w') : MapAt P k w' m N f := h.kpd (M := []) (Kp.of_below hb) (fun h => by cases h)
theorem only {g : Nat} (h : MapAt P k w m N f) (ho : Only g w w') (hg : m ≠ g) : MapAt P k w' m N f := h.kpd (Kp.of_only ho) (by simpa using hg)
theorem own {base e sz n : Nat} {v : Value} {xs : List Value} (h : MapAt P k w m N f) (ho : ownsAt w base e sz v n xs) (hg : w.grownBy w' v.ownBlock) (hk : m < base) : MapAt P k w' m N f := h.kpd (Kp.of_grown hg) fun hm => by
  have := (ho.lt m (Option.mem_toList.1 hm)).1; omega
end MapAt
/-- Kp, as a fact that is kept up. -/
structure KpB (M : List Nat) (w0 w : World) : Prop where
  k : Kp M w0 w
namespace KpB
variable {M : List Nat} {w0 w w' : World}
theorem refl (M : List Nat) (w : World) : KpB M w w := ⟨Kp.refl M w⟩
theorem kpd {N : List Nat} (h : KpB M w0 w) (k : Kp N w w') (hN : ∀ g, g ∈ N → g ∈ M ∨ w0.heap.size ≤ g) : KpB M w0 w' :=
  ⟨⟨k.os.trans h.k.os, k.tape.trans h.k.tape, k.output.trans h.k.output, Nat.le_trans h.k.size k.size, fun b hb hm => by
    rw [k.block b (Nat.lt_of_lt_of_le hb h.k.size) fun hn => ?_]
    · exact h.k.block b hb hm
    · rcases hN b hn with e | e
      · exact hm e
      · omega⟩⟩
theorem new (h : KpB M w0 w) (hb : Below w.heap.size w w') : KpB M w0 w' := h.kpd (N := []) (Kp.of_below hb) (fun g hm => by cases hm)
theorem only {g : Nat} (h : KpB M w0 w) (ho : Only g w w') (hg : g ∈ M ∨ w0.heap.size ≤ g) : KpB M w0 w' := h.kpd (Kp.of_only ho) fun g' hm => by
  have : g' = g := by simpa using hm
  rw [this]; exact hg
theorem own {base e sz m : Nat} {v : Value} {xs : List Value} (h : KpB M w0 w) (ho : ownsAt w base e sz v m xs) (hg : w.grownBy w' v.ownBlock) (hk : w0.heap.size ≤ base) : KpB M w0 w' :=
  h.kpd (Kp.of_grown hg) fun g hm => Or.inr (Nat.le_trans hk (ho.lt g (Option.mem_toList.1 hm)).1)
end KpB
theorem turned_only {w w' : World} {b : Nat} (h : w.mapTurned w' b) : Only b w w' := by
  obtain ⟨es, clock, es', clock', hb, rfl⟩ := h
  exact ⟨rfl, rfl, rfl, by simp [Go.ChangeMaps.setBlock], fun k hk => Go.ChangeMaps.heap_setBlock_other hb _ hk⟩
section
variable {P : Program} {ρ : Env} {w : World} {d : Option Nat} {ty : TypeId} {pos : String} {af : Array Edge} {gd : Option (Nat × Bool)} {K : Value → World → Prop} {Kw : World → Prop}
theorem rn_neqP0 {t t' : Nat} {x y : Operand} (ht : ptrT P t = true) (hx : ev ρ x = .pointer none) (hy : ev ρ y = .pointer none) : (execOp (ev ρ) ⟨d, .binOp .neq t x y t', ty, pos, af, gd⟩).run P w = .ok (.value (.bool false)) w := by
  have := eqIn_ptr0 (w := w) ht 9999
  simp [execOp, hx, hy, eqGuard, binOp, Op.equal, Op.maxDepth, this, Result.andThen]
theorem rn_neqP1 {t t' : Nat} {x y : Operand} {a : Addr} (ht : ptrT P t = true) (hx : ev ρ x = .pointer (some a)) (hy : ev ρ y = .pointer none) : (execOp (ev ρ) ⟨d, .binOp .neq t x y t', ty, pos, af, gd⟩).run P w = .ok (.value (.bool true)) w := by
  have := eqIn_ptr1 (w := w) ht 9999 a
  simp [execOp, hx, hy, eqGuard, binOp, Op.equal, Op.maxDepth, this, Result.andThen]
theorem i64_wf {i : Nat} (h : i < 9223372036854775808) : (Lit.int .i64 (i : Int)).wf = true := by
  have e1 : IntKind.i64.min = -9223372036854775808 := by decide
  have e2 : IntKind.i64.max = 9223372036854775807 := by decide
  simp [Lit.wf, e1, e2]; omega
theorem rn_lookupM {t k e : TypeId} {x y : Operand} {m N : Nat} {f : Nat → Option Value} {a : Int} (z : Value) (ht : P.underlying t = some (.map k e)) (hk : P.underlying k = some (.int .i64)) (hz : ∀ w, (zeroValue e).run P w = .ok z w)
    (hm : MapAt P k w m N f) (hx : ev ρ x = .map (some m)) (hy : ev ρ y = .int .i64 a) (i : Nat) (ha : a = (i : Int)) (hi : i < N) (hN : N ≤ 1000000) :
    (execOp (ev ρ) ⟨d, .lookup t x y false, ty, pos, af, gd⟩).run P w = .ok (.value ((f i).getD z)) w := by
  subst ha
  obtain ⟨v, ps, hr, hv⟩ := World.ownsMap.lookup hm (int_keyed hk) ht (hz w) (zd := .held z) (zp := []) rfl (keyOf_int_mk hk (i64_wf (i := i) (by omega)))
  have e : DataW.atKey (.map (kvL f 0 N)) (.int .i64 (i : Int)) (.held z) = .held ((f i).getD z) := by
    unfold DataW.atKey
    simp only [kvL_find N 0 (Nat.zero_le _) (by omega : i < 0 + N)]
    cases f i <;> rfl
  rw [e] at hv
  have : v = (f i).getD z := by
    have h1 : (some (DataW.held v, ([] : List MemPlace))) = some (.held ((f i).getD z), ps) := hv
    injection h1 with h1
    injection h1 with h1 h2
    injection h1
  subst this
  simp [execOp, hx, hy, hr, Result.andThen]
theorem rn_lookupV {t k e : TypeId} {x y : Operand} {m N : Nat} {f : Nat → Option Value} {a : Int} {v : Value} (z : Value) (ht : P.underlying t = some (.map k e)) (hk : P.underlying k = some (.int .i64)) (hz : ∀ w, (zeroValue e).run P w = .ok z w)
    (hm : MapAt P k w m N f) (hx : ev ρ x = .map (some m)) (hy : ev ρ y = .int .i64 a) (i : Nat) (ha : a = (i : Int)) (hi : i < N) (hN : N ≤ 1000000) (hv : (f i).getD z = v) :
    (execOp (ev ρ) ⟨d, .lookup t x y false, ty, pos, af, gd⟩).run P w = .ok (.value v) w := by
  rw [← hv]; exact rn_lookupM z ht hk hz hm hx hy i ha hi hN
theorem sk_mapUpd {t k e : TypeId} {x y u : Operand} {m N : Nat} {f : Nat → Option Value} {a : Int} (v : Value) (ht : P.underlying t = some (.map k e)) (hk : P.underlying k = some (.int .i64))
    (hm : MapAt P k w m N f) (hx : ev ρ x = .map (some m)) (hy : ev ρ y = .int .i64 a) (hu : ev ρ u = v) (i : Nat) (ha : a = (i : Int)) (hi : i < N) (hN : N ≤ 1000000)
    (h : ∀ w', MapAt P k w' m N (updF f i (some v)) → Only m w w' → Kw w') : Sk P ρ w ⟨d, .mapUpdate t x y u, ty, pos, af, gd⟩ Kw := by
  subst ha
  obtain ⟨w', hr, h1, h2⟩ := World.ownsMap.store hm (int_keyed hk) ht (by unfold maxLen; omega) (keyOf_int_mk hk (i64_wf (i := i) (by omega))) (val := v) (d := .held v) (ps := []) rfl
  refine ⟨w', ?_, h w' ?_ (turned_only h2)⟩
  · simp [execOp, hx, hy, hu, hr, Result.andThen]
  · have e : DataW.put (.map (kvL f 0 N)) (.int .i64 (i : Int)) (.held v) = .map (kvL (updF f i (some v)) 0 N) := by
      unfold DataW.put
      simp only [kvL_del]
      rw [kvL_ins N 0 (if_pos rfl) (Nat.zero_le _) (by omega)]
      congr 1
      exact kvL_congr N 0 fun j _ _ => by unfold updF; split <;> rfl
    rw [e] at h1
    exact ownsMap_tight h1 (kvL_len _ _ _)
theorem mk_delete {t k e : TypeId} {x y : Operand} {m N : Nat} {f : Nat → Option Value} {a : Int} (ht : P.underlying t = some (.map k e)) (hk : P.underlying k = some (.int .i64))
    (hm : MapAt P k w m N f) (hx : ev ρ x = .map (some m)) (hy : ev ρ y = .int .i64 a) (i : Nat) (ha : a = (i : Int)) (hi : i < N) (hN : N ≤ 1000000)
    (h : ∀ w', MapAt P k w' m N (updF f i none) → Only m w w' → K (.tuple #[]) w') : Mk P ρ w ⟨d, .call ⟨.builtin .delete, #[x, y], #[t, k]⟩, ty, pos, af, gd⟩ K := by
  subst ha
  obtain ⟨w', hr, h1, h2⟩ := World.ownsMap.drop hm (int_keyed hk) ht (keyOf_int_mk hk (i64_wf (i := i) (by omega))) ty
  refine ⟨_, w', ?_, h w' ?_ (turned_only h2)⟩
  · simp [execOp, resolve, invoke, builtin, hx, hy, hr, Result.andThen]
  · have e : DataW.del (.map (kvL f 0 N)) (.int .i64 (i : Int)) = .map (kvL (updF f i none) 0 N) := by
      unfold DataW.del
      simp only [kvL_del]
    rw [e] at h1
    exact h1
theorem kvL_none : ∀ m a, kvL (fun _ => none) a m = []
  | 0, a => rfl
  | m + 1, a => by rw [kvL]; exact kvL_none m (a + 1)
theorem mk_makeMap {t k : TypeId} (N : Nat) (h : ∀ m w', w.heap.size ≤ m → MapAt P k w' m N (fun _ => none) → Below w.heap.size w w' → K (.map (some m)) w') : Mk P ρ w ⟨d, .makeMap t none, ty, pos, af, gd⟩ K := by
  refine ⟨_, _, ?_, h w.heap.size (w.alloc (.map #[] 0)) (Nat.le_refl _) ?_ (below_alloc w _)⟩
  · simp only [execOp]
    first
      | rfl
      | simp [run_makeMap, Result.andThen]
  · unfold MapAt
    rw [kvL_none]
    exact World.ownsMap.mono (World.ownsMap_made w P k RH) (Nat.zero_le _)
end
end Coup
