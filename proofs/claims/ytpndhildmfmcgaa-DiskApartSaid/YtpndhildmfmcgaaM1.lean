import Derived.Test.YtpndhildmfmcgaaM0
import Derived.Lib.Builder
import Derived.Lib.OthersKept
import Derived.Laws.Externs
import Derived.Maps.OwnSet
import Derived.Maps.Keyed
import Derived.Shelf.SlIterI.Nil
import Derived.Shelf.SortM.Plain
import Derived.Shelf.SortM.SortNone
import Derived.Test.YtpndhildmfmcgaaProg
namespace Coup
open Go Go.RowKit
section
variable {P : Program} {ρ : Env} {w : World} {d : Option Nat} {ty : TypeId} {pos : String} {af : Array Edge} {gd : Option (Nat × Bool)}
end
def tabOk (s : ByteArray) : Bool := (List.range 255).all fun j => match s[j + 1]? with
  | some b => decide (1 ≤ b.toNat) && decide (b.toNat ≤ 8) && decide (2 ^ (b.toNat - 1) ≤ j + 1) && decide (j + 1 < 2 ^ b.toNat)
  | none => false
section
variable {P : Program} {ρ : Env} {w : World} {d : Option Nat} {ty : TypeId} {pos : String} {af : Array Edge} {gd : Option (Nat × Bool)} {K : Value → World → Prop}
end
def OwnG (w : World) (base e sz g o m c : Nat) (xs : List Value) : Prop := ownsAt w base e sz (.slice (some ⟨g, o, none⟩) m c) m xs
namespace OwnG
variable {w w' : World} {base e sz g o m c : Nat} {xs : List Value}
theorem lt (h : OwnG w base e sz g o m c xs) : g < w.heap.size := (ownsAt.lt h g rfl).2
theorem base_le (h : OwnG w base e sz g o m c xs) : base ≤ g := (ownsAt.lt h g rfl).1
theorem len (h : OwnG w base e sz g o m c xs) : xs.length = m * sz := h.1
theorem new (h : OwnG w base e sz g o m c xs) (hb : Below w.heap.size w w') : OwnG w' base e sz g o m c xs := ownsAt.new h hb
theorem kpd {M : List Nat} (h : OwnG w base e sz g o m c xs) (k : Kp M w w') (hM : g ∉ M) : OwnG w' base e sz g o m c xs := ownsAt.kpd h k fun g' hm e => hM (by
  have : g = g' := by simpa [Value.ownBlock] using e
  rw [this]; exact hm)
theorem only {g' : Nat} (h : OwnG w base e sz g o m c xs) (ho : Only g' w w') (hg : g ≠ g') : OwnG w' base e sz g o m c xs := h.kpd (Kp.of_only ho) (by simpa using hg)
theorem sl (h : OwnG w base e sz g o m c xs) : SlAt w (some ⟨g, o, none⟩) m sz xs := ownsAt.sl h
end OwnG
theorem splice_get {l vs : List Value} {k : Nat} (h : k + vs.length ≤ l.length) (i : Nat) : (splice l k vs)[i]? = if i < k then l[i]? else if i < k + vs.length then vs[i - k]? else l[i]? := by
  unfold splice
  by_cases h1 : i < k
  · rw [if_pos h1, List.getElem?_append_left (by rw [List.length_take]; omega), List.getElem?_take, if_pos h1]
  · rw [if_neg h1, List.getElem?_append_right (by rw [List.length_take]; omega), List.length_take, Nat.min_eq_left (by omega)]
    by_cases h2 : i < k + vs.length
    · rw [if_pos h2, List.getElem?_append_left (by omega)]
    · rw [if_neg h2, List.getElem?_append_right (by omega), List.getElem?_drop]
      congr 1; omega
section
variable {P : Program} {ρ : Env} {w : World} {d : Option Nat} {ty : TypeId} {pos : String} {af : Array Edge} {gd : Option (Nat × Bool)} {Kw : World → Prop}
theorem sk_storeO {t : Nat} {x y : Operand} {g o : Nat} {base e sz m c : Nat} {xs : List Value} (vs : List Value) (j : Nat) (hown : OwnG w base e sz g o m c xs) (hx : ev ρ x = .pointer (some ⟨g, o + j, none⟩))
    (hy : (ev ρ y).cells = vs.toArray) (hs : sizeIs P t vs.length = true) (hfit : j + vs.length ≤ xs.length) (h1 : ∀ v ∈ vs, v.oneCell' = true)
    (h : ∀ w', OwnG w' base e sz g o m c (splice xs j vs) → Only g w w' → Kw w') : Sk P ρ w ⟨d, .store t x y, ty, pos, af, gd⟩ Kw := by
  have hlen := hown.1
  rcases hown.2 with ⟨hn, _⟩ | ⟨g', off, cap, cur, he, hb, hg, hmc, hmx, hsz, hcur⟩
  · cases hn
  · cases he
    have hrow : row w g cur.toList e := by unfold row; simpa using hg
    have hle : m * sz ≤ c * sz := Nat.mul_le_mul_right _ hmc
    have hcl : cur.toList.length = cur.size := by simp
    refine sk_store vs hx hy hrow hs (by omega) h1 fun w' hr ho => h w' ⟨?_, Or.inr ⟨g, o, c, (splice cur.toList (o + j) vs).toArray, rfl, hb, hr, hmc, hmx, ?_, ?_⟩⟩ ho
    · simp only [splice, List.length_append, List.length_take, List.length_drop]; omega
    · simp only [splice, List.size_toArray, List.length_append, List.length_take, List.length_drop]; omega
    · rw [← hcur]
      have hm2 : ((cur.toList.drop o).take (m * sz)).length = m * sz := by rw [List.length_take, List.length_drop]; omega
      refine List.ext_getElem? fun i => ?_
      rw [List.getElem?_take, List.getElem?_drop, splice_get (by omega), splice_get (by rw [hm2]; omega), List.getElem?_take, List.getElem?_drop]
      by_cases hi : i < m * sz
      · rw [if_pos hi]
        by_cases h2 : i < j
        · rw [if_pos (by omega), if_pos h2, if_pos hi]
        · rw [if_neg (by omega), if_neg h2]
          by_cases h3 : i < j + vs.length
          · rw [if_pos (by omega), if_pos h3]; congr 1; omega
          · rw [if_neg (by omega), if_neg h3, if_pos hi]
      · rw [if_neg hi, if_neg (by omega), if_neg (by omega), if_neg hi]
end
section
variable {P : Program} {ρ : Env} {w : World} {d : Option Nat} {ty : TypeId} {pos : String} {af : Array Edge} {gd : Option (Nat × Bool)} {K : Value → World → Prop}
def fieldOne (P : Program) (t i off : Nat) : Bool := match P.underlying t with | some (.struct fs) => (match fs[i]? with | some f => Nat.beq f.offset off && isOneT P f.type | none => false) | _ => false
theorem mk_empty {t e sz : Nat} (ht : P.underlying t = some (.slice e)) (hs : sizeIs P e sz = true) (h : ∀ g w', w.heap.size ≤ g → row w' g [] e → Below w.heap.size w w' → K (.slice (some ⟨g, 0, none⟩) 0 0) w') : Mk P ρ w ⟨d, .buildSlice t 0 #[], ty, pos, af, gd⟩ K := by
  obtain ⟨ie, h1, h2⟩ := sizeIs_info hs
  refine ⟨_, _, ?_, h w.heap.size (w.alloc (.cells #[] e)) (Nat.le_refl _) (row_alloc w _ e) (below_alloc w _)⟩
  simp [execOp, Instr.buildSlice, run_underlying ht, Go.sizeOf, typeInfo, h1, Instr.fill, newRow, Result.andThen]
  congr 2
  exact Array.eq_empty_of_size_eq_zero (by simp)
end
section
variable {P : Program} {ρ : Env} {w : World} {d : Option Nat} {ty : TypeId} {pos : String} {af : Array Edge} {gd : Option (Nat × Bool)}
end
theorem Kp.toB {M : List Nat} {B : Nat} {w w' : World} (h : Kp M w w') (hM : ∀ g, g ∈ M → B ≤ g) (hB : B ≤ w.heap.size) : Below B w w' := ⟨h.os, h.tape, h.output, h.size, fun k hk => h.block k (by omega) fun hm => by have := hM k hm; omega⟩
def methRow (P : Program) (t : Nat) (name : String) (f : FuncId) (byP : Bool) : Bool := match P.info? t with
  | some i => (match i.methods.find? (·.name == name) with | some m => m.path.isEmpty && (match m.func with | some (g, b) => Nat.beq g f && (b == byP) | none => false) | none => false)
  | none => false
structure BelB (B : Nat) (w w' : World) : Prop where
  bel : Below B w w'
  size : B ≤ w'.heap.size
namespace BelB
variable {B : Nat} {w0 w w' : World}
theorem refl (h : B ≤ w.heap.size) : BelB B w w := ⟨Below.refl _ _, h⟩
theorem acc (h : BelB B w0 w) (k : Below w.heap.size w w') : BelB B w0 w' := ⟨h.bel.trans (k.mono h.size), Nat.le_trans h.size k.size⟩
theorem tr (h : BelB B w0 w) (k : Below B w w') : BelB B w0 w' := ⟨h.bel.trans k, Nat.le_trans h.size k.size⟩
theorem kpd {M : List Nat} (h : BelB B w0 w) (k : Kp M w w') (hM : ∀ g, g ∈ M → B ≤ g) : BelB B w0 w' := h.tr (k.toB hM h.size)
theorem own {base e sz m : Nat} {v : Value} {xs : List Value} (h : BelB B w0 w) (ho : ownsAt w base e sz v m xs) (hg : w.grownBy w' v.ownBlock) (hk : B ≤ base) : BelB B w0 w' := h.kpd (Kp.of_grown hg) fun g hm => Nat.le_trans hk (ho.lt g (Option.mem_toList.1 hm)).1
end BelB
section
variable {md : Option Nat → Prop} {P : Program} {n : Nat} {Q : Post} {ρ : Env} {w : World}
end
end Coup
namespace Coup
open Go Go.RowKit
section
variable {P : Program} {ρ : Env} {w : World} {d : Option Nat} {ty : TypeId} {pos : String} {af : Array Edge} {gd : Option (Nat × Bool)} {K : Value → World → Prop}
def ptrT (P : Program) (t : Nat) : Bool := match P.underlying t with | some (.pointer e) => (P.info? e).isSome | _ => false
theorem ptrT_split {t : Nat} (h : ptrT P t = true) : ∃ e j, P.underlying t = some (.pointer e) ∧ P.info? e = some j := by
  unfold ptrT at h
  split at h
  · rename_i e hu
    obtain ⟨j, hj⟩ := Option.isSome_iff_exists.1 h
    exact ⟨e, j, hu, hj⟩
  · cases h
theorem eqIn_ptr1 {t : Nat} (ht : ptrT P t = true) (n : Nat) (a : Addr) : (Op.equalIn (n + 1) t (.pointer (some a)) (.pointer none)).run P w = .ok false w := by
  obtain ⟨e, j, h1, h2⟩ := ptrT_split ht
  simp [Op.equalIn, run_underlying h1, Go.sizeOf, typeInfo, h2, Result.andThen]
theorem rn_eqlP1 {t t' : Nat} {x y : Operand} {a : Addr} (ht : ptrT P t = true) (hx : ev ρ x = .pointer (some a)) (hy : ev ρ y = .pointer none) : (execOp (ev ρ) ⟨d, .binOp .eql t x y t', ty, pos, af, gd⟩).run P w = .ok (.value (.bool false)) w := by
  have := eqIn_ptr1 (w := w) ht 9999 a
  simp [execOp, hx, hy, eqGuard, binOp, Op.equal, Op.maxDepth, this, Result.andThen]
def unsafeOk (P : Program) (src dst e cells : Nat) : Bool := match P.underlying src, P.underlying dst with
  | some (.pointer t), some .unsafePointer => (match P.info? t with | some j => decide (j.size ≠ 0) && liesAt P P.depth e (cells / P.cellsOf e) 0 t 1 | none => false)
  | _, _ => false
end
section
variable {P : Program} {ρ : Env} {w : World} {d : Option Nat} {ty : TypeId} {pos : String} {af : Array Edge} {gd : Option (Nat × Bool)} {K : Value → World → Prop}
def ItAt (w : World) (g : Nat) (l : List UInt8) (i : Nat) : Prop := w.heap[g]? = some (.stringIter ⟨l.toArray⟩ i)
namespace ItAt
variable {w w' : World} {g i : Nat} {l : List UInt8}
theorem lt (h : ItAt w g l i) : g < w.heap.size := (Array.getElem?_eq_some_iff.1 h).1
theorem new (h : ItAt w g l i) (hb : Below w.heap.size w w') : ItAt w' g l i := (hb.block g h.lt).trans h
theorem only {g' : Nat} (h : ItAt w g l i) (ho : Only g' w w') (hg : g ≠ g') : ItAt w' g l i := (ho.block g hg).trans h
theorem kpd {M : List Nat} (h : ItAt w g l i) (k : Kp M w w') (hg : g ∉ M) : ItAt w' g l i := (k.block g h.lt hg).trans h
end ItAt
end
section
variable {P : Program} {ρ : Env} {w w' : World} {d : Option Nat} {ty : TypeId} {pos : String} {af : Array Edge} {gd : Option (Nat × Bool)} {K : Value → World → Prop}
end
section
variable {P : Program} {ρ : Env} {w : World} {d : Option Nat} {ty : TypeId} {pos : String} {af : Array Edge} {gd : Option (Nat × Bool)} {K : Value → World → Prop}
end
end Coup
namespace Coup
open Go Go.RowKit
section
variable {P : Program} {ρ : Env} {w : World} {d : Option Nat} {ty : TypeId} {pos : String} {af : Array Edge} {gd : Option (Nat × Bool)}
theorem eqIn_nilSl {t e : Nat} (ht : P.underlying t = some (.slice e)) (n : Nat) (p : Option Addr) (a b : Nat) : (Op.equalIn (n + 1) t (.slice p a b) (.slice none 0 0)).run P w = .ok p.isNone w := by
  cases p <;> simp [Op.equalIn, run_underlying ht, Result.andThen]
theorem rn_eqlNil {t t' e : Nat} {x y : Operand} {p : Option Addr} {a b : Nat} (ht : P.underlying t = some (.slice e)) (hx : ev ρ x = .slice p a b) (hy : ev ρ y = .slice none 0 0) : (execOp (ev ρ) ⟨d, .binOp .eql t x y t', ty, pos, af, gd⟩).run P w = .ok (.value (.bool p.isNone)) w := by
  have := eqIn_nilSl (w := w) ht 9999 p a b
  simp [execOp, hx, hy, eqGuard, binOp, Op.equal, Op.maxDepth, this, Result.andThen]
theorem rn_built1 {t i : Nat} {x : Operand} (v : Value) (cs : List Value) (hx : ev ρ x = v) (hb : P.built t [(i, v)] = some cs.toArray) : (execOp (ev ρ) ⟨d, .build t #[(i, x)], ty, pos, af, gd⟩).run P w = .ok (.value (.agg cs.toArray)) w := by
  have := run_build (P := P) w t #[(i, v)] cs.toArray (by simpa using hb)
  simp only [execOp, List.map_toArray, List.map_cons, List.map_nil, hx, Sem.run_bind, this, Result.andThen_ok]
  rfl
theorem rn_built2 {t i j : Nat} {x y : Operand} (v u : Value) (cs : List Value) (hx : ev ρ x = v) (hy : ev ρ y = u) (hb : P.built t [(i, v), (j, u)] = some cs.toArray) : (execOp (ev ρ) ⟨d, .build t #[(i, x), (j, y)], ty, pos, af, gd⟩).run P w = .ok (.value (.agg cs.toArray)) w := by
  have := run_build (P := P) w t #[(i, v), (j, u)] cs.toArray (by simpa using hb)
  simp only [execOp, List.map_toArray, List.map_cons, List.map_nil, hx, hy, Sem.run_bind, this, Result.andThen_ok]
  rfl
end
end Coup
namespace Coup
open Go Go.RowKit Go.Maps
def kvL (f : Nat → Option Value) (a : Nat) : Nat → List (Lit × DataW Value)
  | 0 => []
  | m + 1 => match f a with
    | some v => (.int .i64 (a : Int), .held v) :: kvL f (a + 1) m
    | none => kvL f (a + 1) m
theorem kvL_congr {f g : Nat → Option Value} : ∀ (m a : Nat), (∀ i, a ≤ i → i < a + m → f i = g i) → kvL f a m = kvL g a m
  | 0, a, h => rfl
  | m + 1, a, h => by
    rw [kvL, kvL, h a (Nat.le_refl _) (by omega), kvL_congr m (a + 1) (fun i h1 h2 => h i (by omega) (by omega))]
theorem kvL_len (f : Nat → Option Value) : ∀ m a, (kvL f a m).length ≤ m
  | 0, a => Nat.le_refl _
  | m + 1, a => by
    have := kvL_len f m (a + 1)
    rw [kvL]; split <;> simp <;> omega
theorem kvL_mem {f : Nat → Option Value} : ∀ {m a : Nat} {x : Lit × DataW Value}, x ∈ kvL f a m → ∃ i, a ≤ i ∧ i < a + m ∧ x.1 = .int .i64 (i : Int)
  | 0, a, x, h => by simp [kvL] at h
  | m + 1, a, x, h => by
    rw [kvL] at h
    split at h
    · rcases List.mem_cons.1 h with rfl | h
      · exact ⟨a, Nat.le_refl _, by omega, rfl⟩
      · obtain ⟨i, h1, h2, h3⟩ := kvL_mem h; exact ⟨i, by omega, by omega, h3⟩
    · obtain ⟨i, h1, h2, h3⟩ := kvL_mem h; exact ⟨i, by omega, by omega, h3⟩
theorem same_int (a b : Nat) : Lit.sameKey (.int .i64 (a : Int)) (.int .i64 (b : Int)) = decide (a = b) := by
  simp only [Lit.sameKey, true_and]
  by_cases h : a = b
  · simp [h]
  · have : ¬ ((a : Int) = b) := by omega
    simp [h, this]
theorem kvL_find {f : Nat → Option Value} {i : Nat} : ∀ (m a : Nat), a ≤ i → i < a + m → (kvL f a m).find? (fun p => p.1.sameKey (.int .i64 (i : Int))) = (f i).map fun v => (.int .i64 (i : Int), .held v)
  | 0, a, h1, h2 => by omega
  | m + 1, a, h1, h2 => by
    have hno : ∀ (m' a' : Nat), i < a' → (kvL f a' m').find? (fun p => p.1.sameKey (.int .i64 (i : Int))) = none := fun m' a' h => by
      rw [List.find?_eq_none]
      intro x hx
      obtain ⟨j, h3, h4, h5⟩ := kvL_mem hx
      rw [h5, same_int]; simp; omega
    by_cases h : a = i
    · subst h
      rw [kvL]
      cases hf : f a with
      | some v => simp only [List.find?_cons, same_int]; simp
      | none => exact hno m (a + 1) (by omega)
    · rw [kvL]
      have ih := kvL_find (f := f) (i := i) m (a + 1) (by omega) (by omega)
      cases hf : f a with
      | some v => simp only [List.find?_cons, same_int]; simp [h, ih]
      | none => exact ih
def updF (f : Nat → Option Value) (i : Nat) (v : Option Value) : Nat → Option Value := fun j => if j = i then v else f j
theorem kvL_del {f : Nat → Option Value} {i : Nat} : ∀ (m a : Nat), (kvL f a m).filter (fun p => !p.1.sameKey (.int .i64 (i : Int))) = kvL (updF f i none) a m
  | 0, a => rfl
  | m + 1, a => by
    have ih := kvL_del (f := f) (i := i) m (a + 1)
    rw [kvL, kvL]
    by_cases h : a = i
    · rw [show updF f i none a = none from if_pos h]
      cases hf : f a with
      | some v => subst h; simp only [List.filter_cons, same_int]; simpa using ih
      | none => exact ih
    · rw [show updF f i none a = f a from if_neg h]
      cases hf : f a with
      | some v => simp only [List.filter_cons, same_int]; simp [h, ih]
      | none => exact ih
theorem kvL_ins {f : Nat → Option Value} {i : Nat} {v : Value} : ∀ (m a : Nat), f i = none → a ≤ i → i < a + m → DataW.insert (.int .i64 (i : Int), .held v) (kvL f a m) = kvL (updF f i (some v)) a m
  | 0, a, _, h1, h2 => by omega
  | m + 1, a, hn, h1, h2 => by
    rw [kvL, kvL]
    by_cases h : a = i
    · subst h
      rw [show updF f a (some v) a = some v from if_pos rfl, hn]
      have e : kvL (updF f a (some v)) (a + 1) m = kvL f (a + 1) m := kvL_congr m (a + 1) fun j h3 h4 => if_neg (by omega)
      simp only [e]
      cases hk : kvL f (a + 1) m with
      | nil => rfl
      | cons y r =>
        obtain ⟨j, h3, h4, h5⟩ := kvL_mem (f := f) (x := y) (m := m) (a := a + 1) (by rw [hk]; exact List.mem_cons_self ..)
        rw [DataW.insert]
        rw [if_pos (by rw [h5]; simp [Lit.before]; omega)]
    · rw [show updF f i (some v) a = f a from if_neg h]
      have ih := kvL_ins (f := f) (i := i) (v := v) m (a + 1) hn (by omega) (by omega)
      cases hf : f a with
      | some u =>
        simp only
        rw [DataW.insert, if_neg (by simp [Lit.before]; omega), ih]
      | none => exact ih
def RH : Value → Option (DataW Value × List MemPlace) := fun v => some (.held v, [])
def MapAt (P : Program) (k : TypeId) (w : World) (m N : Nat) (f : Nat → Option Value) : Prop := w.ownsMap P k RH m N (.map (kvL f 0 N))
theorem ownsMap_tight {P : Program} {k : TypeId} {R : Value → Option (DataW Value × List MemPlace)} {w : World} {b n N : Nat} {es : List (Lit × DataW Value)} (h : w.ownsMap P k R b n (.map es)) (hN : es.length ≤ N) : w.ownsMap P k R b N (.map es) := by
  obtain ⟨e, clock, hb, F, hs, hD⟩ := h
  refine ⟨e, clock, hb, F, ?_, hD⟩
  have h1 : es = (e.toList.map (Go.WideElems.rg P k R)).foldr DataW.insert [] := by injection hD
  have h2 := length_sorted (e.toList.map (Go.WideElems.rg P k R))
  rw [← h1] at h2
  simp at h2
  omega
namespace MapAt
variable {P : Program} {k : TypeId} {w w' : World} {m N : Nat} {f : Nat → Option Value}
theorem lt (h : MapAt P k w m N f) : m < w.heap.size := World.ownsMap.lt h
theorem same (h : MapAt P k w m N f) (he : w'.heap[m]? = w.heap[m]?) : MapAt P k w' m N f := by
  obtain ⟨es, clock, hb, r⟩ := h
  exact ⟨es, clock, he.trans hb, r⟩
theorem kpd {M : List Nat} (h : MapAt P k w m N f) (hk : Kp M w w') (hM : m ∉ M) : MapAt P k w' m N f := h.same (hk.block m h.lt hM)
theorem new (h : MapAt P k w m N f) (hb : Below w.heap.size w w') : MapAt P k w' m N f := h.kpd (M := []) (Kp.of_below hb) (fun h => by cases h)
theorem only {g : Nat} (h : MapAt P k w m N f) (ho : Only g w w') (hg : m ≠ g) : MapAt P k w' m N f := h.kpd (Kp.of_only ho) (by simpa using hg)
theorem own {base e sz n : Nat} {v : Value} {xs : List Value} (h : MapAt P k w m N f) (ho : ownsAt w base e sz v n xs) (hg : w.grownBy w' v.ownBlock) (hk : m < base) : MapAt P k w' m N f := h.kpd (Kp.of_grown hg) fun hm => by
  have := (ho.lt m (Option.mem_toList.1 hm)).1; omega
end MapAt
structure KpB (M : List Nat) (w0 w : World) : Prop where
  k : Kp M w0 w
namespace KpB
variable {M : List Nat} {w0 w w' : World}
theorem refl (M : List Nat) (w : World) : KpB M w w := ⟨Kp.refl M w⟩
theorem kpd {N : List Nat} (h : KpB M w0 w) (k : Kp N w w') (hN : ∀ g, g ∈ N → g ∈ M ∨ w0.heap.size ≤ g) : KpB M w0 w' :=
  ⟨⟨k.os.trans h.k.os, k.tape.trans h.k.tape, k.output.trans h.k.output, Nat.le_trans h.k.size k.size, fun b hb hm => by
    rw [k.block b (Nat.lt_of_lt_of_le hb h.k.size) fun hn => ?_]
    · exact h.k.block b hb hm
    · rcases hN b hn with e | e
      · exact hm e
      · omega⟩⟩
theorem new (h : KpB M w0 w) (hb : Below w.heap.size w w') : KpB M w0 w' := h.kpd (N := []) (Kp.of_below hb) (fun g hm => by cases hm)
theorem only {g : Nat} (h : KpB M w0 w) (ho : Only g w w') (hg : g ∈ M ∨ w0.heap.size ≤ g) : KpB M w0 w' := h.kpd (Kp.of_only ho) fun g' hm => by
  have : g' = g := by simpa using hm
  rw [this]; exact hg
theorem own {base e sz m : Nat} {v : Value} {xs : List Value} (h : KpB M w0 w) (ho : ownsAt w base e sz v m xs) (hg : w.grownBy w' v.ownBlock) (hk : w0.heap.size ≤ base) : KpB M w0 w' :=
  h.kpd (Kp.of_grown hg) fun g hm => Or.inr (Nat.le_trans hk (ho.lt g (Option.mem_toList.1 hm)).1)
end KpB
theorem turned_only {w w' : World} {b : Nat} (h : w.mapTurned w' b) : Only b w w' := by
  obtain ⟨es, clock, es', clock', hb, rfl⟩ := h
  exact ⟨rfl, rfl, rfl, by simp [Go.ChangeMaps.setBlock], fun k hk => Go.ChangeMaps.heap_setBlock_other hb _ hk⟩
section
variable {P : Program} {ρ : Env} {w : World} {d : Option Nat} {ty : TypeId} {pos : String} {af : Array Edge} {gd : Option (Nat × Bool)} {K : Value → World → Prop} {Kw : World → Prop}
theorem rn_neqP1 {t t' : Nat} {x y : Operand} {a : Addr} (ht : ptrT P t = true) (hx : ev ρ x = .pointer (some a)) (hy : ev ρ y = .pointer none) : (execOp (ev ρ) ⟨d, .binOp .neq t x y t', ty, pos, af, gd⟩).run P w = .ok (.value (.bool true)) w := by
  have := eqIn_ptr1 (w := w) ht 9999 a
  simp [execOp, hx, hy, eqGuard, binOp, Op.equal, Op.maxDepth, this, Result.andThen]
theorem i64_wf {i : Nat} (h : i < 9223372036854775808) : (Lit.int .i64 (i : Int)).wf = true := by
  have e1 : IntKind.i64.min = -9223372036854775808 := by decide
  have e2 : IntKind.i64.max = 9223372036854775807 := by decide
  simp [Lit.wf, e1, e2]; omega
theorem rn_lookupM {t k e : TypeId} {x y : Operand} {m N : Nat} {f : Nat → Option Value} {a : Int} (z : Value) (ht : P.underlying t = some (.map k e)) (hk : P.underlying k = some (.int .i64)) (hz : ∀ w, (zeroValue e).run P w = .ok z w)
    (hm : MapAt P k w m N f) (hx : ev ρ x = .map (some m)) (hy : ev ρ y = .int .i64 a) (i : Nat) (ha : a = (i : Int)) (hi : i < N) (hN : N ≤ 1000000) :
    (execOp (ev ρ) ⟨d, .lookup t x y false, ty, pos, af, gd⟩).run P w = .ok (.value ((f i).getD z)) w := by
  subst ha
  obtain ⟨v, ps, hr, hv⟩ := World.ownsMap.lookup hm (int_keyed hk) ht (hz w) (zd := .held z) (zp := []) rfl (keyOf_int_mk hk (i64_wf (i := i) (by omega)))
  have e : DataW.atKey (.map (kvL f 0 N)) (.int .i64 (i : Int)) (.held z) = .held ((f i).getD z) := by
    unfold DataW.atKey
    simp only [kvL_find N 0 (Nat.zero_le _) (by omega : i < 0 + N)]
    cases f i <;> rfl
  rw [e] at hv
  have : v = (f i).getD z := by
    have h1 : (some (DataW.held v, ([] : List MemPlace))) = some (.held ((f i).getD z), ps) := hv
    injection h1 with h1
    injection h1 with h1 h2
    injection h1
  subst this
  simp [execOp, hx, hy, hr, Result.andThen]
theorem rn_lookupV {t k e : TypeId} {x y : Operand} {m N : Nat} {f : Nat → Option Value} {a : Int} {v : Value} (z : Value) (ht : P.underlying t = some (.map k e)) (hk : P.underlying k = some (.int .i64)) (hz : ∀ w, (zeroValue e).run P w = .ok z w)
    (hm : MapAt P k w m N f) (hx : ev ρ x = .map (some m)) (hy : ev ρ y = .int .i64 a) (i : Nat) (ha : a = (i : Int)) (hi : i < N) (hN : N ≤ 1000000) (hv : (f i).getD z = v) :
    (execOp (ev ρ) ⟨d, .lookup t x y false, ty, pos, af, gd⟩).run P w = .ok (.value v) w := by
  rw [← hv]; exact rn_lookupM z ht hk hz hm hx hy i ha hi hN
theorem sk_mapUpd {t k e : TypeId} {x y u : Operand} {m N : Nat} {f : Nat → Option Value} {a : Int} (v : Value) (ht : P.underlying t = some (.map k e)) (hk : P.underlying k = some (.int .i64))
    (hm : MapAt P k w m N f) (hx : ev ρ x = .map (some m)) (hy : ev ρ y = .int .i64 a) (hu : ev ρ u = v) (i : Nat) (ha : a = (i : Int)) (hi : i < N) (hN : N ≤ 1000000)
    (h : ∀ w', MapAt P k w' m N (updF f i (some v)) → Only m w w' → Kw w') : Sk P ρ w ⟨d, .mapUpdate t x y u, ty, pos, af, gd⟩ Kw := by
  subst ha
  obtain ⟨w', hr, h1, h2⟩ := World.ownsMap.store hm (int_keyed hk) ht (by unfold maxLen; omega) (keyOf_int_mk hk (i64_wf (i := i) (by omega))) (val := v) (d := .held v) (ps := []) rfl
  refine ⟨w', ?_, h w' ?_ (turned_only h2)⟩
  · simp [execOp, hx, hy, hu, hr, Result.andThen]
  · have e : DataW.put (.map (kvL f 0 N)) (.int .i64 (i : Int)) (.held v) = .map (kvL (updF f i (some v)) 0 N) := by
      unfold DataW.put
      simp only [kvL_del]
      rw [kvL_ins N 0 (if_pos rfl) (Nat.zero_le _) (by omega)]
      congr 1
      exact kvL_congr N 0 fun j _ _ => by unfold updF; split <;> rfl
    rw [e] at h1
    exact ownsMap_tight h1 (kvL_len _ _ _)
theorem mk_delete {t k e : TypeId} {x y : Operand} {m N : Nat} {f : Nat → Option Value} {a : Int} (ht : P.underlying t = some (.map k e)) (hk : P.underlying k = some (.int .i64))
    (hm : MapAt P k w m N f) (hx : ev ρ x = .map (some m)) (hy : ev ρ y = .int .i64 a) (i : Nat) (ha : a = (i : Int)) (hi : i < N) (hN : N ≤ 1000000)
    (h : ∀ w', MapAt P k w' m N (updF f i none) → Only m w w' → K (.tuple #[]) w') : Mk P ρ w ⟨d, .call ⟨.builtin .delete, #[x, y], #[t, k]⟩, ty, pos, af, gd⟩ K := by
  subst ha
  obtain ⟨w', hr, h1, h2⟩ := World.ownsMap.drop hm (int_keyed hk) ht (keyOf_int_mk hk (i64_wf (i := i) (by omega))) ty
  refine ⟨_, w', ?_, h w' ?_ (turned_only h2)⟩
  · simp [execOp, resolve, invoke, builtin, hx, hy, hr, Result.andThen]
  · have e : DataW.del (.map (kvL f 0 N)) (.int .i64 (i : Int)) = .map (kvL (updF f i none) 0 N) := by
      unfold DataW.del
      simp only [kvL_del]
    rw [e] at h1
    exact h1
theorem kvL_none : ∀ m a, kvL (fun _ => none) a m = []
  | 0, a => rfl
  | m + 1, a => by rw [kvL]; exact kvL_none m (a + 1)
theorem mk_makeMap {t k : TypeId} (N : Nat) (h : ∀ m w', w.heap.size ≤ m → MapAt P k w' m N (fun _ => none) → Below w.heap.size w w' → K (.map (some m)) w') : Mk P ρ w ⟨d, .makeMap t none, ty, pos, af, gd⟩ K := by
  refine ⟨_, _, ?_, h w.heap.size (w.alloc (.map #[] 0)) (Nat.le_refl _) ?_ (below_alloc w _)⟩
  · simp only [execOp]
    first
      | rfl
      | simp [run_makeMap, Result.andThen]
  · unfold MapAt
    rw [kvL_none]
    exact World.ownsMap.mono (World.ownsMap_made w P k RH) (Nat.zero_le _)
end
end Coup
namespace Go.Proofs
open Go.Shelf
def Try.keysA_ren : Go.Shelf.Ren := ⟨fun | 7 => 45 | 10 => 51 | n => n, fun | 23 => 61 | 26 => 3 | 3 => 52 | 28 => 78 | 0 => 0 | 27 => 77 | 33 => 68 | 4 => 4 | n => n, fun | n => n⟩
theorem Try.keysA : Go.Proofs.SlLaysZI.n7 Try.prog Try.keysA_ren := {
  mixed := by kernel_rfl
  f7 := ⟨Try.f45.name, by decide, Try.func45.trans (congrArg some (by kernel_rfl))⟩
  f10 := ⟨Try.f51.name, by decide, Try.func51.trans (congrArg some (by kernel_rfl))⟩
  t0 := Try.underlying0
  a0 := Try.isAgg0
  z0 := Try.sizeOf0
  v0 := Try.zeroValue0
  t4 := Try.underlying4
  a4 := Try.isAgg4
  z4 := Try.sizeOf4
  v4 := Try.zeroValue4
  t23 := Try.underlying61
  a23 := Try.isAgg61
  z23 := Try.sizeOf61
  v23 := Try.zeroValue61
  t26 := Try.underlying3
  a26 := Try.isAgg3
  z26 := Try.sizeOf3
  v26 := Try.zeroValue3
  t27 := Try.underlying77
  a27 := Try.isAgg77
  z27 := Try.sizeOf77
  v27 := Try.zeroValue77
  t28 := Try.underlying78
  a28 := Try.isAgg78
  z28 := Try.sizeOf78
  v28 := Try.zeroValue78
  t33 := Try.underlying68
  a33 := Try.isAgg68
  z33 := Try.sizeOf68
  v33 := Try.zeroValue68 }
def Try.sortedA_ren : Go.Shelf.Ren := ⟨fun | 6 => 44 | 8 => 49 | 9 => 50 | 11 => 52 | 13 => 54 | 12 => 53 | 23 => 64 | 24 => 65 | 14 => 55 | 15 => 56 | 16 => 57 | 17 => 58 | 18 => 59 | 19 => 60 | 20 => 61 | 21 => 62 | 22 => 63 | 25 => 66 | 26 => 67 | 27 => 68 | 28 => 69 | 29 => 70 | 30 => 71 | 31 => 72 | n => n, fun | 26 => 3 | 28 => 78 | 24 => 35 | 0 => 0 | 3 => 3 | 37 => 85 | 48 => 96 | 50 => 98 | 4 => 4 | 40 => 88 | 39 => 87 | 45 => 93 | 5 => 5 | 9 => 9 | 51 => 99 | 55 => 103 | 57 => 105 | 58 => 106 | 33 => 68 | n => n, fun | n => n⟩
theorem Try.sortedA : Go.Proofs.SlLaysZI.n6 Try.prog Try.sortedA_ren := {
  mixed := by kernel_rfl
  f6 := ⟨Try.f44.name, by decide, Try.func44.trans (congrArg some (by kernel_rfl))⟩
  f8 := ⟨Try.f49.name, by decide, Try.func49.trans (congrArg some (by kernel_rfl))⟩
  f11 := ⟨Try.f52.name, by decide, Try.func52.trans (congrArg some (by kernel_rfl))⟩
  t0 := Try.underlying0
  a0 := Try.isAgg0
  z0 := Try.sizeOf0
  v0 := Try.zeroValue0
  t24 := Try.underlying35
  a24 := Try.isAgg35
  z24 := Try.sizeOf35
  v24 := Try.zeroValue35
  t26 := Try.underlying3
  a26 := Try.isAgg3
  z26 := Try.sizeOf3
  v26 := Try.zeroValue3
  t28 := Try.underlying78
  a28 := Try.isAgg78
  z28 := Try.sizeOf78
  v28 := Try.zeroValue78
  i26 := by kernel_rfl }
def Try.sortA_ren : Go.Shelf.Ren := ⟨fun | 5 => 50 | 8 => 54 | 7 => 53 | 19 => 64 | 20 => 65 | 10 => 55 | 11 => 56 | 12 => 57 | 13 => 58 | 14 => 59 | 15 => 60 | 16 => 61 | 17 => 62 | 18 => 63 | 30 => 66 | 31 => 67 | 32 => 68 | 33 => 69 | 34 => 70 | 35 => 71 | 40 => 72 | n => n, fun | 23 => 35 | 25 => 3 | 3 => 3 | 32 => 85 | 22 => 35 | 0 => 0 | 44 => 96 | 46 => 98 | 4 => 4 | 36 => 88 | 35 => 87 | 41 => 93 | 5 => 5 | 9 => 9 | 53 => 99 | 57 => 103 | 63 => 105 | 64 => 106 | n => n, fun | n => n⟩
theorem Try.sortA : Go.Proofs.SlLaysM.n5 Try.prog Try.sortA_ren := {
  mixed := by kernel_rfl
  f5 := ⟨Try.f50.name, by decide, Try.func50.trans (congrArg some (by kernel_rfl))⟩
  f7 := ⟨Try.f53.name, by decide, Try.func53.trans (congrArg some (by kernel_rfl))⟩
  f8 := Try.func54.trans (congrArg some (by kernel_rfl))
  f10 := ⟨Try.f55.name, by decide, Try.func55.trans (congrArg some (by kernel_rfl))⟩
  f11 := ⟨Try.f56.name, by decide, Try.func56.trans (congrArg some (by kernel_rfl))⟩
  f12 := ⟨Try.f57.name, by decide, Try.func57.trans (congrArg some (by kernel_rfl))⟩
  f13 := ⟨Try.f58.name, by decide, Try.func58.trans (congrArg some (by kernel_rfl))⟩
  f14 := ⟨Try.f59.name, by decide, Try.func59.trans (congrArg some (by kernel_rfl))⟩
  f15 := ⟨Try.f60.name, by decide, Try.func60.trans (congrArg some (by kernel_rfl))⟩
  f16 := ⟨Try.f61.name, by decide, Try.func61.trans (congrArg some (by kernel_rfl))⟩
  f17 := ⟨Try.f62.name, by decide, Try.func62.trans (congrArg some (by kernel_rfl))⟩
  f18 := ⟨Try.f63.name, by decide, Try.func63.trans (congrArg some (by kernel_rfl))⟩
  f19 := Try.func64.trans (congrArg some (by kernel_rfl))
  f20 := Try.func65.trans (congrArg some (by kernel_rfl))
  f30 := ⟨Try.f66.name, by decide, Try.func66.trans (congrArg some (by kernel_rfl))⟩
  f31 := Try.func67.trans (congrArg some (by kernel_rfl))
  f32 := Try.func68.trans (congrArg some (by kernel_rfl))
  f33 := ⟨Try.f69.name, by decide, Try.func69.trans (congrArg some (by kernel_rfl))⟩
  f34 := ⟨Try.f70.name, by decide, Try.func70.trans (congrArg some (by kernel_rfl))⟩
  f35 := ⟨Try.f71.name, by decide, Try.func71.trans (congrArg some (by kernel_rfl))⟩
  f40 := ⟨Try.f72.name, by decide, Try.func72.trans (congrArg some (by kernel_rfl))⟩
  t0 := Try.underlying0
  a0 := Try.isAgg0
  z0 := Try.sizeOf0
  v0 := Try.zeroValue0
  t3 := Try.underlying3
  a3 := Try.isAgg3
  z3 := Try.sizeOf3
  v3 := Try.zeroValue3
  t4 := Try.underlying4
  a4 := Try.isAgg4
  z4 := Try.sizeOf4
  v4 := Try.zeroValue4
  t5 := Try.underlying5
  a5 := Try.isAgg5
  z5 := Try.sizeOf5
  v5 := Try.zeroValue5
  t9 := Try.underlying9
  a9 := Try.isAgg9
  z9 := Try.sizeOf9
  v9 := Try.zeroValue9
  t22 := Try.underlying35
  a22 := Try.isAgg35
  z22 := Try.sizeOf35
  v22 := Try.zeroValue35
  t23 := Try.underlying35
  a23 := Try.isAgg35
  z23 := Try.sizeOf35
  v23 := Try.zeroValue35
  t25 := Try.underlying3
  a25 := Try.isAgg3
  z25 := Try.sizeOf3
  v25 := Try.zeroValue3
  t32 := Try.underlying85
  a32 := Try.isAgg85
  z32 := Try.sizeOf85
  v32 := Try.zeroValue85
  t35 := Try.underlying87
  a35 := Try.isAgg87
  z35 := Try.sizeOf87
  v35 := Try.zeroValue87
  t36 := Try.underlying88
  a36 := Try.isAgg88
  z36 := Try.sizeOf88
  v36 := Try.zeroValue88
  t41 := Try.underlying93
  a41 := Try.isAgg93
  z41 := Try.sizeOf93
  v41 := Try.zeroValue93
  t44 := Try.underlying96
  a44 := Try.isAgg96
  z44 := Try.sizeOf96
  v44 := Try.zeroValue96
  t46 := Try.underlying98
  a46 := Try.isAgg98
  z46 := Try.sizeOf98
  v46 := Try.zeroValue98
  t53 := Try.underlying99
  a53 := Try.isAgg99
  z53 := Try.sizeOf99
  v53 := Try.zeroValue99
  t57 := Try.underlying103
  a57 := Try.isAgg103
  z57 := Try.sizeOf103
  v57 := Try.zeroValue103
  t63 := Try.underlying105
  a63 := Try.isAgg105
  z63 := Try.sizeOf105
  v63 := Try.zeroValue105
  t64 := Try.underlying106
  a64 := Try.isAgg106
  z64 := Try.sizeOf106
  v64 := Try.zeroValue106 }
end Go.Proofs
namespace Go.Proofs.Ytpndhildmfmcgaa
open Go Go.RowKit Go.Maps Go.Sort Go.Shelf Coup
theorem sortsA (m : Nat) : AnyZI.SortsIn Try.prog Try.sortedA_ren Fence.wide m :=
  ⟨fun blk off cap ss W hH hblk hsz => callsIn_wide.2 (AnyM.slices_Sort_int Try.sortA blk off cap ss W hH hblk hsz),
   fun p cap W => callsIn_wide.2 (AnyM.slices_Sort_int_none Try.sortA p cap W)⟩
def keysOf (f : Nat → Option Value) : Nat → Nat → List Int
  | _, 0 => []
  | a, m + 1 => if (f a).isSome then (a : Int) :: keysOf f (a + 1) m else keysOf f (a + 1) m
theorem keysOf_ge {f : Nat → Option Value} : ∀ {m a : Nat} {x : Int}, x ∈ keysOf f a m → (a : Int) ≤ x ∧ x < a + m
  | 0, a, x, h => by simp [keysOf] at h
  | m + 1, a, x, h => by
    rw [keysOf] at h
    split at h
    · rcases List.mem_cons.1 h with rfl | h
      · omega
      · have := keysOf_ge h; omega
    · have := keysOf_ge h; omega
theorem keysOf_rise (f : Nat → Option Value) : ∀ (m a : Nat), (keysOf f a m).Pairwise (fun x y => leI x y = true)
  | 0, a => List.Pairwise.nil
  | m + 1, a => by
    rw [keysOf]
    split
    · refine List.Pairwise.cons (fun y hy => ?_) (keysOf_rise f m (a + 1))
      have := keysOf_ge hy
      simp [leI]; omega
    · exact keysOf_rise f m (a + 1)
theorem keysOf_kvL (f : Nat → Option Value) : ∀ (m a : Nat), intKeys (DataW.map (kvL f a m)) = keysOf f a m
  | 0, a => rfl
  | m + 1, a => by
    have ih := keysOf_kvL f m (a + 1)
    unfold intKeys at ih ⊢
    simp only [kvL, keysOf]
    cases hf : f a with
    | some v => simp only [List.map_cons, ih]; rfl
    | none => simpa using ih
theorem keysOf_sorted (f : Nat → Option Value) (m a : Nat) {ss : List Int} (h : ss.Perm (intKeys (DataW.map (kvL f a m)))) : ss.mergeSort (fun x y => decide (x ≤ y)) = keysOf f a m := by
  rw [keysOf_kvL] at h
  have h1 : ss.mergeSort leI = (keysOf f a m).mergeSort leI := mergeSort_of_perm_i h
  have h2 : (keysOf f a m).mergeSort leI = keysOf f a m := List.mergeSort_of_pairwise (keysOf_rise f m a)
  exact h1.trans h2
theorem keysC (mb : Option Nat) (w : World) : Calls Try.prog 45 [.map mb].toArray w (Ret fun v w' => v = .func (.func 51) #[] #[.pointer (some ⟨w.heap.size, 0, none⟩)] ∧ w' = w.alloc (.cells #[.map mb] 61) ∧ Below w.heap.size w w') := by
  have h : CallsIn Fence.wide 5 Try.prog 45 #[.map mb] w fun e w' => e = .returned (.func (.func 51) #[] #[.pointer (some ⟨w.heap.size, 0, none⟩)]) ∧ w' = w.alloc (.cells #[.map mb] 61) := AnyZI.keys_in Try.keysA Fence.wide 5 trivial rfl mb w
  refine (callsIn_wide.1 h).mono ?_
  rintro e w' ⟨rfl, rfl⟩
  exact ⟨_, rfl, rfl, rfl, (Below.refl _ w).alloc (Nat.le_refl _) _⟩
theorem sortedC {b N : Nat} {f : Nat → Option Value} (w W : World) (hW : W = w.alloc (.cells #[.map (some b)] 61)) (h : MapAt Try.prog 3 w b N f) (hN : N ≤ 1000000) :
    Calls Try.prog 44 [.func (.func 51) #[] #[.pointer (some ⟨w.heap.size, 0, none⟩)]].toArray W (Ret fun v w' => ∃ p c, v = .slice p (keysOf f 0 N).length c ∧ SlAt w' p (keysOf f 0 N).length 1 (iv (keysOf f 0 N)) ∧ (∀ b o, p = some ⟨b, o, none⟩ → W.heap.size ≤ b) ∧ Below W.heap.size W w') := by
  subst hW
  have hbl := h.lt
  have hle := kvL_len f N 0
  have hml : maxLen = 9223372036854775807 := by decide
  have hsz : Maps.size (DataW.map (kvL f 0 N)) ≤ N := hle
  have hown : (w.alloc (.cells #[.map (some b)] 61)).ownsMap Try.prog 3 RH b N (.map (kvL f 0 N)) := by
    obtain ⟨es, clock, hb, Ft, hs, hD⟩ := h
    exact ⟨es, clock, (Below.heap_alloc _ _ b hbl).trans hb, Ft, hs, hD⟩
  have hseq : SeqGives Fence.wide 2 Try.prog 51 #[.pointer (some ⟨w.heap.size, 0, none⟩)] encZ (fun ss => ss.Perm (intKeys (DataW.map (kvL f 0 N)))) (Maps.size (DataW.map (kvL f 0 N))) (w.alloc (.cells #[.map (some b)] 61)) :=
    AnyZI.keys_gives (ρ := Try.keysA_ren) { Try.keysA with } Fence.wide _ trivial rfl (by omega) w.heap.size b N _ _ (by simp) (by simp) hown
  have cS := AnyZI.sorted_in Try.sortedA Fence.wide 5 trivial trivial trivial trivial rfl (by omega) (sortsA _) (enters_of Try.func50 (by kernel_rfl) rfl) 51 #[.pointer (some ⟨w.heap.size, 0, none⟩)] trivial (enters_of Try.func51 (by kernel_rfl) rfl) _ _ (by omega) (by omega) _ hseq
  change CallsIn _ _ Try.prog 44 _ _ _ at cS
  refine (callsIn_wide.1 cS).mono ?_
  rintro e w' ⟨v, ss, rfl, hS, hrow, hnil, hb⟩
  have hlen : ss.length = (keysOf f 0 N).length := by rw [← keysOf_kvL, hS.length_eq]
  rw [keysOf_sorted f N 0 hS, hlen] at hrow
  have ho := ownsAt_of_row hrow
  obtain ⟨p, c, rfl⟩ := ho.form
  exact ⟨_, rfl, p, c, rfl, ho.sl, fun b o e => (ho.lt b (by rw [e]; rfl)).1, hb⟩
end Go.Proofs.Ytpndhildmfmcgaa
namespace Go.Proofs.Ytpndhildmfmcgaa
open Go Go.RowKit Coup
abbrev Sec := List UInt8
structure Dk where
  V : List (List Sec)
  left : Int
  dead : Bool
def Dk.n (D : Dk) : Nat := D.V.length
def zeroS : Sec := List.replicate 128 0
def secsOk (L : List Sec) : Prop := ∀ s ∈ L, s.length = 128
structure DkOk (D : Dk) : Prop where
  n : D.V.length ≤ 8192
  ne : ∀ v ∈ D.V, v ≠ []
  sec : ∀ v ∈ D.V, secsOk v
  short : ∀ v ∈ D.V, v.length ≤ 100000
def ver (D : Dk) (i : Nat) : List Sec := D.V.getD i []
def lastS (v : List Sec) : Sec := v.getLastD zeroS
def headS (v : List Sec) : Sec := v.headD zeroS
def readD (D : Dk) (i : Nat) : Sec := lastS (ver D i)
def stepOk (D : Dk) : Bool := !(D.dead || D.left == 0)
def stepD (D : Dk) : Dk := if stepOk D then { D with left := if 0 < D.left then D.left - 1 else D.left } else { D with dead := true }
def setV (D : Dk) (i : Nat) (v : List Sec) : Dk := { D with V := D.V.set i v }
def writeD (D : Dk) (i : Nat) (s : Sec) : Dk := if stepOk D then setV (stepD D) i (ver D i ++ [s]) else stepD D
def flushD (D : Dk) : Dk := if stepOk D then { stepD D with V := D.V.map fun v => [lastS v] } else stepD D
def openB (D : Dk) (i : Nat) : Bool := decide (1 < (ver D i).length)
def tornS (a b : Sec) : Sec := a.take 64 ++ b.drop 64
def leftAt (v : List Sec) (k : Nat) : Sec := if k % 2 = 1 then v.getD ((k + 1) / 2) zeroS else if k = 0 then headS v else tornS (v.getD (k / 2) zeroS) (v.getD (k / 2 - 1) zeroS)
def leftS (v : List Sec) (pick : Int) : Sec := leftAt v (pick % ((2 * v.length - 1 : Nat) : Int)).toNat
def opN (D : Dk) : List Nat := (List.range D.V.length).filter (openB D)
theorem flat_len {L : List Sec} (h : secsOk L) : L.flatten.length = L.length * 128 := by
  induction L with
  | nil => rfl
  | cons s L ih =>
    rw [List.flatten_cons, List.length_append, ih (fun x hx => h x (List.mem_cons_of_mem _ hx)), h s (List.mem_cons_self ..), List.length_cons]; omega
theorem flat_at {L : List Sec} (h : secsOk L) {i : Nat} {s : Sec} (hs : L[i]? = some s) : (L.flatten.drop (i * 128)).take 128 = s := by
  induction L generalizing i with
  | nil => simp at hs
  | cons t L ih =>
    have ht := h t (List.mem_cons_self ..)
    cases i with
    | zero =>
      have : t = s := by simpa using hs
      rw [Nat.zero_mul, List.drop_zero, List.flatten_cons, this, List.take_left' (this ▸ ht)]
    | succ i =>
      have hs' : L[i]? = some s := by simpa using hs
      rw [List.flatten_cons, show (i + 1) * 128 = t.length + i * 128 by omega, List.drop_append, show (t.drop (t.length + i * 128)) = [] from List.drop_of_length_le (by omega), List.nil_append, show t.length + i * 128 - t.length = i * 128 by omega]
      exact ih (fun x hx => h x (List.mem_cons_of_mem _ hx)) hs'
theorem flat_set {L : List Sec} (h : secsOk L) {i : Nat} {s : Sec} (hi : i < L.length) (hs : s.length = 128) : splice (bv L.flatten) (i * 128) (bv s) = bv (L.set i s).flatten := by
  have e : ∀ (L : List Sec) (i : Nat), secsOk L → i < L.length → (L.set i s).flatten = L.flatten.take (i * 128) ++ (s ++ L.flatten.drop (i * 128 + 128)) := by
    intro L
    induction L with
    | nil => intro i _ h; simp at h
    | cons t L ih =>
      intro i h hi
      have ht := h t (List.mem_cons_self ..)
      cases i with
      | zero =>
        rw [List.set_cons_zero, List.flatten_cons, List.flatten_cons, Nat.zero_mul, List.take_zero, List.nil_append, Nat.zero_add, List.drop_left' ht]
      | succ i =>
        have ih' := ih i (fun x hx => h x (List.mem_cons_of_mem _ hx)) (by simpa using hi)
        have e1 : ∀ (X : List UInt8) (k : Nat), (t ++ X).take (t.length + k) = t ++ X.take k := fun X k => by rw [List.take_append, List.take_of_length_le (l := t) (Nat.le_add_right _ _), Nat.add_sub_cancel_left]
        have e2 : ∀ (X : List UInt8) (k : Nat), (t ++ X).drop (t.length + k) = X.drop k := fun X k => by rw [List.drop_append, List.drop_of_length_le (l := t) (Nat.le_add_right _ _), Nat.add_sub_cancel_left, List.nil_append]
        rw [List.set_cons_succ, List.flatten_cons, ih', List.flatten_cons, show (i + 1) * 128 = t.length + i * 128 by omega, show t.length + i * 128 + 128 = t.length + (i * 128 + 128) by omega, e1, e2, List.append_assoc]
  rw [e L i h hi]
  simp only [splice, bv, List.map_append, List.map_take, List.map_drop, List.length_map, hs]
theorem secsOk.set {L : List Sec} (h : secsOk L) {i : Nat} {s : Sec} (hs : s.length = 128) : secsOk (L.set i s) := fun x hx => by
  rcases List.mem_or_eq_of_mem_set hx with e | e
  · exact h x e
  · rw [e]; exact hs
def lastsD (D : Dk) : List Sec := D.V.map headS
theorem lasts_ok {D : Dk} (h : DkOk D) : secsOk (lastsD D) := fun s hs => by
  obtain ⟨v, hv, rfl⟩ := List.mem_map.1 hs
  obtain ⟨a, l, rfl⟩ := List.exists_cons_of_ne_nil (h.ne v hv)
  exact h.sec _ hv a (List.mem_cons_self ..)
theorem ver_at {D : Dk} {i : Nat} (hi : i < D.V.length) : D.V[i]? = some (ver D i) := by
  rw [ver, List.getD_eq_getElem?_getD, List.getElem?_eq_getElem hi]; rfl
theorem ver_ok {D : Dk} (h : DkOk D) {i : Nat} (hi : i < D.V.length) : ver D i ≠ [] ∧ secsOk (ver D i) ∧ (ver D i).length ≤ 100000 := by
  have hm := List.mem_of_getElem? (ver_at hi)
  exact ⟨h.ne _ hm, h.sec _ hm, h.short _ hm⟩
theorem lasts_at {D : Dk} {i : Nat} (hi : i < D.V.length) : (lastsD D)[i]? = some (headS (ver D i)) := by
  rw [lastsD, List.getElem?_map, ver_at hi]; rfl
theorem tail_ok {v : List Sec} (h : secsOk v) : secsOk v.tail := fun s hs => h s (List.mem_of_mem_tail hs)
theorem lastS_ok {v : List Sec} (h : secsOk v) : (lastS v).length = 128 := by
  unfold lastS
  rcases List.eq_nil_or_concat v with rfl | ⟨l, s, rfl⟩
  · simp [zeroS]
  · rw [List.concat_eq_append] at h ⊢
    rw [List.getLastD_concat]
    exact h s (by simp)
theorem headS_ok {v : List Sec} (h : secsOk v) : (headS v).length = 128 := by
  cases v with
  | nil => simp [headS, zeroS]
  | cons s l => exact h s (List.mem_cons_self ..)
theorem lastS_tail {v : List Sec} (h : 1 < v.length) : v.tail[v.length - 2]? = some (lastS v) := by
  rcases List.eq_nil_or_concat v with rfl | ⟨l, s, rfl⟩
  · simp at h
  · rw [List.concat_eq_append] at h ⊢
    cases l with
    | nil => simp at h
    | cons a l =>
      rw [lastS, List.getLastD_concat]
      simp
theorem lastS_one {v : List Sec} (h : v.length = 1) : lastS v = headS v := by
  obtain ⟨a, rfl⟩ := List.length_eq_one_iff.1 h
  rfl
end Go.Proofs.Ytpndhildmfmcgaa
namespace Go.Proofs.Ytpndhildmfmcgaa
open Go Go.RowKit Coup
def since (D : Dk) (sv : Nat → Value) : Nat → Option Value := fun i => if openB D i then some (sv i) else none
structure DkM (w : World) (g pl m : Nat) (G : List Nat) (D : Dk) (ol cl : Nat) (st : Int) (fu : Bool) (sv : Nat → Value) : Prop where
  row : Coup.row w g [.slice (some ⟨pl, ol, none⟩) D.V.length cl, .map (some m), .int .i64 st, .bool fu, .bool D.dead] 63
  own : OwnG w 0 34 128 pl ol D.V.length cl (bv (lastsD D).flatten)
  map : MapAt Try.prog 3 w m D.V.length (since D sv)
  sv : ∀ i, openB D i = true → ∃ p c, sv i = .slice p ((ver D i).length - 1) c ∧ SlAt w p ((ver D i).length - 1) 128 (bv (ver D i).tail.flatten) ∧ ∀ b o, p = some ⟨b, o, none⟩ → b ∈ G
  inG : ∀ b ∈ G, b < w.heap.size
  ne : g ≠ pl ∧ g ≠ m ∧ pl ≠ m ∧ ∀ b ∈ G, b ≠ g ∧ b ≠ pl ∧ b ≠ m
  left : 0 ≤ st ∧ st ≤ 9223372036854775807 ∧ D.left = (if fu then st else -1)
  ok : DkOk D
  pos : 0 < D.V.length
namespace DkM
variable {w w' : World} {g pl m : Nat} {G : List Nat} {D : Dk} {ol cl : Nat} {st : Int} {fu : Bool} {sv : Nat → Value}
theorem kpd {M : List Nat} (h : DkM w g pl m G D ol cl st fu sv) (k : Kp M w w') (hM : g ∉ M ∧ pl ∉ M ∧ m ∉ M ∧ ∀ b ∈ G, b ∉ M) : DkM w' g pl m G D ol cl st fu sv :=
  ⟨h.row.kpd k hM.1, h.own.kpd k hM.2.1, h.map.kpd k hM.2.2.1, fun i hi => by
    obtain ⟨p, c, h1, h2, h3⟩ := h.sv i hi
    exact ⟨p, c, h1, h2.kpd k fun b o e => hM.2.2.2 b (h3 b o e), h3⟩, fun b hb => Nat.lt_of_lt_of_le (h.inG b hb) k.size, h.ne, h.left, h.ok, h.pos⟩
theorem new (h : DkM w g pl m G D ol cl st fu sv) (hb : Below w.heap.size w w') : DkM w' g pl m G D ol cl st fu sv := h.kpd (M := []) (Kp.of_below hb) (by simp)
theorem look (h : DkM w g pl m G D ol cl st fu sv) (i : Nat) (hi : i < D.V.length) : ∃ p c, (since D sv i).getD (.slice none 0 0) = .slice p ((ver D i).length - 1) c ∧ SlAt w p ((ver D i).length - 1) 128 (bv (ver D i).tail.flatten) ∧ ∀ b o, p = some ⟨b, o, none⟩ → b ∈ G := by
  by_cases ho : openB D i = true
  · obtain ⟨p, c, h1, h2, h3⟩ := h.sv i ho
    exact ⟨p, c, by rw [since, if_pos ho]; exact h1, h2, h3⟩
  · have h1 := (ver_ok h.ok hi).1
    have h2 : (ver D i).length = 1 := by
      have := List.length_pos_iff.2 h1
      simp only [openB, decide_eq_true_eq] at ho
      omega
    obtain ⟨a, ha⟩ := List.length_eq_one_iff.1 h2
    refine ⟨none, 0, by rw [since, if_neg ho, h2]; rfl, ?_, fun b o e => by cases e⟩
    rw [ha]
    exact SlAt.nil _ _ _
theorem turn (h : DkM w g pl m G D ol cl st fu sv) (ho : Only g w w') {st' : Int} {fu' : Bool} {left' : Int} {dead' : Bool} (hr : Coup.row w' g [.slice (some ⟨pl, ol, none⟩) D.V.length cl, .map (some m), .int .i64 st', .bool fu', .bool dead'] 63)
    (hl : 0 ≤ st' ∧ st' ≤ 9223372036854775807 ∧ left' = (if fu' then st' else -1)) : DkM w' g pl m G { D with left := left', dead := dead' } ol cl st' fu' sv := by
  have k := Kp.of_only ho
  refine ⟨hr, h.own.kpd k (by simpa using Ne.symm h.ne.1), h.map.kpd k (by simpa using Ne.symm h.ne.2.1), fun i hi => ?_, fun b hb => Nat.lt_of_lt_of_le (h.inG b hb) k.size, h.ne, hl, ⟨h.ok.n, h.ok.ne, h.ok.sec, h.ok.short⟩, h.pos⟩
  obtain ⟨p, c, h1, h2, h3⟩ := h.sv i hi
  exact ⟨p, c, h1, h2.kpd k fun b o e => by simpa using (h.ne.2.2.2 b (h3 b o e)).1, h3⟩
end DkM
set_option maxRecDepth 20000 in
theorem sectors27 {w : World} {g pl m : Nat} {G : List Nat} {D : Dk} {ol cl : Nat} {st : Int} {fu : Bool} {sv : Nat → Value} (h : DkM w g pl m G D ol cl st fu sv) :
    Calls Try.prog 27 [.pointer (some ⟨g, 0, none⟩)].toArray w (Ret fun v w' => v = .int .i64 (D.V.length : Int) ∧ w = w') := by
  have hr := h.row
  refine calls_W (fn := Try.f27) (rs := [.tmp 2]) (n := 10) Try.func27 rfl rfl Try.ntmps27 (by kernel_rfl) rfl ?_
  refine W_seq (W_region (WR_val rfl (rn_assign) (WR_nil (thenN (W_seq (W_seq (W_region (WR_val rfl (rn_move) ?_))))))))
  refine WR_val rfl (rn_eqlP1 (by kernel_rfl) rfl rfl) ?_
  refine WR_nil (thenN ?_)
  refine W_fb rfl (rfl) ?_
  refine W_skip (thenN (W_seq (W_region (WR_val rfl (rn_move) (WR_val rfl (rn_nilCheckP rfl) (WR_val rfl (rn_fieldAddr (off := 0) (by kernel_rfl) rfl) ?_))))))
  refine WR_val rfl (rn_load rfl (Ld.row1 hr (by kernel_rfl) rfl)) ?_
  refine WR_val rfl (rn_lenSl (e := 34) (sz := 128) (by kernel_rfl) rfl rfl) ?_
  refine WR_val rfl (rn_assign) (WR_nil (thenN (W_ret ?_)))
  refine ret_ret [_] ⟨rfl, trivial⟩ ?_
  exact ⟨rfl, rfl⟩
set_option maxRecDepth 20000 in
theorem at39 {w : World} {g pl m : Nat} {G : List Nat} {D : Dk} {ol cl : Nat} {st : Int} {fu : Bool} {sv : Nat → Value} (h : DkM w g pl m G D ol cl st fu sv) (i : Int) :
    Calls Try.prog 39 [.pointer (some ⟨g, 0, none⟩), .int .i64 i].toArray w (Ret fun v w' => v = .int .i64 (if 0 ≤ i ∧ i < D.V.length then 0 else 2) ∧ w = w') := by
  have hr := h.row
  have hp := h.pos
  have hS := sectors27 h
  refine calls_W (fn := Try.f39) (rs := [.tmp 4]) (n := 21) Try.func39 rfl rfl Try.ntmps39 (by kernel_rfl) rfl ?_
  refine W_seq (W_region (WR_val rfl (rn_assign) (WR_nil (thenN (W_seq (W_block (W_seq (W_region (WR_val rfl (rn_move) ?_)))))))))
  refine WR_ent rfl (rn_call (by kernel_rfl) rfl) (hS) ?_
  rintro _ _ ⟨rfl, rfl⟩
  refine WR_val rfl (rn_eql rfl rfl) ?_
  refine WR_val rfl (rn_assign) (WR_nil (thenN ?_))
  refine W_fp rfl ((by omega)) ?_
  refine W_seq (W_region (WR_val rfl (rn_move) ?_))
  refine WR_val rfl (rn_lss rfl rfl) ?_
  refine WR_val rfl (rn_move) ?_
  refine WR_part 12 rfl (fun h0 => ?_) (fun h0 => ?_)
  ·
   refine WR_no rfl rfl (WR_no rfl rfl (WR_no rfl rfl (WR_no rfl rfl (WR_no rfl rfl (WR_no rfl rfl (WR_no rfl rfl (WR_val rfl (rn_pick_t rfl) (WR_val rfl (rn_assign) (WR_nil (thenN ?_))))))))))
   refine W_tb rfl (rfl) ?_
   refine W_seq (W_region (WR_val rfl (rn_assign) (WR_nil (thenN (W_ret (blockR (thenR ?_)))))))
   refine ret_ret [_] ⟨rfl, trivial⟩ ?_
   exact ⟨by rw [if_neg (by omega)]; rfl, rfl⟩
  ·
   refine WR_yes rfl (WR_val rfl (rn_move) (WR_yes rfl (WR_val rfl (rn_move) (WR_yes rfl (WR_val rfl (rn_nilCheckP rfl) (WR_yes rfl (WR_val rfl (rn_fieldAddr (off := 0) (by kernel_rfl) rfl) (WR_yes rfl ?_))))))))
   refine WR_val rfl (rn_load rfl (Ld.row1 hr (by kernel_rfl) rfl)) ?_
   refine WR_yes rfl ?_
   refine WR_val rfl (rn_lenSl (e := 34) (sz := 128) (by kernel_rfl) rfl rfl) ?_
   refine WR_yes rfl ?_
   refine WR_val rfl (rn_geq rfl rfl) ?_
   refine WR_val rfl (rn_pick_f rfl) (WR_val rfl (rn_assign) (WR_nil (thenN ?_)))
   refine W_ifp rfl (fun h1 => ?_) (fun h1 => ?_)
   ·
    refine W_seq (W_region (WR_val rfl (rn_assign) (WR_nil (thenN (W_ret (blockR (thenR ?_)))))))
    refine ret_ret [_] ⟨rfl, trivial⟩ ?_
    exact ⟨by rw [if_neg (by omega)]; rfl, rfl⟩
   ·
    refine W_skip (blockN (thenN (W_seq (W_region (WR_val rfl (rn_assign) (WR_nil (thenN (W_ret ?_))))))))
    refine ret_ret [_] ⟨rfl, trivial⟩ ?_
    exact ⟨by rw [if_pos (by omega)]; rfl, rfl⟩
theorem stepD_dead {D : Dk} (h : D.dead = true) : stepOk D = false ∧ stepD D = D := by
  have h1 : stepOk D = false := by unfold stepOk; rw [h]; rfl
  refine ⟨h1, ?_⟩
  rw [stepD, h1]
  cases D
  cases h
  rfl
set_option maxRecDepth 20000 in
theorem step36 {w : World} {g pl m : Nat} {G : List Nat} {D : Dk} {ol cl : Nat} {st : Int} {fu : Bool} {sv : Nat → Value} (h : DkM w g pl m G D ol cl st fu sv) :
    Calls Try.prog 36 [.pointer (some ⟨g, 0, none⟩)].toArray w (Ret fun v w' => v = .int .i64 (if stepOk D then 0 else 10) ∧ (∃ st', DkM w' g pl m G (stepD D) ol cl st' fu sv) ∧ Only g w w') := by
  have hr := h.row
  obtain ⟨hl0, hl1, hl2⟩ := h.left
  refine calls_W (fn := Try.f36) (rs := [.tmp 2]) (n := 30) Try.func36 rfl rfl Try.ntmps36 (by kernel_rfl) rfl ?_
  refine W_seq (W_region (WR_val rfl (rn_assign) (WR_nil (thenN (W_seq (W_seq (W_region (WR_val rfl (rn_move) (WR_val rfl (rn_nilCheckP rfl) (WR_val rfl (rn_fieldAddr (off := 3) (by kernel_rfl) rfl) ?_))))))))))
  refine WR_val rfl (rn_load rfl (Ld.row1 hr (by kernel_rfl) rfl)) ?_
  refine WR_val rfl (rn_move) ?_
  refine WR_partb 7 rfl (fun hf => ?_) (fun hf => ?_)
  ·
   refine WR_yes rfl (WR_val rfl (rn_move) (WR_yes rfl (WR_val rfl (rn_nilCheckP rfl) (WR_yes rfl (WR_val rfl (rn_fieldAddr (off := 2) (by kernel_rfl) rfl) (WR_yes rfl ?_))))))
   refine WR_val rfl (rn_load rfl (Ld.row1 hr (by kernel_rfl) rfl)) ?_
   refine WR_yes rfl ?_
   refine WR_val rfl (rn_eql rfl rfl) ?_
   refine WR_val rfl (rn_pick_t rfl) (WR_nil (thenN ?_))
   refine W_ifp rfl (fun hz => ?_) (fun hz => ?_)
   ·
    refine W_region (WR_val rfl (rn_move) (WR_val rfl (rn_nilCheckP rfl) (WR_val rfl (rn_fieldAddr (off := 4) (by kernel_rfl) rfl) ?_)))
    refine WR_sk rfl (sk_store1 rfl rfl rfl rfl hr (by kernel_rfl) (by first | (simp only [List.length_replicate]; omega) | (simp only [iv_length]; omega) | (simp only [bv_length, List.length_set]; omega) | simp) (fun w901 hr ho901 => ?_))
    refine WR_nil (thenN (W_seq (W_seq (W_region (WR_val rfl (rn_move) (WR_val rfl (rn_nilCheckP rfl) (WR_val rfl (rn_fieldAddr (off := 4) (by kernel_rfl) rfl) ?_)))))))
    refine WR_val rfl (rn_load rfl (Ld.row1 hr (by kernel_rfl) rfl)) ?_
    refine WR_nil (thenN ?_)
    refine W_tb rfl (rfl) ?_
    refine W_seq (W_region (WR_val rfl (rn_assign) (WR_nil (thenN (W_ret (thenR ?_))))))
    refine ret_ret [_] ⟨rfl, trivial⟩ ?_
    have hs : stepOk D = false := by unfold stepOk; rw [hl2, hf, if_pos rfl, hz]; simp
    refine ⟨by rw [hs]; rfl, ⟨st, ?_⟩, ho901⟩
    have ht := h.turn ho901 (left' := D.left) (dead' := true) (fu' := fu) hr ⟨hl0, hl1, hl2⟩
    rw [stepD, hs]
    exact ht
   ·
    have hnz : D.left ≠ 0 := by rw [hl2, hf]; simpa using hz
    refine W_skip (thenN (W_seq (W_seq (W_region (WR_val rfl (rn_move) (WR_val rfl (rn_nilCheckP rfl) (WR_val rfl (rn_fieldAddr (off := 4) (by kernel_rfl) rfl) ?_)))))))
    refine WR_val rfl (rn_load rfl (Ld.row1 hr (by kernel_rfl) rfl)) ?_
    refine WR_nil (thenN ?_)
    refine W_if rfl (fun hd => ?_) (fun hd => ?_)
    ·
     refine W_seq (W_region (WR_val rfl (rn_assign) (WR_nil (thenN (W_ret (thenR ?_))))))
     refine ret_ret [_] ⟨rfl, trivial⟩ ?_
     have hs := stepD_dead hd
     exact ⟨by rw [hs.1]; rfl, ⟨st, by rw [hs.2]; exact h⟩, Only.refl _ _⟩
    ·
     have hs : stepOk D = true := by
       unfold stepOk
       rw [hd]
       simp [hnz]
     refine W_skip (thenN (W_seq (W_region (WR_val rfl (rn_move) (WR_val rfl (rn_move) (WR_val rfl (rn_nilCheckP rfl) (WR_val rfl (rn_fieldAddr (off := 2) (by kernel_rfl) rfl) ?_)))))))
     refine WR_val rfl (rn_load rfl (Ld.row1 hr (by kernel_rfl) rfl)) ?_
     refine WR_val rfl (rn_sub rfl rfl (Coup.w64 (by omega))) ?_
     refine WR_val rfl (rn_max2 rfl rfl) ?_
     refine WR_val rfl (rn_nilCheckP rfl) (WR_val rfl (rn_fieldAddr (off := 2) (by kernel_rfl) rfl) ?_)
     refine WR_sk rfl (sk_store1 rfl rfl rfl rfl hr (by kernel_rfl) (by first | (simp only [List.length_replicate]; omega) | (simp only [iv_length]; omega) | (simp only [bv_length, List.length_set]; omega) | simp) (fun w902 hr ho902 => ?_))
     refine WR_nil (thenN (W_seq (W_region (WR_val rfl (rn_assign) (WR_nil (thenN (W_ret ?_)))))))
     refine ret_ret [_] ⟨rfl, trivial⟩ ?_
     refine ⟨by rw [hs]; rfl, ⟨max 0 (st - 1), ?_⟩, ho902⟩
     have ht := h.turn ho902 (left' := if 0 < D.left then D.left - 1 else D.left) (dead' := D.dead) (fu' := fu) hr ⟨by omega, by omega, by rw [hl2]; cases fu <;> simp <;> omega⟩
     rw [stepD, hs]
     exact ht
  ·
   have hnz : D.left ≠ 0 := by rw [hl2, hf]; simp
   refine WR_no rfl rfl (WR_no rfl rfl (WR_no rfl rfl (WR_no rfl rfl (WR_no rfl rfl (WR_val rfl (rn_pick_f rfl) (WR_nil (thenN ?_)))))))
   refine W_f rfl ?_
   refine W_skip (thenN (W_seq (W_seq (W_region (WR_val rfl (rn_move) (WR_val rfl (rn_nilCheckP rfl) (WR_val rfl (rn_fieldAddr (off := 4) (by kernel_rfl) rfl) ?_)))))))
   refine WR_val rfl (rn_load rfl (Ld.row1 hr (by kernel_rfl) rfl)) ?_
   refine WR_nil (thenN ?_)
   refine W_if rfl (fun hd => ?_) (fun hd => ?_)
   ·
    refine W_seq (W_region (WR_val rfl (rn_assign) (WR_nil (thenN (W_ret (thenR ?_))))))
    refine ret_ret [_] ⟨rfl, trivial⟩ ?_
    have hs := stepD_dead hd
    exact ⟨by rw [hs.1]; rfl, ⟨st, by rw [hs.2]; exact h⟩, Only.refl _ _⟩
   ·
    have hs : stepOk D = true := by
      unfold stepOk
      rw [hd]
      simp [hnz]
    refine W_skip (thenN (W_seq (W_region (WR_val rfl (rn_move) (WR_val rfl (rn_move) (WR_val rfl (rn_nilCheckP rfl) (WR_val rfl (rn_fieldAddr (off := 2) (by kernel_rfl) rfl) ?_)))))))
    refine WR_val rfl (rn_load rfl (Ld.row1 hr (by kernel_rfl) rfl)) ?_
    refine WR_val rfl (rn_sub rfl rfl (Coup.w64 (by omega))) ?_
    refine WR_val rfl (rn_max2 rfl rfl) ?_
    refine WR_val rfl (rn_nilCheckP rfl) (WR_val rfl (rn_fieldAddr (off := 2) (by kernel_rfl) rfl) ?_)
    refine WR_sk rfl (sk_store1 rfl rfl rfl rfl hr (by kernel_rfl) (by first | (simp only [List.length_replicate]; omega) | (simp only [iv_length]; omega) | (simp only [bv_length, List.length_set]; omega) | simp) (fun w903 hr ho903 => ?_))
    refine WR_nil (thenN (W_seq (W_region (WR_val rfl (rn_assign) (WR_nil (thenN (W_ret ?_)))))))
    refine ret_ret [_] ⟨rfl, trivial⟩ ?_
    refine ⟨by rw [hs]; rfl, ⟨max 0 (st - 1), ?_⟩, ho903⟩
    have ht := h.turn ho903 (left' := if 0 < D.left then D.left - 1 else D.left) (dead' := D.dead) (fu' := fu) hr ⟨by omega, by omega, by rw [hl2]; cases fu <;> simp <;> omega⟩
    rw [stepD, hs]
    exact ht
theorem ld_sec {w : World} {g o n : Nat} {L : List Sec} (h : SlAt w (some ⟨g, o, none⟩) n 128 (bv L.flatten)) (hL : secsOk L) {i : Nat} {s : Sec} (hs : L[i]? = some s) : Ld Try.prog w 34 ⟨g, o + i * 128, none⟩ (.agg (bv s).toArray) := by
  have hi := (List.getElem?_eq_some_iff.1 hs).1
  have hl := flat_len hL
  have := Ld.slN (P := Try.prog) (t := 34) (j := i * 128) (k := 128) h (by kernel_rfl) (by kernel_rfl) (by rw [bv_length]; omega)
  rw [← bv_drop, ← bv_take, flat_at hL hs] at this
  exact this
set_option maxRecDepth 20000 in
theorem now38 {w : World} {g pl m : Nat} {G : List Nat} {D : Dk} {ol cl : Nat} {st : Int} {fu : Bool} {sv : Nat → Value} (h : DkM w g pl m G D ol cl st fu sv) (i : Nat) (hi : i < D.V.length) :
    Calls Try.prog 38 [.pointer (some ⟨g, 0, none⟩), .int .i64 (i : Int)].toArray w (Ret fun v w' => v = .agg (bv (readD D i)).toArray ∧ Below w.heap.size w w') := by
  have hB := Below.refl w.heap.size w
  have hr := h.row
  have hmap := h.map
  have hown := h.own
  have hv := ver_ok h.ok hi
  have hn8 := h.ok.n
  obtain ⟨S, hS⟩ : ∃ S, readD D i = S := ⟨_, rfl⟩
  have hSl : (bv S).length = 128 := by rw [bv_length, ← hS]; exact lastS_ok hv.2.1
  rw [hS]
  refine calls_W (fn := Try.f38) (rs := [.cell 4 34]) (n := 28) Try.func38 rfl rfl Try.ntmps38 (by kernel_rfl) rfl ?_
  refine W_seq (W_region ?_)
  refine WR_mk rfl (mk_alloc (List.replicate 128 (Value.int .u8 0)) (by kernel_rfl) (fun g4 w4 hg4 hr4 hb4 => ?_))
  have ge_hB_g4 := Nat.le_trans hB.size hg4
  have lt_g_g4 : g < g4 := Nat.lt_of_lt_of_le hr.lt hg4
  have lt_m_g4 : m < g4 := Nat.lt_of_lt_of_le hmap.lt hg4
  have lt_pl_g4 : pl < g4 := Nat.lt_of_lt_of_le hown.lt hg4
  replace hr := hr.new hb4
  replace hmap := hmap.new hb4
  replace hown := hown.new hb4
  replace hB := hB.acc hb4
  refine WR_nil (thenN (W_seq (W_seq (W_region (WR_val rfl (rn_move) (WR_val rfl (rn_nilCheckP rfl) (WR_val rfl (rn_fieldAddr (off := 1) (by kernel_rfl) rfl) ?_)))))))
  refine WR_val rfl (rn_load rfl (Ld.row1 hr (by kernel_rfl) rfl)) ?_
  refine WR_val rfl (rn_move) ?_
  have hobt := h.look i hi
  obtain ⟨p, c, hlk, hsl, hpG⟩ := hobt
  refine WR_val rfl (rn_lookupV (k := 3) (e := 52) (.slice none 0 0) (by kernel_rfl) (by kernel_rfl) (by intro w; first | kernel_rfl | rfl) hmap rfl rfl (i) (by first | rfl | omega) (by omega) (by omega) hlk) ?_
  refine WR_val rfl (rn_assign) (WR_nil (thenN (W_seq (W_region (WR_val rfl (rn_move) ?_)))))
  refine WR_val rfl (rn_lenSl (e := 34) (sz := 128) (by kernel_rfl) rfl rfl) ?_
  refine WR_val rfl (rn_gtr rfl rfl) ?_
  refine WR_nil (thenN ?_)
  refine W_ifp rfl (fun hpos => ?_) (fun hpos => ?_)
  ·
   refine W_seq ?_
   have hlast := lastS_tail (v := ver D i) (by omega)
   rw [show lastS (ver D i) = S from hS] at hlast
   have hsl2 := hsl.below hB (Nat.le_refl _)
   have hobt := hsl2.some (by omega)
   obtain ⟨gp, op, rfl, hgp⟩ := hobt
   refine W_region (WR_val rfl (rn_move) (WR_val rfl (rn_move) ?_))
   refine WR_val rfl (rn_lenSl (e := 34) (sz := 128) (by kernel_rfl) rfl rfl) ?_
   refine WR_val rfl (rn_sub rfl rfl (Coup.w64 (by omega))) ?_
   refine WR_val rfl (rn_indexSl (e := 34) (sz := 128) (by kernel_rfl) rfl rfl ((ver D i).length - 2) (by omega) (by omega)) ?_
   refine WR_val rfl (rn_load rfl (ld_sec hsl2 (tail_ok hv.2.1) hlast)) ?_
   refine WR_sk rfl (sk_storeA 128 (bv S) rfl rfl hr4 (by kernel_rfl) (by first | assumption | (simp; done) | (simp [bv_length, *]; done)) (by first | assumption | (simp; done) | (simp [bv_length, *]; done) | rfl) (by first | exact bv_one _ | assumption | (simp [Value.oneCell']; done)) (fun w901 hr4 ho901 => ?_))
   replace hr := hr.only ho901 (Nat.ne_of_lt lt_g_g4)
   replace hmap := hmap.only ho901 (Nat.ne_of_lt lt_m_g4)
   replace hown := hown.only ho901 (Nat.ne_of_lt lt_pl_g4)
   replace hB := ho901.below hB ge_hB_g4
   refine WR_nil (thenN (W_ret (thenR ?_)))
   refine ret_ret [_] ⟨⟨_, rfl, Ld.rowA (k := 128) hr4 (by kernel_rfl) (by kernel_rfl) (by first | (simp; done) | (simp [bv_length, *]; done) | assumption)⟩, trivial⟩ ?_
   exact ⟨rfl, hB⟩
  ·
   have h1 : (ver D i).length = 1 := by
     have := List.length_pos_iff.2 hv.1
     omega
   have hSh : headS (ver D i) = S := by rw [← hS, readD, lastS_one h1]
   have hla := lasts_at hi
   rw [hSh] at hla
   refine W_skip (thenN (W_seq (W_region (WR_val rfl (rn_move) (WR_val rfl (rn_nilCheckP rfl) (WR_val rfl (rn_fieldAddr (off := 0) (by kernel_rfl) rfl) ?_))))))
   refine WR_val rfl (rn_load rfl (Ld.row1 hr (by kernel_rfl) rfl)) ?_
   refine WR_val rfl (rn_move) ?_
   refine WR_val rfl (rn_indexSl (e := 34) (sz := 128) (by kernel_rfl) rfl rfl (i) (by omega) (by omega)) ?_
   refine WR_val rfl (rn_load rfl (ld_sec hown.sl (lasts_ok h.ok) hla)) ?_
   refine WR_sk rfl (sk_storeA 128 (bv S) rfl rfl hr4 (by kernel_rfl) (by first | assumption | (simp; done) | (simp [bv_length, *]; done)) (by first | assumption | (simp; done) | (simp [bv_length, *]; done) | rfl) (by first | exact bv_one _ | assumption | (simp [Value.oneCell']; done)) (fun w902 hr4 ho902 => ?_))
   replace hr := hr.only ho902 (Nat.ne_of_lt lt_g_g4)
   replace hmap := hmap.only ho902 (Nat.ne_of_lt lt_m_g4)
   replace hown := hown.only ho902 (Nat.ne_of_lt lt_pl_g4)
   replace hB := ho902.below hB ge_hB_g4
   refine WR_nil (thenN (W_ret ?_))
   refine ret_ret [_] ⟨⟨_, rfl, Ld.rowA (k := 128) hr4 (by kernel_rfl) (by kernel_rfl) (by first | (simp; done) | (simp [bv_length, *]; done) | assumption)⟩, trivial⟩ ?_
   exact ⟨rfl, hB⟩
end Go.Proofs.Ytpndhildmfmcgaa
namespace Go.Proofs.Ytpndhildmfmcgaa
open Go Go.RowKit Coup
theorem bv_zeroS : List.replicate 128 (Value.int .u8 0) = bv zeroS := by
  rw [zeroS, bv, List.map_replicate]; rfl
theorem zeroSQ : ∃ Z, zeroS = Z ∧ List.replicate 128 (Value.int .u8 0) = bv Z ∧ (bv Z).length = 128 := ⟨_, rfl, bv_zeroS, by rw [bv_length, zeroS, List.length_replicate]⟩
def inD (D : Dk) (i : Int) : Bool := decide (0 ≤ i ∧ i < D.V.length)
set_option maxRecDepth 20000 in
theorem read23a {w : World} {g : Nat} {i : Int} {S Z : Sec} (hzb : List.replicate 128 (Value.int .u8 0) = bv Z) (hzl : (bv Z).length = 128) (hSl : (bv S).length = 128)
    (hA : ∀ w', Below w.heap.size w w' → Calls Try.prog 39 [.pointer (some ⟨g, 0, none⟩), .int .i64 i].toArray w' (Ret fun v w2 => v = .int .i64 0 ∧ w' = w2))
    (hN : ∀ w', Below w.heap.size w w' → Calls Try.prog 38 [.pointer (some ⟨g, 0, none⟩), .int .i64 i].toArray w' (Ret fun v w2 => v = .agg (bv S).toArray ∧ Below w'.heap.size w' w2)) :
    Calls Try.prog 23 [.pointer (some ⟨g, 0, none⟩), .int .i64 i].toArray w (Ret fun v w' => v = .tuple #[.agg (bv S).toArray, .int .i64 0] ∧ Below w.heap.size w w') := by
  have hB := Below.refl w.heap.size w
  refine calls_W (fn := Try.f23) (rs := [.cell 4 34, .tmp 5]) (n := 17) Try.func23 rfl rfl Try.ntmps23 (by kernel_rfl) rfl ?_
  refine W_seq (W_region ?_)
  refine WR_mk rfl (mk_alloc (List.replicate 128 (Value.int .u8 0)) (by kernel_rfl) (fun g4 w4 hg4 hr4 hb4 => ?_))
  have ge_hB_g4 := Nat.le_trans hB.size hg4
  replace hB := hB.acc hb4
  rw [hzb] at hr4
  refine WR_val rfl (rn_assign) (WR_nil (thenN (W_seq (W_seq (W_region (WR_val rfl (rn_move) (WR_val rfl (rn_move) ?_)))))))
  refine WR_ent rfl (rn_call (by kernel_rfl) rfl) (hA w4 hB) ?_
  rintro _ _ ⟨rfl, rfl⟩
  refine WR_val rfl (rn_assign) (WR_nil (thenN (W_seq (W_region (WR_val rfl (rn_move) ?_)))))
  refine WR_val rfl (rn_neq rfl rfl) ?_
  refine WR_nil (thenN ?_)
  refine W_fp rfl ((by omega)) ?_
  refine W_skip (thenN (W_seq (W_region (WR_val rfl (rn_move) (WR_val rfl (rn_move) ?_)))))
  refine WR_ent rfl (rn_call (by kernel_rfl) rfl) (hN w4 hB) ?_
  rintro _ w16 ⟨rfl, hb16⟩
  replace hr4 := hr4.new hb16
  replace hB := hB.acc hb16
  refine WR_sk rfl (sk_storeA 128 (bv S) rfl rfl hr4 (by kernel_rfl) (by first | assumption | (simp; done) | (simp [bv_length, *]; done)) (by first | assumption | (simp; done) | (simp [bv_length, *]; done) | rfl) (by first | exact bv_one _ | assumption | (simp [Value.oneCell']; done)) (fun w901 hr4 ho901 => ?_))
  replace hB := ho901.below hB ge_hB_g4
  refine WR_val rfl (rn_assign) (WR_nil (thenN (W_ret ?_)))
  refine ret_ret [_, _] ⟨⟨_, rfl, Ld.rowA (k := 128) hr4 (by kernel_rfl) (by kernel_rfl) (by first | (simp; done) | (simp [bv_length, *]; done) | assumption)⟩, rfl, trivial⟩ ?_
  exact ⟨rfl, hB⟩
set_option maxRecDepth 20000 in
theorem read23b {w : World} {g : Nat} {i : Int} {Z : Sec} (hzb : List.replicate 128 (Value.int .u8 0) = bv Z) (hzl : (bv Z).length = 128)
    (hA : ∀ w', Below w.heap.size w w' → Calls Try.prog 39 [.pointer (some ⟨g, 0, none⟩), .int .i64 i].toArray w' (Ret fun v w2 => v = .int .i64 2 ∧ w' = w2)) :
    Calls Try.prog 23 [.pointer (some ⟨g, 0, none⟩), .int .i64 i].toArray w (Ret fun v w' => v = .tuple #[.agg (bv Z).toArray, .int .i64 2] ∧ Below w.heap.size w w') := by
  have hB := Below.refl w.heap.size w
  refine calls_W (fn := Try.f23) (rs := [.cell 4 34, .tmp 5]) (n := 17) Try.func23 rfl rfl Try.ntmps23 (by kernel_rfl) rfl ?_
  refine W_seq (W_region ?_)
  refine WR_mk rfl (mk_alloc (List.replicate 128 (Value.int .u8 0)) (by kernel_rfl) (fun g4 w4 hg4 hr4 hb4 => ?_))
  have ge_hB_g4 := Nat.le_trans hB.size hg4
  replace hB := hB.acc hb4
  rw [hzb] at hr4
  refine WR_val rfl (rn_assign) (WR_nil (thenN (W_seq (W_seq (W_region (WR_val rfl (rn_move) (WR_val rfl (rn_move) ?_)))))))
  refine WR_ent rfl (rn_call (by kernel_rfl) rfl) (hA w4 hB) ?_
  rintro _ _ ⟨rfl, rfl⟩
  refine WR_val rfl (rn_assign) (WR_nil (thenN (W_seq (W_region (WR_val rfl (rn_move) ?_)))))
  refine WR_val rfl (rn_neq rfl rfl) ?_
  refine WR_nil (thenN ?_)
  refine W_tp rfl ((by omega)) ?_
  refine W_seq (W_region ?_)
  refine WR_val rfl (rn_zeroed (bv Z) (by rw [← hzb]; kernel_rfl)) ?_
  refine WR_val rfl (rn_move) ?_
  refine WR_sk rfl (sk_storeA 128 (bv Z) rfl rfl hr4 (by kernel_rfl) (by first | assumption | (simp; done) | (simp [bv_length, *]; done)) (by first | assumption | (simp; done) | (simp [bv_length, *]; done) | rfl) (by first | exact bv_one _ | assumption | (simp [Value.oneCell']; done)) (fun w901 hr4 ho901 => ?_))
  replace hB := ho901.below hB ge_hB_g4
  refine WR_val rfl (rn_assign) (WR_nil (thenN (W_ret (thenR ?_))))
  refine ret_ret [_, _] ⟨⟨_, rfl, Ld.rowA (k := 128) hr4 (by kernel_rfl) (by kernel_rfl) (by first | (simp; done) | (simp [bv_length, *]; done) | assumption)⟩, rfl, trivial⟩ ?_
  exact ⟨rfl, hB⟩
theorem read23 {w : World} {g pl m : Nat} {G : List Nat} {D : Dk} {ol cl : Nat} {st : Int} {fu : Bool} {sv : Nat → Value} (h : DkM w g pl m G D ol cl st fu sv) (i : Int) :
    Calls Try.prog 23 [.pointer (some ⟨g, 0, none⟩), .int .i64 i].toArray w (Ret fun v w' => v = .tuple #[.agg (bv (if inD D i then readD D i.toNat else zeroS)).toArray, .int .i64 (if inD D i then 0 else 2)] ∧ Below w.heap.size w w') := by
  have hB := Below.refl w.heap.size w
  obtain ⟨Z, hzz, hzb, hzl⟩ := zeroSQ
  rw [hzz]
  by_cases hi : 0 ≤ i ∧ i < D.V.length
  · obtain ⟨k, rfl⟩ : ∃ k : Nat, i = k := ⟨i.toNat, by omega⟩
    have hin : inD D (k : Int) = true := decide_eq_true hi
    rw [hin, if_pos rfl, if_pos rfl, Int.toNat_natCast]
    have hv := ver_ok h.ok (i := k) (by omega)
    have hSl : (bv (readD D k)).length = 128 := by rw [bv_length]; exact lastS_ok hv.2.1
    have hA := fun w' (hb : Below w.heap.size w w') => at39 (h.new hb) (k : Int)
    have hN := fun w' (hb : Below w.heap.size w w') => now38 (h.new hb) k (by omega)
    rw [if_pos hi] at hA
    generalize readD D k = S at hN hSl ⊢
    exact read23a hzb hzl hSl hA hN
  · have hin : inD D i = false := decide_eq_false hi
    rw [hin]
    have hA := fun w' (hb : Below w.heap.size w w') => at39 (h.new hb) i
    rw [if_neg hi] at hA
    exact read23b hzb hzl hA
set_option maxRecDepth 20000 in
theorem dead18 {w : World} {g pl m : Nat} {G : List Nat} {D : Dk} {ol cl : Nat} {st : Int} {fu : Bool} {sv : Nat → Value} (h : DkM w g pl m G D ol cl st fu sv) :
    Calls Try.prog 18 [.pointer (some ⟨g, 0, none⟩)].toArray w (Ret fun v w' => v = .bool D.dead ∧ w = w') := by
  have hr := h.row
  refine calls_W (fn := Try.f18) (rs := [.tmp 2]) (n := 11) Try.func18 rfl rfl Try.ntmps18 (by kernel_rfl) rfl ?_
  refine W_seq (W_region (WR_val rfl (rn_assign) (WR_nil (thenN (W_seq (W_region (WR_val rfl (rn_move) ?_)))))))
  refine WR_val rfl (rn_neqP1 (by kernel_rfl) rfl rfl) ?_
  refine WR_val rfl (rn_move) ?_
  refine WR_tb 5 rfl (rfl) ?_
  refine WR_yes rfl (WR_val rfl (rn_move) (WR_yes rfl (WR_val rfl (rn_nilCheckP rfl) (WR_yes rfl (WR_val rfl (rn_fieldAddr (off := 4) (by kernel_rfl) rfl) (WR_yes rfl ?_))))))
  refine WR_val rfl (rn_load rfl (Ld.row1 hr (by kernel_rfl) rfl)) ?_
  refine WR_val rfl (rn_pick_t rfl) (WR_val rfl (rn_assign) (WR_nil (thenN (W_ret ?_))))
  refine ret_ret [_] ⟨rfl, trivial⟩ ?_
  exact ⟨rfl, rfl⟩
set_option maxRecDepth 20000 in
theorem fuse15 {w : World} {g pl m : Nat} {G : List Nat} {D : Dk} {ol cl : Nat} {st : Int} {fu : Bool} {sv : Nat → Value} (h : DkM w g pl m G D ol cl st fu sv) (k : Int) (hk : k ≤ 9223372036854775807) :
    Calls Try.prog 15 [.pointer (some ⟨g, 0, none⟩), .int .i64 k].toArray w (Ret fun v w' => v = .int .i64 (if 0 ≤ k then 0 else 2) ∧ (∃ st' fu', DkM w' g pl m G (if 0 ≤ k then { D with left := k } else D) ol cl st' fu' sv) ∧ Only g w w') := by
  have hr := h.row
  have hS := sectors27 h
  have hp := h.pos
  refine calls_W (fn := Try.f15) (rs := [.tmp 4]) (n := 19) Try.func15 rfl rfl Try.ntmps15 (by kernel_rfl) rfl ?_
  refine W_seq (W_region (WR_val rfl (rn_assign) (WR_nil (thenN (W_seq (W_block (W_seq (W_region (WR_val rfl (rn_move) ?_)))))))))
  refine WR_ent rfl (rn_call (by kernel_rfl) rfl) (hS) ?_
  rintro _ _ ⟨rfl, rfl⟩
  refine WR_val rfl (rn_eql rfl rfl) ?_
  refine WR_val rfl (rn_assign) (WR_nil (thenN ?_))
  refine W_fp rfl ((by omega)) ?_
  refine W_seq (W_region (WR_val rfl (rn_move) ?_))
  refine WR_val rfl (rn_lss rfl rfl) ?_
  refine WR_val rfl (rn_assign) (WR_nil (thenN ?_))
  refine W_ifp rfl (fun h0 => ?_) (fun h0 => ?_)
  ·
   refine W_seq (W_region (WR_val rfl (rn_assign) (WR_nil (thenN (W_ret (blockR (thenR ?_)))))))
   refine ret_ret [_] ⟨rfl, trivial⟩ ?_
   refine ⟨by rw [if_neg (by omega)]; rfl, ⟨st, fu, ?_⟩, Only.refl _ _⟩
   rw [if_neg (by omega)]
   exact h
  ·
   refine W_skip (blockN (thenN (W_seq (W_region (WR_val rfl (rn_move) (WR_val rfl (rn_move) (WR_val rfl (rn_move) (WR_val rfl (rn_nilCheckP rfl) (WR_val rfl (rn_fieldAddr (off := 2) (by kernel_rfl) rfl) ?_)))))))))
   refine WR_sk rfl (sk_store1 rfl rfl rfl rfl hr (by kernel_rfl) (by first | (simp only [List.length_replicate]; omega) | (simp only [iv_length]; omega) | (simp only [bv_length, List.length_set]; omega) | simp) (fun w901 hr ho901 => ?_))
   have ho1 := ho901
   refine WR_val rfl (rn_nilCheckP rfl) (WR_val rfl (rn_fieldAddr (off := 3) (by kernel_rfl) rfl) ?_)
   refine WR_sk rfl (sk_store1 rfl rfl rfl rfl hr (by kernel_rfl) (by first | (simp only [List.length_replicate]; omega) | (simp only [iv_length]; omega) | (simp only [bv_length, List.length_set]; omega) | simp) (fun w902 hr ho902 => ?_))
   refine WR_nil (thenN (W_seq (W_region (WR_val rfl (rn_assign) (WR_nil (thenN (W_ret ?_)))))))
   refine ret_ret [_] ⟨rfl, trivial⟩ ?_
   have ho2 := Only.trans ho1 ho902
   have ht := h.turn ho2 (left' := k) (dead' := D.dead) (fu' := true) hr ⟨by omega, hk, rfl⟩
   refine ⟨by rw [if_pos (by omega)]; rfl, ⟨k, true, ?_⟩, ho2⟩
   rw [if_pos (by omega)]
   exact ht
theorem keysOf_since (D : Dk) (sv : Nat → Value) : ∀ (m a : Nat), keysOf (since D sv) a m = ((List.range' a m).filter (openB D)).map (fun i : Nat => (i : Int))
  | 0, a => rfl
  | m + 1, a => by
    have ih := keysOf_since D sv m (a + 1)
    rw [keysOf, List.range'_succ]
    by_cases h : openB D a = true
    · rw [if_pos (by unfold since; rw [if_pos h]; rfl), ih, List.filter_cons_of_pos h]; rfl
    · rw [if_neg (by unfold since; rw [if_neg h]; simp), ih, List.filter_cons_of_neg h]
theorem keysOf_opN (D : Dk) (sv : Nat → Value) : keysOf (since D sv) 0 D.V.length = (opN D).map (fun i : Nat => (i : Int)) := by
  rw [keysOf_since, opN, List.range_eq_range']
def opI (D : Dk) : List Int := (opN D).map (fun i : Nat => (i : Int))
set_option maxRecDepth 20000 in
theorem open22 {w : World} {g pl m : Nat} {G : List Nat} {D : Dk} {ol cl : Nat} {st : Int} {fu : Bool} {sv : Nat → Value} (h : DkM w g pl m G D ol cl st fu sv) :
    Calls Try.prog 22 [.pointer (some ⟨g, 0, none⟩)].toArray w (Ret fun v w' => ∃ p c, v = .slice p (opI D).length c ∧ SlAt w' p (opI D).length 1 (iv (opI D)) ∧ (∀ b o, p = some ⟨b, o, none⟩ → w.heap.size ≤ b) ∧ Below w.heap.size w w') := by
  have hB := Below.refl w.heap.size w
  have hr := h.row
  have hn8 := h.ok.n
  have hmap := h.map
  have hko := keysOf_opN D sv
  have hS := fun w' W hW (h' : MapAt Try.prog 3 w' m D.V.length (since D sv)) => sortedC w' W hW h' (by omega)
  rw [hko] at hS
  change ∀ w' (W : World) hW h', Calls _ _ _ _ (Ret fun v w2 => ∃ p c, v = .slice p (opI D).length c ∧ SlAt w2 p (opI D).length 1 (iv (opI D)) ∧ (∀ b o, p = some ⟨b, o, none⟩ → W.heap.size ≤ b) ∧ Below _ _ _) at hS
  refine calls_W (fn := Try.f22) (rs := [.tmp 2]) (n := 11) Try.func22 rfl rfl Try.ntmps22 (by kernel_rfl) rfl ?_
  refine W_seq (W_region (WR_val rfl (rn_assign) (WR_nil (thenN (W_seq (W_seq (W_region (WR_val rfl (rn_move) ?_))))))))
  refine WR_val rfl (rn_eqlP1 (by kernel_rfl) rfl rfl) ?_
  refine WR_nil (thenN ?_)
  refine W_fb rfl (rfl) ?_
  refine W_skip (thenN (W_seq (W_region (WR_val rfl (rn_move) (WR_val rfl (rn_nilCheckP rfl) (WR_val rfl (rn_fieldAddr (off := 1) (by kernel_rfl) rfl) ?_))))))
  refine WR_val rfl (rn_load rfl (Ld.row1 hr (by kernel_rfl) rfl)) ?_
  refine WR_ent rfl (rn_call (by kernel_rfl) rfl) (keysC (some m) w) ?_
  rintro _ w9 ⟨rfl, hkw, hb9⟩
  replace hr := hr.new hb9
  replace hB := hB.acc hb9
  have hsz := hB.size
  refine WR_ent rfl (rn_call (by kernel_rfl) rfl) (hS w w9 hkw hmap) ?_
  rintro _ w10 ⟨p, c, rfl, hsl, hpb, hb10⟩
  replace hr := hr.new hb10
  replace hB := hB.acc hb10
  refine WR_val rfl (rn_assign) (WR_nil (thenN (W_ret ?_)))
  refine ret_ret [_] ⟨rfl, trivial⟩ ?_
  exact ⟨p, c, rfl, hsl, fun b o e => Nat.le_trans hsz (hpb b o e), hB⟩
end Go.Proofs.Ytpndhildmfmcgaa
namespace Go.Proofs.Ytpndhildmfmcgaa
open Go Go.RowKit Coup
theorem ver_set {D : Dk} {i j : Nat} {v : List Sec} (hi : i < D.V.length) : ver (setV D i v) j = if i = j then v else ver D j := by
  unfold ver setV
  dsimp only
  rw [List.getD_eq_getElem?_getD, List.getD_eq_getElem?_getD, List.getElem?_set]
  by_cases h : i = j
  · rw [if_pos h, if_pos h, if_pos hi]; rfl
  · rw [if_neg h, if_neg h]
theorem setV_ok {D : Dk} (h : DkOk D) {i : Nat} {v : List Sec} (h1 : v ≠ []) (h2 : secsOk v) (h3 : v.length ≤ 100000) : DkOk (setV D i v) := by
  refine ⟨by show (D.V.set i v).length ≤ 8192; rw [List.length_set]; exact h.n, fun x hx => ?_, fun x hx => ?_, fun x hx => ?_⟩
  all_goals
    rcases List.mem_or_eq_of_mem_set hx with e | e
  · exact h.ne x e
  · rw [e]; exact h1
  · exact h.sec x e
  · rw [e]; exact h2
  · exact h.short x e
  · rw [e]; exact h3
theorem lasts_set (D : Dk) (i : Nat) (v : List Sec) : lastsD (setV D i v) = (lastsD D).set i (headS v) := by
  unfold lastsD setV
  dsimp only
  rw [List.map_set]
theorem since_settle {D : Dk} {sv : Nat → Value} {i : Nat} {s : Sec} (hi : i < D.V.length) : since (setV D i [s]) sv = updF (since D sv) i none := by
  funext j
  unfold since updF openB
  rw [ver_set hi]
  by_cases h : j = i
  · subst h; simp
  · rw [if_neg (show ¬ i = j from fun e => h e.symm), if_neg h]
set_option maxRecDepth 8000 in
theorem settle37 {w : World} {g pl m : Nat} {G : List Nat} {D : Dk} {ol cl : Nat} {st : Int} {fu : Bool} {sv : Nat → Value} (h : DkM w g pl m G D ol cl st fu sv) (i : Nat) (s : Sec) (hi : i < D.V.length) (hs : s.length = 128) :
    Calls Try.prog 37 [.pointer (some ⟨g, 0, none⟩), .int .i64 (i : Int), .agg (bv s).toArray].toArray w (Ret fun _ w' => DkM w' g pl m G (setV D i [s]) ol cl st fu sv ∧ Kp [pl, m] w w') := by
  have hr := h.row
  have hmap := h.map
  have hown := h.own
  have hn8 := h.ok.n
  have hK := KpB.refl [pl, m] w
  have hll := flat_len (lasts_ok h.ok)
  have hlm : (lastsD D).length = D.V.length := by simp [lastsD]
  have hsl : (bv s).length = 128 := by rw [bv_length]; exact hs
  have hbo := bv_one s
  obtain ⟨ne1, ne2, ne3, ne4⟩ := h.ne
  have hlm2 := hmap.lt
  have hlp := hown.lt
  have hlg := hr.lt
  refine calls_W (fn := Try.f37) (rs := []) (n := 18) Try.func37 rfl rfl Try.ntmps37 (by kernel_rfl) rfl ?_
  refine W_seq (W_region ?_)
  refine WR_mk rfl (mk_box ((bv s)) rfl (fun g5 w5 hg5 hr5 hb5 => ?_))
  have lt_g_g5 : g < g5 := Nat.lt_of_lt_of_le hr.lt hg5
  have lt_m_g5 : m < g5 := Nat.lt_of_lt_of_le hmap.lt hg5
  have lt_pl_g5 : pl < g5 := Nat.lt_of_lt_of_le hown.lt hg5
  replace hr := hr.new hb5
  replace hmap := hmap.new hb5
  replace hown := hown.new hb5
  replace hK := hK.new hb5
  refine WR_nil (thenN (W_seq ?_))
  refine W_draw' [pl] (by kernel_rfl) ?_
  intro w901 hb901 hS901
  replace hr := hr.new hb901
  replace hmap := hmap.new hb901
  replace hown := hown.new hb901
  replace hK := hK.new hb901
  replace hr5 := hr5.new hb901
  have hr_d901 := hr
  have hmap_d901 := hmap
  have hown_d901 := hown
  have hK_d901 := hK
  have hr5_d901 := hr5
  refine WA_take 0 (by kernel_rfl) rfl (fun _ _ => rn_move) ?_
  refine WA_take 1 (by kernel_rfl) rfl (fun _ _ => rn_nilCheckP rfl) ?_
  refine WA_take 2 (by kernel_rfl) rfl (fun _ _ => rn_fieldAddr (off := 0) (by kernel_rfl) rfl) ?_
  refine WA_take 3 (by kernel_rfl) rfl (fun w' hS' => rn_load rfl (Ld.row1 (hr_d901.kq hS') (by kernel_rfl) rfl)) ?_
  refine WA_take 4 (by kernel_rfl) rfl (fun _ _ => rn_move) ?_
  refine WA_take 5 (by kernel_rfl) rfl (fun w' hS' => rn_load rfl (Ld.rowA (k := 128) (hr5_d901.kq hS') (by kernel_rfl) (by kernel_rfl) (by first | (simp; done) | (simp [bv_length, *]; done) | assumption))) ?_
  refine WA_take 6 (by kernel_rfl) rfl (fun _ _ => rn_indexSl (e := 34) (sz := 128) (by kernel_rfl) rfl rfl (i) (by omega) (by omega)) ?_
  refine WA_one 7 (by kernel_rfl) ?_
  refine WO_sk rfl rfl (sk_storeO (bv s) (i * 128) hown rfl rfl (by rw [hsl]; kernel_rfl) (by first | (simp only [bv_length]; omega) | omega) (bv_one _) (fun w903 hown ho903 => ?_))
  have hS902 := hS901.aq ho903
  refine ⟨hS902, ?_⟩
  replace hr := hr.only ho903 (by omega)
  replace hmap := hmap.only ho903 (by omega)
  replace hK := hK.only ho903 (by first | (simp; done) | (right; omega))
  replace hr5 := hr5.only ho903 (Nat.ne_of_gt lt_pl_g5)
  rw [flat_set (lasts_ok h.ok) (by omega) hs] at hown
  refine WA_done (by kernel_rfl) ?_
  refine thenN (W_region (WR_val rfl (rn_move) (WR_val rfl (rn_nilCheckP rfl) (WR_val rfl (rn_fieldAddr (off := 1) (by kernel_rfl) rfl) ?_))))
  refine WR_val rfl (rn_load rfl (Ld.row1 hr (by kernel_rfl) rfl)) ?_
  refine WR_val rfl (rn_move) ?_
  refine WR_mk rfl (mk_delete (k := 3) (e := 52) (by kernel_rfl) (by kernel_rfl) hmap rfl rfl (i) (by first | rfl | omega) (by omega) (by omega) (fun w904 hmap ho904 => ?_))
  replace hr := hr.only ho904 (by omega)
  replace hown := hown.only ho904 (by omega)
  replace hK := hK.only ho904 (by first | (simp; done) | (right; omega))
  replace hr5 := hr5.only ho904 (Nat.ne_of_gt lt_m_g5)
  refine WR_nil ?_
  refine ret_normal [] trivial ?_
  have hls := lasts_set D i [s]
  rw [show headS [s] = s from rfl] at hls
  rw [← hls] at hown
  rw [← since_settle (s := s) hi] at hmap
  have hVl : (setV D i [s]).V.length = D.V.length := List.length_set ..
  refine ⟨⟨by rw [hVl]; exact hr, by rw [hVl]; exact hown, by rw [hVl]; exact hmap, fun j hj => ?_, fun b hb => Nat.lt_of_lt_of_le (h.inG b hb) hK.k.size, h.ne, h.left, setV_ok h.ok (by simp) (fun x hx => by simp at hx; rw [hx]; exact hs) (by simp), by rw [hVl]; exact h.pos⟩, hK.k⟩
  have hij : ¬ i = j := fun e => by
    unfold openB at hj
    rw [ver_set hi, if_pos e] at hj
    simp at hj
  unfold openB at hj
  rw [ver_set hi, if_neg hij] at hj ⊢
  have hobt := h.sv j hj
  obtain ⟨p, c, h1, h2, h3⟩ := hobt
  exact ⟨p, c, h1, h2.kpd hK.k fun b o e => by have := ne4 b (h3 b o e); simp [this], h3⟩
theorem pick_mod (a : Int) (n : Nat) (hn : 0 < n) : (a.tmod n + n) % (n : Int) = a % n ∧ -(n : Int) < a.tmod n ∧ a.tmod n < n := by
  have h1 : a.tmod n = a - n * (a.tdiv n) := Int.tmod_def a n
  refine ⟨?_, ?_, ?_⟩
  · rw [h1, show a - (n : Int) * (a.tdiv n) + n = a + n * (1 - a.tdiv n) by rw [Int.mul_sub, Int.mul_one]; omega, Int.add_mul_emod_self_left]
  · have := Int.natAbs_tmod a n
    have h2 : (a.natAbs % n) < n := Nat.mod_lt _ hn
    rw [Int.natAbs_natCast] at this
    omega
  · have := Int.natAbs_tmod a n
    have h2 : (a.natAbs % n) < n := Nat.mod_lt _ hn
    rw [Int.natAbs_natCast] at this
    omega
theorem splice_bv0 (L r : List UInt8) : splice (bv L) 0 (bv r) = bv (r ++ L.drop r.length) := by
  simp only [splice, bv, List.map_append, List.map_drop, List.length_map, List.take_zero, List.nil_append, Nat.zero_add]
theorem sec_src {w : World} {g o n : Nat} {L : List Sec} (h : SlAt w (some ⟨g, o, none⟩) n 128 (bv L.flatten)) (hL : secsOk L) {i : Nat} {s : Sec} (hs : L[i]? = some s) (q : Nat) :
    ∀ (j : Nat) (v : Value), (bv (s.take q))[j]? = some v → w.cell? ((⟨g, o + i * 128, none⟩ : Addr).add j) = some v := fun j v hv => by
  have h1 := flat_at hL hs
  rw [Addr.add_lit, Nat.add_assoc]
  refine h.cell _ ?_
  rw [bv, List.getElem?_map] at hv ⊢
  rw [List.getElem?_take] at hv
  split at hv
  · rw [← h1, List.getElem?_take] at hv
    split at hv
    · rw [List.getElem?_drop] at hv; exact hv
    · simp at hv
  · simp at hv
theorem splice_torn {A B : Sec} (hB : B.length = 128) : splice (bv A) 0 (bv (B.take 64)) = bv (tornS B A) := by
  rw [splice_bv0, tornS, List.length_take, hB]; rfl
set_option maxRecDepth 8000 in
set_option maxHeartbeats 1000000 in
theorem left40 {w : World} {g pl m : Nat} {G : List Nat} {D : Dk} {ol cl : Nat} {st : Int} {fu : Bool} {sv : Nat → Value} (h : DkM w g pl m G D ol cl st fu sv) (i : Nat) (pick : Int) (hi : i < D.V.length) :
    Calls Try.prog 40 [.pointer (some ⟨g, 0, none⟩), .int .i64 (i : Int), .int .i64 pick].toArray w (Ret fun v w' => v = .agg (bv (leftS (ver D i) pick)).toArray ∧ Below w.heap.size w w') := by
  have hB := Below.refl w.heap.size w
  have hml : maxLen = 9223372036854775807 := by decide
  have hr := h.row
  have hmap := h.map
  have hown := h.own
  have hn8 := h.ok.n
  obtain ⟨hv1, hv2, hv3⟩ := ver_ok h.ok hi
  have hla := lasts_at hi
  have hhd := headS_ok hv2
  have hpos := List.length_pos_iff.2 hv1
  obtain ⟨n, hn⟩ : ∃ n, (ver D i).length = n := ⟨_, rfl⟩
  obtain ⟨hk1, hk2, hk3⟩ := pick_mod pick (2 * n - 1) (by omega)
  obtain ⟨k, hkk, hkl⟩ : ∃ k : Nat, pick % ((2 * n - 1 : Nat) : Int) = (k : Int) ∧ k < 2 * n - 1 := by
    have h1 := Int.emod_nonneg pick (show ((2 * n - 1 : Nat) : Int) ≠ 0 by omega)
    have h2 := Int.emod_lt_of_pos pick (show (0 : Int) < ((2 * n - 1 : Nat) : Int) by omega)
    exact ⟨(pick % ((2 * n - 1 : Nat) : Int)).toNat, by omega, by omega⟩
  have hleft : leftS (ver D i) pick = leftAt (ver D i) k := by rw [leftS, hn, hkk, Int.toNat_natCast]
  rw [hleft]
  rw [hkk] at hk1
  obtain ⟨A, hA⟩ : ∃ A, (ver D i)[(k + 1) / 2]? = some A := ⟨_, List.getElem?_eq_getElem (by omega)⟩
  have hAl : (bv A).length = 128 := by rw [bv_length]; exact hv2 A (List.mem_of_getElem? hA)
  have hAg : (ver D i).getD ((k + 1) / 2) zeroS = A := by rw [List.getD_eq_getElem?_getD, hA]; rfl
  obtain ⟨Hs, hHs⟩ : ∃ Hs, headS (ver D i) = Hs := ⟨_, rfl⟩
  have hHl : (bv Hs).length = 128 := by rw [bv_length, ← hHs]; exact hhd
  have hcons : Hs ++ (ver D i).tail.flatten = (ver D i).flatten := by
    obtain ⟨a, l, e⟩ := List.exists_cons_of_ne_nil hv1
    rw [← hHs, e]; rfl
  rw [hHs] at hla hhd
  rw [hn] at hpos
  obtain ⟨Z, hzz, hzb, hzl⟩ := zeroSQ
  refine calls_W (fn := Try.f40) (rs := [.cell 6 34]) (n := 64) Try.func40 rfl rfl Try.ntmps40 (by kernel_rfl) rfl ?_
  refine W_seq (W_region ?_)
  refine WR_mk rfl (mk_alloc (List.replicate 128 (Value.int .u8 0)) (by kernel_rfl) (fun g6 w6 hg6 hr6 hb6 => ?_))
  have ge_hB_g6 := Nat.le_trans hB.size hg6
  have lt_g_g6 : g < g6 := Nat.lt_of_lt_of_le hr.lt hg6
  have lt_m_g6 : m < g6 := Nat.lt_of_lt_of_le hmap.lt hg6
  have lt_pl_g6 : pl < g6 := Nat.lt_of_lt_of_le hown.lt hg6
  replace hr := hr.new hb6
  replace hmap := hmap.new hb6
  replace hown := hown.new hb6
  replace hB := hB.acc hb6
  rw [hzb] at hr6
  refine WR_nil (thenN (W_seq ?_))
  have hobt := h.look i hi
  obtain ⟨p, c, hlk, hsl, hpG⟩ := hobt
  rw [hn] at hlk hsl
  refine W_draw' [] (by kernel_rfl) ?_
  intro w901 hb901 hS901
  replace hr := hr.new hb901
  replace hmap := hmap.new hb901
  replace hown := hown.new hb901
  replace hr6 := hr6.new hb901
  replace hB := hB.acc hb901
  have hr_d901 := hr
  have hmap_d901 := hmap
  have hown_d901 := hown
  have hr6_d901 := hr6
  have hB_d901 := hB
  refine WA_take 0 (by kernel_rfl) rfl (fun _ _ => rn_move) ?_
  refine WA_take 1 (by kernel_rfl) rfl (fun _ _ => rn_nilCheckP rfl) ?_
  refine WA_take 2 (by kernel_rfl) rfl (fun _ _ => rn_fieldAddr (off := 0) (by kernel_rfl) rfl) ?_
  refine WA_take 3 (by kernel_rfl) rfl (fun w' hS' => rn_load rfl (Ld.row1 (hr_d901.kq hS') (by kernel_rfl) rfl)) ?_
  refine WA_take 4 (by kernel_rfl) rfl (fun _ _ => rn_move) ?_
  refine WA_take 5 (by kernel_rfl) rfl (fun _ _ => rn_indexSl (e := 34) (sz := 128) (by kernel_rfl) rfl rfl (i) (by omega) (by omega)) ?_
  refine WA_take 6 (by kernel_rfl) rfl (fun w' hS' => rn_load rfl (ld_sec (hown_d901.kpd hS' (by first | (simp; done) | (simp; omega) | (simp [*]; done) | exact notLL (Or.inl (by omega)) | exact notLL (Or.inr (by simp)) | exact fun g hm => Nat.le_trans (by omega) (inLL hm).1 | (intro b o e; cases e; exact notLL (Or.inl (by omega))) | (intro b hm; have := (hu.lt b (Option.mem_toList.1 hm)).1; omega) | (intro b o e; cases e; intro hm; have := (hu.lt _ (Option.mem_toList.1 hm)).1; omega))).sl (lasts_ok h.ok) hla)) ?_
  refine WA_take 8 (by kernel_rfl) rfl (fun _ _ => rn_move) ?_
  refine WA_take 9 (by kernel_rfl) rfl (fun _ _ => rn_nilCheckP rfl) ?_
  refine WA_take 10 (by kernel_rfl) rfl (fun _ _ => rn_fieldAddr (off := 1) (by kernel_rfl) rfl) ?_
  refine WA_take 11 (by kernel_rfl) rfl (fun w' hS' => rn_load rfl (Ld.row1 (hr_d901.kq hS') (by kernel_rfl) rfl)) ?_
  refine WA_take 12 (by kernel_rfl) rfl (fun _ _ => rn_move) ?_
  refine WA_take 13 (by kernel_rfl) rfl (fun w' hS' => rn_lookupV (k := 3) (e := 52) (.slice none 0 0) (by kernel_rfl) (by kernel_rfl) (by intro w; first | kernel_rfl | rfl) (hmap_d901.kpd hS' (by first | (simp; done) | (simp; omega) | (simp [*]; done) | exact notLL (Or.inl (by omega)) | exact notLL (Or.inr (by simp)) | exact fun g hm => Nat.le_trans (by omega) (inLL hm).1 | (intro b o e; cases e; exact notLL (Or.inl (by omega))) | (intro b hm; have := (hu.lt b (Option.mem_toList.1 hm)).1; omega) | (intro b o e; cases e; intro hm; have := (hu.lt _ (Option.mem_toList.1 hm)).1; omega))) rfl rfl (i) (by first | rfl | omega) (by omega) (by omega) hlk) ?_
  refine WA_one 7 (by kernel_rfl) ?_
  refine WO_mk rfl rfl (mk_one (e := 34) (.agg (bv Hs).toArray) (bv Hs) (List.replicate 128 (Value.int .u8 0)) 128 (by kernel_rfl) (by kernel_rfl) rfl rfl (by first | rfl | (simp; done) | (simp [bv_length, *]; done)) ⟨by decide, by decide⟩ (fun g18 w18 hg18 hr18 hb18 => ?_))
  have hS902 := hS901.add0 hb18
  refine ⟨hS902, ?_⟩
  have ge_hS901_g18 := Nat.le_trans hS901.size hg18
  have ge_hB_g18 := Nat.le_trans hB.size hg18
  have lt_g_g18 : g < g18 := Nat.lt_of_lt_of_le hr.lt hg18
  have lt_m_g18 : m < g18 := Nat.lt_of_lt_of_le hmap.lt hg18
  have lt_pl_g18 : pl < g18 := Nat.lt_of_lt_of_le hown.lt hg18
  have lt_g6_g18 : g6 < g18 := Nat.lt_of_lt_of_le hr6.lt hg18
  replace hr := hr.new hb18
  replace hmap := hmap.new hb18
  replace hown := hown.new hb18
  replace hr6 := hr6.new hb18
  replace hB := hB.acc hb18
  refine WA_one 14 (by kernel_rfl) ?_
  have hv18 := hr18.owns (base := g18) (m := 1) (sz := 128) (Nat.le_refl _) (by omega) (by omega)
  have hsl2 := hsl.below hB (Nat.le_refl _)
  have sz_hB_25 := hB.size
  refine WO_mk rfl rfl (mk_append (e := 34) (sz := 128) (bytes := 128) (z := .agg (List.replicate 128 (Value.int .u8 0)).toArray) (by kernel_rfl) rfl (by kernel_rfl) rfl (by decide) rfl hv18 rfl hsl2 (bv_one _) (by unfold maxLen; omega) (by omega) (fun hm0 => by omega) (fun v25 w25 hv25 hgr25 hfr25 => ?_))
  have hS903 := hS902.add (Kp.of_grown hgr25) (fun g hm => by first | exact Or.inr hm | exact Or.inr (List.mem_cons_of_mem _ hm) | (have := (hv18.lt g (Option.mem_toList.1 hm)).1; left; omega) | exact (hfr18 g (Option.mem_toList.1 hm)).elim (fun e => Or.inr (Option.mem_toList.2 e)) (fun e => Or.inl (by omega)) | exact (hfr18 g (Option.mem_toList.1 hm)).elim (fun e => Or.inr (List.mem_cons_of_mem _ (Option.mem_toList.2 e))) (fun e => Or.inl (by omega)))
  refine ⟨hS903, ?_⟩
  replace hr := hr.own hv18 hgr25 (by omega)
  replace hr6 := hr6.own hv18 hgr25 (by omega)
  replace hB := hB.own hv18 hgr25 (by omega)
  have hobt := hv25.form' (by omega)
  obtain ⟨ga, oa, ca, rfl, hga, hgl, hcc⟩ := hobt
  have hall := hv25.sl
  rw [← bv_append, hcons, show 1 + (n - 1) = n by omega] at hall
  refine WA_take 15 (by kernel_rfl) rfl (fun _ _ => rn_assign) ?_
  refine WA_done (by kernel_rfl) ?_
  refine thenN (W_seq (W_region (WR_val rfl (rn_move) ?_)))
  refine WR_val rfl (rn_lenSl (e := 34) (sz := 128) (by kernel_rfl) rfl rfl) ?_
  refine WR_val rfl (rn_mul rfl rfl (Coup.w64 (by omega))) ?_
  refine WR_val rfl (rn_sub rfl rfl (show IntKind.i64.wrap (2 * ((1 + (n - 1) : Nat) : Int) - 1) = ((2 * n - 1 : Nat) : Int) by rw [w64 (by omega)]; omega)) ?_
  refine WR_val rfl (rn_assign) (WR_nil (thenN (W_seq (W_region (WR_val rfl (rn_move) (WR_val rfl (rn_move) ?_))))))
  refine WR_val rfl (rn_rem rfl rfl (by omega) (rfl)) ?_
  refine WR_val rfl (rn_move) ?_
  refine WR_val rfl (rn_add rfl rfl (Coup.w64 (by omega))) ?_
  refine WR_val rfl (rn_move) ?_
  refine WR_val rfl (rn_rem rfl rfl (by omega) ((rm (by omega)).trans hk1)) ?_
  refine WR_val rfl (rn_assign) (WR_nil (thenN (W_seq (W_region (WR_val rfl (rn_move) (WR_val rfl (rn_move) ?_))))))
  refine WR_val rfl (rn_add rfl rfl (Coup.w64 (by omega))) ?_
  refine WR_val rfl (rn_quo0 rfl rfl (by omega) (by omega)) ?_
  refine WR_val rfl (rn_indexSl (e := 34) (sz := 128) (by kernel_rfl) rfl rfl ((k + 1) / 2) (by omega) (by omega)) ?_
  refine WR_val rfl (rn_load rfl (ld_sec hall hv2 hA)) ?_
  refine WR_mk rfl (mk_alloc (List.replicate 128 (Value.int .u8 0)) (by kernel_rfl) (fun g10 w10 hg10 hr10 hb10 => ?_))
  have ge_hB_g10 := Nat.le_trans hB.size hg10
  have lt_g_g10 : g < g10 := Nat.lt_of_lt_of_le hr.lt hg10
  have lt_g6_g10 : g6 < g10 := Nat.lt_of_lt_of_le hr6.lt hg10
  replace hr := hr.new hb10
  replace hr6 := hr6.new hb10
  replace hall := hall.new hb10
  replace hB := hB.acc hb10
  rw [hzb] at hr10
  refine WR_sk rfl (sk_storeA 128 (bv A) rfl rfl hr10 (by kernel_rfl) (by first | assumption | (simp; done) | (simp [bv_length, *]; done)) (by first | assumption | (simp; done) | (simp [bv_length, *]; done) | rfl) (by first | exact bv_one _ | assumption | (simp [Value.oneCell']; done)) (fun w904 hr10 ho904 => ?_))
  replace hr := hr.only ho904 (Nat.ne_of_lt lt_g_g10)
  replace hr6 := hr6.only ho904 (Nat.ne_of_lt lt_g6_g10)
  replace hall := hall.only ho904 (by omega)
  replace hB := ho904.below hB ge_hB_g10
  refine WR_nil (thenN (W_seq (W_seq (W_region (WR_val rfl (rn_move) ?_)))))
  refine WR_val rfl (rn_gtr rfl rfl) ?_
  refine WR_val rfl (rn_move) ?_
  refine WR_part 45 rfl (fun h0 => ?_) (fun h0 => ?_)
  ·
   refine WR_yes rfl (WR_val rfl (rn_move) (WR_yes rfl ?_))
   refine WR_val rfl (rn_rem0 rfl rfl (by omega) (by omega)) ?_
   refine WR_yes rfl ?_
   refine WR_val rfl (rn_eql rfl rfl) ?_
   refine WR_val rfl (rn_pick_t rfl) (WR_nil (thenN ?_))
   refine W_ifp rfl (fun he => ?_) (fun he => ?_)
   ·
    refine W_seq ?_
    have hobt : ∃ B1, (ver D i)[k / 2 - 1]? = some B1 := ⟨_, List.getElem?_eq_getElem (by omega)⟩
    obtain ⟨B1, hB1⟩ := hobt
    have hobt : ∃ B2, (ver D i)[k / 2]? = some B2 := ⟨_, List.getElem?_eq_getElem (by omega)⟩
    obtain ⟨B2, hB2⟩ := hobt
    have hB1l : (bv B1).length = 128 := by rw [bv_length]; exact hv2 B1 (List.mem_of_getElem? hB1)
    have hB2l : B2.length = 128 := hv2 B2 (List.mem_of_getElem? hB2)
    refine W_region (WR_val rfl (rn_move) (WR_val rfl (rn_move) ?_))
    refine WR_val rfl (rn_quo0 rfl rfl (by omega) (by omega)) ?_
    refine WR_val rfl (rn_sub rfl rfl (show IntKind.i64.wrap ((k : Int) / 2 - 1) = ((k / 2 - 1 : Nat) : Int) by rw [w64 (by omega)]; omega)) ?_
    refine WR_val rfl (rn_indexSl (e := 34) (sz := 128) (by kernel_rfl) rfl rfl (k / 2 - 1) (by omega) (by omega)) ?_
    refine WR_val rfl (rn_load rfl (ld_sec hall hv2 hB1)) ?_
    refine WR_sk rfl (sk_storeA 128 (bv B1) rfl rfl hr10 (by kernel_rfl) (by first | assumption | (simp; done) | (simp [bv_length, *]; done)) (by first | assumption | (simp; done) | (simp [bv_length, *]; done) | rfl) (by first | exact bv_one _ | assumption | (simp [Value.oneCell']; done)) (fun w905 hr10 ho905 => ?_))
    replace hr := hr.only ho905 (Nat.ne_of_lt lt_g_g10)
    replace hr6 := hr6.only ho905 (Nat.ne_of_lt lt_g6_g10)
    replace hall := hall.only ho905 (by omega)
    replace hB := ho905.below hB ge_hB_g10
    refine WR_nil (thenN ?_)
    refine W_draw' [g10] (by kernel_rfl) ?_
    intro w906 hb906 hS906
    replace hr := hr.new hb906
    replace hr6 := hr6.new hb906
    replace hall := hall.new hb906
    replace hr10 := hr10.new hb906
    replace hB := hB.acc hb906
    have hr_d906 := hr
    have hr6_d906 := hr6
    have hall_d906 := hall
    have hr10_d906 := hr10
    have hB_d906 := hB
    refine WA_take 0 (by kernel_rfl) rfl (fun _ _ => rn_sliceAr1' (e := 5) (n := 128) (0) (64) (128) (64) (by kernel_rfl) rfl rfl ⟨_, _, rfl, rfl⟩ rfl (by simp) (by omega) (by omega) (by omega) (by omega) (by omega)) ?_
    refine WA_take 1 (by kernel_rfl) rfl (fun _ _ => rn_move) ?_
    refine WA_take 2 (by kernel_rfl) rfl (fun _ _ => rn_move) ?_
    refine WA_take 3 (by kernel_rfl) rfl (fun _ _ => rn_quo0 rfl rfl (by omega) (by omega)) ?_
    refine WA_take 4 (by kernel_rfl) rfl (fun _ _ => rn_indexSl (e := 34) (sz := 128) (by kernel_rfl) rfl rfl (k / 2) (by omega) (by omega)) ?_
    refine WA_take 5 (by kernel_rfl) rfl (fun _ _ => rn_sliceAr1' (e := 5) (n := 128) (0) (64) (128) (64) (by kernel_rfl) rfl rfl ⟨_, _, rfl, rfl⟩ rfl (by simp) (by omega) (by omega) (by omega) (by omega) (by omega)) ?_
    refine WA_one 6 (by kernel_rfl) ?_
    refine WO_mk rfl rfl (mk_copy (e := 5) (by kernel_rfl) (by kernel_rfl) rfl rfl g10 (0) hr10 (bv (B2.take 64)) (by rw [bv_length, List.length_take, hB2l]; rfl) (fun _ => ⟨rfl, _, rfl, sec_src hall hv2 hB2 64⟩) (by rw [hB1l, bv_length, List.length_take]; omega) (bv_one _) (fun w62 hr10 ho62 => ?_))
    have hS907 := hS906.aq ho62
    refine ⟨hS907, ?_⟩
    replace hr := hr.only ho62 (Nat.ne_of_lt lt_g_g10)
    replace hr6 := hr6.only ho62 (Nat.ne_of_lt lt_g6_g10)
    replace hall := hall.only ho62 (by omega)
    replace hB := ho62.below hB ge_hB_g10
    rw [splice_torn hB2l] at hr10
    refine WA_done (by kernel_rfl) ?_
    refine thenN (W_seq ?_)
    have hTl : (bv (tornS B2 B1)).length = 128 := by rw [bv_length] at hB1l ⊢; rw [tornS, List.length_append, List.length_take, List.length_drop]; omega
    refine W_region ?_
    refine WR_val rfl (rn_load rfl (Ld.rowA (k := 128) hr10 (by kernel_rfl) (by kernel_rfl) (by first | (simp; done) | (simp [bv_length, *]; done) | assumption))) ?_
    refine WR_sk rfl (sk_storeA 128 (bv (tornS B2 B1)) rfl rfl hr6 (by kernel_rfl) (by first | assumption | (simp; done) | (simp [bv_length, *]; done)) (by first | assumption | (simp; done) | (simp [bv_length, *]; done) | rfl) (by first | exact bv_one _ | assumption | (simp [Value.oneCell']; done)) (fun w908 hr6 ho908 => ?_))
    replace hr := hr.only ho908 (Nat.ne_of_lt lt_g_g6)
    replace hall := hall.only ho908 (by omega)
    replace hr10 := hr10.only ho908 (Nat.ne_of_gt lt_g6_g10)
    replace hB := ho908.below hB ge_hB_g6
    refine WR_nil (thenN (W_ret ?_))
    refine ret_ret [_] ⟨⟨_, rfl, Ld.rowA (k := 128) hr6 (by kernel_rfl) (by kernel_rfl) (by first | (simp; done) | (simp [bv_length, *]; done) | assumption)⟩, trivial⟩ ?_
    refine ⟨?_, hB⟩
    rw [leftAt, if_neg (by omega), if_neg (by omega), List.getD_eq_getElem?_getD, hB2, List.getD_eq_getElem?_getD, hB1]
    rfl
   ·
    refine W_skip (thenN (W_seq (W_region ?_)))
    refine WR_val rfl (rn_load rfl (Ld.rowA (k := 128) hr10 (by kernel_rfl) (by kernel_rfl) (by first | (simp; done) | (simp [bv_length, *]; done) | assumption))) ?_
    refine WR_sk rfl (sk_storeA 128 (bv A) rfl rfl hr6 (by kernel_rfl) (by first | assumption | (simp; done) | (simp [bv_length, *]; done)) (by first | assumption | (simp; done) | (simp [bv_length, *]; done) | rfl) (by first | exact bv_one _ | assumption | (simp [Value.oneCell']; done)) (fun w909 hr6 ho909 => ?_))
    replace hr := hr.only ho909 (Nat.ne_of_lt lt_g_g6)
    replace hall := hall.only ho909 (by omega)
    replace hr10 := hr10.only ho909 (Nat.ne_of_gt lt_g6_g10)
    replace hB := ho909.below hB ge_hB_g6
    refine WR_nil (thenN (W_ret ?_))
    refine ret_ret [_] ⟨⟨_, rfl, Ld.rowA (k := 128) hr6 (by kernel_rfl) (by kernel_rfl) (by first | (simp; done) | (simp [bv_length, *]; done) | assumption)⟩, trivial⟩ ?_
    refine ⟨?_, hB⟩
    rw [leftAt, if_pos (by omega), hAg]
    rfl
  ·
   have hk0 : k = 0 := by omega
   refine WR_no rfl rfl (WR_no rfl rfl (WR_no rfl rfl (WR_val rfl (rn_pick_f rfl) (WR_nil (thenN ?_)))))
   refine W_f rfl ?_
   refine W_skip (thenN (W_seq (W_region ?_)))
   refine WR_val rfl (rn_load rfl (Ld.rowA (k := 128) hr10 (by kernel_rfl) (by kernel_rfl) (by first | (simp; done) | (simp [bv_length, *]; done) | assumption))) ?_
   refine WR_sk rfl (sk_storeA 128 (bv A) rfl rfl hr6 (by kernel_rfl) (by first | assumption | (simp; done) | (simp [bv_length, *]; done)) (by first | assumption | (simp; done) | (simp [bv_length, *]; done) | rfl) (by first | exact bv_one _ | assumption | (simp [Value.oneCell']; done)) (fun w910 hr6 ho910 => ?_))
   replace hr := hr.only ho910 (Nat.ne_of_lt lt_g_g6)
   replace hall := hall.only ho910 (by omega)
   replace hr10 := hr10.only ho910 (Nat.ne_of_gt lt_g6_g10)
   replace hB := ho910.below hB ge_hB_g6
   refine WR_nil (thenN (W_ret ?_))
   refine ret_ret [_] ⟨⟨_, rfl, Ld.rowA (k := 128) hr6 (by kernel_rfl) (by kernel_rfl) (by first | (simp; done) | (simp [bv_length, *]; done) | assumption)⟩, trivial⟩ ?_
   refine ⟨?_, hB⟩
   have hA0 : headS (ver D i) = A := by
     have h1 := hA
     rw [hk0] at h1
     have hobt := List.exists_cons_of_ne_nil hv1
     obtain ⟨a, l, e⟩ := hobt
     rw [e] at h1 ⊢
     simpa [headS] using h1
   rw [leftAt, hk0, if_neg (by omega), if_pos rfl, hA0]
   rfl
end Go.Proofs.Ytpndhildmfmcgaa
namespace Go.Proofs.Ytpndhildmfmcgaa
open Go Go.RowKit Coup
theorem _root_.Coup.SlAt.kpd0 {w w' : World} {M : List Nat} {p : Option Addr} {m sz : Nat} {cs : List Value} (h : SlAt w p m sz cs) (k : Kp M w w') (hM : 0 < m → ∀ b o, p = some ⟨b, o, none⟩ → b ∉ M) : SlAt w' p m sz cs := by
  rcases Nat.eq_zero_or_pos m with h0 | h0
  · subst h0
    have hl := h.len
    rw [Nat.zero_mul] at hl
    obtain rfl := List.eq_nil_of_length_eq_zero hl
    exact SlAt.nil _ _ _
  · exact h.kpd k (hM h0)
def setAll (D : Dk) (xs : List (Nat × Sec)) : Dk := xs.foldl (fun D p => setV D p.1 [p.2]) D
theorem setAll_len (D : Dk) : ∀ xs, (setAll D xs).V.length = D.V.length := by
  intro xs
  induction xs generalizing D with
  | nil => rfl
  | cons x xs ih =>
    show (setAll (setV D x.1 [x.2]) xs).V.length = _
    rw [ih]; exact List.length_set ..
theorem ver_setAll : ∀ (xs : List (Nat × Sec)) (D : Dk) (j : Nat), (∀ p ∈ xs, p.1 < D.V.length) → (∀ p ∈ xs, p.1 ≠ j) → ver (setAll D xs) j = ver D j
  | [], D, j, _, _ => rfl
  | x :: xs, D, j, h1, h2 => by
    show ver (setAll (setV D x.1 [x.2]) xs) j = _
    have hl : (setV D x.1 [x.2]).V.length = D.V.length := List.length_set ..
    rw [ver_setAll xs _ j (fun p hp => by rw [hl]; exact h1 p (List.mem_cons_of_mem _ hp)) (fun p hp => h2 p (List.mem_cons_of_mem _ hp)), ver_set (h1 x (List.mem_cons_self ..)), if_neg (h2 x (List.mem_cons_self ..))]
theorem ver_setAll_mem : ∀ (xs : List (Nat × Sec)) (D : Dk) (j : Nat) (s : Sec), (∀ p ∈ xs, p.1 < D.V.length) → (xs.map (·.1)).Nodup → (j, s) ∈ xs → ver (setAll D xs) j = [s]
  | x :: xs, D, j, s, h1, h2, h3 => by
    show ver (setAll (setV D x.1 [x.2]) xs) j = _
    have hl : (setV D x.1 [x.2]).V.length = D.V.length := List.length_set ..
    rw [List.map_cons, List.nodup_cons] at h2
    rcases List.mem_cons.1 h3 with e | e
    · subst e
      rw [ver_setAll xs _ j (fun p hp => by rw [hl]; exact h1 p (List.mem_cons_of_mem _ hp)) (fun p hp e => h2.1 (List.mem_map.2 ⟨p, hp, e⟩)), ver_set (h1 _ (List.mem_cons_self ..)), if_pos rfl]
    · exact ver_setAll_mem xs _ j s (fun p hp => by rw [hl]; exact h1 p (List.mem_cons_of_mem _ hp)) h2.2 e
theorem setAll_snoc (D : Dk) (xs : List (Nat × Sec)) {k : Nat} {p : Nat × Sec} (h : xs[k]? = some p) : setAll D (xs.take (k + 1)) = setV (setAll D (xs.take k)) p.1 [p.2] := by
  rw [List.take_add_one, h]; simp [setAll, List.foldl_append]
theorem setAll_left (D : Dk) (xs : List (Nat × Sec)) : (setAll D xs).left = D.left ∧ (setAll D xs).dead = D.dead := by
  induction xs generalizing D with
  | nil => exact ⟨rfl, rfl⟩
  | cons x xs ih => exact ih (setV D x.1 [x.2])
theorem opN_mem {D : Dk} {i : Nat} : i ∈ opN D ↔ i < D.V.length ∧ openB D i = true := by
  rw [opN, List.mem_filter, List.mem_range]
theorem opN_nodup (D : Dk) : (opN D).Nodup := List.Nodup.sublist List.filter_sublist List.nodup_range
def setXs (D : Dk) (f : Nat → Nat → Sec) : List (Nat × Sec) := (opN D).zipIdx.map fun x => (x.1, f x.2 x.1)
theorem setXs_at {D : Dk} {f : Nat → Nat → Sec} {k i : Nat} (h : (opN D)[k]? = some i) : (setXs D f)[k]? = some (i, f k i) := by
  rw [setXs, List.getElem?_map, List.getElem?_zipIdx, h]; simp
theorem setXs_keys (D : Dk) (f : Nat → Nat → Sec) : (setXs D f).map (·.1) = opN D := by
  rw [setXs, List.map_map]
  show (opN D).zipIdx.map (fun x => x.1) = opN D
  exact List.zipIdx_map_fst ..
theorem setXs_len (D : Dk) (f : Nat → Nat → Sec) : (setXs D f).length = (opN D).length := by rw [← setXs_keys D f, List.length_map]
theorem setXs_lt {D : Dk} {f : Nat → Nat → Sec} {p : Nat × Sec} (h : p ∈ setXs D f) : p.1 < D.V.length := by
  have : p.1 ∈ (setXs D f).map (·.1) := List.mem_map_of_mem h
  rw [setXs_keys] at this
  exact (opN_mem.1 this).1
theorem setXs_fresh {D : Dk} {f : Nat → Nat → Sec} {k i : Nat} (h : (opN D)[k]? = some i) : ver (setAll D ((setXs D f).take k)) i = ver D i := by
  refine ver_setAll _ D i (fun p hp => setXs_lt (List.mem_of_mem_take hp)) fun p hp e => ?_
  obtain ⟨j, hj⟩ := List.getElem?_of_mem hp
  rw [List.getElem?_take] at hj
  split at hj
  · rename_i hjk
    have hk : ((setXs D f).map (·.1))[j]? = some p.1 := by rw [List.getElem?_map, hj]; rfl
    rw [setXs_keys, e] at hk
    have hnd := opN_nodup D
    have h1 := (List.getElem?_eq_some_iff.1 hk)
    have h2 := (List.getElem?_eq_some_iff.1 h)
    obtain ⟨l1, e1⟩ := h1
    obtain ⟨l2, e2⟩ := h2
    have := (List.getElem_inj hnd).1 (e1.trans e2.symm)
    omega
  · cases hj
theorem opI_at {D : Dk} {k : Nat} (h : k < (opN D).length) : ∃ i, (opN D)[k]? = some i ∧ (iv (opI D))[k]? = some (.int .i64 (i : Int)) ∧ i < D.V.length := by
  obtain ⟨i, hi⟩ : ∃ i, (opN D)[k]? = some i := ⟨_, List.getElem?_eq_getElem h⟩
  refine ⟨i, hi, ?_, (opN_mem.1 (List.mem_of_getElem? hi)).1⟩
  rw [iv_get, opI, List.getElem?_map, hi]; rfl
theorem opI_len (D : Dk) : (opI D).length = (opN D).length := by simp [opI]
theorem leftAt_ok {v : List Sec} (h : secsOk v) (k : Nat) : (leftAt v k).length = 128 := by
  have hg : ∀ j, (v.getD j zeroS).length = 128 := fun j => by
    rw [List.getD_eq_getElem?_getD]
    cases hj : v[j]? with
    | none => simp [zeroS]
    | some s => exact h s (List.mem_of_getElem? hj)
  unfold leftAt
  split
  · exact hg _
  · split
    · exact headS_ok h
    · have h1 := hg (k / 2)
      have h2 := hg (k / 2 - 1)
      rw [tornS, List.length_append, List.length_take, List.length_drop]; omega
theorem leftS_ok {v : List Sec} (h : secsOk v) (_ : v ≠ []) (pick : Int) : (leftS v pick).length = 128 := leftAt_ok h _
theorem stepD_V (D : Dk) : (stepD D).V = D.V := by unfold stepD; split <;> rfl
def crashD (D : Dk) (picks : List Int) : Dk := { setAll D (setXs D fun k i => leftS (ver D i) (picks.getD k 0)) with left := -1, dead := false }
def flushA (D : Dk) : Dk := if stepOk D then setAll (stepD D) (setXs (stepD D) fun _ i => readD (stepD D) i) else stepD D
set_option maxRecDepth 20000 in
set_option maxHeartbeats 1000000 in
theorem flush16 {w : World} {g pl m : Nat} {G : List Nat} {D : Dk} {ol cl : Nat} {st : Int} {fu : Bool} {sv : Nat → Value} (h : DkM w g pl m G D ol cl st fu sv) :
    Calls Try.prog 16 [.pointer (some ⟨g, 0, none⟩)].toArray w (Ret fun v w' => v = .int .i64 (if stepOk D then 0 else 10) ∧ (∃ st', DkM w' g pl m G (flushA D) ol cl st' fu sv) ∧ Kp [g, pl, m] w w') := by
  have hS := sectors27 h
  have hp := h.pos
  have hst := step36 h
  have hK := KpB.refl [g, pl, m] w
  obtain ⟨ok, hok⟩ : ∃ ok, stepOk D = ok := ⟨_, rfl⟩
  rw [flushA]
  rw [hok] at hst ⊢
  obtain ⟨D1, hD1⟩ : ∃ D1, stepD D = D1 := ⟨_, rfl⟩
  rw [hD1] at hst ⊢
  have hlg := h.row.lt
  refine calls_W (fn := Try.f16) (rs := [.tmp 2]) (n := 28) Try.func16 rfl rfl Try.ntmps16 (by kernel_rfl) rfl ?_
  refine W_seq (W_region (WR_val rfl (rn_assign) (WR_nil (thenN (W_seq (W_seq (W_region (WR_val rfl (rn_move) ?_))))))))
  refine WR_ent rfl (rn_call (by kernel_rfl) rfl) (hS) ?_
  rintro _ _ ⟨rfl, rfl⟩
  refine WR_val rfl (rn_eql rfl rfl) ?_
  refine WR_nil (thenN ?_)
  refine W_fp rfl ((by omega)) ?_
  refine W_skip (thenN (W_seq (W_seq (W_region (WR_val rfl (rn_move) ?_)))))
  refine WR_ent rfl (rn_call (by kernel_rfl) rfl) (hst) ?_
  rintro _ w10 ⟨rfl, ⟨st1, h1⟩, hb10⟩
  replace hK := hK.only hb10 (by first | (simp; done) | (right; omega))
  refine WR_val rfl (rn_assign) (WR_nil (thenN (W_seq (W_region (WR_val rfl (rn_move) ?_)))))
  refine WR_val rfl (rn_neq rfl rfl) ?_
  refine WR_nil (thenN ?_)
  refine W_ifp rfl (fun hne => ?_) (fun hne => ?_)
  ·
   refine W_seq (W_region (WR_val rfl (rn_move) (WR_val rfl (rn_assign) (WR_nil (thenN (W_ret (thenR ?_)))))))
   refine ret_ret [_] ⟨rfl, trivial⟩ ?_
   have hk0 : ok = false := by cases ok with | false => rfl | true => simp at hne
   refine ⟨by rw [hk0]; rfl, ⟨st1, by rw [hk0]; exact h1⟩, hK.k⟩
  ·
   have hk1 : ok = true := by cases ok with | true => rfl | false => simp at hne
   rw [hk1, if_pos rfl, if_pos rfl]
   have hOp := open22 h1
   have hoil := opI_len D1
   have hg1 := h1.row.lt
   have hpl1 := h1.own.lt
   have hm1 := h1.map.lt
   refine W_skip (thenN (W_seq (W_seq (W_region (WR_val rfl (rn_move) ?_)))))
   refine WR_ent rfl (rn_call (by kernel_rfl) rfl) (hOp) ?_
   rintro _ w15 ⟨p, c, rfl, hsl, hpb, hb15⟩
   replace hK := hK.new hb15
   refine WR_val rfl (rn_lenSl (e := 3) (sz := 1) (by kernel_rfl) rfl rfl) ?_
   refine WR_val rfl (rn_move) (WR_nil (thenN (W_block ?_)))
   have hn8 := h1.ok.n
   have hoc : (opN D1).length ≤ D1.V.length := Nat.le_trans (List.length_filter_le _ _) (by rw [List.length_range]; exact Nat.le_refl _)
   have hobt : ∃ X, (setXs D1 fun _ i => readD D1 i) = X := ⟨_, rfl⟩
   obtain ⟨X, hX⟩ := hobt
   rw [hX]
   have hXl : X.length = (opN D1).length := by rw [← hX, setXs_len]
   have hpn : ∀ b o, p = some ⟨b, o, none⟩ → b ∉ [pl, m] := fun b o e hm => by
     have := hpb b o e
     simp only [List.mem_cons, List.not_mem_nil, or_false] at hm
     omega
   have hM0 : DkM w15 g pl m G (setAll D1 (X.take 0)) ol cl st1 fu sv := h1.new (by assumption)
   refine W_loop (α := Nat) 0 (fun k => [(17, .int .i64 (k : Nat)), (16, .int .i64 ((opI D1).length : Nat)), (15, .slice p (opI D1).length c), (0, .pointer (some ⟨g, 0, none⟩))])
     (fun k w' => k ≤ (opN D1).length ∧ DkM w' g pl m G (setAll D1 (X.take k)) ol cl st1 fu sv ∧ SlAt w' p (opI D1).length 1 (iv (opI D1)) ∧ KpB [g, pl, m] w w') (fun k => (opN D1).length - k)
     ⟨rfl, rfl, rfl, rfl, rfl⟩ ⟨Nat.zero_le _, hM0, hsl, hK⟩ ?_
   clear hM0 hsl hK
   rintro k f wr ⟨hk, hM, hsl, hK⟩
   refine W_seq (W_region ?_)
   refine WR_val rfl (rn_lss rfl rfl) ?_
   refine WR_nil (thenN (W_seq ?_))
   refine W_ifp rfl (fun hlt => ?_) (fun hlt => ?_)
   ·
    refine W_skip (thenN (W_seq (W_block (W_seq ?_))))
    have hobt := opI_at (D := D1) (k := k) (by omega)
    obtain ⟨i, hik, hiv, hil⟩ := hobt
    have hobt := hsl.some (by omega)
    obtain ⟨gp, op, rfl, hgp⟩ := hobt
    have hrd : readD (setAll D1 (X.take k)) i = readD D1 i := by rw [readD, ← hX, setXs_fresh hik]; rfl
    have hVl := setAll_len D1 (X.take k)
    have hXk : X[k]? = some (i, readD D1 i) := by rw [← hX]; exact setXs_at hik
    have hnw := now38 hM i (by omega)
    rw [hrd] at hnw
    have hsn := setAll_snoc D1 X hXk
    have hl128 : (readD D1 i).length = 128 := lastS_ok (ver_ok h1.ok hil).2.1
    refine W_region ?_
    refine WR_val rfl (rn_indexSl1 (e := 3) (by kernel_rfl) rfl rfl (k) (by omega) (by omega)) ?_
    refine WR_val rfl (rn_load rfl (Ld.sl1 hsl (by kernel_rfl) hiv)) ?_
    refine WR_val rfl (rn_assign) (WR_nil (thenN (W_region (WR_val rfl (rn_move) (WR_val rfl (rn_move) (WR_val rfl (rn_move) (WR_val rfl (rn_move) ?_)))))))
    refine WR_ent rfl (rn_call (by kernel_rfl) rfl) (hnw) ?_
    rintro _ w25 ⟨rfl, hb25⟩
    replace hK := hK.new hb25
    replace hM := hM.new hb25
    refine WR_ent rfl (rn_call (by kernel_rfl) rfl) (settle37 hM i _ (by omega) hl128) ?_
    rintro _ w26 ⟨hM2, hb26⟩
    replace hK := hK.kpd hb26 (by first | (simp; done) | (simp; omega))
    rw [← hsn] at hM2
    refine WR_nil (blockN (thenN (W_region ?_)))
    refine WR_val rfl (rn_add rfl rfl (Coup.w64 (by omega))) ?_
    refine WR_val rfl (rn_move) (WR_nil ?_)
    refine loopN ⟨k + 1, by omega, ⟨by go_num, rfl, rfl, rfl, rfl⟩, by omega, hM2, (hsl.new hb25).kpd hb26 hpn, hK⟩
   ·
    have hkl : k = (opN D1).length := by omega
    rw [hkl, List.take_of_length_le (by omega)] at hM
    refine W_exit (thenX (loopX (blockX (thenN (W_seq (W_region (WR_val rfl (rn_assign) (WR_nil (thenN (W_ret ?_))))))))))
    refine ret_ret [_] ⟨rfl, trivial⟩ ?_
    exact ⟨rfl, ⟨st1, hM⟩, hK.k⟩
set_option maxRecDepth 20000 in
set_option maxHeartbeats 1000000 in
theorem crash20 {w : World} {g pl m : Nat} {G : List Nat} {D : Dk} {ol cl : Nat} {st : Int} {fu : Bool} {sv : Nat → Value} (h : DkM w g pl m G D ol cl st fu sv) (pp : Option Addr) (np cp : Nat) (picks : List Int) (hpk : SlAt w pp np 1 (iv picks)) (hpkb : 0 < np → ∀ b o, pp = some ⟨b, o, none⟩ → b ∉ [g, pl, m]) :
    Calls Try.prog 20 [.pointer (some ⟨g, 0, none⟩), .slice pp np cp].toArray w (Ret fun v w' => v = .int .i64 0 ∧ DkM w' g pl m G (crashD D picks) ol cl 0 false sv ∧ Kp [g, pl, m] w w') := by
  have hS := sectors27 h
  have hp := h.pos
  have hK := KpB.refl [g, pl, m] w
  have hOp := open22 h
  have hoil := opI_len D
  have hg1 := h.row.lt
  have hpl1 := h.own.lt
  have hm1 := h.map.lt
  have hn8 := h.ok.n
  have hnp : np = picks.length := by simpa [iv_length] using hpk.len.symm
  have hoc : (opN D).length ≤ D.V.length := Nat.le_trans (List.length_filter_le _ _) (by rw [List.length_range]; exact Nat.le_refl _)
  rw [crashD]
  obtain ⟨X, hX⟩ : ∃ X, (setXs D fun k i => leftS (ver D i) (picks.getD k 0)) = X := ⟨_, rfl⟩
  rw [hX]
  have hXl : X.length = (opN D).length := by rw [← hX, setXs_len]
  refine calls_W (fn := Try.f20) (rs := [.tmp 4]) (n := 44) Try.func20 rfl rfl Try.ntmps20 (by kernel_rfl) rfl ?_
  refine W_seq (W_region (WR_val rfl (rn_assign) (WR_nil (thenN (W_seq (W_seq (W_region (WR_val rfl (rn_move) ?_))))))))
  refine WR_ent rfl (rn_call (by kernel_rfl) rfl) (hS) ?_
  rintro _ _ ⟨rfl, rfl⟩
  refine WR_val rfl (rn_eql rfl rfl) ?_
  refine WR_nil (thenN ?_)
  refine W_fp rfl ((by omega)) ?_
  refine W_skip (thenN (W_seq (W_seq (W_region (WR_val rfl (rn_move) ?_)))))
  refine WR_ent rfl (rn_call (by kernel_rfl) rfl) (hOp) ?_
  rintro _ w12 ⟨p, c, rfl, hsl, hpb, hb12⟩
  replace hK := hK.new hb12
  refine WR_val rfl (rn_lenSl (e := 3) (sz := 1) (by kernel_rfl) rfl rfl) ?_
  refine WR_val rfl (rn_move) (WR_nil (thenN (W_block ?_)))
  have hpn : ∀ b o, p = some ⟨b, o, none⟩ → b ∉ [pl, m] := fun b o e hm => by
    have := hpb b o e
    simp only [List.mem_cons, List.not_mem_nil, or_false] at hm
    omega
  have hM0 : DkM w12 g pl m G (setAll D (X.take 0)) ol cl st fu sv := h.new (by assumption)
  refine W_loop (α := Nat) 0 (fun k => [(14, .int .i64 (k : Nat)), (13, .int .i64 ((opI D).length : Nat)), (12, .slice p (opI D).length c), (0, .pointer (some ⟨g, 0, none⟩)), (1, .slice pp np cp)])
    (fun k w' => k ≤ (opN D).length ∧ DkM w' g pl m G (setAll D (X.take k)) ol cl st fu sv ∧ SlAt w' p (opI D).length 1 (iv (opI D)) ∧ KpB [g, pl, m] w w') (fun k => (opN D).length - k)
    ⟨rfl, rfl, rfl, rfl, rfl, rfl⟩ ⟨Nat.zero_le _, hM0, hsl, hK⟩ ?_
  clear hM0 hsl hK
  rintro k f wr ⟨hk, hM, hsl, hK⟩
  have hVl := setAll_len D (X.take k)
  have hpk2 := hpk.kpd0 hK.k hpkb
  refine W_seq (W_region ?_)
  refine WR_val rfl (rn_lss rfl rfl) ?_
  refine WR_nil (thenN (W_seq ?_))
  refine W_ifp rfl (fun hlt => ?_) (fun hlt => ?_)
  ·
   refine W_skip (thenN (W_seq (W_block (W_seq ?_))))
   have hobt := opI_at (D := D) (k := k) (by omega)
   obtain ⟨i, hik, hiv, hil⟩ := hobt
   have hobt := hsl.some (by omega)
   obtain ⟨gp, op, rfl, hgp⟩ := hobt
   refine W_region (WR_val rfl (rn_move) ?_)
   refine WR_val rfl (rn_indexSl1 (e := 3) (by kernel_rfl) rfl rfl (k) (by omega) (by omega)) ?_
   refine WR_val rfl (rn_load rfl (Ld.sl1 hsl (by kernel_rfl) hiv)) ?_
   refine WR_val rfl (rn_assign) (WR_val rfl (rn_assign) (WR_nil (thenN (W_seq (W_region (WR_val rfl (rn_assign) (WR_nil (thenN ?_))))))))
   refine W_cut (fun pk : Int => [(7, .int .i64 pk), (6, .int .i64 (i : Nat)), (14, .int .i64 (k : Nat)), (13, .int .i64 ((opI D).length : Nat)), (12, .slice (some ⟨gp, op, none⟩) (opI D).length c), (0, .pointer (some ⟨g, 0, none⟩)), (1, .slice pp np cp)]) (fun pk w' => pk = picks.getD k 0 ∧ wr = w') ?_ ?_
   ·
    refine W_seq (W_region (WR_val rfl (rn_move) (WR_val rfl (rn_move) ?_)))
    refine WR_val rfl (rn_lenSl (e := 3) (sz := 1) (by kernel_rfl) rfl rfl) ?_
    refine WR_val rfl (rn_lss rfl rfl) ?_
    refine WR_nil (thenN ?_)
    refine W_ifp rfl (fun hkp => ?_) (fun hkp => ?_)
    ·
     have hobt : ∃ pk, picks[k]? = some pk := ⟨_, List.getElem?_eq_getElem (by omega)⟩
     obtain ⟨pk, hpk3⟩ := hobt
     have hobt := hpk2.some (by omega)
     obtain ⟨gq, oq, rfl, hgq⟩ := hobt
     refine W_region (WR_val rfl (rn_move) (WR_val rfl (rn_move) ?_))
     refine WR_val rfl (rn_indexSl1 (e := 3) (by kernel_rfl) rfl rfl (k) (by omega) (by omega)) ?_
     refine WR_val rfl (rn_load rfl (Ld.sl1 hpk2 (by kernel_rfl) (iv_some hpk3))) ?_
     refine WR_val rfl (rn_assign) (WR_nil ?_)
     refine loopN ⟨pk, ⟨rfl, rfl, rfl, rfl, rfl, rfl, rfl, rfl⟩, by rw [List.getD_eq_getElem?_getD, hpk3]; rfl, rfl⟩
    ·
     refine W_skip ?_
     refine loopN ⟨0, ⟨rfl, rfl, rfl, rfl, rfl, rfl, rfl, rfl⟩, by rw [List.getD_eq_getElem?_getD, List.getElem?_eq_none (by omega)]; rfl, rfl⟩
   ·
    rintro pk f2 wz ⟨hpkv, rfl⟩
    have hls := left40 hM i pk (by omega)
    have hfr : ver (setAll D (X.take k)) i = ver D i := by rw [← hX, setXs_fresh hik]
    rw [hfr] at hls
    have hXk : X[k]? = some (i, leftS (ver D i) pk) := by rw [← hX, hpkv]; exact setXs_at hik
    have hsn := setAll_snoc D X hXk
    have hl128 : (leftS (ver D i) pk).length = 128 := leftS_ok (ver_ok h.ok hil).2.1 (ver_ok h.ok hil).1 _
    refine W_region (WR_val rfl (rn_move) (WR_val rfl (rn_move) (WR_val rfl (rn_move) (WR_val rfl (rn_move) (WR_val rfl (rn_move) ?_)))))
    refine WR_ent rfl (rn_call (by kernel_rfl) rfl) (hls) ?_
    rintro _ w32 ⟨rfl, hb32⟩
    replace hK := hK.new hb32
    replace hM := hM.new hb32
    refine WR_ent rfl (rn_call (by kernel_rfl) rfl) (settle37 hM i _ (by omega) hl128) ?_
    rintro _ w33 ⟨hM2, hb33⟩
    replace hK := hK.kpd hb33 (by first | (simp; done) | (simp; omega))
    rw [← hsn] at hM2
    refine WR_nil (blockN (thenN (W_region ?_)))
    refine WR_val rfl (rn_add rfl rfl (Coup.w64 (by omega))) ?_
    refine WR_val rfl (rn_move) (WR_nil ?_)
    refine loopN ⟨k + 1, by omega, ⟨by go_num, rfl, rfl, rfl, rfl, rfl⟩, by omega, hM2, (hsl.new hb32).kpd hb33 hpn, hK⟩
  ·
   have hkl : k = (opN D).length := by omega
   rw [hkl, List.take_of_length_le (by omega)] at hM
   have hr := hM.row
   refine W_exit (thenX (loopX (blockX (thenN (W_seq (W_region (WR_val rfl (rn_move) (WR_val rfl (rn_move) (WR_val rfl (rn_move) (WR_val rfl (rn_nilCheckP rfl) (WR_val rfl (rn_fieldAddr (off := 2) (by kernel_rfl) rfl) ?_)))))))))))
   refine WR_sk rfl (sk_store1 rfl rfl rfl rfl hr (by kernel_rfl) (by first | (simp only [List.length_replicate]; omega) | (simp only [iv_length]; omega) | (simp only [bv_length, List.length_set]; omega) | simp) (fun w901 hr ho901 => ?_))
   replace hK := hK.only ho901 (by first | (simp; done) | (right; omega))
   have ho1 := ho901
   refine WR_val rfl (rn_nilCheckP rfl) (WR_val rfl (rn_fieldAddr (off := 3) (by kernel_rfl) rfl) ?_)
   refine WR_sk rfl (sk_store1 rfl rfl rfl rfl hr (by kernel_rfl) (by first | (simp only [List.length_replicate]; omega) | (simp only [iv_length]; omega) | (simp only [bv_length, List.length_set]; omega) | simp) (fun w902 hr ho902 => ?_))
   replace hK := hK.only ho902 (by first | (simp; done) | (right; omega))
   have ho2 := ho902
   refine WR_val rfl (rn_nilCheckP rfl) (WR_val rfl (rn_fieldAddr (off := 4) (by kernel_rfl) rfl) ?_)
   refine WR_sk rfl (sk_store1 rfl rfl rfl rfl hr (by kernel_rfl) (by first | (simp only [List.length_replicate]; omega) | (simp only [iv_length]; omega) | (simp only [bv_length, List.length_set]; omega) | simp) (fun w903 hr ho903 => ?_))
   replace hK := hK.only ho903 (by first | (simp; done) | (right; omega))
   refine WR_nil (thenN (W_seq (W_region (WR_val rfl (rn_assign) (WR_nil (thenN (W_ret ?_)))))))
   refine ret_ret [_] ⟨rfl, trivial⟩ ?_
   have ho3 := Only.trans (Only.trans ho1 ho2) ho903
   have ht := hM.turn ho3 (left' := -1) (dead' := false) (fu' := false) hr ⟨by omega, by omega, rfl⟩
   exact ⟨rfl, ht, hK.k⟩
end Go.Proofs.Ytpndhildmfmcgaa
namespace Go.Proofs.Ytpndhildmfmcgaa
open Go Go.RowKit Coup
structure DkO (w : World) (G : List Nat) (D : Dk) (sv : Nat → Value) : Prop where
  own : ∀ i, openB D i = true → ownsAt w 0 34 128 (sv i) ((ver D i).length - 1) (bv (ver D i).tail.flatten) ∧ ∀ b, (sv i).ownBlock = some b → b ∈ G
  sep : ∀ i j b, openB D i = true → openB D j = true → (sv i).ownBlock = some b → (sv j).ownBlock = some b → i = j
theorem DkO.kpd {w w' : World} {G M : List Nat} {D : Dk} {sv : Nat → Value} (h : DkO w G D sv) (k : Kp M w w') (hM : ∀ b ∈ G, b ∉ M) : DkO w' G D sv :=
  ⟨fun i hi => ⟨(h.own i hi).1.kpd k fun b hb e => hM b ((h.own i hi).2 b e) hb, (h.own i hi).2⟩, h.sep⟩
theorem DkO.alike {w : World} {G : List Nat} {D D' : Dk} {sv : Nat → Value} (h : DkO w G D sv) (hV : D'.V = D.V) : DkO w G D' sv := by
  have h1 : ∀ i, ver D' i = ver D i := fun i => by unfold ver; rw [hV]
  have h2 : ∀ i, openB D' i = openB D i := fun i => by unfold openB; rw [h1]
  exact ⟨fun i hi => by rw [h1]; exact h.own i (by rw [← h2]; exact hi), fun i j b hi hj => h.sep i j b (by rw [← h2]; exact hi) (by rw [← h2]; exact hj)⟩
theorem DkO.look {w : World} {g pl m : Nat} {G : List Nat} {D : Dk} {ol cl : Nat} {st : Int} {fu : Bool} {sv : Nat → Value} (h : DkM w g pl m G D ol cl st fu sv) (ho : DkO w G D sv) (i : Nat) (hi : i < D.V.length) :
    ∃ p c, (since D sv i).getD (.slice none 0 0) = .slice p ((ver D i).length - 1) c ∧ ownsAt w 0 34 128 (.slice p ((ver D i).length - 1) c) ((ver D i).length - 1) (bv (ver D i).tail.flatten) ∧ (∀ b, Value.ownBlock (.slice p ((ver D i).length - 1) c) = some b → b ∈ G) ∧ ∀ j b, openB D j = true → j ≠ i → Value.ownBlock (.slice p ((ver D i).length - 1) c) = some b → (sv j).ownBlock ≠ some b := by
  by_cases hb : openB D i = true
  · obtain ⟨p, c, h1, _, _⟩ := h.sv i hb
    have h2 := ho.own i hb
    rw [h1] at h2
    refine ⟨p, c, by rw [since, if_pos hb]; exact h1, h2.1, h2.2, fun j b hj hne e e' => hne ?_⟩
    exact ho.sep j i b hj hb e' (by rw [h1]; exact e)
  · have h1 := (ver_ok h.ok hi).1
    have h2 : (ver D i).length = 1 := by
      have := List.length_pos_iff.2 h1
      simp only [openB, decide_eq_true_eq] at hb
      omega
    obtain ⟨a, ha⟩ := List.length_eq_one_iff.1 h2
    refine ⟨none, 0, by rw [since, if_neg hb, h2]; rfl, ?_, (fun b e => nomatch e), (fun j b _ _ e => nomatch e)⟩
    rw [ha]
    exact ownsAt_nil _ _ _ _
theorem since_write {D : Dk} {sv : Nat → Value} {i : Nat} {v : List Sec} {u : Value} (hi : i < D.V.length) (hv : 1 < v.length) : since (setV D i v) (fun j => if j = i then u else sv j) = updF (since D sv) i (some u) := by
  funext j
  unfold since updF openB
  rw [ver_set hi]
  by_cases h : j = i
  · subst h; simp [hv]
  · simp only [if_neg (show ¬ i = j from fun e => h e.symm), if_neg h]
theorem dk_wrote {w w' : World} {g pl m : Nat} {G : List Nat} {D : Dk} {ol cl : Nat} {st : Int} {fu : Bool} {sv : Nat → Value} {i : Nat} {s : Sec} {u : Value} {ob : Option Nat} {p : Option Addr} {c : Nat}
    (h : DkM w g pl m G D ol cl st fu sv) (ho : DkO w G D sv) (hi : i < D.V.length) (hs : s.length = 128) (hsh : (ver D i).length < 100000)
    (k : Kp (m :: ob.toList) w w') (hmap : MapAt Try.prog 3 w' m D.V.length (updF (since D sv) i (some u))) (hu : u = .slice p ((ver D i).length - 1 + 1) c)
    (hv : ownsAt w' 0 34 128 u ((ver D i).length - 1 + 1) (bv (ver D i).tail.flatten ++ bv s)) (hpG : ∀ b, ob = some b → b ∈ G)
    (hsep : ∀ j b, openB D j = true → j ≠ i → ob = some b → (sv j).ownBlock ≠ some b) (hva : ∀ b, u.ownBlock = some b → ob = some b ∨ w.heap.size ≤ b) :
    ∃ G' sv', DkM w' g pl m G' (setV D i (ver D i ++ [s])) ol cl st fu sv' ∧ DkO w' G' (setV D i (ver D i ++ [s])) sv' ∧ ∀ b ∈ G', b ∈ G ∨ w.heap.size ≤ b := by
  obtain ⟨hv1, hv2, hv3⟩ := ver_ok h.ok hi
  have hvp := List.length_pos_iff.2 hv1
  obtain ⟨n1, n2, n3, n4⟩ := h.ne
  have hX : ∀ b, b ∉ G → b ≠ m → b ∉ m :: ob.toList := fun b hb hm e => by
    rcases List.mem_cons.1 e with e | e
    · exact hm e
    · exact hb (hpG b (Option.mem_toList.1 e))
  obtain ⟨D', hD'⟩ : ∃ D', setV D i (ver D i ++ [s]) = D' := ⟨_, rfl⟩
  have hver : ∀ j, ver D' j = if i = j then ver D i ++ [s] else ver D j := fun j => by rw [← hD']; exact ver_set hi
  have hlen : D'.V.length = D.V.length := by rw [← hD']; exact List.length_set ..
  have hopi : openB D' i = true := by unfold openB; rw [hver, if_pos rfl]; simp; omega
  have hopj : ∀ j, j ≠ i → openB D' j = openB D j := fun j hj => by unfold openB; rw [hver, if_neg (Ne.symm hj)]
  have hla : lastsD D' = lastsD D := by
    rw [← hD', lasts_set]
    have hh : headS (ver D i ++ [s]) = headS (ver D i) := by obtain ⟨a, l, e⟩ := List.exists_cons_of_ne_nil hv1; rw [e]; rfl
    rw [hh]
    have hl := lasts_at hi
    refine List.ext_getElem? fun j => ?_
    rw [List.getElem?_set]
    by_cases hij : i = j
    · subst hij
      rw [if_pos rfl, if_pos (List.getElem?_eq_some_iff.1 hl).1, hl]
    · rw [if_neg hij]
  have htl : bv (ver D' i).tail.flatten = bv (ver D i).tail.flatten ++ bv s := by
    rw [hver, if_pos rfl, ← bv_append]
    obtain ⟨a, l, e⟩ := List.exists_cons_of_ne_nil hv1
    rw [e]; simp
  have hln : (ver D' i).length - 1 = (ver D i).length - 1 + 1 := by rw [hver, if_pos rfl, List.length_append, List.length_singleton]; omega
  obtain ⟨sv', hsv'⟩ : ∃ sv' : Nat → Value, sv' = fun j => if j = i then u else sv j := ⟨_, rfl⟩
  have hsi : sv' i = u := by rw [hsv']; simp
  have hsj : ∀ j, j ≠ i → sv' j = sv j := fun j hj => by rw [hsv']; simp [hj]
  have hsz := k.size
  have hnew : ∀ b, u.ownBlock = some b → b ∈ G ∨ w.heap.size ≤ b := fun b e => (hva b e).imp (hpG b) id
  have hum : ∀ b, b ∈ u.ownBlock.toList → b ∈ G ∨ w.heap.size ≤ b := fun b hb => hnew b (Option.mem_toList.1 hb)
  have hg1 := h.row.lt
  have hg2 := h.own.lt
  have hg3 := h.map.lt
  have hown : ∀ j, openB D' j = true → ownsAt w' 0 34 128 (sv' j) ((ver D' j).length - 1) (bv (ver D' j).tail.flatten) ∧ ∀ b, (sv' j).ownBlock = some b → b ∈ G ++ u.ownBlock.toList := fun j hj => by
    by_cases e : j = i
    · subst e
      rw [hsi, hln, htl]
      exact ⟨hv, fun b e => List.mem_append_right _ (Option.mem_toList.2 e)⟩
    · rw [hopj j e] at hj
      rw [hsj j e, hver, if_neg (Ne.symm e)]
      have := ho.own j hj
      refine ⟨this.1.kpd k fun b hb e' => ?_, fun b e' => List.mem_append_left _ (this.2 b e')⟩
      rcases List.mem_cons.1 hb with hb | hb
      · exact (n4 b (this.2 b e')).2.2 hb
      · exact hsep j b hj e (Option.mem_toList.1 hb) e'
  rw [hD']
  refine ⟨G ++ u.ownBlock.toList, sv', ?_, ⟨hown, fun a b x ha hb ea eb => ?_⟩, fun b hb => ?_⟩
  · have hs' : since D' sv' = updF (since D sv) i (some u) := by rw [← hD', hsv']; exact since_write hi (by rw [List.length_append, List.length_singleton]; omega)
    refine ⟨by rw [hlen]; rw [show D'.dead = D.dead by rw [← hD']; rfl]; exact h.row.kpd k (hX g (fun e => (n4 g e).1 rfl) n2), by rw [hlen, hla]; exact h.own.kpd k (hX pl (fun e => (n4 pl e).2.1 rfl) n3), by rw [hlen, hs']; exact hmap, fun j hj => ?_, fun b hb => ?_, ⟨n1, n2, n3, fun b hb => ?_⟩, by rw [show D'.left = D.left by rw [← hD']; rfl]; exact h.left, ?_, by rw [hlen]; exact h.pos⟩
    · obtain ⟨h1, h2⟩ := hown j hj
      obtain ⟨q, c', e⟩ := h1.form
      rw [e] at h1 h2
      exact ⟨q, c', e, h1.sl, fun b o e' => h2 b (by rw [e']; rfl)⟩
    · rcases List.mem_append.1 hb with hb | hb
      · exact Nat.lt_of_lt_of_le (h.inG b hb) hsz
      · exact (hv.lt b (Option.mem_toList.1 hb)).2
    · rcases List.mem_append.1 hb with hb | hb
      · exact n4 b hb
      · rcases hum b hb with hb | hb
        · exact n4 b hb
        · exact ⟨by omega, by omega, by omega⟩
    · rw [← hD']
      refine setV_ok h.ok (by simp) (fun x hx => ?_) (by rw [List.length_append, List.length_singleton]; omega)
      rcases List.mem_append.1 hx with hx | hx
      · exact hv2 x hx
      · rw [List.mem_singleton.1 hx]; exact hs
  · have hcl : ∀ y, y ≠ i → openB D' y = true → u.ownBlock = some x → (sv y).ownBlock = some x → False := fun y hy hoy eu ey => by
      rw [hopj y hy] at hoy
      rcases hva x eu with e | e
      · exact hsep y x hoy hy e ey
      · have := h.inG x ((ho.own y hoy).2 x ey); omega
    by_cases e1 : a = i
    · by_cases e2 : b = i
      · rw [e1, e2]
      · rw [e1, hsi] at ea
        rw [hsj b e2] at eb
        exact (hcl b e2 hb ea eb).elim
    · by_cases e2 : b = i
      · rw [e2, hsi] at eb
        rw [hsj a e1] at ea
        exact (hcl a e1 ha eb ea).elim
      · rw [hsj a e1] at ea
        rw [hsj b e2] at eb
        exact ho.sep a b x (by rw [← hopj a e1]; exact ha) (by rw [← hopj b e2]; exact hb) ea eb
  · rcases List.mem_append.1 hb with hb | hb
    · exact .inl hb
    · exact hum b hb
set_option maxRecDepth 8000 in
set_option maxHeartbeats 1000000 in
theorem write17a {w : World} {g pl m : Nat} {G : List Nat} {D : Dk} {ol cl : Nat} {st : Int} {fu : Bool} {sv : Nat → Value} (h : DkM w g pl m G D ol cl st fu sv) (ho : DkO w G D sv) (i : Nat) (s : Sec) (hi : i < D.V.length) (hs : s.length = 128) (hsh : (ver D i).length < 100000) :
    Calls Try.prog 17 [.pointer (some ⟨g, 0, none⟩), .int .i64 (i : Int), .agg (bv s).toArray].toArray w
      (Ret fun v w' => v = .int .i64 (if stepOk D then 0 else 10) ∧ (∃ st' G' sv', DkM w' g pl m G' (writeD D i s) ol cl st' fu sv' ∧ DkO w' G' (writeD D i s) sv' ∧ ∀ b ∈ G', b ∈ G ∨ w.heap.size ≤ b) ∧ Kp ([g, pl, m] ++ G) w w') := by
  have hml : maxLen = 9223372036854775807 := by decide
  have hK := KpB.refl ([g, pl, m] ++ G) w
  have hsl : (bv s).length = 128 := by rw [bv_length]; exact hs
  obtain ⟨D1, hD1⟩ : ∃ D1, stepD D = D1 := ⟨_, rfl⟩
  obtain ⟨ok, hok⟩ : ∃ ok, stepOk D = ok := ⟨_, rfl⟩
  have hV1 : D1.V = D.V := by rw [← hD1]; exact stepD_V D
  have hver : ver D1 i = ver D i := by unfold ver; rw [hV1]
  rw [writeD, hD1, hok, ← hver]
  rw [← hver] at hsh
  refine calls_W (fn := Try.f17) (rs := [.tmp 6]) (n := 34) Try.func17 rfl rfl Try.ntmps17 (by kernel_rfl) rfl ?_
  refine W_seq (W_region ?_)
  refine WR_mk rfl (mk_box ((bv s)) rfl (fun g5 w5 hg5 hr5 hb5 => ?_))
  replace hK := hK.new hb5
  have h5 := h.new hb5
  have ha := at39 h5 (i : Int)
  rw [if_pos (by omega)] at ha
  have hst := step36 h5
  rw [hD1, hok] at hst
  have ho5 := ho.kpd (M := []) (Kp.of_below hb5) (by simp)
  have g5g : g5 ≠ g := by have := h.row.lt; omega
  refine WR_val rfl (rn_assign) (WR_nil (thenN (W_seq (W_seq (W_region (WR_val rfl (rn_move) (WR_val rfl (rn_move) ?_)))))))
  refine WR_ent rfl (rn_call (by kernel_rfl) rfl) (ha) ?_
  rintro _ _ ⟨rfl, rfl⟩
  refine WR_val rfl (rn_assign) (WR_nil (thenN (W_seq (W_region (WR_val rfl (rn_move) ?_)))))
  refine WR_val rfl (rn_neq rfl rfl) ?_
  refine WR_nil (thenN ?_)
  refine W_fp rfl ((by simp)) ?_
  refine W_skip (thenN (W_seq (W_seq (W_region (WR_val rfl (rn_move) ?_)))))
  refine WR_ent rfl (rn_call (by kernel_rfl) rfl) (hst) ?_
  rintro _ w16 ⟨rfl, ⟨st1, h1⟩, hb16⟩
  replace hK := hK.only hb16 (by first | (simp; done) | (right; omega))
  replace hr5 := hr5.only hb16 (by omega)
  have ho6 := (ho5.kpd (Kp.of_only hb16) (fun b hb => by simpa using (h.ne.2.2.2 b hb).1)).alike hV1
  refine WR_val rfl (rn_assign) (WR_nil (thenN (W_seq (W_region (WR_val rfl (rn_move) ?_)))))
  refine WR_val rfl (rn_neq rfl rfl) ?_
  refine WR_nil (thenN ?_)
  refine W_ifp rfl (fun hne => ?_) (fun hne => ?_)
  ·
   refine W_seq (W_region (WR_val rfl (rn_move) (WR_val rfl (rn_assign) (WR_nil (thenN (W_ret (thenR ?_)))))))
   refine ret_ret [_] ⟨rfl, trivial⟩ ?_
   have hk0 : ok = false := by cases ok with | false => rfl | true => simp at hne
   refine ⟨by rw [hk0]; rfl, ⟨st1, G, sv, by rw [hk0]; exact h1, by rw [hk0]; exact ho6, fun b hb => .inl hb⟩, hK.k⟩
  ·
   have hk1 : ok = true := by cases ok with | true => rfl | false => simp at hne
   have hr := h1.row
   have hmap := h1.map
   have hn8 := h1.ok.n
   rw [hk1, if_pos rfl, if_pos rfl]
   have hi1 : i < D1.V.length := by rw [hV1]; exact hi
   have hobt := DkO.look h1 ho6 i hi1
   obtain ⟨p, c, hlk, hown, hpG, hsep⟩ := hobt
   have hobt : ∃ ob, (Value.slice p ((ver D1 i).length - 1) c).ownBlock = ob := ⟨_, rfl⟩
   obtain ⟨ob, hob⟩ := hobt
   have hne := h.ne
   clear hver
   rw [hob] at hpG hsep
   have hx1 : ∀ b, b ∉ G → ob ≠ some b := fun b hb e => hb (hpG b e)
   have hx2 := hx1 g fun hg => (hne.2.2.2 g hg).1 rfl
   have hx3 := hx1 m fun hg => (hne.2.2.2 m hg).2.2 rfl
   have hx4 := hx1 pl fun hg => (hne.2.2.2 pl hg).2.1 rfl
   have hx5 := hx1 g5 fun hg => by have := h.inG g5 hg; omega
   have hx6 : g5 ≠ m := by have := h.map.lt; omega
   have hx7 : g ≠ m := hne.2.1
   have hx8 : pl ≠ m := hne.2.2.1
   have hvp := List.length_pos_iff.2 (ver_ok h1.ok hi1).1
   have hX0 : DkM w16 g pl m G D1 ol cl st1 fu sv := h1
   have hKx := KpB.refl (m :: ob.toList) w16
   have hK16 := hK
   refine W_skip (thenN (W_seq ?_))
   refine W_draw' (m :: (Value.slice p ((ver D1 i).length - 1) c).ownBlock.toList) (by kernel_rfl) ?_
   intro w901 hb901 hS901
   replace hK := hK.new hb901
   replace hr5 := hr5.new hb901
   replace hr := hr.new hb901
   replace hmap := hmap.new hb901
   replace hKx := hKx.new hb901
   replace hown := hown.new hb901
   have hK_d901 := hK
   have hr5_d901 := hr5
   have hr_d901 := hr
   have hmap_d901 := hmap
   have hKx_d901 := hKx
   have hown_d901 := hown
   refine WA_take 0 (by kernel_rfl) rfl (fun _ _ => rn_move) ?_
   refine WA_take 1 (by kernel_rfl) rfl (fun _ _ => rn_nilCheckP rfl) ?_
   refine WA_take 2 (by kernel_rfl) rfl (fun _ _ => rn_fieldAddr (off := 1) (by kernel_rfl) rfl) ?_
   refine WA_take 3 (by kernel_rfl) rfl (fun w' hS' => rn_load rfl (Ld.row1 (hr_d901.kq hS') (by kernel_rfl) rfl)) ?_
   refine WA_take 4 (by kernel_rfl) rfl (fun _ _ => rn_move) ?_
   refine WA_take 5 (by kernel_rfl) rfl (fun _ _ => rn_move) ?_
   refine WA_take 6 (by kernel_rfl) rfl (fun _ _ => rn_nilCheckP rfl) ?_
   refine WA_take 7 (by kernel_rfl) rfl (fun _ _ => rn_fieldAddr (off := 1) (by kernel_rfl) rfl) ?_
   refine WA_take 8 (by kernel_rfl) rfl (fun w' hS' => rn_load rfl (Ld.row1 (hr_d901.kq hS') (by kernel_rfl) rfl)) ?_
   refine WA_take 9 (by kernel_rfl) rfl (fun _ _ => rn_move) ?_
   refine WA_take 11 (by kernel_rfl) rfl (fun w' hS' => rn_load rfl (Ld.rowA (k := 128) (hr5_d901.kq hS') (by kernel_rfl) (by kernel_rfl) (by first | (simp; done) | (simp [bv_length, *]; done) | assumption))) ?_
   refine WA_two 10 12 (by kernel_rfl) ?_ ?_
   ·
    refine WO_val rfl rfl (rn_lookupV (k := 3) (e := 52) (.slice none 0 0) (by kernel_rfl) (by kernel_rfl) (by intro w; first | kernel_rfl | rfl) hmap rfl rfl (i) (by first | rfl | omega) (by omega) (by omega) hlk) hS901 ?_
    refine WA_one 12 (by kernel_rfl) ?_
    refine WO_mk rfl rfl (mk_one (e := 34) (.agg (bv s).toArray) (bv s) (List.replicate 128 (Value.int .u8 0)) 128 (by kernel_rfl) (by kernel_rfl) rfl rfl (by first | rfl | (simp; done) | (simp [bv_length, *]; done)) ⟨by decide, by decide⟩ (fun g32 w32 hg32 hr32 hb32 => ?_))
    have hS903 := hS901.add0 hb32
    refine ⟨hS903, ?_⟩
    have ge_hS901_g32 := Nat.le_trans hS901.size hg32
    have lt_g5_g32 : g5 < g32 := Nat.lt_of_lt_of_le hr5.lt hg32
    have lt_g_g32 : g < g32 := Nat.lt_of_lt_of_le hr.lt hg32
    have lt_m_g32 : m < g32 := Nat.lt_of_lt_of_le hmap.lt hg32
    replace hK := hK.new hb32
    replace hr5 := hr5.new hb32
    replace hr := hr.new hb32
    replace hmap := hmap.new hb32
    replace hKx := hKx.new hb32
    replace hown := hown.new hb32
    refine WA_one 13 (by kernel_rfl) ?_
    have hs32 := hr32.slA (m := 1) (sz := 128) hsl (by omega)
    refine WO_mk rfl rfl (mk_append (e := 34) (sz := 128) (bytes := 128) (z := .agg (List.replicate 128 (Value.int .u8 0)).toArray) (by kernel_rfl) rfl (by kernel_rfl) rfl (by decide) rfl hown rfl hs32 (bv_one _) (by unfold maxLen; omega) (by omega) (fun hm0 => by omega) (fun v33 w33 hv33 hgr33 hfr33 => ?_))
    have hS904 := hS903.ownS hown hgr33 (by first | (left; omega) | exact Or.inr (fun _ h => h) | exact Or.inr (fun _ h => List.mem_cons_of_mem _ h))
    refine ⟨hS904, ?_⟩
    have kG : Kp ob.toList w32 w33 := by rw [← hob]; exact Kp.of_grown hgr33
    have hfr : ∀ b, v33.ownBlock = some b → ob = some b ∨ w32.heap.size ≤ b := by rw [← hob]; exact hfr33
    replace hmap := hmap.kpd kG (by simpa using hx3)
    replace hKx := hKx.kpd kG (fun g' hg' => .inl (List.mem_cons_of_mem _ hg'))
    refine WA_one 14 (by kernel_rfl) ?_
    refine WO_sk rfl rfl (sk_mapUpd (k := 3) (e := 52) (_) (by kernel_rfl) (by kernel_rfl) hmap rfl rfl rfl (i) (by first | rfl | omega) (by omega) (by omega) (fun w906 hmap ho906 => ?_))
    have hS905 := hS904.aq ho906
    refine ⟨hS905, ?_⟩
    replace hKx := hKx.only ho906 (by first | (simp; done) | (right; omega))
    refine WA_done (by kernel_rfl) ?_
    refine thenN (W_seq (W_region (WR_val rfl (rn_assign) (WR_nil (thenN (W_ret ?_))))))
    refine ret_ret [_] ⟨rfl, trivial⟩ ?_
    have hmw := h1.map.lt
    have hszx := Nat.le_trans hb901.size hb32.size
    have hva : ∀ b, v33.ownBlock = some b → b ∈ G ∨ w16.heap.size ≤ b := fun b e => (hfr b e).imp (hpG b) (fun hh => Nat.le_trans hszx hh)
    have hv34 := hv33.kpd (Kp.of_only ho906) (fun b hb e => by
      have h1 : b = m := by simpa using hb
      rcases hva b e with h2 | h2
      · exact (hne.2.2.2 b h2).2.2 h1
      · omega)
    obtain ⟨p33, c33, hp33⟩ := hv34.form
    have hobt := dk_wrote (s := s) h1 ho6 hi1 hs hsh hKx.k hmap hp33 hv34 hpG hsep (fun b e => (hfr b e).imp id (fun hh => Nat.le_trans hszx hh))
    obtain ⟨G', sv', f1, f2, f3⟩ := hobt
    refine ⟨rfl, ⟨st1, G', sv', f1, f2, fun b hb => (f3 b hb).imp id fun hh => ?_⟩, ?_⟩
    · have e1 := hb5.size
      have e2 := (Kp.of_only hb16).size
      omega
    · refine (hK16.kpd hKx.k fun b hb => .inl ?_).k
      rcases List.mem_cons.1 hb with hb | hb
      · rw [hb]; simp
      · exact List.mem_append_right _ (hpG b (Option.mem_toList.1 hb))
   ·
    refine WO_mk rfl rfl (mk_one (e := 34) (.agg (bv s).toArray) (bv s) (List.replicate 128 (Value.int .u8 0)) 128 (by kernel_rfl) (by kernel_rfl) rfl rfl (by first | rfl | (simp; done) | (simp [bv_length, *]; done)) ⟨by decide, by decide⟩ (fun g32 w32 hg32 hr32 hb32 => ?_))
    have hS907 := hS901.add0 hb32
    refine ⟨hS907, ?_⟩
    have ge_hS901_g32 := Nat.le_trans hS901.size hg32
    have lt_g5_g32 : g5 < g32 := Nat.lt_of_lt_of_le hr5.lt hg32
    have lt_g_g32 : g < g32 := Nat.lt_of_lt_of_le hr.lt hg32
    have lt_m_g32 : m < g32 := Nat.lt_of_lt_of_le hmap.lt hg32
    replace hK := hK.new hb32
    replace hr5 := hr5.new hb32
    replace hr := hr.new hb32
    replace hmap := hmap.new hb32
    replace hKx := hKx.new hb32
    replace hown := hown.new hb32
    refine WA_one 10 (by kernel_rfl) ?_
    refine WO_val rfl rfl (rn_lookupV (k := 3) (e := 52) (.slice none 0 0) (by kernel_rfl) (by kernel_rfl) (by intro w; first | kernel_rfl | rfl) hmap rfl rfl (i) (by first | rfl | omega) (by omega) (by omega) hlk) hS907 ?_
    refine WA_one 13 (by kernel_rfl) ?_
    have hs32 := hr32.slA (m := 1) (sz := 128) hsl (by omega)
    refine WO_mk rfl rfl (mk_append (e := 34) (sz := 128) (bytes := 128) (z := .agg (List.replicate 128 (Value.int .u8 0)).toArray) (by kernel_rfl) rfl (by kernel_rfl) rfl (by decide) rfl hown rfl hs32 (bv_one _) (by unfold maxLen; omega) (by omega) (fun hm0 => by omega) (fun v33 w33 hv33 hgr33 hfr33 => ?_))
    have hS909 := hS907.ownS hown hgr33 (by first | (left; omega) | exact Or.inr (fun _ h => h) | exact Or.inr (fun _ h => List.mem_cons_of_mem _ h))
    refine ⟨hS909, ?_⟩
    have kG : Kp ob.toList w32 w33 := by rw [← hob]; exact Kp.of_grown hgr33
    have hfr : ∀ b, v33.ownBlock = some b → ob = some b ∨ w32.heap.size ≤ b := by rw [← hob]; exact hfr33
    replace hmap := hmap.kpd kG (by simpa using hx3)
    replace hKx := hKx.kpd kG (fun g' hg' => .inl (List.mem_cons_of_mem _ hg'))
    refine WA_one 14 (by kernel_rfl) ?_
    refine WO_sk rfl rfl (sk_mapUpd (k := 3) (e := 52) (_) (by kernel_rfl) (by kernel_rfl) hmap rfl rfl rfl (i) (by first | rfl | omega) (by omega) (by omega) (fun w911 hmap ho911 => ?_))
    have hS910 := hS909.aq ho911
    refine ⟨hS910, ?_⟩
    replace hKx := hKx.only ho911 (by first | (simp; done) | (right; omega))
    refine WA_done (by kernel_rfl) ?_
    refine thenN (W_seq (W_region (WR_val rfl (rn_assign) (WR_nil (thenN (W_ret ?_))))))
    refine ret_ret [_] ⟨rfl, trivial⟩ ?_
    have hmw := h1.map.lt
    have hszx := Nat.le_trans hb901.size hb32.size
    have hva : ∀ b, v33.ownBlock = some b → b ∈ G ∨ w16.heap.size ≤ b := fun b e => (hfr b e).imp (hpG b) (fun hh => Nat.le_trans hszx hh)
    have hv34 := hv33.kpd (Kp.of_only ho911) (fun b hb e => by
      have h1 : b = m := by simpa using hb
      rcases hva b e with h2 | h2
      · exact (hne.2.2.2 b h2).2.2 h1
      · omega)
    obtain ⟨p33, c33, hp33⟩ := hv34.form
    have hobt := dk_wrote (s := s) h1 ho6 hi1 hs hsh hKx.k hmap hp33 hv34 hpG hsep (fun b e => (hfr b e).imp id (fun hh => Nat.le_trans hszx hh))
    obtain ⟨G', sv', f1, f2, f3⟩ := hobt
    refine ⟨rfl, ⟨st1, G', sv', f1, f2, fun b hb => (f3 b hb).imp id fun hh => ?_⟩, ?_⟩
    · have e1 := hb5.size
      have e2 := (Kp.of_only hb16).size
      omega
    · refine (hK16.kpd hKx.k fun b hb => .inl ?_).k
      rcases List.mem_cons.1 hb with hb | hb
      · rw [hb]; simp
      · exact List.mem_append_right _ (hpG b (Option.mem_toList.1 hb))
set_option maxRecDepth 20000 in
theorem write17b {w : World} {g pl m : Nat} {G : List Nat} {D : Dk} {ol cl : Nat} {st : Int} {fu : Bool} {sv : Nat → Value} (h : DkM w g pl m G D ol cl st fu sv) (i : Int) (s : Sec) (hi : ¬ (0 ≤ i ∧ i < D.V.length)) (hs : s.length = 128) :
    Calls Try.prog 17 [.pointer (some ⟨g, 0, none⟩), .int .i64 i, .agg (bv s).toArray].toArray w
      (Ret fun v w' => v = .int .i64 2 ∧ Below w.heap.size w w') := by
  have hB := Below.refl w.heap.size w
  have hsl : (bv s).length = 128 := by rw [bv_length]; exact hs
  refine calls_W (fn := Try.f17) (rs := [.tmp 6]) (n := 34) Try.func17 rfl rfl Try.ntmps17 (by kernel_rfl) rfl ?_
  refine W_seq (W_region ?_)
  refine WR_mk rfl (mk_box ((bv s)) rfl (fun g5 w5 hg5 hr5 hb5 => ?_))
  have ge_hB_g5 := Nat.le_trans hB.size hg5
  replace hB := hB.acc hb5
  have h5 := h.new hb5
  have ha := at39 h5 i
  rw [if_neg hi] at ha
  refine WR_val rfl (rn_assign) (WR_nil (thenN (W_seq (W_seq (W_region (WR_val rfl (rn_move) (WR_val rfl (rn_move) ?_)))))))
  refine WR_ent rfl (rn_call (by kernel_rfl) rfl) (ha) ?_
  rintro _ _ ⟨rfl, rfl⟩
  refine WR_val rfl (rn_assign) (WR_nil (thenN (W_seq (W_region (WR_val rfl (rn_move) ?_)))))
  refine WR_val rfl (rn_neq rfl rfl) ?_
  refine WR_nil (thenN ?_)
  refine W_tp rfl ((by simp)) ?_
  refine W_seq (W_region (WR_val rfl (rn_move) (WR_val rfl (rn_assign) (WR_nil (thenN (W_ret (thenR ?_)))))))
  refine ret_ret [_] ⟨rfl, trivial⟩ ?_
  exact ⟨rfl, hB⟩
end Go.Proofs.Ytpndhildmfmcgaa
namespace Go.Proofs.Ytpndhildmfmcgaa
open Go Go.RowKit Coup
def newD (n : Nat) : Dk := ⟨List.replicate n [zeroS], -1, false⟩
theorem newD_ok {n : Nat} (hn : n ≤ 8192) : DkOk (newD n) := by
  have h : ∀ v ∈ (newD n).V, v = [zeroS] := fun v hv => (List.mem_replicate.1 hv).2
  refine ⟨by show (List.replicate n [zeroS]).length ≤ _; rw [List.length_replicate]; exact hn, fun v hv => by rw [h v hv]; simp, fun v hv s hs => ?_, fun v hv => by rw [h v hv]; simp⟩
  rw [h v hv] at hs
  rw [List.mem_singleton.1 hs, zeroS, List.length_replicate]
theorem newD_len (n : Nat) : (newD n).V.length = n := List.length_replicate ..
theorem newD_closed {n i : Nat} : openB (newD n) i = false := by
  unfold openB ver newD
  dsimp only
  rw [List.getD_eq_getElem?_getD, List.getElem?_replicate]
  split <;> simp
theorem newD_lasts (n : Nat) : List.replicate (n * 128) (Value.int .u8 0) = bv (lastsD (newD n)).flatten := by
  have e : lastsD (newD n) = List.replicate n zeroS := by
    unfold lastsD newD
    dsimp only
    rw [List.map_replicate]; rfl
  have hf : ∀ n, (List.replicate n zeroS).flatten = List.replicate (n * 128) 0 := by
    intro n
    induction n with
    | zero => rfl
    | succ n ih =>
      rw [List.replicate_succ, List.flatten_cons, ih, zeroS, List.replicate_append_replicate]
      congr 1; omega
  rw [e, hf, bv, List.map_replicate]; rfl
set_option maxRecDepth 20000 in
theorem new11a {w : World} (n : Nat) (h1 : 1 ≤ n) (h2 : n ≤ 8192) :
    Calls Try.prog 11 [.int .i64 (n : Int)].toArray w (Ret fun v w' => ∃ g pl m, v = .tuple #[.pointer (some ⟨g, 0, none⟩), .int .i64 0] ∧ DkM w' g pl m [] (newD n) 0 n 0 false (fun _ => .slice none 0 0) ∧ w.heap.size ≤ g ∧ w.heap.size ≤ pl ∧ w.heap.size ≤ m ∧ Below w.heap.size w w') := by
  have hB := Below.refl w.heap.size w
  have hml : maxLen = 9223372036854775807 := by decide
  refine calls_W (fn := Try.f11) (rs := [.tmp 2, .tmp 3]) (n := 15) Try.func11 rfl rfl Try.ntmps11 (by kernel_rfl) rfl ?_
  refine W_seq (W_region (WR_val rfl (rn_assign) (WR_val rfl (rn_assign) (WR_nil (thenN (W_seq (W_seq (W_region (WR_val rfl (rn_move) ?_)))))))))
  refine WR_val rfl (rn_lss rfl rfl) ?_
  refine WR_val rfl (rn_move) ?_
  refine WR_fp 6 rfl ((by omega)) ?_
  refine WR_yes rfl (WR_val rfl (rn_move) (WR_yes rfl ?_))
  refine WR_val rfl (rn_gtr rfl rfl) ?_
  refine WR_val rfl (rn_pick_f rfl) (WR_nil (thenN ?_))
  refine W_fp rfl ((by omega)) ?_
  refine W_skip (thenN (W_seq (W_region (WR_val rfl (rn_move) ?_))))
  refine WR_mk rfl (mk_make (e := 34) n (List.replicate 128 (.int .u8 0)) 128 128 (.int .u8 0) (by kernel_rfl) (by kernel_rfl) ⟨_, rfl, rfl⟩ ⟨_, rfl, rfl⟩ (by intro u hu; exact (List.mem_replicate.1 hu).2) (by simp) (by omega) (by omega) (fun g11 w11 hg11 hr11 hb11 => ?_))
  have ge_hB_g11 := Nat.le_trans hB.size hg11
  replace hB := hB.acc hb11
  rw [newD_lasts n] at hr11
  have l11 := hr11.lt
  refine WR_mk rfl (mk_makeMap (k := 3) (n) (fun m12 w12 hg12 hm12 hb12 => ?_))
  replace hr11 := hr11.new hb12
  replace hB := hB.acc hb12
  have l12 := hm12.lt
  refine WR_val rfl (rn_built2 (.slice (some ⟨g11, 0, none⟩) n n) (.map (some m12)) [.slice (some ⟨g11, 0, none⟩) n n, .map (some m12), .int .i64 0, .bool false, .bool false] rfl rfl (by kernel_rfl)) ?_
  refine WR_mk rfl (mk_box ([.slice (some ⟨g11, 0, none⟩) n n, .map (some m12), .int .i64 0, .bool false, .bool false]) rfl (fun g14 w14 hg14 hr14 hb14 => ?_))
  have ge_hB_g14 := Nat.le_trans hB.size hg14
  have lt_g11_g14 : g11 < g14 := Nat.lt_of_lt_of_le hr11.lt hg14
  have lt_m12_g14 : m12 < g14 := Nat.lt_of_lt_of_le hm12.lt hg14
  replace hr11 := hr11.new hb14
  replace hm12 := hm12.new hb14
  replace hB := hB.acc hb14
  refine WR_val rfl (rn_assign) (WR_val rfl (rn_assign) (WR_nil (thenN (W_ret ?_))))
  refine ret_ret [_, _] ⟨rfl, rfl, trivial⟩ ?_
  have hlen := newD_len n
  have hs : since (newD n) (fun _ => .slice none 0 0) = fun _ => none := by
    funext i
    unfold since
    rw [newD_closed]; rfl
  have hbl : (bv (lastsD (newD n)).flatten).length = n * 128 := by rw [← newD_lasts, List.length_replicate]
  refine ⟨g14, g11, m12, rfl, ⟨by rw [hlen]; exact hr14, by rw [hlen]; exact hr11.owns (Nat.zero_le _) hbl (by omega), by rw [hlen, hs]; exact hm12, fun i hi => ?_, (fun b hb => nomatch hb), ⟨by omega, by omega, by omega, fun b hb => (nomatch hb)⟩, ⟨by omega, by omega, rfl⟩, newD_ok h2, by omega⟩, by omega, by omega, by omega, hB⟩
  rw [newD_closed] at hi
  cases hi
end Go.Proofs.Ytpndhildmfmcgaa
namespace Coup
open Go Go.RowKit
theorem Kp.of_below' {M : List Nat} {w w' : World} (h : Below w.heap.size w w') : Kp M w w' := (Kp.of_below (M := []) h).weak fun _ _ hm => nomatch hm
structure Mv (B B' : List Nat) (w w' : World) : Prop where
  k : Kp B w w'
  sub : ∀ b ∈ B', b ∈ B ∨ w.heap.size ≤ b
theorem Mv.of_below {B : List Nat} {w w' : World} (h : Below w.heap.size w w') : Mv B B w w' := ⟨Kp.of_below' h, fun _ hb => .inl hb⟩
theorem Mv.of_kp {B : List Nat} {w w' : World} (h : Kp B w w') : Mv B B w w' := ⟨h, fun _ hb => .inl hb⟩
theorem Mv.lo {B B' : List Nat} {w w' : World} {lo : Nat} (h : Mv B B' w w') (hB : ∀ b ∈ B, lo ≤ b) (hl : lo ≤ w.heap.size) : ∀ b ∈ B', lo ≤ b := fun b hb => (h.sub b hb).elim (hB b) (Nat.le_trans hl)
theorem Mv.bel {B B' : List Nat} {w w' : World} {lo : Nat} (h : Mv B B' w w') (hB : ∀ b ∈ B, lo ≤ b) (hl : lo ≤ w.heap.size) : Below lo w w' :=
  ⟨h.k.os, h.k.tape, h.k.output, h.k.size, fun i hi => h.k.block i (Nat.lt_of_lt_of_le hi hl) fun hm => absurd (hB i hm) (Nat.not_le.2 hi)⟩
theorem Kp.of_lo {lo : Nat} {w w' : World} (h : Below lo w w') : Kp (List.range' lo (w.heap.size - lo)) w w' :=
  ⟨h.os, h.tape, h.output, h.size, fun i hi hm => h.block i (Nat.not_le.1 fun hl => hm (List.mem_range'_1.2 ⟨hl, by omega⟩))⟩
theorem notLo {lo n b : Nat} (h : b < lo) : b ∉ List.range' lo n := fun hm => absurd (List.mem_range'_1.1 hm).1 (Nat.not_le.2 h)
theorem inLo {lo n b : Nat} (h : b ∈ List.range' lo n) : lo ≤ b := (List.mem_range'_1.1 h).1
theorem belLo {w0 w w' : World} {lo : Nat} (h : Below w0.heap.size w0 w) (k : Below lo w w') (hl : w0.heap.size ≤ lo) : Below w0.heap.size w0 w' := h.kpd (Kp.of_lo k) fun _ hm => Nat.le_trans hl (inLo hm)
class Thing (X : World → List Nat → Prop) : Prop where
  kpd : ∀ {w w' : World} {B M : List Nat}, X w B → Kp M w w' → (∀ b ∈ B, b ∉ M) → X w' B
  lt : ∀ {w : World} {B : List Nat}, X w B → ∀ b ∈ B, b < w.heap.size
def None : World → List Nat → Prop := fun _ B => B = []
instance : Thing None := ⟨fun h _ _ => h, fun h b hb => by rw [h] at hb; cases hb⟩
def Duo (X Y : World → List Nat → Prop) (lo : Nat) (w : World) : Prop := ∃ B C, X w B ∧ Y w C ∧ (∀ b ∈ B, lo ≤ b ∧ b ∉ C) ∧ ∀ b ∈ C, lo ≤ b
namespace Duo
variable {X X' Y Y' : World → List Nat → Prop} {lo : Nat} {w w' : World}
theorem kpd {M : List Nat} [hX : Thing X] [hY : Thing Y] (h : Duo X Y lo w) (k : Kp M w w') (hM : ∀ b ∈ M, b < lo) : Duo X Y lo w' := by
  obtain ⟨B, C, h1, h2, h3, h4⟩ := h
  exact ⟨B, C, hX.kpd h1 k fun b hb hm => absurd (h3 b hb).1 (Nat.not_le.2 (hM b hm)), hY.kpd h2 k fun b hb hm => absurd (h4 b hb) (Nat.not_le.2 (hM b hm)), h3, h4⟩
theorem new [hX : Thing X] [hY : Thing Y] (h : Duo X Y lo w) (hb : Below w.heap.size w w') : Duo X Y lo w' := h.kpd (M := []) (Kp.of_below hb) (by simp)
theorem only {g : Nat} [hX : Thing X] [hY : Thing Y] (h : Duo X Y lo w) (ho : Only g w w') (hg : g < lo) : Duo X Y lo w' := h.kpd (Kp.of_only ho) (by simpa using hg)
theorem swap (h : Duo X Y lo w) : Duo Y X lo w := by
  obtain ⟨B, C, h1, h2, h3, h4⟩ := h
  exact ⟨C, B, h2, h1, fun b hb => ⟨h4 b hb, fun hm => (h3 b hm).2 hb⟩, fun b hb => (h3 b hb).1⟩
theorem left [hY : Thing Y] {P : Program} {f : FuncId} {args : Array Value} {R : Value → Prop} (h : Duo X Y lo w) (hl : lo ≤ w.heap.size)
    (hc : ∀ B, X w B → (∀ b ∈ B, lo ≤ b) → Calls P f args w (Ret fun v w' => R v ∧ ∃ B', X' w' B' ∧ Mv B B' w w')) : Calls P f args w (Ret fun v w' => R v ∧ Duo X' Y lo w' ∧ Below lo w w') := by
  obtain ⟨B, C, h1, h2, h3, h4⟩ := h
  refine (hc B h1 fun b hb => (h3 b hb).1).to fun v w' ⟨hR, B', hX, hm⟩ => ⟨hR, ⟨B', C, hX, hY.kpd h2 hm.k fun b hb hb' => (h3 b hb').2 hb, fun b hb => ⟨hm.lo (fun b hb => (h3 b hb).1) hl b hb, fun hc => ?_⟩, h4⟩, hm.bel (fun b hb => (h3 b hb).1) hl⟩
  rcases hm.sub b hb with hb' | hb'
  · exact (h3 b hb').2 hc
  · exact absurd (hY.lt h2 b hc) (Nat.not_lt.2 hb')
theorem right [hX : Thing X] {P : Program} {f : FuncId} {args : Array Value} {R : Value → Prop} (h : Duo X Y lo w) (hl : lo ≤ w.heap.size)
    (hc : ∀ B, Y w B → (∀ b ∈ B, lo ≤ b) → Calls P f args w (Ret fun v w' => R v ∧ ∃ B', Y' w' B' ∧ Mv B B' w w')) : Calls P f args w (Ret fun v w' => R v ∧ Duo X Y' lo w' ∧ Below lo w w') :=
  (h.swap.left hl hc).to fun _ _ ⟨h1, h2, h3⟩ => ⟨h1, h2.swap, h3⟩
end Duo
end Coup
namespace Go.Proofs.Ytpndhildmfmcgaa
open Go Go.RowKit Coup
def DkX (w : World) (g : Nat) (B : List Nat) (D : Dk) : Prop := ∃ pl m G ol cl st fu sv, B = [g, pl, m] ++ G ∧ DkM w g pl m G D ol cl st fu sv ∧ DkO w G D sv
namespace DkX
variable {w w' : World} {g : Nat} {B M : List Nat} {D : Dk}
theorem kpd (h : DkX w g B D) (k : Kp M w w') (hM : ∀ b ∈ B, b ∉ M) : DkX w' g B D := by
  obtain ⟨pl, m, G, ol, cl, st, fu, sv, rfl, h1, h2⟩ := h
  exact ⟨pl, m, G, ol, cl, st, fu, sv, rfl, h1.kpd k ⟨hM g (by simp), hM pl (by simp), hM m (by simp), fun b hb => hM b (by simp [hb])⟩, h2.kpd k fun b hb => hM b (by simp [hb])⟩
theorem new (h : DkX w g B D) (hb : Below w.heap.size w w') : DkX w' g B D := h.kpd (M := []) (Kp.of_below hb) (fun _ _ => by simp)
theorem lt (h : DkX w g B D) : ∀ b ∈ B, b < w.heap.size := by
  obtain ⟨pl, m, G, ol, cl, st, fu, sv, rfl, h1, h2⟩ := h
  intro b hb
  simp only [List.cons_append, List.nil_append, List.mem_cons] at hb
  rcases hb with rfl | rfl | rfl | hb
  · exact h1.row.lt
  · exact h1.own.lt
  · exact h1.map.lt
  · exact h1.inG b hb
theorem ok (h : DkX w g B D) : DkOk D := by
  obtain ⟨pl, m, G, ol, cl, st, fu, sv, rfl, h1, h2⟩ := h
  exact h1.ok
theorem pos (h : DkX w g B D) : 0 < D.V.length := by
  obtain ⟨pl, m, G, ol, cl, st, fu, sv, rfl, h1, h2⟩ := h
  exact h1.pos
theorem self (h : DkX w g B D) : g ∈ B := by
  obtain ⟨pl, m, G, ol, cl, st, fu, sv, rfl, h1, h2⟩ := h
  simp
theorem only {b : Nat} (h : DkX w g B D) (ho : Only b w w') (hb : b ∉ B) : DkX w' g B D := h.kpd (Kp.of_only ho) fun x hx e => hb (by rw [← List.mem_singleton.1 e]; exact hx)
instance (g : Nat) (D : Dk) : Thing (fun w B => DkX w g B D) := ⟨kpd, lt⟩
end DkX
variable {w : World} {g : Nat} {B : List Nat} {D : Dk}
theorem dead (h : DkX w g B D) : Calls Try.prog 18 [.pointer (some ⟨g, 0, none⟩)].toArray w (Ret fun v w' => v = .bool D.dead ∧ w = w') := by
  obtain ⟨pl, m, G, ol, cl, st, fu, sv, rfl, h1, h2⟩ := h
  exact dead18 h1
theorem read (h : DkX w g B D) (i : Int) : Calls Try.prog 23 [.pointer (some ⟨g, 0, none⟩), .int .i64 i].toArray w (Ret fun v w' => v = .tuple #[.agg (bv (if inD D i then readD D i.toNat else zeroS)).toArray, .int .i64 (if inD D i then 0 else 2)] ∧ Below w.heap.size w w') := by
  obtain ⟨pl, m, G, ol, cl, st, fu, sv, rfl, h1, h2⟩ := h
  exact read23 h1 i
def writeA (D : Dk) (i : Int) (s : Sec) : Dk := if inD D i then writeD D i.toNat s else D
def writeE (D : Dk) (i : Int) : Int := if inD D i then (if stepOk D then 0 else 10) else 2
def shortD (D : Dk) (k : Nat) : Prop := ∀ v ∈ D.V, v.length ≤ k
theorem shortD.ver {k i : Nat} (h : shortD D k) (hi : i < D.V.length) : (ver D i).length ≤ k := h _ (List.mem_of_getElem? (ver_at hi))
theorem write (h : DkX w g B D) (i : Int) (s : Sec) (hs : s.length = 128) (hsh : shortD D 90000) :
    Calls Try.prog 17 [.pointer (some ⟨g, 0, none⟩), .int .i64 i, .agg (bv s).toArray].toArray w (Ret fun v w' => v = .int .i64 (writeE D i) ∧ ∃ B', DkX w' g B' (writeA D i s) ∧ Mv B B' w w') := by
  obtain ⟨pl, m, G, ol, cl, st, fu, sv, rfl, h1, h2⟩ := h
  rw [writeA, writeE]
  by_cases hi : 0 ≤ i ∧ i < D.V.length
  · obtain ⟨k, rfl⟩ : ∃ k : Nat, i = k := ⟨i.toNat, by omega⟩
    have hin : inD D (k : Int) = true := decide_eq_true hi
    rw [hin, if_pos rfl, if_pos rfl, Int.toNat_natCast]
    have hk : k < D.V.length := by omega
    refine (write17a h1 h2 k s hk hs (Nat.lt_of_le_of_lt (hsh.ver hk) (by omega))).to fun v w' hR => ?_
    obtain ⟨e, ⟨st', G', sv', h3, h4, h5⟩, h6⟩ := hR
    refine ⟨e, [g, pl, m] ++ G', ⟨pl, m, G', ol, cl, st', fu, sv', rfl, h3, h4⟩, h6, fun b hb => ?_⟩
    rcases List.mem_append.1 hb with hb | hb
    · exact .inl (List.mem_append_left _ hb)
    · exact (h5 b hb).imp (List.mem_append_right _) id
  · have hin : inD D i = false := decide_eq_false hi
    rw [hin]
    refine (write17b h1 i s hi hs).to fun v w' hR => ?_
    obtain ⟨e, h3⟩ := hR
    exact ⟨e, _, ⟨pl, m, G, ol, cl, st, fu, sv, rfl, h1.new h3, h2.kpd (M := []) (Kp.of_below h3) (by simp)⟩, Kp.of_below' h3, fun b hb => .inl hb⟩
theorem setXs_mem {f : Nat → Nat → Sec} {k i : Nat} (h : (opN D)[k]? = some i) : (i, f k i) ∈ setXs D f := List.mem_of_getElem? (setXs_at h)
theorem ver_settled {f : Nat → Nat → Sec} {k i : Nat} (h : (opN D)[k]? = some i) : ver (setAll D (setXs D f)) i = [f k i] :=
  ver_setAll_mem _ D i _ (fun _ hp => setXs_lt hp) (by rw [setXs_keys]; exact opN_nodup D) (setXs_mem h)
theorem ver_unsettled {f : Nat → Nat → Sec} {i : Nat} (h : openB D i = false) : ver (setAll D (setXs D f)) i = ver D i := by
  refine ver_setAll _ D i (fun _ hp => setXs_lt hp) fun p hp e => ?_
  have h1 : p.1 ∈ (setXs D f).map (·.1) := List.mem_map_of_mem hp
  rw [setXs_keys, e] at h1
  rw [(opN_mem.1 h1).2] at h
  cases h
theorem DkO.settled {w : World} {G : List Nat} {D D1 : Dk} {sv : Nat → Value} (h : DkO w G D sv) (hV : D1.V = D.V) (f : Nat → Nat → Sec) : DkO w G (setAll D1 (setXs D1 f)) sv := by
  have h1 : DkO w G D1 sv := h.alike hV
  have hc : ∀ i, openB (setAll D1 (setXs D1 f)) i = true → openB D1 i = true ∧ ver (setAll D1 (setXs D1 f)) i = ver D1 i := fun i hi => by
    cases hb : openB D1 i with
    | false => rw [openB, ver_unsettled hb] at hi; rw [openB] at hb; rw [hb] at hi; cases hi
    | true =>
      have hil : i < D1.V.length := by
        rw [openB] at hb
        have := of_decide_eq_true hb
        by_cases hlt : i < D1.V.length
        · exact hlt
        · rw [ver, List.getD_eq_getElem?_getD, List.getElem?_eq_none (by omega)] at this; simp at this
      obtain ⟨k, hk⟩ := List.getElem?_of_mem (opN_mem.2 ⟨hil, hb⟩)
      rw [openB, ver_settled hk] at hi
      simp at hi
  exact ⟨fun i hi => by rw [(hc i hi).2]; exact h1.own i (hc i hi).1, fun i j b hi hj => h1.sep i j b (hc i hi).1 (hc j hj).1⟩
theorem openB_one (h : DkOk D) {i : Nat} (hi : i < D.V.length) (ho : openB D i = false) : ∃ s, ver D i = [s] := by
  have h1 := List.length_pos_iff.2 (ver_ok h hi).1
  have h2 : ¬ 1 < (ver D i).length := of_decide_eq_false ho
  exact List.length_eq_one_iff.1 (by omega)
theorem Dk.ext' {D D' : Dk} (h1 : D.V = D'.V) (h2 : D.left = D'.left) (h3 : D.dead = D'.dead) : D = D' := by
  cases D; cases D'; simp_all
theorem V_ext {D D' : Dk} (hl : D.V.length = D'.V.length) (h : ∀ i, i < D.V.length → ver D i = ver D' i) : D.V = D'.V := by
  refine List.ext_getElem? fun i => ?_
  by_cases hi : i < D.V.length
  · rw [ver_at hi, ver_at (hl ▸ hi), h i hi]
  · rw [List.getElem?_eq_none (by omega), List.getElem?_eq_none (by omega)]
theorem flushA_eq (h : DkOk D) : flushA D = flushD D := by
  unfold flushA flushD
  by_cases ho : stepOk D = true
  · rw [if_pos ho, if_pos ho]
    have h1 : DkOk (stepD D) := by have := stepD_V D; exact ⟨by rw [this]; exact h.n, by rw [this]; exact h.ne, by rw [this]; exact h.sec, by rw [this]; exact h.short⟩
    have hl := setAll_left (stepD D) (setXs (stepD D) fun _ i => readD (stepD D) i)
    refine Dk.ext' (V_ext ?_ fun i hi => ?_) hl.1 hl.2
    · rw [setAll_len]; simp [stepD_V]
    · rw [setAll_len] at hi
      have e : ver { stepD D with V := (stepD D).V.map fun v => [lastS v] } i = [lastS (ver (stepD D) i)] := by
        unfold ver
        dsimp only
        rw [List.getD_eq_getElem?_getD, List.getElem?_map, ver_at hi]; rfl
      have e2 : ver { stepD D with V := D.V.map fun v => [lastS v] } i = [lastS (ver (stepD D) i)] := by rw [← e, stepD_V]
      rw [e2]
      cases hb : openB (stepD D) i with
      | true =>
        obtain ⟨k, hk⟩ := List.getElem?_of_mem (opN_mem.2 ⟨hi, hb⟩)
        rw [ver_settled hk]; rfl
      | false =>
        rw [ver_unsettled hb]
        obtain ⟨s, hs⟩ := openB_one h1 hi hb
        rw [hs]; rfl
  · rw [if_neg ho, if_neg ho]
theorem flush (h : DkX w g B D) : Calls Try.prog 16 [.pointer (some ⟨g, 0, none⟩)].toArray w (Ret fun v w' => v = .int .i64 (if stepOk D then 0 else 10) ∧ DkX w' g B (flushD D) ∧ Kp B w w') := by
  obtain ⟨pl, m, G, ol, cl, st, fu, sv, rfl, h1, h2⟩ := h
  rw [← flushA_eq h1.ok]
  refine (flush16 h1).to fun v w' hR => ?_
  obtain ⟨e, ⟨st', h3⟩, h4⟩ := hR
  refine ⟨e, ⟨pl, m, G, ol, cl, st', fu, sv, rfl, h3, ?_⟩, h4.weak fun k _ hk => List.mem_append_left _ hk⟩
  have h5 := h2.kpd h4 (fun b hb => by have := h1.ne.2.2.2 b hb; simp [this])
  unfold flushA
  split
  · exact h5.settled (stepD_V D) _
  · exact h5.alike (stepD_V D)
theorem fuse (h : DkX w g B D) (k : Int) (hk : k ≤ 9223372036854775807) :
    Calls Try.prog 15 [.pointer (some ⟨g, 0, none⟩), .int .i64 k].toArray w (Ret fun v w' => v = .int .i64 (if 0 ≤ k then 0 else 2) ∧ DkX w' g B (if 0 ≤ k then { D with left := k } else D) ∧ Kp B w w') := by
  obtain ⟨pl, m, G, ol, cl, st, fu, sv, rfl, h1, h2⟩ := h
  refine (fuse15 h1 k hk).to fun v w' hR => ?_
  obtain ⟨e, ⟨st', fu', h3⟩, h4⟩ := hR
  refine ⟨e, ⟨pl, m, G, ol, cl, st', fu', sv, rfl, h3, ?_⟩, (Kp.of_only h4).weak fun k _ hk => by rw [List.mem_singleton.1 hk]; simp⟩
  have h5 := h2.kpd (Kp.of_only h4) (fun b hb => by have := h1.ne.2.2.2 b hb; simp [this])
  split
  · exact h5.alike rfl
  · exact h5
theorem crash (h : DkX w g B D) (pp : Option Addr) (np cp : Nat) (picks : List Int) (hpk : SlAt w pp np 1 (iv picks)) (hpkb : 0 < np → ∀ b o, pp = some ⟨b, o, none⟩ → b ∉ B) :
    Calls Try.prog 20 [.pointer (some ⟨g, 0, none⟩), .slice pp np cp].toArray w (Ret fun v w' => v = .int .i64 0 ∧ DkX w' g B (crashD D picks) ∧ Kp B w w') := by
  obtain ⟨pl, m, G, ol, cl, st, fu, sv, rfl, h1, h2⟩ := h
  refine (crash20 h1 pp np cp picks hpk (fun h0 b o e hm => hpkb h0 b o e (List.mem_append_left _ hm))).to fun v w' hR => ?_
  obtain ⟨e, h3, h4⟩ := hR
  refine ⟨e, ⟨pl, m, G, ol, cl, 0, false, sv, rfl, h3, ?_⟩, h4.weak fun k _ hk => List.mem_append_left _ hk⟩
  have h5 := h2.kpd h4 (fun b hb => by have := h1.ne.2.2.2 b hb; simp [this])
  exact (h5.settled rfl _).alike rfl
end Go.Proofs.Ytpndhildmfmcgaa
namespace Coup
open Go Go.RowKit
section
variable {P : Program} {ρ : Env} {w : World} {d : Option Nat} {ty : TypeId} {pos : String} {af : Array Edge} {gd : Option (Nat × Bool)}
def AppM (w w' : World) (v v' : Value) (m k : Nat) : Prop :=
  (w.grownBy w' none ∧ ∀ g, v'.ownBlock = some g → w.heap.size ≤ g) ∨ ∃ g off c, v = .slice (some ⟨g, off, none⟩) m c ∧ m + k ≤ c ∧ v' = .slice (some ⟨g, off, none⟩) (m + k) c
theorem mk_appendM {K : Value → World → Prop} {t t' e sz bytes : Nat} {s x : Operand} {base m k c : Nat} {v : Value} {xs news : List Value} {sp : Option Addr} {z : Value} (ht : P.underlying t = some (.slice e)) (ht' : t' = t)
    (hi : (P.info? e).map (fun i => (i.zero, i.size, i.bytes)) = some (some z, sz, bytes)) (hzs : z.cells.size = sz) (hsz : 0 < sz) (hs : ev ρ s = v) (hown : ownsAt w base e sz v m xs)
    (hx : ev ρ x = .slice sp k c) (hsrc : SlAt w sp k sz news) (h1 : ∀ u ∈ news, u.oneCell' = true) (h63 : m + k ≤ maxLen) (hbytes : (m + k) * bytes ≤ 140737488355328) (hbase : base ≤ w.heap.size) (hk : 0 < k)
    (h : ∀ v' w', ownsAt w' base e sz v' (m + k) (xs ++ news) → w.grownBy w' v.ownBlock → (∀ g, v'.ownBlock = some g → v.ownBlock = some g ∨ w.heap.size ≤ g) → (ownsAt w' base e sz v m xs ∧ AppM w w' v v' m k) → K v' w') : Mk P ρ w ⟨d, .call ⟨.builtin .append, #[s, x], #[t, t']⟩, ty, pos, af, gd⟩ K := by
  subst ht'
  obtain ⟨i, hq, hzz⟩ := Option.map_eq_some_iff.1 hi
  simp only [Prod.mk.injEq] at hzz
  obtain ⟨hz, hsize, hby⟩ := hzz
  obtain ⟨g0, o0, rfl, _⟩ := hsrc.some (Nat.mul_pos hk hsz)
  obtain ⟨g, off, cap, w', hr, h2, h3, h4, h5, h6⟩ := run_append_at (P := P) w base t' ty e i z sz bytes ht hq hz hsize hby hzs hsz v m xs hown ⟨g0, o0, none⟩ k c news hsrc.len
    (fun j u hu => by rw [Addr.add_lit]; exact hsrc.cell j hu) h1 hk h63 hbytes hbase
  refine ⟨_, w', ?_, h _ w' h2 h3 (fun g' hg' => ?_) ⟨h6, ?_⟩⟩
  · simp [execOp, resolve, invoke, builtin, hs, hx, hr, Result.andThen]
  · simp [Value.ownBlock] at hg'
    subst hg'
    exact h4.imp id (fun e => by omega)
  · rcases hown.2 with ⟨rfl, _⟩ | ⟨g1, off1, cap1, cur, rfl, hbg, hg, hnc, hcm, hcs, htake⟩
    · refine .inl ⟨h3, fun g' hg' => ?_⟩
      simp [Value.ownBlock] at hg' h4
      omega
    · subst hsize
      by_cases hroom : m + k ≤ cap1
      · have hle : m * i.size + k * i.size ≤ cap1 * i.size := by rw [← Nat.add_mul]; exact Nat.mul_le_mul_right _ hroom
        have hfit : off1 + m * i.size + news.length ≤ cur.size := by rw [hsrc.len]; omega
        have hr2 := run_append_room_at (P := P) w t' ty e i ht hq g1 off1 m cap1 cur hg ⟨g0, o0, none⟩ k c news hsrc.len (fun j u hu => by rw [Addr.add_lit]; exact hsrc.cell j hu) h1 hroom hfit
        rw [hr] at hr2
        injection hr2 with e1 e2
        exact .inr ⟨g1, off1, cap1, rfl, hroom, e1⟩
      · have holds : ∀ j u, xs[j]? = some u → w.cell? ((⟨g1, off1, none⟩ : Addr).add j) = some u := hown.cells
        have hr2 := run_append_grow (P := P) w t' ty e i z ht hq hz ⟨g1, off1, none⟩ m cap1 xs hown.1 holds ⟨g0, o0, none⟩ k c news hsrc.len (fun j u hu => by rw [Addr.add_lit]; exact hsrc.cell j hu) (by omega) (by simp only [maxLen] at h63; omega) (growslice_fits (by omega) (by rw [hby]; exact hbytes))
        rw [hr] at hr2
        injection hr2 with e1 e2
        subst e2
        refine .inl ⟨⟨rfl, rfl, rfl, by simp, fun k hk _ => heap_alloc_old w.drew _ hk⟩, fun g' hg' => ?_⟩
        injection e1 with e3 _ _
        injection e3 with e4
        injection e4 with e5 _ _
        simp [Value.ownBlock] at hg'
        omega
end
end Coup
namespace Go.Proofs.Ytpndhildmfmcgaa
open Go Go.RowKit Coup
theorem dk_wroteR {w w' : World} {g pl m : Nat} {G : List Nat} {D : Dk} {ol cl : Nat} {st : Int} {fu : Bool} {sv : Nat → Value} {i : Nat} {s : Sec} {u : Value} {ob : Option Nat} {p : Option Addr} {c : Nat}
    (h : DkM w g pl m G D ol cl st fu sv) (ho : DkO w G D sv) (hi : i < D.V.length) (hs : s.length = 128) (hsh : (ver D i).length < 100000)
    (k : Kp (m :: ob.toList) w w') (hmap : MapAt Try.prog 3 w' m D.V.length (updF (since D sv) i (some u))) (hu : u = .slice p ((ver D i).length - 1 + 1) c)
    (hv : ownsAt w' 0 34 128 u ((ver D i).length - 1 + 1) (bv (ver D i).tail.flatten ++ bv s)) (hpG : ∀ b, ob = some b → b ∈ G)
    (hsep : ∀ j b, openB D j = true → j ≠ i → ob = some b → (sv j).ownBlock ≠ some b) (hva : ∀ b, u.ownBlock = some b → ob = some b ∨ w.heap.size ≤ b) :
    ∃ G' sv', DkM w' g pl m G' (setV D i (ver D i ++ [s])) ol cl st fu sv' ∧ DkO w' G' (setV D i (ver D i ++ [s])) sv' ∧ (∀ b ∈ G', b ∈ G ∨ w.heap.size ≤ b) ∧ (∀ j, j ≠ i → sv' j = sv j) ∧ sv' i = u := by
  obtain ⟨hv1, hv2, hv3⟩ := ver_ok h.ok hi
  have hvp := List.length_pos_iff.2 hv1
  obtain ⟨n1, n2, n3, n4⟩ := h.ne
  have hX : ∀ b, b ∉ G → b ≠ m → b ∉ m :: ob.toList := fun b hb hm e => by
    rcases List.mem_cons.1 e with e | e
    · exact hm e
    · exact hb (hpG b (Option.mem_toList.1 e))
  obtain ⟨D', hD'⟩ : ∃ D', setV D i (ver D i ++ [s]) = D' := ⟨_, rfl⟩
  have hver : ∀ j, ver D' j = if i = j then ver D i ++ [s] else ver D j := fun j => by rw [← hD']; exact ver_set hi
  have hlen : D'.V.length = D.V.length := by rw [← hD']; exact List.length_set ..
  have hopi : openB D' i = true := by unfold openB; rw [hver, if_pos rfl]; simp; omega
  have hopj : ∀ j, j ≠ i → openB D' j = openB D j := fun j hj => by unfold openB; rw [hver, if_neg (Ne.symm hj)]
  have hla : lastsD D' = lastsD D := by
    rw [← hD', lasts_set]
    have hh : headS (ver D i ++ [s]) = headS (ver D i) := by obtain ⟨a, l, e⟩ := List.exists_cons_of_ne_nil hv1; rw [e]; rfl
    rw [hh]
    have hl := lasts_at hi
    refine List.ext_getElem? fun j => ?_
    rw [List.getElem?_set]
    by_cases hij : i = j
    · subst hij
      rw [if_pos rfl, if_pos (List.getElem?_eq_some_iff.1 hl).1, hl]
    · rw [if_neg hij]
  have htl : bv (ver D' i).tail.flatten = bv (ver D i).tail.flatten ++ bv s := by
    rw [hver, if_pos rfl, ← bv_append]
    obtain ⟨a, l, e⟩ := List.exists_cons_of_ne_nil hv1
    rw [e]; simp
  have hln : (ver D' i).length - 1 = (ver D i).length - 1 + 1 := by rw [hver, if_pos rfl, List.length_append, List.length_singleton]; omega
  obtain ⟨sv', hsv'⟩ : ∃ sv' : Nat → Value, sv' = fun j => if j = i then u else sv j := ⟨_, rfl⟩
  have hsi : sv' i = u := by rw [hsv']; simp
  have hsj : ∀ j, j ≠ i → sv' j = sv j := fun j hj => by rw [hsv']; simp [hj]
  have hsz := k.size
  have hnew : ∀ b, u.ownBlock = some b → b ∈ G ∨ w.heap.size ≤ b := fun b e => (hva b e).imp (hpG b) id
  have hum : ∀ b, b ∈ u.ownBlock.toList → b ∈ G ∨ w.heap.size ≤ b := fun b hb => hnew b (Option.mem_toList.1 hb)
  have hg1 := h.row.lt
  have hg2 := h.own.lt
  have hg3 := h.map.lt
  have hown : ∀ j, openB D' j = true → ownsAt w' 0 34 128 (sv' j) ((ver D' j).length - 1) (bv (ver D' j).tail.flatten) ∧ ∀ b, (sv' j).ownBlock = some b → b ∈ G ++ u.ownBlock.toList := fun j hj => by
    by_cases e : j = i
    · subst e
      rw [hsi, hln, htl]
      exact ⟨hv, fun b e => List.mem_append_right _ (Option.mem_toList.2 e)⟩
    · rw [hopj j e] at hj
      rw [hsj j e, hver, if_neg (Ne.symm e)]
      have := ho.own j hj
      refine ⟨this.1.kpd k fun b hb e' => ?_, fun b e' => List.mem_append_left _ (this.2 b e')⟩
      rcases List.mem_cons.1 hb with hb | hb
      · exact (n4 b (this.2 b e')).2.2 hb
      · exact hsep j b hj e (Option.mem_toList.1 hb) e'
  rw [hD']
  refine ⟨G ++ u.ownBlock.toList, sv', ?_, ⟨hown, fun a b x ha hb ea eb => ?_⟩, fun b hb => ?_, hsj, hsi⟩
  · have hs' : since D' sv' = updF (since D sv) i (some u) := by rw [← hD', hsv']; exact since_write hi (by rw [List.length_append, List.length_singleton]; omega)
    refine ⟨by rw [hlen]; rw [show D'.dead = D.dead by rw [← hD']; rfl]; exact h.row.kpd k (hX g (fun e => (n4 g e).1 rfl) n2), by rw [hlen, hla]; exact h.own.kpd k (hX pl (fun e => (n4 pl e).2.1 rfl) n3), by rw [hlen, hs']; exact hmap, fun j hj => ?_, fun b hb => ?_, ⟨n1, n2, n3, fun b hb => ?_⟩, by rw [show D'.left = D.left by rw [← hD']; rfl]; exact h.left, ?_, by rw [hlen]; exact h.pos⟩
    · obtain ⟨h1, h2⟩ := hown j hj
      obtain ⟨q, c', e⟩ := h1.form
      rw [e] at h1 h2
      exact ⟨q, c', e, h1.sl, fun b o e' => h2 b (by rw [e']; rfl)⟩
    · rcases List.mem_append.1 hb with hb | hb
      · exact Nat.lt_of_lt_of_le (h.inG b hb) hsz
      · exact (hv.lt b (Option.mem_toList.1 hb)).2
    · rcases List.mem_append.1 hb with hb | hb
      · exact n4 b hb
      · rcases hum b hb with hb | hb
        · exact n4 b hb
        · exact ⟨by omega, by omega, by omega⟩
    · rw [← hD']
      refine setV_ok h.ok (by simp) (fun x hx => ?_) (by rw [List.length_append, List.length_singleton]; omega)
      rcases List.mem_append.1 hx with hx | hx
      · exact hv2 x hx
      · rw [List.mem_singleton.1 hx]; exact hs
  · have hcl : ∀ y, y ≠ i → openB D' y = true → u.ownBlock = some x → (sv y).ownBlock = some x → False := fun y hy hoy eu ey => by
      rw [hopj y hy] at hoy
      rcases hva x eu with e | e
      · exact hsep y x hoy hy e ey
      · have := h.inG x ((ho.own y hoy).2 x ey); omega
    by_cases e1 : a = i
    · by_cases e2 : b = i
      · rw [e1, e2]
      · rw [e1, hsi] at ea
        rw [hsj b e2] at eb
        exact (hcl b e2 hb ea eb).elim
    · by_cases e2 : b = i
      · rw [e2, hsi] at eb
        rw [hsj a e1] at ea
        exact (hcl a e1 ha eb ea).elim
      · rw [hsj a e1] at ea
        rw [hsj b e2] at eb
        exact ho.sep a b x (by rw [← hopj a e1]; exact ha) (by rw [← hopj b e2]; exact hb) ea eb
  · rcases List.mem_append.1 hb with hb | hb
    · exact .inl hb
    · exact hum b hb
structure Wrt (w w' : World) (D : Dk) (i : Nat) (sv sv' : Nat → Value) (ob : Option Nat) : Prop where
  oth : ∀ j, j ≠ i → sv' j = sv j
  cas : (ob = none ∧ ((stepOk D = false ∧ sv' i = sv i) ∨ ∀ b, (sv' i).ownBlock = some b → w.heap.size ≤ b)) ∨ ∃ b off n c, openB D i = true ∧ sv i = .slice (some ⟨b, off, none⟩) n c ∧ n < c ∧ ob = some b ∧ sv' i = .slice (some ⟨b, off, none⟩) (n + 1) c
  keep : openB D i = true → ob ≠ none → ownsAt w' 0 34 128 (sv i) ((ver D i).length - 1) (bv (ver D i).tail.flatten)
set_option maxRecDepth 8000 in
set_option maxHeartbeats 1000000 in
theorem writeR {w : World} {g pl m : Nat} {G : List Nat} {D : Dk} {ol cl : Nat} {st : Int} {fu : Bool} {sv : Nat → Value} (h : DkM w g pl m G D ol cl st fu sv) (ho : DkO w G D sv) (i : Nat) (s : Sec) (hi : i < D.V.length) (hs : s.length = 128) (hsh : (ver D i).length < 100000) :
    Calls Try.prog 17 [.pointer (some ⟨g, 0, none⟩), .int .i64 (i : Int), .agg (bv s).toArray].toArray w
      (Ret fun v w' => v = .int .i64 (if stepOk D then 0 else 10) ∧ ∃ st' G' sv' ob, DkM w' g pl m G' (writeD D i s) ol cl st' fu sv' ∧ DkO w' G' (writeD D i s) sv' ∧ (∀ b ∈ G', b ∈ G ∨ w.heap.size ≤ b) ∧ Kp (g :: m :: ob.toList) w w' ∧ Wrt w w' D i sv sv' ob) := by
  have hml : maxLen = 9223372036854775807 := by decide
  have hK := KpB.refl [g, m] w
  have hsl : (bv s).length = 128 := by rw [bv_length]; exact hs
  obtain ⟨D1, hD1⟩ : ∃ D1, stepD D = D1 := ⟨_, rfl⟩
  obtain ⟨ok, hok⟩ : ∃ ok, stepOk D = ok := ⟨_, rfl⟩
  have hV1 : D1.V = D.V := by rw [← hD1]; exact stepD_V D
  have hver : ver D1 i = ver D i := by unfold ver; rw [hV1]
  rw [writeD, hD1, hok, ← hver]
  rw [← hver] at hsh
  refine calls_W (fn := Try.f17) (rs := [.tmp 6]) (n := 34) Try.func17 rfl rfl Try.ntmps17 (by kernel_rfl) rfl ?_
  refine W_seq (W_region ?_)
  refine WR_mk rfl (mk_box ((bv s)) rfl (fun g5 w5 hg5 hr5 hb5 => ?_))
  replace hK := hK.new hb5
  have h5 := h.new hb5
  have ha := at39 h5 (i : Int)
  rw [if_pos (by omega)] at ha
  have hst := step36 h5
  rw [hD1, hok] at hst
  have ho5 := ho.kpd (M := []) (Kp.of_below hb5) (by simp)
  have g5g : g5 ≠ g := by have := h.row.lt; omega
  refine WR_val rfl (rn_assign) (WR_nil (thenN (W_seq (W_seq (W_region (WR_val rfl (rn_move) (WR_val rfl (rn_move) ?_)))))))
  refine WR_ent rfl (rn_call (by kernel_rfl) rfl) (ha) ?_
  rintro _ _ ⟨rfl, rfl⟩
  refine WR_val rfl (rn_assign) (WR_nil (thenN (W_seq (W_region (WR_val rfl (rn_move) ?_)))))
  refine WR_val rfl (rn_neq rfl rfl) ?_
  refine WR_nil (thenN ?_)
  refine W_fp rfl ((by simp)) ?_
  refine W_skip (thenN (W_seq (W_seq (W_region (WR_val rfl (rn_move) ?_)))))
  refine WR_ent rfl (rn_call (by kernel_rfl) rfl) (hst) ?_
  rintro _ w16 ⟨rfl, ⟨st1, h1⟩, hb16⟩
  replace hK := hK.only hb16 (by first | (simp; done) | (right; omega))
  replace hr5 := hr5.only hb16 (by omega)
  have ho6 := (ho5.kpd (Kp.of_only hb16) (fun b hb => by simpa using (h.ne.2.2.2 b hb).1)).alike hV1
  refine WR_val rfl (rn_assign) (WR_nil (thenN (W_seq (W_region (WR_val rfl (rn_move) ?_)))))
  refine WR_val rfl (rn_neq rfl rfl) ?_
  refine WR_nil (thenN ?_)
  refine W_ifp rfl (fun hne => ?_) (fun hne => ?_)
  ·
   refine W_seq (W_region (WR_val rfl (rn_move) (WR_val rfl (rn_assign) (WR_nil (thenN (W_ret (thenR ?_)))))))
   refine ret_ret [_] ⟨rfl, trivial⟩ ?_
   have hk0 : ok = false := by cases ok with | false => rfl | true => simp at hne
   exact ⟨by rw [hk0]; rfl, st1, G, sv, none, by rw [hk0]; exact h1, by rw [hk0]; exact ho6, fun b hb => .inl hb, hK.k, ⟨fun _ _ => rfl, .inl ⟨rfl, .inl ⟨hok.trans hk0, rfl⟩⟩, fun _ h => absurd rfl h⟩⟩
  ·
   have hk1 : ok = true := by cases ok with | true => rfl | false => simp at hne
   have hr := h1.row
   have hmap := h1.map
   have hn8 := h1.ok.n
   rw [hk1, if_pos rfl, if_pos rfl]
   have hi1 : i < D1.V.length := by rw [hV1]; exact hi
   have hobt := DkO.look h1 ho6 i hi1
   obtain ⟨p, c, hlk, hown, hpG, hsep⟩ := hobt
   have hobt : ∃ ob, (Value.slice p ((ver D1 i).length - 1) c).ownBlock = ob := ⟨_, rfl⟩
   obtain ⟨ob, hob⟩ := hobt
   have hne := h.ne
   clear hver
   rw [hob] at hpG hsep
   have hx1 : ∀ b, b ∉ G → ob ≠ some b := fun b hb e => hb (hpG b e)
   have hx2 := hx1 g fun hg => (hne.2.2.2 g hg).1 rfl
   have hx3 := hx1 m fun hg => (hne.2.2.2 m hg).2.2 rfl
   have hx4 := hx1 pl fun hg => (hne.2.2.2 pl hg).2.1 rfl
   have hx5 := hx1 g5 fun hg => by have := h.inG g5 hg; omega
   have hx6 : g5 ≠ m := by have := h.map.lt; omega
   have hx7 : g ≠ m := hne.2.1
   have hx8 : pl ≠ m := hne.2.2.1
   have hvp := List.length_pos_iff.2 (ver_ok h1.ok hi1).1
   have hX0 : DkM w16 g pl m G D1 ol cl st1 fu sv := h1
   have hKx := KpB.refl [m] w16
   have hK16 := hK
   refine W_skip (thenN (W_seq ?_))
   refine W_draw' (m :: (Value.slice p ((ver D1 i).length - 1) c).ownBlock.toList) (by kernel_rfl) ?_
   intro w901 hb901 hS901
   replace hK := hK.new hb901
   replace hr5 := hr5.new hb901
   replace hr := hr.new hb901
   replace hmap := hmap.new hb901
   replace hKx := hKx.new hb901
   replace hown := hown.new hb901
   have hK_d901 := hK
   have hr5_d901 := hr5
   have hr_d901 := hr
   have hmap_d901 := hmap
   have hKx_d901 := hKx
   have hown_d901 := hown
   refine WA_take 0 (by kernel_rfl) rfl (fun _ _ => rn_move) ?_
   refine WA_take 1 (by kernel_rfl) rfl (fun _ _ => rn_nilCheckP rfl) ?_
   refine WA_take 2 (by kernel_rfl) rfl (fun _ _ => rn_fieldAddr (off := 1) (by kernel_rfl) rfl) ?_
   refine WA_take 3 (by kernel_rfl) rfl (fun w' hS' => rn_load rfl (Ld.row1 (hr_d901.kq hS') (by kernel_rfl) rfl)) ?_
   refine WA_take 4 (by kernel_rfl) rfl (fun _ _ => rn_move) ?_
   refine WA_take 5 (by kernel_rfl) rfl (fun _ _ => rn_move) ?_
   refine WA_take 6 (by kernel_rfl) rfl (fun _ _ => rn_nilCheckP rfl) ?_
   refine WA_take 7 (by kernel_rfl) rfl (fun _ _ => rn_fieldAddr (off := 1) (by kernel_rfl) rfl) ?_
   refine WA_take 8 (by kernel_rfl) rfl (fun w' hS' => rn_load rfl (Ld.row1 (hr_d901.kq hS') (by kernel_rfl) rfl)) ?_
   refine WA_take 9 (by kernel_rfl) rfl (fun _ _ => rn_move) ?_
   refine WA_take 11 (by kernel_rfl) rfl (fun w' hS' => rn_load rfl (Ld.rowA (k := 128) (hr5_d901.kq hS') (by kernel_rfl) (by kernel_rfl) (by first | (simp; done) | (simp [bv_length, *]; done) | assumption))) ?_
   refine WA_two 10 12 (by kernel_rfl) ?_ ?_
   ·
    refine WO_val rfl rfl (rn_lookupV (k := 3) (e := 52) (.slice none 0 0) (by kernel_rfl) (by kernel_rfl) (by intro w; first | kernel_rfl | rfl) hmap rfl rfl (i) (by first | rfl | omega) (by omega) (by omega) hlk) hS901 ?_
    refine WA_one 12 (by kernel_rfl) ?_
    refine WO_mk rfl rfl (mk_one (e := 34) (.agg (bv s).toArray) (bv s) (List.replicate 128 (Value.int .u8 0)) 128 (by kernel_rfl) (by kernel_rfl) rfl rfl (by first | rfl | (simp; done) | (simp [bv_length, *]; done)) ⟨by decide, by decide⟩ (fun g32 w32 hg32 hr32 hb32 => ?_))
    have hS903 := hS901.add0 hb32
    refine ⟨hS903, ?_⟩
    have ge_hS901_g32 := Nat.le_trans hS901.size hg32
    have lt_g5_g32 : g5 < g32 := Nat.lt_of_lt_of_le hr5.lt hg32
    have lt_g_g32 : g < g32 := Nat.lt_of_lt_of_le hr.lt hg32
    have lt_m_g32 : m < g32 := Nat.lt_of_lt_of_le hmap.lt hg32
    replace hK := hK.new hb32
    replace hr5 := hr5.new hb32
    replace hr := hr.new hb32
    replace hmap := hmap.new hb32
    replace hKx := hKx.new hb32
    replace hown := hown.new hb32
    refine WA_one 13 (by kernel_rfl) ?_
    have hs32 := hr32.slA (m := 1) (sz := 128) hsl (by omega)
    refine WO_mk rfl rfl (mk_appendM (e := 34) (sz := 128) (bytes := 128) (z := .agg (List.replicate 128 (Value.int .u8 0)).toArray) (by kernel_rfl) rfl (by kernel_rfl) rfl (by decide) rfl hown rfl hs32 (bv_one _) (by unfold maxLen; omega) (by omega) (Nat.zero_le _) (by omega) (fun v33 w33 hv33 hgr33 hfr33 hx33 => ?_))
    have hS904 := hS903.ownS hown hgr33 (by first | (left; omega) | exact Or.inr (fun _ h => h) | exact Or.inr (fun _ h => List.mem_cons_of_mem _ h))
    refine ⟨hS904, ?_⟩
    have hob33 : ∃ ob, w32.grownBy w33 ob ∧ ((ob = none ∧ ∀ b, v33.ownBlock = some b → w32.heap.size ≤ b) ∨ ∃ b off c', Value.slice p ((ver D1 i).length - 1) c = .slice (some ⟨b, off, none⟩) ((ver D1 i).length - 1) c' ∧ (ver D1 i).length - 1 + 1 ≤ c' ∧ ob = some b ∧ v33 = .slice (some ⟨b, off, none⟩) ((ver D1 i).length - 1 + 1) c') := by
      rcases hx33.2 with ⟨h1, h2⟩ | ⟨b, off, c', h1, h2, h3⟩
      · exact ⟨none, h1, .inl ⟨rfl, h2⟩⟩
      · refine ⟨some b, ?_, .inr ⟨b, off, c', h1, h2, rfl, h3⟩⟩
        rw [h1] at hgr33
        exact hgr33
    obtain ⟨ob2, hgrO, hobc⟩ := hob33
    have hbO : ∀ b, ob2 = some b → ob = some b := fun b e => by
      rw [← hob]
      rcases hobc with ⟨h1, _⟩ | ⟨b', off, c', h1, _, h3, _⟩
      · rw [h1] at e; cases e
      · rw [h3] at e; cases e; rw [h1]; rfl
    have kG : Kp ob2.toList w32 w33 := Kp.of_grown hgrO
    have hfr : ∀ b, v33.ownBlock = some b → ob2 = some b ∨ w32.heap.size ≤ b := fun b e => by
      rcases hobc with ⟨_, h2⟩ | ⟨b', off, c', _, _, h3, h4⟩
      · exact .inr (h2 b e)
      · rw [h4] at e; left; rw [h3]; exact e
    have hm2 : m ∉ ob2.toList := fun hm => hx3 (hbO _ (Option.mem_toList.1 hm))
    replace hmap := hmap.kpd kG hm2
    have hKy : KpB (m :: ob2.toList) w16 w33 := ⟨(hKx.k.weak fun _ _ hm => by rw [List.mem_singleton.1 hm]; simp).trans (kG.weak fun _ _ hm => List.mem_cons_of_mem _ hm)⟩
    have hpGO : ∀ b, ob2 = some b → b ∈ G := fun b e => hpG b (hbO b e)
    have hsepO : ∀ j b, openB D1 j = true → j ≠ i → ob2 = some b → (sv j).ownBlock ≠ some b := fun j b hj hne e => hsep j b hj hne (hbO b e)
    refine WA_one 14 (by kernel_rfl) ?_
    refine WO_sk rfl rfl (sk_mapUpd (k := 3) (e := 52) (_) (by kernel_rfl) (by kernel_rfl) hmap rfl rfl rfl (i) (by first | rfl | omega) (by omega) (by omega) (fun w906 hmap ho906 => ?_))
    have hS905 := hS904.aq ho906
    refine ⟨hS905, ?_⟩
    replace hKy := hKy.only ho906 (by first | (simp; done) | (right; omega))
    refine WA_done (by kernel_rfl) ?_
    refine thenN (W_seq (W_region (WR_val rfl (rn_assign) (WR_nil (thenN (W_ret ?_))))))
    refine ret_ret [_] ⟨rfl, trivial⟩ ?_
    have hmw := h1.map.lt
    have hszx := Nat.le_trans hb901.size hb32.size
    have hva : ∀ b, v33.ownBlock = some b → b ∈ G ∨ w16.heap.size ≤ b := fun b e => (hfr b e).imp (hpGO b) (fun hh => Nat.le_trans hszx hh)
    have hv34 := hv33.kpd (Kp.of_only ho906) (fun b hb e => by
      have h1 : b = m := by simpa using hb
      rcases hva b e with h2 | h2
      · exact (hne.2.2.2 b h2).2.2 h1
      · omega)
    have hkp34 := hx33.1.kpd (Kp.of_only ho906) (fun b hb e => by
      have h1 : b = m := by simpa using hb
      have e2 : (Value.slice p ((ver D1 i).length - 1) c).ownBlock = some b := e
      rw [h1] at e2
      exact hx3 (hob.symm.trans e2))
    obtain ⟨p33, c33, hp33⟩ := hv34.form
    have hsz16 : w.heap.size ≤ w16.heap.size := Nat.le_trans hb5.size (Kp.of_only hb16).size
    have hsz32 : w.heap.size ≤ w32.heap.size := Nat.le_trans hsz16 hszx
    have hobt := dk_wroteR (s := s) h1 ho6 hi1 hs hsh hKy.k hmap hp33 hv34 hpGO hsepO (fun b e => (hfr b e).imp id (fun hh => Nat.le_trans hszx hh))
    obtain ⟨G', sv', f1, f2, f3, f4, f5⟩ := hobt
    have hoV : openB D i = openB D1 i := by unfold openB ver; rw [hV1]
    have hvV : ver D i = ver D1 i := by unfold ver; rw [hV1]
    refine ⟨rfl, st1, G', sv', ob2, f1, f2, fun b hb => (f3 b hb).imp id fun hh => Nat.le_trans hsz16 hh, ?_, ⟨f4, ?_, fun hop hob2 => ?_⟩⟩
    · exact (hK16.k.weak fun _ _ hm => by
        rcases List.mem_cons.1 hm with h | h
        · rw [h]; simp
        · rw [List.mem_singleton.1 h]; simp).trans (hKy.k.weak fun _ _ hm => List.mem_cons_of_mem _ hm)
    · rcases hobc with ⟨h1, h2⟩ | ⟨b, off, c', e1, e2, e3, e4⟩
      · exact .inl ⟨h1, .inr fun b e => Nat.le_trans hsz32 (h2 b ((congrArg Value.ownBlock f5).symm.trans e))⟩
      · have hop : openB D1 i = true := by
          by_cases hb : openB D1 i = true
          · exact hb
          · rw [since, if_neg hb] at hlk
            rw [← hlk] at e1
            cases e1
        rw [since, if_pos hop] at hlk
        exact .inr ⟨b, off, (ver D1 i).length - 1, c', by rw [hoV]; exact hop, (show sv i = _ from hlk).trans e1, by omega, e3, f5.trans e4⟩
    · rw [hoV] at hop
      rw [since, if_pos hop] at hlk
      have hlk2 : sv i = .slice p ((ver D1 i).length - 1) c := hlk
      rw [hlk2, hvV]
      exact hkp34
   ·
    refine WO_mk rfl rfl (mk_one (e := 34) (.agg (bv s).toArray) (bv s) (List.replicate 128 (Value.int .u8 0)) 128 (by kernel_rfl) (by kernel_rfl) rfl rfl (by first | rfl | (simp; done) | (simp [bv_length, *]; done)) ⟨by decide, by decide⟩ (fun g32 w32 hg32 hr32 hb32 => ?_))
    have hS907 := hS901.add0 hb32
    refine ⟨hS907, ?_⟩
    have ge_hS901_g32 := Nat.le_trans hS901.size hg32
    have lt_g5_g32 : g5 < g32 := Nat.lt_of_lt_of_le hr5.lt hg32
    have lt_g_g32 : g < g32 := Nat.lt_of_lt_of_le hr.lt hg32
    have lt_m_g32 : m < g32 := Nat.lt_of_lt_of_le hmap.lt hg32
    replace hK := hK.new hb32
    replace hr5 := hr5.new hb32
    replace hr := hr.new hb32
    replace hmap := hmap.new hb32
    replace hKx := hKx.new hb32
    replace hown := hown.new hb32
    refine WA_one 10 (by kernel_rfl) ?_
    refine WO_val rfl rfl (rn_lookupV (k := 3) (e := 52) (.slice none 0 0) (by kernel_rfl) (by kernel_rfl) (by intro w; first | kernel_rfl | rfl) hmap rfl rfl (i) (by first | rfl | omega) (by omega) (by omega) hlk) hS907 ?_
    refine WA_one 13 (by kernel_rfl) ?_
    have hs32 := hr32.slA (m := 1) (sz := 128) hsl (by omega)
    refine WO_mk rfl rfl (mk_appendM (e := 34) (sz := 128) (bytes := 128) (z := .agg (List.replicate 128 (Value.int .u8 0)).toArray) (by kernel_rfl) rfl (by kernel_rfl) rfl (by decide) rfl hown rfl hs32 (bv_one _) (by unfold maxLen; omega) (by omega) (Nat.zero_le _) (by omega) (fun v33 w33 hv33 hgr33 hfr33 hx33 => ?_))
    have hS909 := hS907.ownS hown hgr33 (by first | (left; omega) | exact Or.inr (fun _ h => h) | exact Or.inr (fun _ h => List.mem_cons_of_mem _ h))
    refine ⟨hS909, ?_⟩
    have hob33 : ∃ ob, w32.grownBy w33 ob ∧ ((ob = none ∧ ∀ b, v33.ownBlock = some b → w32.heap.size ≤ b) ∨ ∃ b off c', Value.slice p ((ver D1 i).length - 1) c = .slice (some ⟨b, off, none⟩) ((ver D1 i).length - 1) c' ∧ (ver D1 i).length - 1 + 1 ≤ c' ∧ ob = some b ∧ v33 = .slice (some ⟨b, off, none⟩) ((ver D1 i).length - 1 + 1) c') := by
      rcases hx33.2 with ⟨h1, h2⟩ | ⟨b, off, c', h1, h2, h3⟩
      · exact ⟨none, h1, .inl ⟨rfl, h2⟩⟩
      · refine ⟨some b, ?_, .inr ⟨b, off, c', h1, h2, rfl, h3⟩⟩
        rw [h1] at hgr33
        exact hgr33
    obtain ⟨ob2, hgrO, hobc⟩ := hob33
    have hbO : ∀ b, ob2 = some b → ob = some b := fun b e => by
      rw [← hob]
      rcases hobc with ⟨h1, _⟩ | ⟨b', off, c', h1, _, h3, _⟩
      · rw [h1] at e; cases e
      · rw [h3] at e; cases e; rw [h1]; rfl
    have kG : Kp ob2.toList w32 w33 := Kp.of_grown hgrO
    have hfr : ∀ b, v33.ownBlock = some b → ob2 = some b ∨ w32.heap.size ≤ b := fun b e => by
      rcases hobc with ⟨_, h2⟩ | ⟨b', off, c', _, _, h3, h4⟩
      · exact .inr (h2 b e)
      · rw [h4] at e; left; rw [h3]; exact e
    have hm2 : m ∉ ob2.toList := fun hm => hx3 (hbO _ (Option.mem_toList.1 hm))
    replace hmap := hmap.kpd kG hm2
    have hKy : KpB (m :: ob2.toList) w16 w33 := ⟨(hKx.k.weak fun _ _ hm => by rw [List.mem_singleton.1 hm]; simp).trans (kG.weak fun _ _ hm => List.mem_cons_of_mem _ hm)⟩
    have hpGO : ∀ b, ob2 = some b → b ∈ G := fun b e => hpG b (hbO b e)
    have hsepO : ∀ j b, openB D1 j = true → j ≠ i → ob2 = some b → (sv j).ownBlock ≠ some b := fun j b hj hne e => hsep j b hj hne (hbO b e)
    refine WA_one 14 (by kernel_rfl) ?_
    refine WO_sk rfl rfl (sk_mapUpd (k := 3) (e := 52) (_) (by kernel_rfl) (by kernel_rfl) hmap rfl rfl rfl (i) (by first | rfl | omega) (by omega) (by omega) (fun w911 hmap ho911 => ?_))
    have hS910 := hS909.aq ho911
    refine ⟨hS910, ?_⟩
    replace hKy := hKy.only ho911 (by first | (simp; done) | (right; omega))
    refine WA_done (by kernel_rfl) ?_
    refine thenN (W_seq (W_region (WR_val rfl (rn_assign) (WR_nil (thenN (W_ret ?_))))))
    refine ret_ret [_] ⟨rfl, trivial⟩ ?_
    have hmw := h1.map.lt
    have hszx := Nat.le_trans hb901.size hb32.size
    have hva : ∀ b, v33.ownBlock = some b → b ∈ G ∨ w16.heap.size ≤ b := fun b e => (hfr b e).imp (hpGO b) (fun hh => Nat.le_trans hszx hh)
    have hv34 := hv33.kpd (Kp.of_only ho911) (fun b hb e => by
      have h1 : b = m := by simpa using hb
      rcases hva b e with h2 | h2
      · exact (hne.2.2.2 b h2).2.2 h1
      · omega)
    have hkp34 := hx33.1.kpd (Kp.of_only ho911) (fun b hb e => by
      have h1 : b = m := by simpa using hb
      have e2 : (Value.slice p ((ver D1 i).length - 1) c).ownBlock = some b := e
      rw [h1] at e2
      exact hx3 (hob.symm.trans e2))
    obtain ⟨p33, c33, hp33⟩ := hv34.form
    have hsz16 : w.heap.size ≤ w16.heap.size := Nat.le_trans hb5.size (Kp.of_only hb16).size
    have hsz32 : w.heap.size ≤ w32.heap.size := Nat.le_trans hsz16 hszx
    have hobt := dk_wroteR (s := s) h1 ho6 hi1 hs hsh hKy.k hmap hp33 hv34 hpGO hsepO (fun b e => (hfr b e).imp id (fun hh => Nat.le_trans hszx hh))
    obtain ⟨G', sv', f1, f2, f3, f4, f5⟩ := hobt
    have hoV : openB D i = openB D1 i := by unfold openB ver; rw [hV1]
    have hvV : ver D i = ver D1 i := by unfold ver; rw [hV1]
    refine ⟨rfl, st1, G', sv', ob2, f1, f2, fun b hb => (f3 b hb).imp id fun hh => Nat.le_trans hsz16 hh, ?_, ⟨f4, ?_, fun hop hob2 => ?_⟩⟩
    · exact (hK16.k.weak fun _ _ hm => by
        rcases List.mem_cons.1 hm with h | h
        · rw [h]; simp
        · rw [List.mem_singleton.1 h]; simp).trans (hKy.k.weak fun _ _ hm => List.mem_cons_of_mem _ hm)
    · rcases hobc with ⟨h1, h2⟩ | ⟨b, off, c', e1, e2, e3, e4⟩
      · exact .inl ⟨h1, .inr fun b e => Nat.le_trans hsz32 (h2 b ((congrArg Value.ownBlock f5).symm.trans e))⟩
      · have hop : openB D1 i = true := by
          by_cases hb : openB D1 i = true
          · exact hb
          · rw [since, if_neg hb] at hlk
            rw [← hlk] at e1
            cases e1
        rw [since, if_pos hop] at hlk
        exact .inr ⟨b, off, (ver D1 i).length - 1, c', by rw [hoV]; exact hop, (show sv i = _ from hlk).trans e1, by omega, e3, f5.trans e4⟩
    · rw [hoV] at hop
      rw [since, if_pos hop] at hlk
      have hlk2 : sv i = .slice p ((ver D1 i).length - 1) c := hlk
      rw [hlk2, hvV]
      exact hkp34
end Go.Proofs.Ytpndhildmfmcgaa
namespace Go.Proofs.Ytpndhildmfmcgaa
open Go Go.RowKit Coup
def Lk (D : Dk) (sv : Nat → Value) (O : Dk) (sv' : Nat → Value) : Prop :=
  ∀ i j b, openB D i = true → openB O j = true → (sv i).ownBlock = some b → (sv' j).ownBlock = some b →
    i = j ∧ ∃ off nA cA nB cB, sv i = .slice (some ⟨b, off, none⟩) nA cA ∧ sv' j = .slice (some ⟨b, off, none⟩) nB cB ∧ (nA < cA → nB ≤ nA ∧ cB ≤ nB) ∧ (nB < cB → nA ≤ nB ∧ cA ≤ nA)
theorem Lk.swap {D O : Dk} {sv sv' : Nat → Value} (h : Lk D sv O sv') : Lk O sv' D sv := fun i j b hi hj ei ej => by
  obtain ⟨e, off, nA, cA, nB, cB, h1, h2, h3, h4⟩ := h j i b hj hi ej ei
  exact ⟨e.symm, off, nB, cB, nA, cA, h2, h1, h4, h3⟩
theorem Lk.sub {D D' O : Dk} {sv sv' : Nat → Value} (h : Lk D sv O sv') (hs : ∀ i, openB D' i = true → openB D i = true) : Lk D' sv O sv' := fun i j b hi hj => h i j b (hs i hi) hj
theorem open_settled {D : Dk} {f : Nat → Nat → Sec} {i : Nat} (h : openB (setAll D (setXs D f)) i = true) : openB D i = true := by
  cases hb : openB D i with
  | true => rfl
  | false => rw [openB, ver_unsettled hb] at h; rw [openB] at hb; rw [hb] at h; cases h
theorem open_V {D D' : Dk} (h : D'.V = D.V) {i : Nat} : openB D' i = openB D i := by unfold openB ver; rw [h]
theorem open_flushA {D : Dk} {i : Nat} (h : openB (flushA D) i = true) : openB D i = true := by
  unfold flushA at h
  split at h
  · have := open_settled h; rw [open_V (stepD_V D)] at this; exact this
  · rw [open_V (stepD_V D)] at h; exact h
theorem open_crash {D : Dk} {p : List Int} {i : Nat} (h : openB (crashD D p) i = true) : openB D i = true := by
  have e : openB (crashD D p) i = openB (setAll D (setXs D fun k i => leftS (ver D i) (p.getD k 0))) i := rfl
  rw [e] at h
  exact open_settled h
structure DOAt (w : World) (g pl m : Nat) (G : List Nat) (D : Dk) (ol cl : Nat) (st : Int) (fu : Bool) (sv : Nat → Value) (g' pl' m' : Nat) (G' : List Nat) (O : Dk) (ol' cl' : Nat) (st' : Int) (fu' : Bool) (sv' : Nat → Value) : Prop where
  a : DkM w g pl m G D ol cl st fu sv
  b : DkM w g' pl' m' G' O ol' cl' st' fu' sv'
  ao : DkO w G D sv
  bo : DkO w G' O sv'
  lk : Lk D sv O sv'
  d1 : ∀ x ∈ [g, pl, m], x ∉ [g', pl', m'] ∧ x ∉ G'
  d2 : ∀ x ∈ [g', pl', m'], x ∉ G
namespace DOAt
variable {w w' : World} {g pl m : Nat} {G : List Nat} {D : Dk} {ol cl : Nat} {st : Int} {fu : Bool} {sv : Nat → Value} {g' pl' m' : Nat} {G' : List Nat} {O : Dk} {ol' cl' : Nat} {st' : Int} {fu' : Bool} {sv' : Nat → Value}
theorem swap (h : DOAt w g pl m G D ol cl st fu sv g' pl' m' G' O ol' cl' st' fu' sv') : DOAt w g' pl' m' G' O ol' cl' st' fu' sv' g pl m G D ol cl st fu sv :=
  ⟨h.b, h.a, h.bo, h.ao, h.lk.swap, fun x hx => ⟨fun hm => (h.d1 x hm).1 hx, h.d2 x hx⟩, fun x hx => (h.d1 x hx).2⟩
theorem kpd {M : List Nat} (h : DOAt w g pl m G D ol cl st fu sv g' pl' m' G' O ol' cl' st' fu' sv') (k : Kp M w w') (hM : ∀ b ∈ ([g, pl, m] ++ G) ++ ([g', pl', m'] ++ G'), b ∉ M) : DOAt w' g pl m G D ol cl st fu sv g' pl' m' G' O ol' cl' st' fu' sv' :=
  ⟨h.a.kpd k ⟨hM g (by simp), hM pl (by simp), hM m (by simp), fun b hb => hM b (by simp [hb])⟩, h.b.kpd k ⟨hM g' (by simp), hM pl' (by simp), hM m' (by simp), fun b hb => hM b (by simp [hb])⟩, h.ao.kpd k fun b hb => hM b (by simp [hb]), h.bo.kpd k fun b hb => hM b (by simp [hb]), h.lk, h.d1, h.d2⟩
theorem other (h : DOAt w g pl m G D ol cl st fu sv g' pl' m' G' O ol' cl' st' fu' sv') (k : Kp [g, pl, m] w w') : DkM w' g' pl' m' G' O ol' cl' st' fu' sv' ∧ DkO w' G' O sv' := by
  have hn : ∀ x ∈ [g', pl', m'], x ∉ [g, pl, m] := fun x hx hm => (h.d1 x hm).1 hx
  have hG : ∀ b ∈ G', b ∉ [g, pl, m] := fun b hb hm => (h.d1 b hm).2 hb
  exact ⟨h.b.kpd k ⟨hn g' (by simp), hn pl' (by simp), hn m' (by simp), hG⟩, h.bo.kpd k hG⟩
theorem beside {i : Nat} {ob : Option Nat} {sv2 : Nat → Value} (h : DOAt w g pl m G D ol cl st fu sv g' pl' m' G' O ol' cl' st' fu' sv') (k : Kp (g :: m :: ob.toList) w w') (hw : Wrt w w' D i sv sv2 ob) : DkM w' g' pl' m' G' O ol' cl' st' fu' sv' ∧ DkO w' G' O sv' := by
  have hob : ∀ b, ob = some b → b ∈ G := fun b e => by
    rcases hw.cas with ⟨h1, _⟩ | ⟨b', off, n, c, ho, h1, _, h3, _⟩
    · rw [h1] at e; cases e
    · rw [h3] at e; cases e
      exact (h.ao.own i ho).2 b (by rw [h1]; rfl)
  have hx : ∀ x ∈ [g', pl', m'], x ∉ g :: m :: ob.toList := fun x hx hm => by
    rcases List.mem_cons.1 hm with rfl | hm
    · exact (h.d1 x (by simp)).1 hx
    · rcases List.mem_cons.1 hm with rfl | hm
      · exact (h.d1 x (by simp)).1 hx
      · exact h.d2 x hx (hob x (Option.mem_toList.1 hm))
  have hown : ∀ j, openB O j = true → ownsAt w' 0 34 128 (sv' j) ((ver O j).length - 1) (bv (ver O j).tail.flatten) := fun j hj => by
    obtain ⟨h1, h2⟩ := h.bo.own j hj
    by_cases hb : ∃ b, ob = some b ∧ (sv' j).ownBlock = some b
    · obtain ⟨b, e1, e2⟩ := hb
      rcases hw.cas with ⟨h3, _⟩ | ⟨b', off, n, c, ho, h3, h4, h5, _⟩
      · rw [h3] at e1; cases e1
      · rw [h5] at e1; cases e1
        obtain ⟨hij, off2, nA, cA, nB, cB, l1, l2, l3, _⟩ := h.lk i j b ho hj (by rw [h3]; rfl) e2
        subst hij
        rw [h3] at l1
        cases l1
        obtain ⟨l4, l5⟩ := l3 h4
        have hk := hw.keep ho (by rw [h5]; simp)
        have ha := (h.ao.own i ho).1
        rw [h3] at hk ha
        rw [l2] at h1 ⊢
        rcases hk.2 with ⟨q, _⟩ | ⟨g1, o1, c1, cur, q, _, q2, q3, q4, q5, q6⟩
        · cases q
        rcases ha.2 with ⟨p, _⟩ | ⟨g2, o2, c2, cur2, p, _, p2, p3, p4, p5, p6⟩
        · cases p
        rcases h1.2 with ⟨r, _⟩ | ⟨g3, o3, c3, cur3, r, _, r2, r3, r4, r5, r6⟩
        · cases r
        cases q; cases p; cases r
        rw [p2] at r2
        cases r2
        refine ⟨h1.1, .inr ⟨_, _, _, cur, rfl, Nat.zero_le _, q2, r3, r4, ?_, ?_⟩⟩
        · have := Nat.mul_le_mul_right 128 l4
          omega
        · have hle := Nat.mul_le_mul_right 128 l4
          rw [← r6]
          have e := congrArg (List.take (((ver O i).length - 1) * 128)) (q6.trans p6.symm)
          rw [List.take_take, List.take_take, Nat.min_eq_left (by omega)] at e
          exact e
    · refine h1.kpd k fun b hb' e => ?_
      rcases List.mem_cons.1 hb' with rfl | hb'
      · exact (h.d1 b (by simp)).2 (h2 b e)
      · rcases List.mem_cons.1 hb' with rfl | hb'
        · exact (h.d1 b (by simp)).2 (h2 b e)
        · exact hb ⟨b, Option.mem_toList.1 hb', e⟩
  refine ⟨⟨h.b.row.kpd k (hx g' (by simp)), h.b.own.kpd k (hx pl' (by simp)), h.b.map.kpd k (hx m' (by simp)), fun j hj => ?_, fun b hb => Nat.lt_of_lt_of_le (h.b.inG b hb) k.size, h.b.ne, h.b.left, h.b.ok, h.b.pos⟩, fun j hj => ⟨hown j hj, (h.bo.own j hj).2⟩, h.bo.sep⟩
  obtain ⟨p, c, e, _, e3⟩ := h.b.sv j hj
  have := hown j hj
  rw [e] at this
  exact ⟨p, c, e, this.sl, e3⟩
end DOAt
theorem Lk.write {w w' : World} {g pl m : Nat} {G : List Nat} {D : Dk} {ol cl : Nat} {st : Int} {fu : Bool} {sv : Nat → Value} {O : Dk} {sv' sv2 : Nat → Value} {i : Nat} {s : Sec} {ob : Option Nat} (h : Lk D sv O sv') (hi : i < D.V.length) (hO : ∀ j b, openB O j = true → (sv' j).ownBlock = some b → b < w.heap.size) (hw : Wrt w w' D i sv sv2 ob) : Lk (writeD D i s) sv2 O sv' := fun a j b ha hj ea ej => by
  by_cases hai : a = i
  · subst hai
    rcases hw.cas with ⟨_, ⟨h1, h2⟩ | h1⟩ | ⟨b', off, n, c, ho, h1, h2, h3, h4⟩
    · rw [h2] at ea ⊢
      have : openB D a = true := by
        unfold writeD at ha
        rw [h1] at ha
        have ha2 : openB (stepD D) a = true := by simpa using ha
        rw [open_V (stepD_V D)] at ha2
        exact ha2
      exact h a j b this hj ea ej
    · have := h1 b ea
      have := hO j b hj ej
      omega
    · rw [h4] at ea ⊢
      cases ea
      obtain ⟨e, off2, nA, cA, nB, cB, l1, l2, l3, l4⟩ := h a j _ ho hj (by rw [h1]; rfl) ej
      rw [h1] at l1
      cases l1
      obtain ⟨l5, l6⟩ := l3 h2
      exact ⟨e, off, n + 1, c, nB, cB, rfl, l2, fun _ => ⟨by omega, l6⟩, fun h => by omega⟩
  · rw [hw.oth a hai] at ea ⊢
    have : openB D a = true := by
      unfold writeD at ha
      split at ha
      · unfold openB at ha ⊢
        rw [ver_set (by rw [stepD_V]; exact hi), if_neg (fun e => hai e.symm)] at ha
        unfold ver at ha ⊢
        rw [stepD_V] at ha
        exact ha
      · rw [open_V (stepD_V D)] at ha; exact ha
    exact h a j b this hj ea ej
def DO (g g' : Nat) (D O : Dk) : World → List Nat → Prop := fun w B => ∃ pl m G ol cl st fu sv pl' m' G' ol' cl' st' fu' sv', DOAt w g pl m G D ol cl st fu sv g' pl' m' G' O ol' cl' st' fu' sv' ∧ B = ([g, pl, m] ++ G) ++ ([g', pl', m'] ++ G')
namespace DO
variable {w w' : World} {g g' : Nat} {D O : Dk} {B : List Nat}
theorem lt (h : DO g g' D O w B) : ∀ b ∈ B, b < w.heap.size := by
  obtain ⟨pl, m, G, ol, cl, st, fu, sv, pl', m', G', ol', cl', st', fu', sv', h, rfl⟩ := h
  intro b hb
  rcases List.mem_append.1 hb with hb | hb
  · rcases List.mem_append.1 hb with hb | hb
    · simp only [List.mem_cons, List.not_mem_nil, or_false] at hb
      rcases hb with rfl | rfl | rfl
      · exact h.a.row.lt
      · exact h.a.own.lt
      · exact h.a.map.lt
    · exact h.a.inG b hb
  · rcases List.mem_append.1 hb with hb | hb
    · simp only [List.mem_cons, List.not_mem_nil, or_false] at hb
      rcases hb with rfl | rfl | rfl
      · exact h.b.row.lt
      · exact h.b.own.lt
      · exact h.b.map.lt
    · exact h.b.inG b hb
instance (g g' : Nat) (D O : Dk) : Thing (DO g g' D O) :=
  ⟨fun {w w' B M} ⟨pl, m, G, ol, cl, st, fu, sv, pl', m', G', ol', cl', st', fu', sv', h, e⟩ k hM => ⟨pl, m, G, ol, cl, st, fu, sv, pl', m', G', ol', cl', st', fu', sv', h.kpd k (by rw [← e]; exact hM), e⟩, lt⟩
theorem swap (h : DO g g' D O w B) : ∃ B', DO g' g O D w B' ∧ ∀ b, b ∈ B' ↔ b ∈ B := by
  obtain ⟨pl, m, G, ol, cl, st, fu, sv, pl', m', G', ol', cl', st', fu', sv', h, e⟩ := h
  exact ⟨_, ⟨pl', m', G', ol', cl', st', fu', sv', pl, m, G, ol, cl, st, fu, sv, h.swap, rfl⟩, fun b => by rw [e]; exact ⟨fun hm => List.mem_append.2 (List.mem_append.1 hm).symm, fun hm => List.mem_append.2 (List.mem_append.1 hm).symm⟩⟩
theorem write (h : DO g g' D O w B) (i : Int) (s : Sec) (hs : s.length = 128) (hsh : shortD D 90000) :
    Calls Try.prog 17 [.pointer (some ⟨g, 0, none⟩), .int .i64 i, .agg (bv s).toArray].toArray w (Ret fun v w' => v = .int .i64 (writeE D i) ∧ ∃ B', DO g g' (writeA D i s) O w' B' ∧ Mv B B' w w') := by
  obtain ⟨pl, m, G, ol, cl, st, fu, sv, pl', m', G', ol', cl', st', fu', sv', h, rfl⟩ := h
  rw [writeA, writeE]
  by_cases hi : 0 ≤ i ∧ i < D.V.length
  · obtain ⟨k, rfl⟩ : ∃ k : Nat, i = k := ⟨i.toNat, by omega⟩
    have hin : inD D (k : Int) = true := decide_eq_true hi
    rw [hin, if_pos rfl, if_pos rfl, Int.toNat_natCast]
    have hk : k < D.V.length := by omega
    refine (writeR h.a h.ao k s hk hs (Nat.lt_of_le_of_lt (hsh.ver hk) (by omega))).to fun v w' hR => ?_
    obtain ⟨e, st2, G2, sv2, ob, h3, h4, h5, h6, h7⟩ := hR
    obtain ⟨b1, b2⟩ := h.beside h6 h7
    have hlk := h.lk.write (g := g) (pl := pl) (m := m) (G := G) (ol := ol) (cl := cl) (st := st) (fu := fu) (s := s) hk (fun j b hj e => h.b.inG b ((h.bo.own j hj).2 b e)) h7
    have hobG : ∀ b, ob = some b → b ∈ G := fun b e => by
      rcases h7.cas with ⟨h1, _⟩ | ⟨b', off, n, c, ho, h1, _, h8, _⟩
      · rw [h1] at e; cases e
      · rw [h8] at e; cases e
        exact (h.ao.own k ho).2 b (by rw [h1]; rfl)
    refine ⟨e, _, ⟨pl, m, G2, ol, cl, st2, fu, sv2, pl', m', G', ol', cl', st', fu', sv', ⟨h3, b1, h4, b2, hlk, h.d1, fun x hx hm => ?_⟩, rfl⟩, ⟨h6.weak fun x _ hx => ?_, fun b hb => ?_⟩⟩
    · rcases h5 x hm with hm | hm
      · exact h.d2 x hx hm
      · have : x < w.heap.size := by
          simp only [List.mem_cons, List.not_mem_nil, or_false] at hx
          rcases hx with rfl | rfl | rfl
          · exact h.b.row.lt
          · exact h.b.own.lt
          · exact h.b.map.lt
        omega
    · rcases List.mem_cons.1 hx with rfl | hx
      · simp
      · rcases List.mem_cons.1 hx with rfl | hx
        · simp
        · have := hobG x (Option.mem_toList.1 hx); simp [this]
    · rcases List.mem_append.1 hb with hb | hb
      · rcases List.mem_append.1 hb with hb | hb
        · exact .inl (List.mem_append_left _ (List.mem_append_left _ hb))
        · exact (h5 b hb).imp (fun hb => List.mem_append_left _ (List.mem_append_right _ hb)) id
      · exact .inl (List.mem_append_right _ hb)
  · have hin : inD D i = false := decide_eq_false hi
    rw [hin]
    refine (write17b h.a i s hi hs).to fun v w' hR => ?_
    obtain ⟨e, h3⟩ := hR
    exact ⟨e, _, ⟨pl, m, G, ol, cl, st, fu, sv, pl', m', G', ol', cl', st', fu', sv', h.kpd (M := []) (Kp.of_below h3) (by simp), rfl⟩, Kp.of_below' h3, fun b hb => .inl hb⟩
theorem flush (h : DO g g' D O w B) : Calls Try.prog 16 [.pointer (some ⟨g, 0, none⟩)].toArray w (Ret fun v w' => v = .int .i64 (if stepOk D then 0 else 10) ∧ ∃ B', DO g g' (flushD D) O w' B' ∧ Mv B B' w w') := by
  obtain ⟨pl, m, G, ol, cl, st, fu, sv, pl', m', G', ol', cl', st', fu', sv', h, rfl⟩ := h
  rw [← flushA_eq h.a.ok]
  refine (flush16 h.a).to fun v w' hR => ?_
  obtain ⟨e, ⟨st2, h3⟩, h4⟩ := hR
  obtain ⟨b1, b2⟩ := h.other h4
  refine ⟨e, _, ⟨pl, m, G, ol, cl, st2, fu, sv, pl', m', G', ol', cl', st', fu', sv', ⟨h3, b1, ?_, b2, h.lk.sub fun i hi => open_flushA hi, h.d1, h.d2⟩, rfl⟩, h4.weak fun k _ hk => by
    simp only [List.mem_cons, List.not_mem_nil, or_false] at hk
    rcases hk with rfl | rfl | rfl <;> simp, fun b hb => .inl hb⟩
  have h5 := h.ao.kpd h4 (fun b hb => by have := h.a.ne.2.2.2 b hb; simp [this])
  unfold flushA
  split
  · exact h5.settled (stepD_V D) _
  · exact h5.alike (stepD_V D)
theorem fuse (h : DO g g' D O w B) (k : Int) (hk : k ≤ 9223372036854775807) :
    Calls Try.prog 15 [.pointer (some ⟨g, 0, none⟩), .int .i64 k].toArray w (Ret fun v w' => v = .int .i64 (if 0 ≤ k then 0 else 2) ∧ ∃ B', DO g g' (if 0 ≤ k then { D with left := k } else D) O w' B' ∧ Mv B B' w w') := by
  obtain ⟨pl, m, G, ol, cl, st, fu, sv, pl', m', G', ol', cl', st', fu', sv', h, rfl⟩ := h
  refine (fuse15 h.a k hk).to fun v w' hR => ?_
  obtain ⟨e, ⟨st2, fu2, h3⟩, h4⟩ := hR
  obtain ⟨b1, b2⟩ := h.other ((Kp.of_only h4).weak fun x _ hx => by rw [List.mem_singleton.1 hx]; simp)
  refine ⟨e, _, ⟨pl, m, G, ol, cl, st2, fu2, sv, pl', m', G', ol', cl', st', fu', sv', ⟨h3, b1, ?_, b2, h.lk.sub fun i hi => ?_, h.d1, h.d2⟩, rfl⟩, (Kp.of_only h4).weak fun k _ hk => by rw [List.mem_singleton.1 hk]; simp, fun b hb => .inl hb⟩
  · have h5 := h.ao.kpd (Kp.of_only h4) (fun b hb => by have := h.a.ne.2.2.2 b hb; simp [this])
    split
    · exact h5.alike rfl
    · exact h5
  · split at hi <;> exact hi
theorem crash (h : DO g g' D O w B) (pp : Option Addr) (np cp : Nat) (picks : List Int) (hpk : SlAt w pp np 1 (iv picks)) (hpkb : 0 < np → ∀ b o, pp = some ⟨b, o, none⟩ → b ∉ B) :
    Calls Try.prog 20 [.pointer (some ⟨g, 0, none⟩), .slice pp np cp].toArray w (Ret fun v w' => v = .int .i64 0 ∧ ∃ B', DO g g' (crashD D picks) O w' B' ∧ Mv B B' w w') := by
  obtain ⟨pl, m, G, ol, cl, st, fu, sv, pl', m', G', ol', cl', st', fu', sv', h, rfl⟩ := h
  refine (crash20 h.a pp np cp picks hpk (fun h0 b o e hm => hpkb h0 b o e (List.mem_append_left _ (List.mem_append_left _ hm)))).to fun v w' hR => ?_
  obtain ⟨e, h3, h4⟩ := hR
  obtain ⟨b1, b2⟩ := h.other h4
  refine ⟨e, _, ⟨pl, m, G, ol, cl, 0, false, sv, pl', m', G', ol', cl', st', fu', sv', ⟨h3, b1, ?_, b2, h.lk.sub fun i hi => open_crash hi, h.d1, h.d2⟩, rfl⟩, h4.weak fun k _ hk => by
    simp only [List.mem_cons, List.not_mem_nil, or_false] at hk
    rcases hk with rfl | rfl | rfl <;> simp, fun b hb => .inl hb⟩
  have h5 := h.ao.kpd h4 (fun b hb => by have := h.a.ne.2.2.2 b hb; simp [this])
  exact (h5.settled rfl _).alike rfl
end DO
end Go.Proofs.Ytpndhildmfmcgaa
