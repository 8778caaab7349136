import Derived.Test.YtielfpkjoidomaaGreatM0
import Derived.Lib.Builder
import Derived.Lib.OthersKept
import Derived.Laws.Externs
import Derived.Maps.OwnSet
import Derived.Maps.Keyed
import Derived.Shelf.SlIterI.Nil
import Derived.Shelf.SortM.Plain
import Derived.Shelf.SortM.SortNone
import Derived.Test.YtielfpkjoidomaaGreatProg
import Derived.Laws.Bits64b
namespace Coup
open Go Go.RowKit
theorem zm5 {a : Int} (h : 0 ≤ a ∧ a < 18446744073709551616) : (BitVec.ofInt 64 a).toNat = a.toNat := by
 rw [BitVec.toNat_ofInt]
 have : a % ((2 ^ 64 : Nat) : Int) = a := Int.emod_eq_of_lt h.1 (by simpa using h.2)
 rw [this]
theorem shrN {a b : Int} (s : Nat) (hb : b = (s : Int)) (hs : s ≤ 64) : a.fdiv (2 ^ (min b.toNat IntKind.u64.bits)) = a / 2 ^ s := by
 subst hb
 show a.fdiv (2 ^ (min ((s : Int).toNat) 64)) = a / 2 ^ s
 rw [Int.toNat_natCast, Nat.min_eq_left hs, Int.fdiv_eq_ediv_of_nonneg _ (Int.le_of_lt (Int.pow_pos (by decide)))]
theorem orU {a b : Int} (s : Nat) (q : Int) (ha : 0 ≤ a ∧ a < 18446744073709551616) (hq : a = q * 2 ^ s) (hb : 0 ≤ b ∧ b < 2 ^ s) (hs : a + b < 18446744073709551616) :
  IntKind.u64.wrap ((BitVec.ofInt IntKind.u64.bits a ||| BitVec.ofInt IntKind.u64.bits b).toNat : Int) = a + b := by
 show IntKind.u64.wrap ((BitVec.ofInt 64 a ||| BitVec.ofInt 64 b).toNat : Int) = a + b
 have hq0 : 0 ≤ q := by
  rcases Int.lt_or_le q 0 with h | h
  ·have h5 : (0 : Int) < 2 ^ s := Int.pow_pos (by decide)
   have := Int.mul_neg_of_neg_of_pos h h5; omega
  ·exact h
 rw [BitVec.toNat_or, zm5 ha, zm5 (by omega)]
 have h1 : a.toNat = q.toNat <<< s := by
  rw [Nat.shiftLeft_eq]
  have h2 : (q.toNat : Int) = q := Int.toNat_of_nonneg hq0
  have h3 : ((q.toNat * 2 ^ s : Nat) : Int) = q * 2 ^ s := by rw [Int.natCast_mul, h2, Int.natCast_pow]; rfl
  omega
 have h2 : b.toNat < 2 ^ s := by
  have h3 : ((2 ^ s : Nat) : Int) = 2 ^ s := by rw [Int.natCast_pow]; rfl
  omega
 rw [h1, ← Nat.shiftLeft_add_eq_or_of_lt h2, ← h1, wu64 (by omega)]
 omega
section
variable {P : Program} {ρ : Env} {w : World} {d : Option Nat} {ty : TypeId} {pos : String} {af : Array Edge} {gd : Option (Nat × Bool)}
end
def tabOk (s : ByteArray) : Bool := (List.range 255).all fun j => match s[j + 1]? with
 | some b => decide (1 ≤ b.toNat) && decide (b.toNat ≤ 8) && decide (2 ^ (b.toNat - 1) ≤ j + 1) && decide (j + 1 < 2 ^ b.toNat)
 | none => false
section
variable {P : Program} {ρ : Env} {w : World} {d : Option Nat} {ty : TypeId} {pos : String} {af : Array Edge} {gd : Option (Nat × Bool)} {K : Value → World → Prop}
end
def zeV (w : World) (base e sz g o m c : Nat) (xs : List Value) : Prop := zaJ w base e sz (.slice (some ⟨g, o, none⟩) m c) m xs
namespace zeV
variable {w w' : World} {base e sz g o m c : Nat} {xs : List Value}
theorem lt (h : zeV w base e sz g o m c xs) : g < w.heap.size := (zaJ.lt h g rfl).2
theorem len (h : zeV w base e sz g o m c xs) : xs.length = m * sz := h.1
theorem new (h : zeV w base e sz g o m c xs) (hb : Below w.heap.size w w') : zeV w' base e sz g o m c xs := zaJ.new h hb
theorem kpd {M : List Nat} (h : zeV w base e sz g o m c xs) (k : Kp M w w') (hM : g ∉ M) : zeV w' base e sz g o m c xs := zaJ.kpd h k fun g' hm e => hM (by
 have : g = g' := by simpa [Value.ownBlock] using e
 rw [this]; exact hm)
theorem only {g' : Nat} (h : zeV w base e sz g o m c xs) (ho : Only g' w w') (hg : g ≠ g') : zeV w' base e sz g o m c xs := h.kpd (Kp.zbx ho) (by simpa using hg)
theorem sl (h : zeV w base e sz g o m c xs) : za9 w (some ⟨g, o, none⟩) m sz xs := zaJ.sl h
end zeV
theorem zfd {l vs : List Value} {k : Nat} (h : k + vs.length ≤ l.length) (i : Nat) : (splice l k vs)[i]? = if i < k then l[i]? else if i < k + vs.length then vs[i - k]? else l[i]? := by
 unfold splice
 by_cases h1 : i < k
 ·rw [if_pos h1, List.getElem?_append_left (by rw [List.length_take]; omega), List.getElem?_take, if_pos h1]
 ·rw [if_neg h1, List.getElem?_append_right (by rw [List.length_take]; omega), List.length_take, Nat.min_eq_left (by omega)]
  by_cases h2 : i < k + vs.length
  ·rw [if_pos h2, List.getElem?_append_left (by omega)]
  ·rw [if_neg h2, List.getElem?_append_right (by omega), List.getElem?_drop]
   congr 1; omega
section
variable {P : Program} {ρ : Env} {w : World} {d : Option Nat} {ty : TypeId} {pos : String} {af : Array Edge} {gd : Option (Nat × Bool)} {Kw : World → Prop}
theorem zhh {t : Nat} {x y : Operand} {g o : Nat} {base e sz m c : Nat} {xs : List Value} (vs : List Value) (j : Nat) (hown : zeV w base e sz g o m c xs) (hx : ev ρ x = .pointer (some ⟨g, o + j, none⟩))
  (hy : (ev ρ y).cells = vs.toArray) (hs : zcN P t vs.length = true) (hfit : j + vs.length ≤ xs.length) (h1 : ∀ v ∈ vs, v.oneCell' = true)
  (h : ∀ w', zeV w' base e sz g o m c (splice xs j vs) → Only g w w' → Kw w') : Sk P ρ w ⟨d, .store t x y, ty, pos, af, gd⟩ Kw := by
 have hlen := hown.1
 rcases hown.2 with ⟨hn, _⟩ | ⟨g', off, cap, cur, he, hb, hg, hmc, hmx, hsz, hcur⟩
 ·cases hn
 ·cases he
  have hrow : row w g cur.toList e := by unfold row; simpa using hg
  have hle : m * sz ≤ c * sz := Nat.mul_le_mul_right _ hmc
  have hcl : cur.toList.length = cur.size := by simp
  refine zgW vs hx hy hrow hs (by omega) h1 fun w' hr ho => h w' ⟨?_, Or.inr ⟨g, o, c, (splice cur.toList (o + j) vs).toArray, rfl, hb, hr, hmc, hmx, ?_, ?_⟩⟩ ho
  ·simp only [splice, List.length_append, List.length_take, List.length_drop]; omega
  ·simp only [splice, List.size_toArray, List.length_append, List.length_take, List.length_drop]; omega
  ·rw [← hcur]
   have hm2 : ((cur.toList.drop o).take (m * sz)).length = m * sz := by rw [List.length_take, List.length_drop]; omega
   refine List.ext_getElem? fun i => ?_
   rw [List.getElem?_take, List.getElem?_drop, zfd (by omega), zfd (by rw [hm2]; omega), List.getElem?_take, List.getElem?_drop]
   by_cases hi : i < m * sz
   ·rw [if_pos hi]
    by_cases h2 : i < j
    ·rw [if_pos (by omega), if_pos h2, if_pos hi]
    ·rw [if_neg (by omega), if_neg h2]
     by_cases h3 : i < j + vs.length
     ·rw [if_pos (by omega), if_pos h3]; congr 1; omega
     ·rw [if_neg (by omega), if_neg h3, if_pos hi]
   ·rw [if_neg hi, if_neg (by omega), if_neg (by omega), if_neg hi]
end
section
variable {P : Program} {ρ : Env} {w : World} {d : Option Nat} {ty : TypeId} {pos : String} {af : Array Edge} {gd : Option (Nat × Bool)} {K : Value → World → Prop}
def fieldOne (P : Program) (t i off : Nat) : Bool := match P.underlying t with | some (.struct fs) => (match fs[i]? with | some f => Nat.beq f.offset off && zid P f.type | none => false) | _ => false
end
section
variable {P : Program} {ρ : Env} {w : World} {d : Option Nat} {ty : TypeId} {pos : String} {af : Array Edge} {gd : Option (Nat × Bool)}
end
theorem Kp.toB {M : List Nat} {B : Nat} {w w' : World} (h : Kp M w w') (hM : ∀ g, g ∈ M → B ≤ g) (hB : B ≤ w.heap.size) : Below B w w' := ⟨h.os, h.tape, h.output, h.size, fun k hk => h.block k (by omega) fun hm => by have := hM k hm; omega⟩
def methRow (P : Program) (t : Nat) (name : String) (f : FuncId) (byP : Bool) : Bool := match P.info? t with
 | some i => (match i.methods.find? (·.name == name) with | some m => m.path.isEmpty && (match m.func with | some (g, b) => Nat.beq g f && (b == byP) | none => false) | none => false)
 | none => false
structure zm6 (B : Nat) (w w' : World) : Prop where
 bel : Below B w w'
 size : B ≤ w'.heap.size
namespace zm6
variable {B : Nat} {w0 w w' : World}
theorem refl (h : B ≤ w.heap.size) : zm6 B w w := ⟨Below.refl _ _, h⟩
theorem acc (h : zm6 B w0 w) (k : Below w.heap.size w w') : zm6 B w0 w' := ⟨h.bel.trans (k.mono h.size), Nat.le_trans h.size k.size⟩
theorem tr (h : zm6 B w0 w) (k : Below B w w') : zm6 B w0 w' := ⟨h.bel.trans k, Nat.le_trans h.size k.size⟩
theorem kpd {M : List Nat} (h : zm6 B w0 w) (k : Kp M w w') (hM : ∀ g, g ∈ M → B ≤ g) : zm6 B w0 w' := h.tr (k.toB hM h.size)
theorem own {base e sz m : Nat} {v : Value} {xs : List Value} (h : zm6 B w0 w) (ho : zaJ w base e sz v m xs) (hg : w.grownBy w' v.ownBlock) (hk : B ≤ base) : zm6 B w0 w' := h.kpd (Kp.zba hg) fun g hm => Nat.le_trans hk (ho.lt g (Option.mem_toList.1 hm)).1
end zm6
section
variable {md : Option Nat → Prop} {P : Program} {n : Nat} {Q : Post} {ρ : Env} {w : World}
end
section
variable {P : Program} {ρ : Env} {w : World} {d : Option Nat} {ty : TypeId} {pos : String} {af : Array Edge} {gd : Option (Nat × Bool)} {K : Value → World → Prop}
def ptrT (P : Program) (t : Nat) : Bool := match P.underlying t with | some (.pointer e) => (P.info? e).isSome | _ => false
theorem zmi {t : Nat} (h : ptrT P t = true) : ∃ e j, P.underlying t = some (.pointer e) ∧ P.info? e = some j := by
 unfold ptrT at h
 split at h
 ·rename_i e hu
  obtain ⟨j, hj⟩ := Option.isSome_iff_exists.1 h
  exact ⟨e, j, hu, hj⟩
 ·cases h
theorem zjB {t : Nat} (ht : ptrT P t = true) (n : Nat) (a : Addr) : (Op.equalIn (n + 1) t (.pointer (some a)) (.pointer none)).run P w = .ok false w := by
 obtain ⟨e, j, h1, h2⟩ := zmi ht
 simp [Op.equalIn, run_underlying h1, Go.sizeOf, typeInfo, h2, Result.andThen]
theorem zcF {t t' : Nat} {x y : Operand} {a : Addr} (ht : ptrT P t = true) (hx : ev ρ x = .pointer (some a)) (hy : ev ρ y = .pointer none) : (execOp (ev ρ) ⟨d, .binOp .eql t x y t', ty, pos, af, gd⟩).run P w = .ok (.value (.bool false)) w := by
 have := zjB (w := w) ht 9999 a
 simp [execOp, hx, hy, eqGuard, binOp, Op.equal, Op.maxDepth, this, Result.andThen]
def unsafeOk (P : Program) (src dst e cells : Nat) : Bool := match P.underlying src, P.underlying dst with
 | some (.pointer t), some .unsafePointer => (match P.info? t with | some j => decide (j.size ≠ 0) && liesAt P P.depth e (cells / P.cellsOf e) 0 t 1 | none => false)
 | _, _ => false
end
section
variable {P : Program} {ρ : Env} {w : World} {d : Option Nat} {ty : TypeId} {pos : String} {af : Array Edge} {gd : Option (Nat × Bool)} {K : Value → World → Prop}
def zoD (w : World) (g : Nat) (l : List UInt8) (i : Nat) : Prop := w.heap[g]? = some (.stringIter ⟨l.toArray⟩ i)
namespace zoD
variable {w w' : World} {g i : Nat} {l : List UInt8}
theorem lt (h : zoD w g l i) : g < w.heap.size := (Array.getElem?_eq_some_iff.1 h).1
theorem new (h : zoD w g l i) (hb : Below w.heap.size w w') : zoD w' g l i := (hb.block g h.lt).trans h
theorem only {g' : Nat} (h : zoD w g l i) (ho : Only g' w w') (hg : g ≠ g') : zoD w' g l i := (ho.block g hg).trans h
theorem kpd {M : List Nat} (h : zoD w g l i) (k : Kp M w w') (hg : g ∉ M) : zoD w' g l i := (k.block g h.lt hg).trans h
end zoD
end
section
variable {P : Program} {ρ : Env} {w w' : World} {d : Option Nat} {ty : TypeId} {pos : String} {af : Array Edge} {gd : Option (Nat × Bool)} {K : Value → World → Prop}
end
section
variable {P : Program} {ρ : Env} {w : World} {d : Option Nat} {ty : TypeId} {pos : String} {af : Array Edge} {gd : Option (Nat × Bool)} {K : Value → World → Prop}
end
section
variable {P : Program} {ρ : Env} {w : World} {d : Option Nat} {ty : TypeId} {pos : String} {af : Array Edge} {gd : Option (Nat × Bool)}
theorem zm7 {t i : Nat} {x : Operand} (v : Value) (cs : List Value) (hx : ev ρ x = v) (hb : P.built t [(i, v)] = some cs.toArray) : (execOp (ev ρ) ⟨d, .build t #[(i, x)], ty, pos, af, gd⟩).run P w = .ok (.value (.agg cs.toArray)) w := by
 have := run_build (P := P) w t #[(i, v)] cs.toArray (by simpa using hb)
 simp only [execOp, List.map_toArray, List.map_cons, List.map_nil, hx, Sem.run_bind, this, Result.andThen_ok]
 rfl
theorem zm8 {t i j : Nat} {x y : Operand} (v u : Value) (cs : List Value) (hx : ev ρ x = v) (hy : ev ρ y = u) (hb : P.built t [(i, v), (j, u)] = some cs.toArray) : (execOp (ev ρ) ⟨d, .build t #[(i, x), (j, y)], ty, pos, af, gd⟩).run P w = .ok (.value (.agg cs.toArray)) w := by
 have := run_build (P := P) w t #[(i, v), (j, u)] cs.toArray (by simpa using hb)
 simp only [execOp, List.map_toArray, List.map_cons, List.map_nil, hx, hy, Sem.run_bind, this, Result.andThen_ok]
 rfl
end
end Coup
namespace Coup
open Go Go.RowKit Go.Maps
def kvL (f : Nat → Option Value) (a : Nat) : Nat → List (Lit × DataW Value)
 | 0 => []
 | m + 1 => match f a with
  | some v => (.int .i64 (a : Int), .held v) :: kvL f (a + 1) m
  | none => kvL f (a + 1) m
theorem zhi {f g : Nat → Option Value} : ∀ (m a : Nat), (∀ i, a ≤ i → i < a + m → f i = g i) → kvL f a m = kvL g a m
 | 0, a, h => rfl
 | m + 1, a, h => by
  rw [kvL, kvL, h a (Nat.le_refl _) (by omega), zhi m (a + 1) (fun i h1 h2 => h i (by omega) (by omega))]
theorem ziQ (f : Nat → Option Value) : ∀ m a, (kvL f a m).length ≤ m
 | 0, a => Nat.le_refl _
 | m + 1, a => by
  have := ziQ f m (a + 1)
  rw [kvL]; split <;> simp <;> omega
theorem ziR {f : Nat → Option Value} : ∀ {m a : Nat} {x : Lit × DataW Value}, x ∈ kvL f a m → ∃ i, a ≤ i ∧ i < a + m ∧ x.1 = .int .i64 (i : Int)
 | 0, a, x, h => by simp [kvL] at h
 | m + 1, a, x, h => by
  rw [kvL] at h
  split at h
  ·rcases List.mem_cons.1 h with rfl | h
   ·exact ⟨a, Nat.le_refl _, by omega, rfl⟩
   ·obtain ⟨i, h1, h2, h3⟩ := ziR h; exact ⟨i, by omega, by omega, h3⟩
  ·obtain ⟨i, h1, h2, h3⟩ := ziR h; exact ⟨i, by omega, by omega, h3⟩
theorem zfW (a b : Nat) : Lit.sameKey (.int .i64 (a : Int)) (.int .i64 (b : Int)) = decide (a = b) := by
 simp only [Lit.sameKey, true_and]
 by_cases h : a = b
 ·simp [h]
 ·have : ¬ ((a : Int) = b) := by omega
  simp [h, this]
theorem ziS {f : Nat → Option Value} {i : Nat} : ∀ (m a : Nat), a ≤ i → i < a + m → (kvL f a m).find? (fun p => p.1.sameKey (.int .i64 (i : Int))) = (f i).map fun v => (.int .i64 (i : Int), .held v)
 | 0, a, h1, h2 => by omega
 | m + 1, a, h1, h2 => by
  have hno : ∀ (m' a' : Nat), i < a' → (kvL f a' m').find? (fun p => p.1.sameKey (.int .i64 (i : Int))) = none := fun m' a' h => by
   rw [List.find?_eq_none]
   intro x hx
   obtain ⟨j, h3, h4, h5⟩ := ziR hx
   rw [h5, zfW]; simp; omega
  by_cases h : a = i
  ·subst h
   rw [kvL]
   cases hf : f a with
   | some v => simp only [List.find?_cons, zfW]; simp
   | none => exact hno m (a + 1) (by omega)
  ·rw [kvL]
   have ih := ziS (f := f) (i := i) m (a + 1) (by omega) (by omega)
   cases hf : f a with
   | some v => simp only [List.find?_cons, zfW]; simp [h, ih]
   | none => exact ih
def zh0 (f : Nat → Option Value) (i : Nat) (v : Option Value) : Nat → Option Value := fun j => if j = i then v else f j
theorem zkK {f : Nat → Option Value} {i : Nat} : ∀ (m a : Nat), (kvL f a m).filter (fun p => !p.1.sameKey (.int .i64 (i : Int))) = kvL (zh0 f i none) a m
 | 0, a => rfl
 | m + 1, a => by
  have ih := zkK (f := f) (i := i) m (a + 1)
  rw [kvL, kvL]
  by_cases h : a = i
  ·rw [show zh0 f i none a = none from if_pos h]
   cases hf : f a with
   | some v => subst h; simp only [List.filter_cons, zfW]; simpa using ih
   | none => exact ih
  ·rw [show zh0 f i none a = f a from if_neg h]
   cases hf : f a with
   | some v => simp only [List.filter_cons, zfW]; simp [h, ih]
   | none => exact ih
theorem zm9 {f : Nat → Option Value} {i : Nat} {v : Value} : ∀ (m a : Nat), f i = none → a ≤ i → i < a + m → DataW.insert (.int .i64 (i : Int), .held v) (kvL f a m) = kvL (zh0 f i (some v)) a m
 | 0, a, _, h1, h2 => by omega
 | m + 1, a, hn, h1, h2 => by
  rw [kvL, kvL]
  by_cases h : a = i
  ·subst h
   rw [show zh0 f a (some v) a = some v from if_pos rfl, hn]
   have e : kvL (zh0 f a (some v)) (a + 1) m = kvL f (a + 1) m := zhi m (a + 1) fun j h3 h4 => if_neg (by omega)
   simp only [e]
   cases hk : kvL f (a + 1) m with
   | nil => rfl
   | cons y r =>
    obtain ⟨j, h3, h4, h5⟩ := ziR (f := f) (x := y) (m := m) (a := a + 1) (by rw [hk]; exact List.mem_cons_self ..)
    rw [DataW.insert]
    rw [if_pos (by rw [h5]; simp [Lit.before]; omega)]
  ·rw [show zh0 f i (some v) a = f a from if_neg h]
   have ih := zm9 (f := f) (i := i) (v := v) m (a + 1) hn (by omega) (by omega)
   cases hf : f a with
   | some u =>
    simp only
    rw [DataW.insert, if_neg (by simp [Lit.before]; omega), ih]
   | none => exact ih
def RH : Value → Option (DataW Value × List MemPlace) := fun v => some (.held v, [])
def MapAt (P : Program) (k : TypeId) (w : World) (m N : Nat) (f : Nat → Option Value) : Prop := w.ownsMap P k RH m N (.map (kvL f 0 N))
theorem ziT {P : Program} {k : TypeId} {R : Value → Option (DataW Value × List MemPlace)} {w : World} {b n N : Nat} {es : List (Lit × DataW Value)} (h : w.ownsMap P k R b n (.map es)) (hN : es.length ≤ N) : w.ownsMap P k R b N (.map es) := by
 obtain ⟨e, clock, hb, F, hs, hD⟩ := h
 refine ⟨e, clock, hb, F, ?_, hD⟩
 have h1 : es = (e.toList.map (Go.WideElems.rg P k R)).foldr DataW.insert [] := by injection hD
 have h2 := length_sorted (e.toList.map (Go.WideElems.rg P k R))
 rw [← h1] at h2
 simp at h2
 omega
namespace MapAt
variable {P : Program} {k : TypeId} {w w' : World} {m N : Nat} {f : Nat → Option Value}
theorem lt (h : MapAt P k w m N f) : m < w.heap.size := World.ownsMap.lt h
theorem same (h : MapAt P k w m N f) (he : w'.heap[m]? = w.heap[m]?) : MapAt P k w' m N f := by
 obtain ⟨es, clock, hb, r⟩ := h
 exact ⟨es, clock, he.trans hb, r⟩
theorem kpd {M : List Nat} (h : MapAt P k w m N f) (hk : Kp M w w') (hM : m ∉ M) : MapAt P k w' m N f := h.same (hk.block m h.lt hM)
theorem new (h : MapAt P k w m N f) (hb : Below w.heap.size w w') : MapAt P k w' m N f := h.kpd (M := []) (Kp.of_below hb) (fun h => by cases h)
theorem only {g : Nat} (h : MapAt P k w m N f) (ho : Only g w w') (hg : m ≠ g) : MapAt P k w' m N f := h.kpd (Kp.zbx ho) (by simpa using hg)
theorem own {base e sz n : Nat} {v : Value} {xs : List Value} (h : MapAt P k w m N f) (ho : zaJ w base e sz v n xs) (hg : w.grownBy w' v.ownBlock) (hk : m < base) : MapAt P k w' m N f := h.kpd (Kp.zba hg) fun hm => by
 have := (ho.lt m (Option.mem_toList.1 hm)).1; omega
end MapAt
structure KpB (M : List Nat) (w0 w : World) : Prop where
 k : Kp M w0 w
namespace KpB
variable {M : List Nat} {w0 w w' : World}
theorem refl (M : List Nat) (w : World) : KpB M w w := ⟨Kp.refl M w⟩
theorem kpd {N : List Nat} (h : KpB M w0 w) (k : Kp N w w') (hN : ∀ g, g ∈ N → g ∈ M ∨ w0.heap.size ≤ g) : KpB M w0 w' :=
 ⟨⟨k.os.trans h.k.os, k.tape.trans h.k.tape, k.output.trans h.k.output, Nat.le_trans h.k.size k.size, fun b hb hm => by
  rw [k.block b (Nat.lt_of_lt_of_le hb h.k.size) fun hn => ?_]
  ·exact h.k.block b hb hm
  ·rcases hN b hn with e | e
   ·exact hm e
   ·omega⟩⟩
theorem new (h : KpB M w0 w) (hb : Below w.heap.size w w') : KpB M w0 w' := h.kpd (N := []) (Kp.of_below hb) (fun g hm => by cases hm)
theorem only {g : Nat} (h : KpB M w0 w) (ho : Only g w w') (hg : g ∈ M ∨ w0.heap.size ≤ g) : KpB M w0 w' := h.kpd (Kp.zbx ho) fun g' hm => by
 have : g' = g := by simpa using hm
 rw [this]; exact hg
theorem own {base e sz m : Nat} {v : Value} {xs : List Value} (h : KpB M w0 w) (ho : zaJ w base e sz v m xs) (hg : w.grownBy w' v.ownBlock) (hk : w0.heap.size ≤ base) : KpB M w0 w' :=
 h.kpd (Kp.zba hg) fun g hm => Or.inr (Nat.le_trans hk (ho.lt g (Option.mem_toList.1 hm)).1)
end KpB
theorem zfA {w w' : World} {b : Nat} (h : w.mapTurned w' b) : Only b w w' := by
 obtain ⟨es, clock, es', clock', hb, rfl⟩ := h
 exact ⟨rfl, rfl, rfl, by simp [Go.ChangeMaps.setBlock], fun k hk => Go.ChangeMaps.heap_setBlock_other hb _ hk⟩
section
variable {P : Program} {ρ : Env} {w : World} {d : Option Nat} {ty : TypeId} {pos : String} {af : Array Edge} {gd : Option (Nat × Bool)} {K : Value → World → Prop} {Kw : World → Prop}
theorem zls {t t' : Nat} {x y : Operand} {a : Addr} (ht : ptrT P t = true) (hx : ev ρ x = .pointer (some a)) (hy : ev ρ y = .pointer none) : (execOp (ev ρ) ⟨d, .binOp .neq t x y t', ty, pos, af, gd⟩).run P w = .ok (.value (.bool true)) w := by
 have := zjB (w := w) ht 9999 a
 simp [execOp, hx, hy, eqGuard, binOp, Op.equal, Op.maxDepth, this, Result.andThen]
theorem zlt {i : Nat} (h : i < 9223372036854775808) : (Lit.int .i64 (i : Int)).wf = true := by
 have e1 : IntKind.i64.min = -9223372036854775808 := by decide
 have e2 : IntKind.i64.max = 9223372036854775807 := by decide
 simp [Lit.wf, e1, e2]; omega
theorem zmj {t k e : TypeId} {x y : Operand} {m N : Nat} {f : Nat → Option Value} {a : Int} (z : Value) (ht : P.underlying t = some (.map k e)) (hk : P.underlying k = some (.int .i64)) (hz : ∀ w, (zeroValue e).run P w = .ok z w)
  (hm : MapAt P k w m N f) (hx : ev ρ x = .map (some m)) (hy : ev ρ y = .int .i64 a) (i : Nat) (ha : a = (i : Int)) (hi : i < N) (hN : N ≤ 1000000) :
  (execOp (ev ρ) ⟨d, .lookup t x y false, ty, pos, af, gd⟩).run P w = .ok (.value ((f i).getD z)) w := by
 subst ha
 obtain ⟨v, ps, hr, hv⟩ := World.ownsMap.lookup hm (int_keyed hk) ht (hz w) (zd := .held z) (zp := []) rfl (keyOf_int_mk hk (zlt (i := i) (by omega)))
 have e : DataW.atKey (.map (kvL f 0 N)) (.int .i64 (i : Int)) (.held z) = .held ((f i).getD z) := by
  unfold DataW.atKey
  simp only [ziS N 0 (Nat.zero_le _) (by omega : i < 0 + N)]
  cases f i <;> rfl
 rw [e] at hv
 have : v = (f i).getD z := by
  have h1 : (some (DataW.held v, ([] : List MemPlace))) = some (.held ((f i).getD z), ps) := hv
  injection h1 with h1
  injection h1 with h1 h2
  injection h1
 subst this
 simp [execOp, hx, hy, hr, Result.andThen]
theorem zdw {t k e : TypeId} {x y : Operand} {m N : Nat} {f : Nat → Option Value} {a : Int} {v : Value} (z : Value) (ht : P.underlying t = some (.map k e)) (hk : P.underlying k = some (.int .i64)) (hz : ∀ w, (zeroValue e).run P w = .ok z w)
  (hm : MapAt P k w m N f) (hx : ev ρ x = .map (some m)) (hy : ev ρ y = .int .i64 a) (i : Nat) (ha : a = (i : Int)) (hi : i < N) (hN : N ≤ 1000000) (hv : (f i).getD z = v) :
  (execOp (ev ρ) ⟨d, .lookup t x y false, ty, pos, af, gd⟩).run P w = .ok (.value v) w := by
 rw [← hv]; exact zmj z ht hk hz hm hx hy i ha hi hN
theorem zeW {t k e : TypeId} {x y u : Operand} {m N : Nat} {f : Nat → Option Value} {a : Int} (v : Value) (ht : P.underlying t = some (.map k e)) (hk : P.underlying k = some (.int .i64))
  (hm : MapAt P k w m N f) (hx : ev ρ x = .map (some m)) (hy : ev ρ y = .int .i64 a) (hu : ev ρ u = v) (i : Nat) (ha : a = (i : Int)) (hi : i < N) (hN : N ≤ 1000000)
  (h : ∀ w', MapAt P k w' m N (zh0 f i (some v)) → Only m w w' → Kw w') : Sk P ρ w ⟨d, .mapUpdate t x y u, ty, pos, af, gd⟩ Kw := by
 subst ha
 obtain ⟨w', hr, h1, h2⟩ := World.ownsMap.store hm (int_keyed hk) ht (by unfold maxLen; omega) (keyOf_int_mk hk (zlt (i := i) (by omega))) (val := v) (d := .held v) (ps := []) rfl
 refine ⟨w', ?_, h w' ?_ (zfA h2)⟩
 ·simp [execOp, hx, hy, hu, hr, Result.andThen]
 ·have e : DataW.put (.map (kvL f 0 N)) (.int .i64 (i : Int)) (.held v) = .map (kvL (zh0 f i (some v)) 0 N) := by
   unfold DataW.put
   simp only [zkK]
   rw [zm9 N 0 (if_pos rfl) (Nat.zero_le _) (by omega)]
   congr 1
   exact zhi N 0 fun j _ _ => by unfold zh0; split <;> rfl
  rw [e] at h1
  exact ziT h1 (ziQ _ _ _)
theorem zjC {t k e : TypeId} {x y : Operand} {m N : Nat} {f : Nat → Option Value} {a : Int} (ht : P.underlying t = some (.map k e)) (hk : P.underlying k = some (.int .i64))
  (hm : MapAt P k w m N f) (hx : ev ρ x = .map (some m)) (hy : ev ρ y = .int .i64 a) (i : Nat) (ha : a = (i : Int)) (hi : i < N) (hN : N ≤ 1000000)
  (h : ∀ w', MapAt P k w' m N (zh0 f i none) → Only m w w' → K (.tuple #[]) w') : Mk P ρ w ⟨d, .call ⟨.builtin .delete, #[x, y], #[t, k]⟩, ty, pos, af, gd⟩ K := by
 subst ha
 obtain ⟨w', hr, h1, h2⟩ := World.ownsMap.drop hm (int_keyed hk) ht (keyOf_int_mk hk (zlt (i := i) (by omega))) ty
 refine ⟨_, w', ?_, h w' ?_ (zfA h2)⟩
 ·simp [execOp, resolve, invoke, builtin, hx, hy, hr, Result.andThen]
 ·have e : DataW.del (.map (kvL f 0 N)) (.int .i64 (i : Int)) = .map (kvL (zh0 f i none) 0 N) := by
   unfold DataW.del
   simp only [zkK]
  rw [e] at h1
  exact h1
theorem ziU : ∀ m a, kvL (fun _ => none) a m = []
 | 0, a => rfl
 | m + 1, a => by rw [kvL]; exact ziU m (a + 1)
theorem zgi {t k : TypeId} (N : Nat) (h : ∀ m w', w.heap.size ≤ m → MapAt P k w' m N (fun _ => none) → Below w.heap.size w w' → K (.map (some m)) w') : Mk P ρ w ⟨d, .makeMap t none, ty, pos, af, gd⟩ K := by
 refine ⟨_, _, ?_, h w.heap.size (w.alloc (.map #[] 0)) (Nat.le_refl _) ?_ (zcH w _)⟩
 ·simp only [execOp]
  first
   | rfl
   | simp [run_makeMap, Result.andThen]
 ·unfold MapAt
  rw [ziU]
  exact World.ownsMap.mono (World.ownsMap_made w P k RH) (Nat.zero_le _)
end
end Coup
namespace Go.Proofs
open Go.Shelf
def Tryz.zjD : Go.Shelf.Ren := ⟨fun | 7 => 84 | 10 => 102 | n => n, fun | 23 => 82 | 26 => 3 | 3 => 81 | 28 => 103 | 0 => 0 | 27 => 102 | 33 => 132 | 4 => 4 | n => n, fun | n => n⟩
theorem Tryz.keysA : Go.Proofs.SlLaysZI.n7 Tryz.prog Tryz.zjD := {
 mixed := by kernel_rfl
 f7 := ⟨Tryz.f84.name, by decide, Tryz.func84.trans (congrArg some (by kernel_rfl))⟩
 f10 := ⟨Tryz.f102.name, by decide, Tryz.func102.trans (congrArg some (by kernel_rfl))⟩
 t0 := Tryz.underlying0
 a0 := Tryz.isAgg0
 z0 := Tryz.sizeOf0
 v0 := Tryz.zeroValue0
 t4 := Tryz.underlying4
 a4 := Tryz.isAgg4
 z4 := Tryz.sizeOf4
 v4 := Tryz.zeroValue4
 t23 := Tryz.underlying82
 a23 := Tryz.isAgg82
 z23 := Tryz.sizeOf82
 v23 := Tryz.zeroValue82
 t26 := Tryz.underlying3
 a26 := Tryz.isAgg3
 z26 := Tryz.sizeOf3
 v26 := Tryz.zeroValue3
 t27 := Tryz.underlying102
 a27 := Tryz.isAgg102
 z27 := Tryz.sizeOf102
 v27 := Tryz.zeroValue102
 t28 := Tryz.underlying103
 a28 := Tryz.isAgg103
 z28 := Tryz.sizeOf103
 v28 := Tryz.zeroValue103
 t33 := Tryz.underlying132
 a33 := Tryz.isAgg132
 z33 := Tryz.sizeOf132
 v33 := Tryz.zeroValue132 }
def Tryz.zhj : Go.Shelf.Ren := ⟨fun | 6 => 63 | 8 => 88 | 9 => 89 | 11 => 103 | 13 => 105 | 12 => 104 | 23 => 119 | 24 => 120 | 14 => 110 | 15 => 111 | 16 => 112 | 17 => 113 | 18 => 114 | 19 => 115 | 20 => 116 | 21 => 117 | 22 => 118 | 25 => 125 | 26 => 126 | 27 => 127 | 28 => 128 | 29 => 129 | 30 => 130 | 31 => 131 | n => n, fun | 26 => 3 | 28 => 103 | 24 => 40 | 0 => 0 | 3 => 3 | 37 => 133 | 48 => 168 | 50 => 105 | 4 => 4 | 40 => 161 | 39 => 160 | 45 => 165 | 5 => 5 | 9 => 9 | 51 => 174 | 55 => 178 | 57 => 180 | 58 => 181 | 33 => 132 | n => n, fun | n => n⟩
theorem Tryz.zna : Go.Proofs.SlLaysZI.n6 Tryz.prog Tryz.zhj := {
 mixed := by kernel_rfl
 f6 := ⟨Tryz.f63.name, by decide, Tryz.func63.trans (congrArg some (by kernel_rfl))⟩
 f8 := ⟨Tryz.f88.name, by decide, Tryz.func88.trans (congrArg some (by kernel_rfl))⟩
 f11 := ⟨Tryz.f103.name, by decide, Tryz.func103.trans (congrArg some (by kernel_rfl))⟩
 t0 := Tryz.underlying0
 a0 := Tryz.isAgg0
 z0 := Tryz.sizeOf0
 v0 := Tryz.zeroValue0
 t24 := Tryz.underlying40
 a24 := Tryz.isAgg40
 z24 := Tryz.sizeOf40
 v24 := Tryz.zeroValue40
 t26 := Tryz.underlying3
 a26 := Tryz.isAgg3
 z26 := Tryz.sizeOf3
 v26 := Tryz.zeroValue3
 t28 := Tryz.underlying103
 a28 := Tryz.isAgg103
 z28 := Tryz.sizeOf103
 v28 := Tryz.zeroValue103
 i26 := by kernel_rfl }
def Tryz.znb : Go.Shelf.Ren := ⟨fun | 5 => 89 | 8 => 105 | 7 => 104 | 19 => 119 | 20 => 120 | 10 => 110 | 11 => 111 | 12 => 112 | 13 => 113 | 14 => 114 | 15 => 115 | 16 => 116 | 17 => 117 | 18 => 118 | 30 => 125 | 31 => 126 | 32 => 127 | 33 => 128 | 34 => 129 | 35 => 130 | 40 => 131 | n => n, fun | 23 => 40 | 25 => 3 | 3 => 3 | 32 => 133 | 22 => 40 | 0 => 0 | 44 => 168 | 46 => 105 | 4 => 4 | 36 => 161 | 35 => 160 | 41 => 165 | 5 => 5 | 9 => 9 | 53 => 174 | 57 => 178 | 63 => 180 | 64 => 181 | n => n, fun | n => n⟩
theorem Tryz.sortA : Go.Proofs.SlLaysM.n5 Tryz.prog Tryz.znb := {
 mixed := by kernel_rfl
 f5 := ⟨Tryz.f89.name, by decide, Tryz.func89.trans (congrArg some (by kernel_rfl))⟩
 f7 := ⟨Tryz.f104.name, by decide, Tryz.func104.trans (congrArg some (by kernel_rfl))⟩
 f8 := Tryz.func105.trans (congrArg some (by kernel_rfl))
 f10 := ⟨Tryz.f110.name, by decide, Tryz.func110.trans (congrArg some (by kernel_rfl))⟩
 f11 := ⟨Tryz.f111.name, by decide, Tryz.func111.trans (congrArg some (by kernel_rfl))⟩
 f12 := ⟨Tryz.f112.name, by decide, Tryz.func112.trans (congrArg some (by kernel_rfl))⟩
 f13 := ⟨Tryz.f113.name, by decide, Tryz.func113.trans (congrArg some (by kernel_rfl))⟩
 f14 := ⟨Tryz.f114.name, by decide, Tryz.func114.trans (congrArg some (by kernel_rfl))⟩
 f15 := ⟨Tryz.f115.name, by decide, Tryz.func115.trans (congrArg some (by kernel_rfl))⟩
 f16 := ⟨Tryz.f116.name, by decide, Tryz.func116.trans (congrArg some (by kernel_rfl))⟩
 f17 := ⟨Tryz.f117.name, by decide, Tryz.func117.trans (congrArg some (by kernel_rfl))⟩
 f18 := ⟨Tryz.f118.name, by decide, Tryz.func118.trans (congrArg some (by kernel_rfl))⟩
 f19 := Tryz.func119.trans (congrArg some (by kernel_rfl))
 f20 := Tryz.func120.trans (congrArg some (by kernel_rfl))
 f30 := ⟨Tryz.f125.name, by decide, Tryz.func125.trans (congrArg some (by kernel_rfl))⟩
 f31 := Tryz.func126.trans (congrArg some (by kernel_rfl))
 f32 := Tryz.func127.trans (congrArg some (by kernel_rfl))
 f33 := ⟨Tryz.f128.name, by decide, Tryz.func128.trans (congrArg some (by kernel_rfl))⟩
 f34 := ⟨Tryz.f129.name, by decide, Tryz.func129.trans (congrArg some (by kernel_rfl))⟩
 f35 := ⟨Tryz.f130.name, by decide, Tryz.func130.trans (congrArg some (by kernel_rfl))⟩
 f40 := ⟨Tryz.f131.name, by decide, Tryz.func131.trans (congrArg some (by kernel_rfl))⟩
 t0 := Tryz.underlying0
 a0 := Tryz.isAgg0
 z0 := Tryz.sizeOf0
 v0 := Tryz.zeroValue0
 t3 := Tryz.underlying3
 a3 := Tryz.isAgg3
 z3 := Tryz.sizeOf3
 v3 := Tryz.zeroValue3
 t4 := Tryz.underlying4
 a4 := Tryz.isAgg4
 z4 := Tryz.sizeOf4
 v4 := Tryz.zeroValue4
 t5 := Tryz.underlying5
 a5 := Tryz.isAgg5
 z5 := Tryz.sizeOf5
 v5 := Tryz.zeroValue5
 t9 := Tryz.underlying9
 a9 := Tryz.isAgg9
 z9 := Tryz.sizeOf9
 v9 := Tryz.zeroValue9
 t22 := Tryz.underlying40
 a22 := Tryz.isAgg40
 z22 := Tryz.sizeOf40
 v22 := Tryz.zeroValue40
 t23 := Tryz.underlying40
 a23 := Tryz.isAgg40
 z23 := Tryz.sizeOf40
 v23 := Tryz.zeroValue40
 t25 := Tryz.underlying3
 a25 := Tryz.isAgg3
 z25 := Tryz.sizeOf3
 v25 := Tryz.zeroValue3
 t32 := Tryz.underlying133
 a32 := Tryz.isAgg133
 z32 := Tryz.sizeOf133
 v32 := Tryz.zeroValue133
 t35 := Tryz.underlying160
 a35 := Tryz.isAgg160
 z35 := Tryz.sizeOf160
 v35 := Tryz.zeroValue160
 t36 := Tryz.underlying161
 a36 := Tryz.isAgg161
 z36 := Tryz.sizeOf161
 v36 := Tryz.zeroValue161
 t41 := Tryz.underlying165
 a41 := Tryz.isAgg165
 z41 := Tryz.sizeOf165
 v41 := Tryz.zeroValue165
 t44 := Tryz.underlying168
 a44 := Tryz.isAgg168
 z44 := Tryz.sizeOf168
 v44 := Tryz.zeroValue168
 t46 := Tryz.underlying105
 a46 := Tryz.isAgg105
 z46 := Tryz.sizeOf105
 v46 := Tryz.zeroValue105
 t53 := Tryz.underlying174
 a53 := Tryz.isAgg174
 z53 := Tryz.sizeOf174
 v53 := Tryz.zeroValue174
 t57 := Tryz.underlying178
 a57 := Tryz.isAgg178
 z57 := Tryz.sizeOf178
 v57 := Tryz.zeroValue178
 t63 := Tryz.underlying180
 a63 := Tryz.isAgg180
 z63 := Tryz.sizeOf180
 v63 := Tryz.zeroValue180
 t64 := Tryz.underlying181
 a64 := Tryz.isAgg181
 z64 := Tryz.sizeOf181
 v64 := Tryz.zeroValue181 }
end Go.Proofs
namespace Go.Proofs.YtielfpkjoidomaaGreat
open Go Go.RowKit Go.Maps Go.Sort Go.Shelf Coup
theorem sortsA (m : Nat) : AnyZI.SortsIn Tryz.prog Tryz.zhj Fence.wide m :=
 ⟨fun blk off cap ss W hH hblk hsz => callsIn_wide.2 (AnyM.slices_Sort_int Tryz.sortA blk off cap ss W hH hblk hsz),
  fun p cap W => callsIn_wide.2 (AnyM.slices_Sort_int_none Tryz.sortA p cap W)⟩
def keysOf (f : Nat → Option Value) : Nat → Nat → List Int
 | _, 0 => []
 | a, m + 1 => if (f a).isSome then (a : Int) :: keysOf f (a + 1) m else keysOf f (a + 1) m
theorem zhk {f : Nat → Option Value} : ∀ {m a : Nat} {x : Int}, x ∈ keysOf f a m → (a : Int) ≤ x ∧ x < a + m
 | 0, a, x, h => by simp [keysOf] at h
 | m + 1, a, x, h => by
  rw [keysOf] at h
  split at h
  ·rcases List.mem_cons.1 h with rfl | h
   ·omega
   ·have := zhk h; omega
  ·have := zhk h; omega
theorem zfB (f : Nat → Option Value) : ∀ (m a : Nat), (keysOf f a m).Pairwise (fun x y => leI x y = true)
 | 0, a => List.Pairwise.nil
 | m + 1, a => by
  rw [keysOf]
  split
  ·refine List.Pairwise.cons (fun y hy => ?_) (zfB f m (a + 1))
   have := zhk hy
   simp [leI]; omega
  ·exact zfB f m (a + 1)
theorem zfe (f : Nat → Option Value) : ∀ (m a : Nat), intKeys (DataW.map (kvL f a m)) = keysOf f a m
 | 0, a => rfl
 | m + 1, a => by
  have ih := zfe f m (a + 1)
  unfold intKeys at ih ⊢
  simp only [kvL, keysOf]
  cases hf : f a with
  | some v => simp only [List.map_cons, ih]; rfl
  | none => simpa using ih
theorem zfX (f : Nat → Option Value) (m a : Nat) {ss : List Int} (h : ss.Perm (intKeys (DataW.map (kvL f a m)))) : ss.mergeSort (fun x y => decide (x ≤ y)) = keysOf f a m := by
 rw [zfe] at h
 have h1 : ss.mergeSort leI = (keysOf f a m).mergeSort leI := mergeSort_of_perm_i h
 have h2 : (keysOf f a m).mergeSort leI = keysOf f a m := List.mergeSort_of_pairwise (zfB f m a)
 exact h1.trans h2
theorem keysC (mb : Option Nat) (w : World) : Calls Tryz.prog 84 [.map mb].toArray w (Ret fun v w' => v = .func (.func 102) #[] #[.pointer (some ⟨w.heap.size, 0, none⟩)] ∧ w' = w.alloc (.cells #[.map mb] 82) ∧ Below w.heap.size w w') := by
 have h : CallsIn Fence.wide 5 Tryz.prog 84 #[.map mb] w fun e w' => e = .returned (.func (.func 102) #[] #[.pointer (some ⟨w.heap.size, 0, none⟩)]) ∧ w' = w.alloc (.cells #[.map mb] 82) := AnyZI.keys_in Tryz.keysA Fence.wide 5 trivial rfl mb w
 refine (callsIn_wide.1 h).mono ?_
 rintro e w' ⟨rfl, rfl⟩
 exact ⟨_, rfl, rfl, rfl, (Below.refl _ w).alloc (Nat.le_refl _) _⟩
theorem sortedC {b N : Nat} {f : Nat → Option Value} (w W : World) (hW : W = w.alloc (.cells #[.map (some b)] 82)) (h : MapAt Tryz.prog 3 w b N f) (hN : N ≤ 1000000) :
  Calls Tryz.prog 63 [.func (.func 102) #[] #[.pointer (some ⟨w.heap.size, 0, none⟩)]].toArray W (Ret fun v w' => ∃ p c, v = .slice p (keysOf f 0 N).length c ∧ za9 w' p (keysOf f 0 N).length 1 (iv (keysOf f 0 N)) ∧ (∀ b o, p = some ⟨b, o, none⟩ → W.heap.size ≤ b) ∧ Below W.heap.size W w') := by
 subst hW
 have hbl := h.lt
 have hle := ziQ f N 0
 have hml : maxLen = 9223372036854775807 := by decide
 have hsz : Maps.size (DataW.map (kvL f 0 N)) ≤ N := hle
 have hown : (w.alloc (.cells #[.map (some b)] 82)).ownsMap Tryz.prog 3 RH b N (.map (kvL f 0 N)) := by
  obtain ⟨es, clock, hb, Ft, hs, hD⟩ := h
  exact ⟨es, clock, (Below.heap_alloc _ _ b hbl).trans hb, Ft, hs, hD⟩
 have hseq : SeqGives Fence.wide 2 Tryz.prog 102 #[.pointer (some ⟨w.heap.size, 0, none⟩)] encZ (fun ss => ss.Perm (intKeys (DataW.map (kvL f 0 N)))) (Maps.size (DataW.map (kvL f 0 N))) (w.alloc (.cells #[.map (some b)] 82)) :=
  AnyZI.keys_gives (ρ := Tryz.zjD) { Tryz.keysA with } Fence.wide _ trivial rfl (by omega) w.heap.size b N _ _ (by simp) (by simp) hown
 have cS := AnyZI.sorted_in Tryz.zna Fence.wide 5 trivial trivial trivial trivial rfl (by omega) (sortsA _) (enters_of Tryz.func89 (by kernel_rfl) rfl) 102 #[.pointer (some ⟨w.heap.size, 0, none⟩)] trivial (enters_of Tryz.func102 (by kernel_rfl) rfl) _ _ (by omega) (by omega) _ hseq
 change CallsIn _ _ Tryz.prog 63 _ _ _ at cS
 refine (callsIn_wide.1 cS).mono ?_
 rintro e w' ⟨v, ss, rfl, hS, hrow, hnil, hb⟩
 have hlen : ss.length = (keysOf f 0 N).length := by rw [← zfe, hS.length_eq]
 rw [zfX f N 0 hS, hlen] at hrow
 have ho := zfP hrow
 obtain ⟨p, c, rfl⟩ := ho.form
 exact ⟨_, rfl, p, c, rfl, ho.sl, fun b o e => (ho.lt b (by rw [e]; rfl)).1, hb⟩
end Go.Proofs.YtielfpkjoidomaaGreat
namespace Go.Proofs.YtielfpkjoidomaaGreat
open Go Go.RowKit Coup
abbrev Sec := List UInt8
structure Dk where
 V : List (List Sec)
 left : Int
 dead : Bool
def Dk.n (D : Dk) : Nat := D.V.length
def zbv : Sec := List.replicate 128 0
def zbV (L : List Sec) : Prop := ∀ s ∈ L, s.length = 128
structure zcG (D : Dk) : Prop where
 n : D.V.length ≤ 8192
 ne : ∀ v ∈ D.V, v ≠ []
 sec : ∀ v ∈ D.V, zbV v
 short : ∀ v ∈ D.V, v.length ≤ 100000
def ver (D : Dk) (i : Nat) : List Sec := D.V.getD i []
def zeX (v : List Sec) : Sec := v.getLastD zbv
def zfC (v : List Sec) : Sec := v.headD zbv
def zaB (D : Dk) (i : Nat) : Sec := zeX (ver D i)
def za3 (D : Dk) : Bool := !(D.dead || D.left == 0)
def zcs (D : Dk) : Dk := if za3 D then { D with left := if 0 < D.left then D.left - 1 else D.left } else { D with dead := true }
def zh1 (D : Dk) (i : Nat) (v : List Sec) : Dk := { D with V := D.V.set i v }
def zfo (D : Dk) (i : Nat) (s : Sec) : Dk := if za3 D then zh1 (zcs D) i (ver D i ++ [s]) else zcs D
def zbe (D : Dk) : Dk := if za3 D then { zcs D with V := D.V.map fun v => [zeX v] } else zcs D
def zbX (D : Dk) (i : Nat) : Bool := decide (1 < (ver D i).length)
def zh5 (a b : Sec) : Sec := a.take 64 ++ b.drop 64
def zgG (v : List Sec) (k : Nat) : Sec := if k % 2 = 1 then v.getD ((k + 1) / 2) zbv else if k = 0 then zfC v else zh5 (v.getD (k / 2) zbv) (v.getD (k / 2 - 1) zbv)
def zgj (v : List Sec) (pick : Int) : Sec := zgG v (pick % ((2 * v.length - 1 : Nat) : Int)).toNat
def opN (D : Dk) : List Nat := (List.range D.V.length).filter (zbX D)
theorem zfY {L : List Sec} (h : zbV L) : L.flatten.length = L.length * 128 := by
 induction L with
 | nil => rfl
 | cons s L ih =>
  rw [List.flatten_cons, List.length_append, ih (fun x hx => h x (List.mem_cons_of_mem _ hx)), h s (List.mem_cons_self ..), List.length_cons]; omega
theorem ziV {L : List Sec} (h : zbV L) {i : Nat} {s : Sec} (hs : L[i]? = some s) : (L.flatten.drop (i * 128)).take 128 = s := by
 induction L generalizing i with
 | nil => simp at hs
 | cons t L ih =>
  have ht := h t (List.mem_cons_self ..)
  cases i with
  | zero =>
   have : t = s := by simpa using hs
   rw [Nat.zero_mul, List.drop_zero, List.flatten_cons, this, List.take_left' (this ▸ ht)]
  | succ i =>
   have hs' : L[i]? = some s := by simpa using hs
   rw [List.flatten_cons, show (i + 1) * 128 = t.length + i * 128 by omega, List.drop_append, show (t.drop (t.length + i * 128)) = [] from List.drop_of_length_le (by omega), List.nil_append, show t.length + i * 128 - t.length = i * 128 by omega]
   exact ih (fun x hx => h x (List.mem_cons_of_mem _ hx)) hs'
theorem zoE {L : List Sec} (h : zbV L) {i : Nat} {s : Sec} (hi : i < L.length) (hs : s.length = 128) : splice (bv L.flatten) (i * 128) (bv s) = bv (L.set i s).flatten := by
 have e : ∀ (L : List Sec) (i : Nat), zbV L → i < L.length → (L.set i s).flatten = L.flatten.take (i * 128) ++ (s ++ L.flatten.drop (i * 128 + 128)) := by
  intro L
  induction L with
  | nil => intro i _ h; simp at h
  | cons t L ih =>
   intro i h hi
   have ht := h t (List.mem_cons_self ..)
   cases i with
   | zero =>
    rw [List.set_cons_zero, List.flatten_cons, List.flatten_cons, Nat.zero_mul, List.take_zero, List.nil_append, Nat.zero_add, List.drop_left' ht]
   | succ i =>
    have ih' := ih i (fun x hx => h x (List.mem_cons_of_mem _ hx)) (by simpa using hi)
    have e1 : ∀ (X : List UInt8) (k : Nat), (t ++ X).take (t.length + k) = t ++ X.take k := fun X k => by rw [List.take_append, List.take_of_length_le (l := t) (Nat.le_add_right _ _), Nat.add_sub_cancel_left]
    have e2 : ∀ (X : List UInt8) (k : Nat), (t ++ X).drop (t.length + k) = X.drop k := fun X k => by rw [List.drop_append, List.drop_of_length_le (l := t) (Nat.le_add_right _ _), Nat.add_sub_cancel_left, List.nil_append]
    rw [List.set_cons_succ, List.flatten_cons, ih', List.flatten_cons, show (i + 1) * 128 = t.length + i * 128 by omega, show t.length + i * 128 + 128 = t.length + (i * 128 + 128) by omega, e1, e2, List.append_assoc]
 rw [e L i h hi]
 simp only [splice, bv, List.map_append, List.map_take, List.map_drop, List.length_map, hs]
theorem zbV.set {L : List Sec} (h : zbV L) {i : Nat} {s : Sec} (hs : s.length = 128) : zbV (L.set i s) := fun x hx => by
 rcases List.mem_or_eq_of_mem_set hx with e | e
 ·exact h x e
 ·rw [e]; exact hs
def zdH (D : Dk) : List Sec := D.V.map zfC
theorem zgX {D : Dk} (h : zcG D) : zbV (zdH D) := fun s hs => by
 obtain ⟨v, hv, rfl⟩ := List.mem_map.1 hs
 obtain ⟨a, l, rfl⟩ := List.exists_cons_of_ne_nil (h.ne v hv)
 exact h.sec _ hv a (List.mem_cons_self ..)
theorem zhl {D : Dk} {i : Nat} (hi : i < D.V.length) : D.V[i]? = some (ver D i) := by
 rw [ver, List.getD_eq_getElem?_getD, List.getElem?_eq_getElem hi]; rfl
theorem zdI {D : Dk} (h : zcG D) {i : Nat} (hi : i < D.V.length) : ver D i ≠ [] ∧ zbV (ver D i) ∧ (ver D i).length ≤ 100000 := by
 have hm := List.mem_of_getElem? (zhl hi)
 exact ⟨h.ne _ hm, h.sec _ hm, h.short _ hm⟩
theorem ziW {D : Dk} {i : Nat} (hi : i < D.V.length) : (zdH D)[i]? = some (zfC (ver D i)) := by
 rw [zdH, List.getElem?_map, zhl hi]; rfl
theorem tail_ok {v : List Sec} (h : zbV v) : zbV v.tail := fun s hs => h s (List.mem_of_mem_tail hs)
theorem zfZ {v : List Sec} (h : zbV v) : (zeX v).length = 128 := by
 unfold zeX
 rcases List.eq_nil_or_concat v with rfl | ⟨l, s, rfl⟩
 ·simp [zbv]
 ·rw [List.concat_eq_append] at h ⊢
  rw [List.getLastD_concat]
  exact h s (by simp)
theorem zlu {v : List Sec} (h : zbV v) : (zfC v).length = 128 := by
 cases v with
 | nil => simp [zfC, zbv]
 | cons s l => exact h s (List.mem_cons_self ..)
theorem zmk {v : List Sec} (h : 1 < v.length) : v.tail[v.length - 2]? = some (zeX v) := by
 rcases List.eq_nil_or_concat v with rfl | ⟨l, s, rfl⟩
 ·simp at h
 ·rw [List.concat_eq_append] at h ⊢
  cases l with
  | nil => simp at h
  | cons a l =>
   rw [zeX, List.getLastD_concat]
   simp
theorem znc {v : List Sec} (h : v.length = 1) : zeX v = zfC v := by
 obtain ⟨a, rfl⟩ := List.length_eq_one_iff.1 h
 rfl
def since (D : Dk) (sv : Nat → Value) : Nat → Option Value := fun i => if zbX D i then some (sv i) else none
structure DkM (w : World) (g pl m : Nat) (G : List Nat) (D : Dk) (ol cl : Nat) (st : Int) (fu : Bool) (sv : Nat → Value) : Prop where
 row : Coup.row w g [.slice (some ⟨pl, ol, none⟩) D.V.length cl, .map (some m), .int .i64 st, .bool fu, .bool D.dead] 84
 own : zeV w 0 94 128 pl ol D.V.length cl (bv (zdH D).flatten)
 map : MapAt Tryz.prog 3 w m D.V.length (since D sv)
 sv : ∀ i, zbX D i = true → ∃ p c, sv i = .slice p ((ver D i).length - 1) c ∧ za9 w p ((ver D i).length - 1) 128 (bv (ver D i).tail.flatten) ∧ ∀ b o, p = some ⟨b, o, none⟩ → b ∈ G
 inG : ∀ b ∈ G, b < w.heap.size
 ne : g ≠ pl ∧ g ≠ m ∧ pl ≠ m ∧ ∀ b ∈ G, b ≠ g ∧ b ≠ pl ∧ b ≠ m
 left : 0 ≤ st ∧ st ≤ 9223372036854775807 ∧ D.left = (if fu then st else -1)
 ok : zcG D
 pos : 0 < D.V.length
namespace DkM
variable {w w' : World} {g pl m : Nat} {G : List Nat} {D : Dk} {ol cl : Nat} {st : Int} {fu : Bool} {sv : Nat → Value}
theorem kpd {M : List Nat} (h : DkM w g pl m G D ol cl st fu sv) (k : Kp M w w') (hM : g ∉ M ∧ pl ∉ M ∧ m ∉ M ∧ ∀ b ∈ G, b ∉ M) : DkM w' g pl m G D ol cl st fu sv :=
 ⟨h.row.kpd k hM.1, h.own.kpd k hM.2.1, h.map.kpd k hM.2.2.1, fun i hi => by
  obtain ⟨p, c, h1, h2, h3⟩ := h.sv i hi
  exact ⟨p, c, h1, h2.kpd k fun b o e => hM.2.2.2 b (h3 b o e), h3⟩, fun b hb => Nat.lt_of_lt_of_le (h.inG b hb) k.size, h.ne, h.left, h.ok, h.pos⟩
theorem new (h : DkM w g pl m G D ol cl st fu sv) (hb : Below w.heap.size w w') : DkM w' g pl m G D ol cl st fu sv := h.kpd (M := []) (Kp.of_below hb) (by simp)
theorem look (h : DkM w g pl m G D ol cl st fu sv) (i : Nat) (hi : i < D.V.length) : ∃ p c, (since D sv i).getD (.slice none 0 0) = .slice p ((ver D i).length - 1) c ∧ za9 w p ((ver D i).length - 1) 128 (bv (ver D i).tail.flatten) ∧ ∀ b o, p = some ⟨b, o, none⟩ → b ∈ G := by
 by_cases ho : zbX D i = true
 ·obtain ⟨p, c, h1, h2, h3⟩ := h.sv i ho
  exact ⟨p, c, by rw [since, if_pos ho]; exact h1, h2, h3⟩
 ·have h1 := (zdI h.ok hi).1
  have h2 : (ver D i).length = 1 := by
   have := List.length_pos_iff.2 h1
   simp only [zbX, decide_eq_true_eq] at ho
   omega
  obtain ⟨a, ha⟩ := List.length_eq_one_iff.1 h2
  refine ⟨none, 0, by rw [since, if_neg ho, h2]; rfl, ?_, fun b o e => by cases e⟩
  rw [ha]
  exact za9.nil _ _ _
theorem turn (h : DkM w g pl m G D ol cl st fu sv) (ho : Only g w w') {st' : Int} {fu' : Bool} {left' : Int} {dead' : Bool} (hr : Coup.row w' g [.slice (some ⟨pl, ol, none⟩) D.V.length cl, .map (some m), .int .i64 st', .bool fu', .bool dead'] 84)
  (hl : 0 ≤ st' ∧ st' ≤ 9223372036854775807 ∧ left' = (if fu' then st' else -1)) : DkM w' g pl m G { D with left := left', dead := dead' } ol cl st' fu' sv := by
 have k := Kp.zbx ho
 refine ⟨hr, h.own.kpd k (by simpa using Ne.symm h.ne.1), h.map.kpd k (by simpa using Ne.symm h.ne.2.1), fun i hi => ?_, fun b hb => Nat.lt_of_lt_of_le (h.inG b hb) k.size, h.ne, hl, ⟨h.ok.n, h.ok.ne, h.ok.sec, h.ok.short⟩, h.pos⟩
 obtain ⟨p, c, h1, h2, h3⟩ := h.sv i hi
 exact ⟨p, c, h1, h2.kpd k fun b o e => by simpa using (h.ne.2.2.2 b (h3 b o e)).1, h3⟩
end DkM
set_option maxRecDepth 20000 in
theorem zeY {w : World} {g pl m : Nat} {G : List Nat} {D : Dk} {ol cl : Nat} {st : Int} {fu : Bool} {sv : Nat → Value} (h : DkM w g pl m G D ol cl st fu sv) :
  Calls Tryz.prog 47 [.pointer (some ⟨g, 0, none⟩)].toArray w (Ret fun v w' => v = .int .i64 (D.V.length : Int) ∧ w = w') := by
 have hr := h.row
 refine zaw (fn := Tryz.f47) (rs := [.tmp 2]) (n := 10) Tryz.func47 rfl rfl Tryz.ntmps47 (by kernel_rfl) rfl ?_
 refine zak (zac (zaa rfl (zad) (zaf (zai (zak (zak (zac (zaa rfl (zab) ?_))))))))
 refine zaa rfl (zcF (by kernel_rfl) rfl rfl) ?_
 refine zaf (zai ?_)
 refine zln rfl (rfl) ?_
 refine zau (zai (zak (zac (zaa rfl (zab) (zaa rfl (zal rfl) (zaa rfl (zaj (off := 0) (by kernel_rfl) rfl) ?_))))))
 refine zaa rfl (zam rfl (Ld.zbb hr (by kernel_rfl) rfl)) ?_
 refine zaa rfl (zaA (e := 94) (sz := 128) (by kernel_rfl) rfl rfl) ?_
 refine zaa rfl (zad) (zaf (zai (zax ?_)))
 refine zar [_] ⟨rfl, trivial⟩ ?_
 exact ⟨rfl, rfl⟩
set_option maxRecDepth 20000 in
theorem at39 {w : World} {g pl m : Nat} {G : List Nat} {D : Dk} {ol cl : Nat} {st : Int} {fu : Bool} {sv : Nat → Value} (h : DkM w g pl m G D ol cl st fu sv) (i : Int) :
   Calls Tryz.prog 86 [.pointer (some ⟨g, 0, none⟩), .int .i64 i].toArray w (Ret fun v w' => v = .int .i64 (if 0 ≤ i ∧ i < D.V.length then 0 else 2) ∧ w = w') := by
 have hr := h.row
 have hp := h.pos
 have hS := zeY h
 refine zaw (fn := Tryz.f86) (rs := [.tmp 4]) (n := 21) Tryz.func86 rfl rfl Tryz.ntmps86 (by kernel_rfl) rfl ?_
 refine zak (zac (zaa rfl (zad) (zaf (zai (zak (zaD (zak (zac (zaa rfl (zab) ?_)))))))))
 refine zat rfl (zao (by kernel_rfl) rfl) (hS) ?_
 rintro _ _ ⟨rfl, rfl⟩
 refine zaa rfl (zbr rfl rfl) ?_
 refine zaa rfl (zad) (zaf (zai ?_))
 refine zdT rfl ((by omega)) ?_
 refine zak (zac (zaa rfl (zab) ?_))
 refine zaa rfl (zbd rfl rfl) ?_
 refine zaa rfl (zab) ?_
 refine zbJ 12 rfl (fun h0 => ?_) (fun h0 => ?_)
 ·
  refine zaE rfl rfl (zaE rfl rfl (zaE rfl rfl (zaE rfl rfl (zaE rfl rfl (zaE rfl rfl (zaE rfl rfl (zaa rfl (zay rfl) (zaa rfl (zad) (zaf (zai ?_))))))))))
  refine zkB rfl (rfl) ?_
  refine zak (zac (zaa rfl (zad) (zaf (zai (zax (za6 (zaT ?_)))))))
  refine zar [_] ⟨rfl, trivial⟩ ?_
  exact ⟨by rw [if_neg (by omega)]; rfl, rfl⟩
 ·
  refine zas rfl (zaa rfl (zab) (zas rfl (zaa rfl (zab) (zas rfl (zaa rfl (zal rfl) (zas rfl (zaa rfl (zaj (off := 0) (by kernel_rfl) rfl) (zas rfl ?_))))))))
  refine zaa rfl (zam rfl (Ld.zbb hr (by kernel_rfl) rfl)) ?_
  refine zas rfl ?_
  refine zaa rfl (zaA (e := 94) (sz := 128) (by kernel_rfl) rfl rfl) ?_
  refine zas rfl ?_
  refine zaa rfl (zeR rfl rfl) ?_
  refine zaa rfl (zaz rfl) (zaa rfl (zad) (zaf (zai ?_)))
  refine zaZ rfl (fun h1 => ?_) (fun h1 => ?_)
  ·
   refine zak (zac (zaa rfl (zad) (zaf (zai (zax (za6 (zaT ?_)))))))
   refine zar [_] ⟨rfl, trivial⟩ ?_
   exact ⟨by rw [if_neg (by omega)]; rfl, rfl⟩
  ·
   refine zau (za2 (zai (zak (zac (zaa rfl (zad) (zaf (zai (zax ?_))))))))
   refine zar [_] ⟨rfl, trivial⟩ ?_
   exact ⟨by rw [if_pos (by omega)]; rfl, rfl⟩
theorem zgk {D : Dk} (h : D.dead = true) : za3 D = false ∧ zcs D = D := by
 have h1 : za3 D = false := by unfold za3; rw [h]; rfl
 refine ⟨h1, ?_⟩
 rw [zcs, h1]
 cases D
 cases h
 rfl
set_option maxRecDepth 20000 in
theorem step36 {w : World} {g pl m : Nat} {G : List Nat} {D : Dk} {ol cl : Nat} {st : Int} {fu : Bool} {sv : Nat → Value} (h : DkM w g pl m G D ol cl st fu sv) :
   Calls Tryz.prog 92 [.pointer (some ⟨g, 0, none⟩)].toArray w (Ret fun v w' => v = .int .i64 (if za3 D then 0 else 10) ∧ (∃ st', DkM w' g pl m G (zcs D) ol cl st' fu sv) ∧ Only g w w') := by
 have hr := h.row
 obtain ⟨hl0, hl1, hl2⟩ := h.left
 refine zaw (fn := Tryz.f92) (rs := [.tmp 2]) (n := 30) Tryz.func92 rfl rfl Tryz.ntmps92 (by kernel_rfl) rfl ?_
 refine zak (zac (zaa rfl (zad) (zaf (zai (zak (zak (zac (zaa rfl (zab) (zaa rfl (zal rfl) (zaa rfl (zaj (off := 3) (by kernel_rfl) rfl) ?_))))))))))
 refine zaa rfl (zam rfl (Ld.zbb hr (by kernel_rfl) rfl)) ?_
 refine zaa rfl (zab) ?_
 refine zem 7 rfl (fun hf => ?_) (fun hf => ?_)
 ·
  refine zas rfl (zaa rfl (zab) (zas rfl (zaa rfl (zal rfl) (zas rfl (zaa rfl (zaj (off := 2) (by kernel_rfl) rfl) (zas rfl ?_))))))
  refine zaa rfl (zam rfl (Ld.zbb hr (by kernel_rfl) rfl)) ?_
  refine zas rfl ?_
  refine zaa rfl (zbr rfl rfl) ?_
  refine zaa rfl (zay rfl) (zaf (zai ?_))
  refine zaZ rfl (fun hz => ?_) (fun hz => ?_)
  ·
   refine zac (zaa rfl (zab) (zaa rfl (zal rfl) (zaa rfl (zaj (off := 4) (by kernel_rfl) rfl) ?_)))
   refine za4 rfl (zaP rfl rfl rfl rfl hr (by kernel_rfl) (by first | (simp only [List.length_replicate]; omega) | (simp only [zaM]; omega) | (simp only [zae, List.length_set]; omega) | simp) (fun w901 hr ho901 => ?_))
   refine zaf (zai (zak (zak (zac (zaa rfl (zab) (zaa rfl (zal rfl) (zaa rfl (zaj (off := 4) (by kernel_rfl) rfl) ?_)))))))
   refine zaa rfl (zam rfl (Ld.zbb hr (by kernel_rfl) rfl)) ?_
   refine zaf (zai ?_)
   refine zkB rfl (rfl) ?_
   refine zak (zac (zaa rfl (zad) (zaf (zai (zax (zaT ?_))))))
   refine zar [_] ⟨rfl, trivial⟩ ?_
   have hs : za3 D = false := by unfold za3; rw [hl2, hf, if_pos rfl, hz]; simp
   refine ⟨by rw [hs]; rfl, ⟨st, ?_⟩, ho901⟩
   have ht := h.turn ho901 (left' := D.left) (dead' := true) (fu' := fu) hr ⟨hl0, hl1, hl2⟩
   rw [zcs, hs]
   exact ht
  ·
   have hnz : D.left ≠ 0 := by rw [hl2, hf]; simpa using hz
   refine zau (zai (zak (zak (zac (zaa rfl (zab) (zaa rfl (zal rfl) (zaa rfl (zaj (off := 4) (by kernel_rfl) rfl) ?_)))))))
   refine zaa rfl (zam rfl (Ld.zbb hr (by kernel_rfl) rfl)) ?_
   refine zaf (zai ?_)
   refine zlm rfl (fun hd => ?_) (fun hd => ?_)
   ·
    refine zak (zac (zaa rfl (zad) (zaf (zai (zax (zaT ?_))))))
    refine zar [_] ⟨rfl, trivial⟩ ?_
    have hs := zgk hd
    exact ⟨by rw [hs.1]; rfl, ⟨st, by rw [hs.2]; exact h⟩, Only.refl _ _⟩
   ·
    have hs : za3 D = true := by
      unfold za3
      rw [hd]
      simp [hnz]
    refine zau (zai (zak (zac (zaa rfl (zab) (zaa rfl (zab) (zaa rfl (zal rfl) (zaa rfl (zaj (off := 2) (by kernel_rfl) rfl) ?_)))))))
    refine zaa rfl (zam rfl (Ld.zbb hr (by kernel_rfl) rfl)) ?_
    refine zaa rfl (zeQ rfl rfl (Coup.w64 (by omega))) ?_
    refine zaa rfl (zkF rfl rfl) ?_
    refine zaa rfl (zal rfl) (zaa rfl (zaj (off := 2) (by kernel_rfl) rfl) ?_)
    refine za4 rfl (zaP rfl rfl rfl rfl hr (by kernel_rfl) (by first | (simp only [List.length_replicate]; omega) | (simp only [zaM]; omega) | (simp only [zae, List.length_set]; omega) | simp) (fun w902 hr ho902 => ?_))
    refine zaf (zai (zak (zac (zaa rfl (zad) (zaf (zai (zax ?_)))))))
    refine zar [_] ⟨rfl, trivial⟩ ?_
    refine ⟨by rw [hs]; rfl, ⟨max 0 (st - 1), ?_⟩, ho902⟩
    have ht := h.turn ho902 (left' := if 0 < D.left then D.left - 1 else D.left) (dead' := D.dead) (fu' := fu) hr ⟨by omega, by omega, by rw [hl2]; cases fu <;> simp <;> omega⟩
    rw [zcs, hs]
    exact ht
 ·
  have hnz : D.left ≠ 0 := by rw [hl2, hf]; simp
  refine zaE rfl rfl (zaE rfl rfl (zaE rfl rfl (zaE rfl rfl (zaE rfl rfl (zaa rfl (zaz rfl) (zaf (zai ?_)))))))
  refine W_f rfl ?_
  refine zau (zai (zak (zak (zac (zaa rfl (zab) (zaa rfl (zal rfl) (zaa rfl (zaj (off := 4) (by kernel_rfl) rfl) ?_)))))))
  refine zaa rfl (zam rfl (Ld.zbb hr (by kernel_rfl) rfl)) ?_
  refine zaf (zai ?_)
  refine zlm rfl (fun hd => ?_) (fun hd => ?_)
  ·
   refine zak (zac (zaa rfl (zad) (zaf (zai (zax (zaT ?_))))))
   refine zar [_] ⟨rfl, trivial⟩ ?_
   have hs := zgk hd
   exact ⟨by rw [hs.1]; rfl, ⟨st, by rw [hs.2]; exact h⟩, Only.refl _ _⟩
  ·
   have hs : za3 D = true := by
     unfold za3
     rw [hd]
     simp [hnz]
   refine zau (zai (zak (zac (zaa rfl (zab) (zaa rfl (zab) (zaa rfl (zal rfl) (zaa rfl (zaj (off := 2) (by kernel_rfl) rfl) ?_)))))))
   refine zaa rfl (zam rfl (Ld.zbb hr (by kernel_rfl) rfl)) ?_
   refine zaa rfl (zeQ rfl rfl (Coup.w64 (by omega))) ?_
   refine zaa rfl (zkF rfl rfl) ?_
   refine zaa rfl (zal rfl) (zaa rfl (zaj (off := 2) (by kernel_rfl) rfl) ?_)
   refine za4 rfl (zaP rfl rfl rfl rfl hr (by kernel_rfl) (by first | (simp only [List.length_replicate]; omega) | (simp only [zaM]; omega) | (simp only [zae, List.length_set]; omega) | simp) (fun w903 hr ho903 => ?_))
   refine zaf (zai (zak (zac (zaa rfl (zad) (zaf (zai (zax ?_)))))))
   refine zar [_] ⟨rfl, trivial⟩ ?_
   refine ⟨by rw [hs]; rfl, ⟨max 0 (st - 1), ?_⟩, ho903⟩
   have ht := h.turn ho903 (left' := if 0 < D.left then D.left - 1 else D.left) (dead' := D.dead) (fu' := fu) hr ⟨by omega, by omega, by rw [hl2]; cases fu <;> simp <;> omega⟩
   rw [zcs, hs]
   exact ht
theorem zii {w : World} {g o n : Nat} {L : List Sec} (h : za9 w (some ⟨g, o, none⟩) n 128 (bv L.flatten)) (hL : zbV L) {i : Nat} {s : Sec} (hs : L[i]? = some s) : Ld Tryz.prog w 94 ⟨g, o + i * 128, none⟩ (.agg (bv s).toArray) := by
 have hi := (List.getElem?_eq_some_iff.1 hs).1
 have hl := zfY hL
 have := Ld.slN (P := Tryz.prog) (t := 94) (j := i * 128) (k := 128) h (by kernel_rfl) (by kernel_rfl) (by rw [zae]; omega)
 rw [← zcT, ← zdD, ziV hL hs] at this
 exact this
set_option maxRecDepth 20000 in
theorem now38 {w : World} {g pl m : Nat} {G : List Nat} {D : Dk} {ol cl : Nat} {st : Int} {fu : Bool} {sv : Nat → Value} (h : DkM w g pl m G D ol cl st fu sv) (i : Nat) (hi : i < D.V.length) :
   Calls Tryz.prog 87 [.pointer (some ⟨g, 0, none⟩), .int .i64 (i : Int)].toArray w (Ret fun v w' => v = .agg (bv (zaB D i)).toArray ∧ Below w.heap.size w w') := by
 have hB := Below.refl w.heap.size w
 have hr := h.row
 have hmap := h.map
 have hown := h.own
 have hv := zdI h.ok hi
 have hn8 := h.ok.n
 obtain ⟨S, hS⟩ : ∃ S, zaB D i = S := ⟨_, rfl⟩
 have hSl : (bv S).length = 128 := by rw [zae, ← hS]; exact zfZ hv.2.1
 rw [hS]
 refine zaw (fn := Tryz.f87) (rs := [.cell 4 94]) (n := 28) Tryz.func87 rfl rfl Tryz.ntmps87 (by kernel_rfl) rfl ?_
 refine zak (zac ?_)
 refine zaX rfl (zaO (List.replicate 128 (Value.int .u8 0)) (by kernel_rfl) (fun g4 w4 hg4 hr4 hb4 => ?_))
 have ge_hB_g4 := Nat.le_trans hB.size hg4
 have lt_g_g4 : g < g4 := Nat.lt_of_lt_of_le hr.lt hg4
 have lt_m_g4 : m < g4 := Nat.lt_of_lt_of_le hmap.lt hg4
 have lt_pl_g4 : pl < g4 := Nat.lt_of_lt_of_le hown.lt hg4
 replace hr := hr.new hb4
 replace hmap := hmap.new hb4
 replace hown := hown.new hb4
 replace hB := hB.acc hb4
 refine zaf (zai (zak (zak (zac (zaa rfl (zab) (zaa rfl (zal rfl) (zaa rfl (zaj (off := 1) (by kernel_rfl) rfl) ?_)))))))
 refine zaa rfl (zam rfl (Ld.zbb hr (by kernel_rfl) rfl)) ?_
 refine zaa rfl (zab) ?_
 have hobt := h.look i hi
 obtain ⟨p, c, hlk, hsl, hpG⟩ := hobt
 refine zaa rfl (zdw (k := 3) (e := 81) (.slice none 0 0) (by kernel_rfl) (by kernel_rfl) (by intro w; first | kernel_rfl | rfl) hmap rfl rfl (i) (by first | rfl | omega) (by omega) (by omega) hlk) ?_
 refine zaa rfl (zad) (zaf (zai (zak (zac (zaa rfl (zab) ?_)))))
 refine zaa rfl (zaA (e := 94) (sz := 128) (by kernel_rfl) rfl rfl) ?_
 refine zaa rfl (zbU rfl rfl) ?_
 refine zaf (zai ?_)
 refine zaZ rfl (fun hpos => ?_) (fun hpos => ?_)
 ·
  refine zak ?_
  have hlast := zmk (v := ver D i) (by omega)
  rw [show zeX (ver D i) = S from hS] at hlast
  have hsl2 := hsl.below hB (Nat.le_refl _)
  have hobt := hsl2.some (by omega)
  obtain ⟨gp, op, rfl, hgp⟩ := hobt
  refine zac (zaa rfl (zab) (zaa rfl (zab) ?_))
  refine zaa rfl (zaA (e := 94) (sz := 128) (by kernel_rfl) rfl rfl) ?_
  refine zaa rfl (zeQ rfl rfl (Coup.w64 (by omega))) ?_
  refine zaa rfl (zaQ (e := 94) (sz := 128) (by kernel_rfl) rfl rfl ((ver D i).length - 2) (by omega) (by omega)) ?_
  refine zaa rfl (zam rfl (zii hsl2 (tail_ok hv.2.1) hlast)) ?_
  refine za4 rfl (zav 128 (bv S) rfl rfl hr4 (by kernel_rfl) (by first | assumption | (simp; done) | (simp [zae, *]; done)) (by first | assumption | (simp; done) | (simp [zae, *]; done) | rfl) (by first | exact zaL _ | assumption | (simp [Value.oneCell']; done)) (fun w901 hr4 ho901 => ?_))
  replace hr := hr.only ho901 (Nat.ne_of_lt lt_g_g4)
  replace hmap := hmap.only ho901 (Nat.ne_of_lt lt_m_g4)
  replace hown := hown.only ho901 (Nat.ne_of_lt lt_pl_g4)
  replace hB := ho901.below hB ge_hB_g4
  refine zaf (zai (zax (zaT ?_)))
  refine zar [_] ⟨⟨_, rfl, Ld.zb5 (k := 128) hr4 (by kernel_rfl) (by kernel_rfl) (by first | (simp; done) | (simp [zae, *]; done) | assumption)⟩, trivial⟩ ?_
  exact ⟨rfl, hB⟩
 ·
  have h1 : (ver D i).length = 1 := by
    have := List.length_pos_iff.2 hv.1
    omega
  have hSh : zfC (ver D i) = S := by rw [← hS, zaB, znc h1]
  have hla := ziW hi
  rw [hSh] at hla
  refine zau (zai (zak (zac (zaa rfl (zab) (zaa rfl (zal rfl) (zaa rfl (zaj (off := 0) (by kernel_rfl) rfl) ?_))))))
  refine zaa rfl (zam rfl (Ld.zbb hr (by kernel_rfl) rfl)) ?_
  refine zaa rfl (zab) ?_
  refine zaa rfl (zaQ (e := 94) (sz := 128) (by kernel_rfl) rfl rfl (i) (by omega) (by omega)) ?_
  refine zaa rfl (zam rfl (zii hown.sl (zgX h.ok) hla)) ?_
  refine za4 rfl (zav 128 (bv S) rfl rfl hr4 (by kernel_rfl) (by first | assumption | (simp; done) | (simp [zae, *]; done)) (by first | assumption | (simp; done) | (simp [zae, *]; done) | rfl) (by first | exact zaL _ | assumption | (simp [Value.oneCell']; done)) (fun w902 hr4 ho902 => ?_))
  replace hr := hr.only ho902 (Nat.ne_of_lt lt_g_g4)
  replace hmap := hmap.only ho902 (Nat.ne_of_lt lt_m_g4)
  replace hown := hown.only ho902 (Nat.ne_of_lt lt_pl_g4)
  replace hB := ho902.below hB ge_hB_g4
  refine zaf (zai (zax ?_))
  refine zar [_] ⟨⟨_, rfl, Ld.zb5 (k := 128) hr4 (by kernel_rfl) (by kernel_rfl) (by first | (simp; done) | (simp [zae, *]; done) | assumption)⟩, trivial⟩ ?_
  exact ⟨rfl, hB⟩
theorem zoF : List.replicate 128 (Value.int .u8 0) = bv zbv := by
 rw [zbv, bv, List.map_replicate]; rfl
theorem zlv : ∃ Z, zbv = Z ∧ List.replicate 128 (Value.int .u8 0) = bv Z ∧ (bv Z).length = 128 := ⟨_, rfl, zoF, by rw [zae, zbv, List.length_replicate]⟩
def inD (D : Dk) (i : Int) : Bool := decide (0 ≤ i ∧ i < D.V.length)
set_option maxRecDepth 20000 in
theorem read23a {w : World} {g : Nat} {i : Int} {S Z : Sec} (hzb : List.replicate 128 (Value.int .u8 0) = bv Z) (hzl : (bv Z).length = 128) (hSl : (bv S).length = 128)
  (hA : ∀ w', Below w.heap.size w w' → Calls Tryz.prog 86 [.pointer (some ⟨g, 0, none⟩), .int .i64 i].toArray w' (Ret fun v w2 => v = .int .i64 0 ∧ w' = w2))
  (hN : ∀ w', Below w.heap.size w w' → Calls Tryz.prog 87 [.pointer (some ⟨g, 0, none⟩), .int .i64 i].toArray w' (Ret fun v w2 => v = .agg (bv S).toArray ∧ Below w'.heap.size w' w2)) :
  Calls Tryz.prog 61 [.pointer (some ⟨g, 0, none⟩), .int .i64 i].toArray w (Ret fun v w' => v = .tuple #[.agg (bv S).toArray, .int .i64 0] ∧ Below w.heap.size w w') := by
 have hB := Below.refl w.heap.size w
 refine zaw (fn := Tryz.f61) (rs := [.cell 4 94, .tmp 5]) (n := 17) Tryz.func61 rfl rfl Tryz.ntmps61 (by kernel_rfl) rfl ?_
 refine zak (zac ?_)
 refine zaX rfl (zaO (List.replicate 128 (Value.int .u8 0)) (by kernel_rfl) (fun g4 w4 hg4 hr4 hb4 => ?_))
 have ge_hB_g4 := Nat.le_trans hB.size hg4
 replace hB := hB.acc hb4
 rw [hzb] at hr4
 refine zaa rfl (zad) (zaf (zai (zak (zak (zac (zaa rfl (zab) (zaa rfl (zab) ?_)))))))
 refine zat rfl (zao (by kernel_rfl) rfl) (hA w4 hB) ?_
 rintro _ _ ⟨rfl, rfl⟩
 refine zaa rfl (zad) (zaf (zai (zak (zac (zaa rfl (zab) ?_)))))
 refine zaa rfl (zaW rfl rfl) ?_
 refine zaf (zai ?_)
 refine zdT rfl ((by omega)) ?_
 refine zau (zai (zak (zac (zaa rfl (zab) (zaa rfl (zab) ?_)))))
 refine zat rfl (zao (by kernel_rfl) rfl) (hN w4 hB) ?_
 rintro _ w16 ⟨rfl, hb16⟩
 replace hr4 := hr4.new hb16
 replace hB := hB.acc hb16
 refine za4 rfl (zav 128 (bv S) rfl rfl hr4 (by kernel_rfl) (by first | assumption | (simp; done) | (simp [zae, *]; done)) (by first | assumption | (simp; done) | (simp [zae, *]; done) | rfl) (by first | exact zaL _ | assumption | (simp [Value.oneCell']; done)) (fun w901 hr4 ho901 => ?_))
 replace hB := ho901.below hB ge_hB_g4
 refine zaa rfl (zad) (zaf (zai (zax ?_)))
 refine zar [_, _] ⟨⟨_, rfl, Ld.zb5 (k := 128) hr4 (by kernel_rfl) (by kernel_rfl) (by first | (simp; done) | (simp [zae, *]; done) | assumption)⟩, rfl, trivial⟩ ?_
 exact ⟨rfl, hB⟩
set_option maxRecDepth 20000 in
theorem read23b {w : World} {g : Nat} {i : Int} {Z : Sec} (hzb : List.replicate 128 (Value.int .u8 0) = bv Z) (hzl : (bv Z).length = 128)
  (hA : ∀ w', Below w.heap.size w w' → Calls Tryz.prog 86 [.pointer (some ⟨g, 0, none⟩), .int .i64 i].toArray w' (Ret fun v w2 => v = .int .i64 2 ∧ w' = w2)) :
  Calls Tryz.prog 61 [.pointer (some ⟨g, 0, none⟩), .int .i64 i].toArray w (Ret fun v w' => v = .tuple #[.agg (bv Z).toArray, .int .i64 2] ∧ Below w.heap.size w w') := by
 have hB := Below.refl w.heap.size w
 refine zaw (fn := Tryz.f61) (rs := [.cell 4 94, .tmp 5]) (n := 17) Tryz.func61 rfl rfl Tryz.ntmps61 (by kernel_rfl) rfl ?_
 refine zak (zac ?_)
 refine zaX rfl (zaO (List.replicate 128 (Value.int .u8 0)) (by kernel_rfl) (fun g4 w4 hg4 hr4 hb4 => ?_))
 have ge_hB_g4 := Nat.le_trans hB.size hg4
 replace hB := hB.acc hb4
 rw [hzb] at hr4
 refine zaa rfl (zad) (zaf (zai (zak (zak (zac (zaa rfl (zab) (zaa rfl (zab) ?_)))))))
 refine zat rfl (zao (by kernel_rfl) rfl) (hA w4 hB) ?_
 rintro _ _ ⟨rfl, rfl⟩
 refine zaa rfl (zad) (zaf (zai (zak (zac (zaa rfl (zab) ?_)))))
 refine zaa rfl (zaW rfl rfl) ?_
 refine zaf (zai ?_)
 refine zkt rfl ((by omega)) ?_
 refine zak (zac ?_)
 refine zaa rfl (zd8 (bv Z) (by rw [← hzb]; kernel_rfl)) ?_
 refine zaa rfl (zab) ?_
 refine za4 rfl (zav 128 (bv Z) rfl rfl hr4 (by kernel_rfl) (by first | assumption | (simp; done) | (simp [zae, *]; done)) (by first | assumption | (simp; done) | (simp [zae, *]; done) | rfl) (by first | exact zaL _ | assumption | (simp [Value.oneCell']; done)) (fun w901 hr4 ho901 => ?_))
 replace hB := ho901.below hB ge_hB_g4
 refine zaa rfl (zad) (zaf (zai (zax (zaT ?_))))
 refine zar [_, _] ⟨⟨_, rfl, Ld.zb5 (k := 128) hr4 (by kernel_rfl) (by kernel_rfl) (by first | (simp; done) | (simp [zae, *]; done) | assumption)⟩, rfl, trivial⟩ ?_
 exact ⟨rfl, hB⟩
theorem read23 {w : World} {g pl m : Nat} {G : List Nat} {D : Dk} {ol cl : Nat} {st : Int} {fu : Bool} {sv : Nat → Value} (h : DkM w g pl m G D ol cl st fu sv) (i : Int) :
  Calls Tryz.prog 61 [.pointer (some ⟨g, 0, none⟩), .int .i64 i].toArray w (Ret fun v w' => v = .tuple #[.agg (bv (if inD D i then zaB D i.toNat else zbv)).toArray, .int .i64 (if inD D i then 0 else 2)] ∧ Below w.heap.size w w') := by
 have hB := Below.refl w.heap.size w
 obtain ⟨Z, hzz, hzb, hzl⟩ := zlv
 rw [hzz]
 by_cases hi : 0 ≤ i ∧ i < D.V.length
 ·obtain ⟨k, rfl⟩ : ∃ k : Nat, i = k := ⟨i.toNat, by omega⟩
  have hin : inD D (k : Int) = true := decide_eq_true hi
  rw [hin, if_pos rfl, if_pos rfl, Int.toNat_natCast]
  have hv := zdI h.ok (i := k) (by omega)
  have hSl : (bv (zaB D k)).length = 128 := by rw [zae]; exact zfZ hv.2.1
  have hA := fun w' (hb : Below w.heap.size w w') => at39 (h.new hb) (k : Int)
  have hN := fun w' (hb : Below w.heap.size w w') => now38 (h.new hb) k (by omega)
  rw [if_pos hi] at hA
  generalize zaB D k = S at hN hSl ⊢
  exact read23a hzb hzl hSl hA hN
 ·have hin : inD D i = false := decide_eq_false hi
  rw [hin]
  have hA := fun w' (hb : Below w.heap.size w w') => at39 (h.new hb) i
  rw [if_neg hi] at hA
  exact read23b hzb hzl hA
set_option maxRecDepth 20000 in
theorem dead18 {w : World} {g pl m : Nat} {G : List Nat} {D : Dk} {ol cl : Nat} {st : Int} {fu : Bool} {sv : Nat → Value} (h : DkM w g pl m G D ol cl st fu sv) :
  Calls Tryz.prog 48 [.pointer (some ⟨g, 0, none⟩)].toArray w (Ret fun v w' => v = .bool D.dead ∧ w = w') := by
 have hr := h.row
 refine zaw (fn := Tryz.f48) (rs := [.tmp 2]) (n := 11) Tryz.func48 rfl rfl Tryz.ntmps48 (by kernel_rfl) rfl ?_
 refine zak (zac (zaa rfl (zad) (zaf (zai (zak (zac (zaa rfl (zab) ?_)))))))
 refine zaa rfl (zls (by kernel_rfl) rfl rfl) ?_
 refine zaa rfl (zab) ?_
 refine zoB 5 rfl (rfl) ?_
 refine zas rfl (zaa rfl (zab) (zas rfl (zaa rfl (zal rfl) (zas rfl (zaa rfl (zaj (off := 4) (by kernel_rfl) rfl) (zas rfl ?_))))))
 refine zaa rfl (zam rfl (Ld.zbb hr (by kernel_rfl) rfl)) ?_
 refine zaa rfl (zay rfl) (zaa rfl (zad) (zaf (zai (zax ?_))))
 refine zar [_] ⟨rfl, trivial⟩ ?_
 exact ⟨rfl, rfl⟩
set_option maxRecDepth 20000 in
theorem fuse15 {w : World} {g pl m : Nat} {G : List Nat} {D : Dk} {ol cl : Nat} {st : Int} {fu : Bool} {sv : Nat → Value} (h : DkM w g pl m G D ol cl st fu sv) (k : Int) (hk : k ≤ 9223372036854775807) :
   Calls Tryz.prog 29 [.pointer (some ⟨g, 0, none⟩), .int .i64 k].toArray w (Ret fun v w' => v = .int .i64 (if 0 ≤ k then 0 else 2) ∧ (∃ st' fu', DkM w' g pl m G (if 0 ≤ k then { D with left := k } else D) ol cl st' fu' sv) ∧ Only g w w') := by
 have hr := h.row
 have hS := zeY h
 have hp := h.pos
 refine zaw (fn := Tryz.f29) (rs := [.tmp 4]) (n := 19) Tryz.func29 rfl rfl Tryz.ntmps29 (by kernel_rfl) rfl ?_
 refine zak (zac (zaa rfl (zad) (zaf (zai (zak (zaD (zak (zac (zaa rfl (zab) ?_)))))))))
 refine zat rfl (zao (by kernel_rfl) rfl) (hS) ?_
 rintro _ _ ⟨rfl, rfl⟩
 refine zaa rfl (zbr rfl rfl) ?_
 refine zaa rfl (zad) (zaf (zai ?_))
 refine zdT rfl ((by omega)) ?_
 refine zak (zac (zaa rfl (zab) ?_))
 refine zaa rfl (zbd rfl rfl) ?_
 refine zaa rfl (zad) (zaf (zai ?_))
 refine zaZ rfl (fun h0 => ?_) (fun h0 => ?_)
 ·
  refine zak (zac (zaa rfl (zad) (zaf (zai (zax (za6 (zaT ?_)))))))
  refine zar [_] ⟨rfl, trivial⟩ ?_
  refine ⟨by rw [if_neg (by omega)]; rfl, ⟨st, fu, ?_⟩, Only.refl _ _⟩
  rw [if_neg (by omega)]
  exact h
 ·
  refine zau (za2 (zai (zak (zac (zaa rfl (zab) (zaa rfl (zab) (zaa rfl (zab) (zaa rfl (zal rfl) (zaa rfl (zaj (off := 2) (by kernel_rfl) rfl) ?_)))))))))
  refine za4 rfl (zaP rfl rfl rfl rfl hr (by kernel_rfl) (by first | (simp only [List.length_replicate]; omega) | (simp only [zaM]; omega) | (simp only [zae, List.length_set]; omega) | simp) (fun w901 hr ho901 => ?_))
  have ho1 := ho901
  refine zaa rfl (zal rfl) (zaa rfl (zaj (off := 3) (by kernel_rfl) rfl) ?_)
  refine za4 rfl (zaP rfl rfl rfl rfl hr (by kernel_rfl) (by first | (simp only [List.length_replicate]; omega) | (simp only [zaM]; omega) | (simp only [zae, List.length_set]; omega) | simp) (fun w902 hr ho902 => ?_))
  refine zaf (zai (zak (zac (zaa rfl (zad) (zaf (zai (zax ?_)))))))
  refine zar [_] ⟨rfl, trivial⟩ ?_
  have ho2 := Only.trans ho1 ho902
  have ht := h.turn ho2 (left' := k) (dead' := D.dead) (fu' := true) hr ⟨by omega, hk, rfl⟩
  refine ⟨by rw [if_pos (by omega)]; rfl, ⟨k, true, ?_⟩, ho2⟩
  rw [if_pos (by omega)]
  exact ht
theorem zgH (D : Dk) (sv : Nat → Value) : ∀ (m a : Nat), keysOf (since D sv) a m = ((List.range' a m).filter (zbX D)).map (fun i : Nat => (i : Int))
 | 0, a => rfl
 | m + 1, a => by
  have ih := zgH D sv m (a + 1)
  rw [keysOf, List.range'_succ]
  by_cases h : zbX D a = true
  ·rw [if_pos (by unfold since; rw [if_pos h]; rfl), ih, List.filter_cons_of_pos h]; rfl
  ·rw [if_neg (by unfold since; rw [if_neg h]; simp), ih, List.filter_cons_of_neg h]
theorem zml (D : Dk) (sv : Nat → Value) : keysOf (since D sv) 0 D.V.length = (opN D).map (fun i : Nat => (i : Int)) := by
 rw [zgH, opN, List.range_eq_range']
def opI (D : Dk) : List Int := (opN D).map (fun i : Nat => (i : Int))
set_option maxRecDepth 20000 in
theorem open22 {w : World} {g pl m : Nat} {G : List Nat} {D : Dk} {ol cl : Nat} {st : Int} {fu : Bool} {sv : Nat → Value} (h : DkM w g pl m G D ol cl st fu sv) :
  Calls Tryz.prog 54 [.pointer (some ⟨g, 0, none⟩)].toArray w (Ret fun v w' => ∃ p c, v = .slice p (opI D).length c ∧ za9 w' p (opI D).length 1 (iv (opI D)) ∧ (∀ b o, p = some ⟨b, o, none⟩ → w.heap.size ≤ b) ∧ Below w.heap.size w w') := by
 have hB := Below.refl w.heap.size w
 have hr := h.row
 have hn8 := h.ok.n
 have hmap := h.map
 have hko := zml D sv
 have hS := fun w' W hW (h' : MapAt Tryz.prog 3 w' m D.V.length (since D sv)) => sortedC w' W hW h' (by omega)
 rw [hko] at hS
 change ∀ w' (W : World) hW h', Calls _ _ _ _ (Ret fun v w2 => ∃ p c, v = .slice p (opI D).length c ∧ za9 w2 p (opI D).length 1 (iv (opI D)) ∧ (∀ b o, p = some ⟨b, o, none⟩ → W.heap.size ≤ b) ∧ Below _ _ _) at hS
 refine zaw (fn := Tryz.f54) (rs := [.tmp 2]) (n := 11) Tryz.func54 rfl rfl Tryz.ntmps54 (by kernel_rfl) rfl ?_
 refine zak (zac (zaa rfl (zad) (zaf (zai (zak (zak (zac (zaa rfl (zab) ?_))))))))
 refine zaa rfl (zcF (by kernel_rfl) rfl rfl) ?_
 refine zaf (zai ?_)
 refine zln rfl (rfl) ?_
 refine zau (zai (zak (zac (zaa rfl (zab) (zaa rfl (zal rfl) (zaa rfl (zaj (off := 1) (by kernel_rfl) rfl) ?_))))))
 refine zaa rfl (zam rfl (Ld.zbb hr (by kernel_rfl) rfl)) ?_
 refine zat rfl (zao (by kernel_rfl) rfl) (keysC (some m) w) ?_
 rintro _ w9 ⟨rfl, hkw, hb9⟩
 replace hr := hr.new hb9
 replace hB := hB.acc hb9
 have hsz := hB.size
 refine zat rfl (zao (by kernel_rfl) rfl) (hS w w9 hkw hmap) ?_
 rintro _ w10 ⟨p, c, rfl, hsl, hpb, hb10⟩
 replace hr := hr.new hb10
 replace hB := hB.acc hb10
 refine zaa rfl (zad) (zaf (zai (zax ?_)))
 refine zar [_] ⟨rfl, trivial⟩ ?_
 exact ⟨p, c, rfl, hsl, fun b o e => Nat.le_trans hsz (hpb b o e), hB⟩
theorem zer {D : Dk} {i j : Nat} {v : List Sec} (hi : i < D.V.length) : ver (zh1 D i v) j = if i = j then v else ver D j := by
 unfold ver zh1
 dsimp only
 rw [List.getD_eq_getElem?_getD, List.getD_eq_getElem?_getD, List.getElem?_set]
 by_cases h : i = j
 ·rw [if_pos h, if_pos h, if_pos hi]; rfl
 ·rw [if_neg h, if_neg h]
theorem zkL {D : Dk} (h : zcG D) {i : Nat} {v : List Sec} (h1 : v ≠ []) (h2 : zbV v) (h3 : v.length ≤ 100000) : zcG (zh1 D i v) := by
 refine ⟨by show (D.V.set i v).length ≤ 8192; rw [List.length_set]; exact h.n, fun x hx => ?_, fun x hx => ?_, fun x hx => ?_⟩
 all_goals
  rcases List.mem_or_eq_of_mem_set hx with e | e
 ·exact h.ne x e
 ·rw [e]; exact h1
 ·exact h.sec x e
 ·rw [e]; exact h2
 ·exact h.short x e
 ·rw [e]; exact h3
theorem zjE (D : Dk) (i : Nat) (v : List Sec) : zdH (zh1 D i v) = (zdH D).set i (zfC v) := by
 unfold zdH zh1
 dsimp only
 rw [List.map_set]
theorem zjF {D : Dk} {sv : Nat → Value} {i : Nat} {s : Sec} (hi : i < D.V.length) : since (zh1 D i [s]) sv = zh0 (since D sv) i none := by
 funext j
 unfold since zh0 zbX
 rw [zer hi]
 by_cases h : j = i
 ·subst h; simp
 ·rw [if_neg (show ¬ i = j from fun e => h e.symm), if_neg h]
set_option maxRecDepth 8000 in
theorem zlw {w : World} {g pl m : Nat} {G : List Nat} {D : Dk} {ol cl : Nat} {st : Int} {fu : Bool} {sv : Nat → Value} (h : DkM w g pl m G D ol cl st fu sv) (i : Nat) (s : Sec) (hi : i < D.V.length) (hs : s.length = 128) :
  Calls Tryz.prog 55 [.pointer (some ⟨g, 0, none⟩), .int .i64 (i : Int), .agg (bv s).toArray].toArray w (Ret fun _ w' => DkM w' g pl m G (zh1 D i [s]) ol cl st fu sv ∧ Kp [pl, m] w w') := by
 have hr := h.row
 have hmap := h.map
 have hown := h.own
 have hn8 := h.ok.n
 have hK := KpB.refl [pl, m] w
 have hll := zfY (zgX h.ok)
 have hlm : (zdH D).length = D.V.length := by simp [zdH]
 have hsl : (bv s).length = 128 := by rw [zae]; exact hs
 have hbo := zaL s
 obtain ⟨ne1, ne2, ne3, ne4⟩ := h.ne
 have hlm2 := hmap.lt
 have hlp := hown.lt
 have hlg := hr.lt
 refine zaw (fn := Tryz.f55) (rs := []) (n := 18) Tryz.func55 rfl rfl Tryz.ntmps55 (by kernel_rfl) rfl ?_
 refine zak (zac ?_)
 refine zaX rfl (zca ((bv s)) rfl (fun g5 w5 hg5 hr5 hb5 => ?_))
 have lt_g_g5 : g < g5 := Nat.lt_of_lt_of_le hr.lt hg5
 have lt_m_g5 : m < g5 := Nat.lt_of_lt_of_le hmap.lt hg5
 have lt_pl_g5 : pl < g5 := Nat.lt_of_lt_of_le hown.lt hg5
 replace hr := hr.new hb5
 replace hmap := hmap.new hb5
 replace hown := hown.new hb5
 replace hK := hK.new hb5
 refine zaf (zai (zak ?_))
 refine zbg [pl] (by kernel_rfl) ?_
 intro w901 hb901 hS901
 replace hr := hr.new hb901
 replace hmap := hmap.new hb901
 replace hown := hown.new hb901
 replace hK := hK.new hb901
 replace hr5 := hr5.new hb901
 have hr_d901 := hr
 have hmap_d901 := hmap
 have hown_d901 := hown
 have hK_d901 := hK
 have hr5_d901 := hr5
 refine zah 0 (by kernel_rfl) rfl (fun _ _ => zab) ?_
 refine zah 1 (by kernel_rfl) rfl (fun _ _ => zal rfl) ?_
 refine zah 2 (by kernel_rfl) rfl (fun _ _ => zaj (off := 0) (by kernel_rfl) rfl) ?_
 refine zah 3 (by kernel_rfl) rfl (fun w' hS' => zam rfl (Ld.zbb (hr_d901.kq hS') (by kernel_rfl) rfl)) ?_
 refine zah 4 (by kernel_rfl) rfl (fun _ _ => zab) ?_
 refine zah 5 (by kernel_rfl) rfl (fun w' hS' => zam rfl (Ld.zb5 (k := 128) (hr5_d901.kq hS') (by kernel_rfl) (by kernel_rfl) (by first | (simp; done) | (simp [zae, *]; done) | assumption))) ?_
 refine zah 6 (by kernel_rfl) rfl (fun _ _ => zaQ (e := 94) (sz := 128) (by kernel_rfl) rfl rfl (i) (by omega) (by omega)) ?_
 refine zaS 7 (by kernel_rfl) ?_
 refine zdG rfl rfl (zhh (bv s) (i * 128) hown rfl rfl (by rw [hsl]; kernel_rfl) (by first | (simp only [zae]; omega) | omega) (zaL _) (fun w903 hown ho903 => ?_))
 have hS902 := hS901.aq ho903
 refine ⟨hS902, ?_⟩
 replace hr := hr.only ho903 (by omega)
 replace hmap := hmap.only ho903 (by omega)
 replace hK := hK.only ho903 (by first | (simp; done) | (right; omega))
 replace hr5 := hr5.only ho903 (Nat.ne_of_gt lt_pl_g5)
 rw [zoE (zgX h.ok) (by omega) hs] at hown
 refine zaR (by kernel_rfl) ?_
 refine zai (zac (zaa rfl (zab) (zaa rfl (zal rfl) (zaa rfl (zaj (off := 1) (by kernel_rfl) rfl) ?_))))
 refine zaa rfl (zam rfl (Ld.zbb hr (by kernel_rfl) rfl)) ?_
 refine zaa rfl (zab) ?_
 refine zaX rfl (zjC (k := 3) (e := 81) (by kernel_rfl) (by kernel_rfl) hmap rfl rfl (i) (by first | rfl | omega) (by omega) (by omega) (fun w904 hmap ho904 => ?_))
 replace hr := hr.only ho904 (by omega)
 replace hown := hown.only ho904 (by omega)
 replace hK := hK.only ho904 (by first | (simp; done) | (right; omega))
 replace hr5 := hr5.only ho904 (Nat.ne_of_gt lt_m_g5)
 refine zaf ?_
 refine zcx [] trivial ?_
 have hls := zjE D i [s]
 rw [show zfC [s] = s from rfl] at hls
 rw [← hls] at hown
 rw [← zjF (s := s) hi] at hmap
 have hVl : (zh1 D i [s]).V.length = D.V.length := List.length_set ..
 refine ⟨⟨by rw [hVl]; exact hr, by rw [hVl]; exact hown, by rw [hVl]; exact hmap, fun j hj => ?_, fun b hb => Nat.lt_of_lt_of_le (h.inG b hb) hK.k.size, h.ne, h.left, zkL h.ok (by simp) (fun x hx => by simp at hx; rw [hx]; exact hs) (by simp), by rw [hVl]; exact h.pos⟩, hK.k⟩
 have hij : ¬ i = j := fun e => by
  unfold zbX at hj
  rw [zer hi, if_pos e] at hj
  simp at hj
 unfold zbX at hj
 rw [zer hi, if_neg hij] at hj ⊢
 have hobt := h.sv j hj
 obtain ⟨p, c, h1, h2, h3⟩ := hobt
 exact ⟨p, c, h1, h2.kpd hK.k fun b o e => by have := ne4 b (h3 b o e); simp [this], h3⟩
theorem zoG (a : Int) (n : Nat) (hn : 0 < n) : (a.tmod n + n) % (n : Int) = a % n ∧ -(n : Int) < a.tmod n ∧ a.tmod n < n := by
 have h1 : a.tmod n = a - n * (a.tdiv n) := Int.tmod_def a n
 refine ⟨?_, ?_, ?_⟩
 ·rw [h1, show a - (n : Int) * (a.tdiv n) + n = a + n * (1 - a.tdiv n) by rw [Int.mul_sub, Int.mul_one]; omega, Int.add_mul_emod_self_left]
 ·have := Int.natAbs_tmod a n
  have h2 : (a.natAbs % n) < n := Nat.mod_lt _ hn
  rw [Int.natAbs_natCast] at this
  omega
 ·have := Int.natAbs_tmod a n
  have h2 : (a.natAbs % n) < n := Nat.mod_lt _ hn
  rw [Int.natAbs_natCast] at this
  omega
theorem zmm (L r : List UInt8) : splice (bv L) 0 (bv r) = bv (r ++ L.drop r.length) := by
 simp only [splice, bv, List.map_append, List.map_drop, List.length_map, List.take_zero, List.nil_append, Nat.zero_add]
theorem sec_src {w : World} {g o n : Nat} {L : List Sec} (h : za9 w (some ⟨g, o, none⟩) n 128 (bv L.flatten)) (hL : zbV L) {i : Nat} {s : Sec} (hs : L[i]? = some s) (q : Nat) :
  ∀ (j : Nat) (v : Value), (bv (s.take q))[j]? = some v → w.cell? ((⟨g, o + i * 128, none⟩ : Addr).add j) = some v := fun j v hv => by
 have h1 := ziV hL hs
 rw [Addr.add_lit, Nat.add_assoc]
 refine h.cell _ ?_
 rw [bv, List.getElem?_map] at hv ⊢
 rw [List.getElem?_take] at hv
 split at hv
 ·rw [← h1, List.getElem?_take] at hv
  split at hv
  ·rw [List.getElem?_drop] at hv; exact hv
  ·simp at hv
 ·simp at hv
theorem zkM {A B : Sec} (hB : B.length = 128) : splice (bv A) 0 (bv (B.take 64)) = bv (zh5 B A) := by
 rw [zmm, zh5, List.length_take, hB]; rfl
set_option maxRecDepth 8000 in
set_option maxHeartbeats 1000000 in
theorem left40 {w : World} {g pl m : Nat} {G : List Nat} {D : Dk} {ol cl : Nat} {st : Int} {fu : Bool} {sv : Nat → Value} (h : DkM w g pl m G D ol cl st fu sv) (i : Nat) (pick : Int) (hi : i < D.V.length) :
   Calls Tryz.prog 56 [.pointer (some ⟨g, 0, none⟩), .int .i64 (i : Int), .int .i64 pick].toArray w (Ret fun v w' => v = .agg (bv (zgj (ver D i) pick)).toArray ∧ Below w.heap.size w w') := by
 have hB := Below.refl w.heap.size w
 have hml : maxLen = 9223372036854775807 := by decide
 have hr := h.row
 have hmap := h.map
 have hown := h.own
 have hn8 := h.ok.n
 obtain ⟨hv1, hv2, hv3⟩ := zdI h.ok hi
 have hla := ziW hi
 have hhd := zlu hv2
 have hpos := List.length_pos_iff.2 hv1
 obtain ⟨n, hn⟩ : ∃ n, (ver D i).length = n := ⟨_, rfl⟩
 obtain ⟨hk1, hk2, hk3⟩ := zoG pick (2 * n - 1) (by omega)
 obtain ⟨k, hkk, hkl⟩ : ∃ k : Nat, pick % ((2 * n - 1 : Nat) : Int) = (k : Int) ∧ k < 2 * n - 1 := by
   have h1 := Int.emod_nonneg pick (show ((2 * n - 1 : Nat) : Int) ≠ 0 by omega)
   have h2 := Int.emod_lt_of_pos pick (show (0 : Int) < ((2 * n - 1 : Nat) : Int) by omega)
   exact ⟨(pick % ((2 * n - 1 : Nat) : Int)).toNat, by omega, by omega⟩
 have hleft : zgj (ver D i) pick = zgG (ver D i) k := by rw [zgj, hn, hkk, Int.toNat_natCast]
 rw [hleft]
 rw [hkk] at hk1
 obtain ⟨A, hA⟩ : ∃ A, (ver D i)[(k + 1) / 2]? = some A := ⟨_, List.getElem?_eq_getElem (by omega)⟩
 have hAl : (bv A).length = 128 := by rw [zae]; exact hv2 A (List.mem_of_getElem? hA)
 have hAg : (ver D i).getD ((k + 1) / 2) zbv = A := by rw [List.getD_eq_getElem?_getD, hA]; rfl
 obtain ⟨Hs, hHs⟩ : ∃ Hs, zfC (ver D i) = Hs := ⟨_, rfl⟩
 have hHl : (bv Hs).length = 128 := by rw [zae, ← hHs]; exact hhd
 have hcons : Hs ++ (ver D i).tail.flatten = (ver D i).flatten := by
   obtain ⟨a, l, e⟩ := List.exists_cons_of_ne_nil hv1
   rw [← hHs, e]; rfl
 rw [hHs] at hla hhd
 rw [hn] at hpos
 obtain ⟨Z, hzz, hzb, hzl⟩ := zlv
 refine zaw (fn := Tryz.f56) (rs := [.cell 6 94]) (n := 64) Tryz.func56 rfl rfl Tryz.ntmps56 (by kernel_rfl) rfl ?_
 refine zak (zac ?_)
 refine zaX rfl (zaO (List.replicate 128 (Value.int .u8 0)) (by kernel_rfl) (fun g6 w6 hg6 hr6 hb6 => ?_))
 have ge_hB_g6 := Nat.le_trans hB.size hg6
 have lt_g_g6 : g < g6 := Nat.lt_of_lt_of_le hr.lt hg6
 have lt_m_g6 : m < g6 := Nat.lt_of_lt_of_le hmap.lt hg6
 have lt_pl_g6 : pl < g6 := Nat.lt_of_lt_of_le hown.lt hg6
 replace hr := hr.new hb6
 replace hmap := hmap.new hb6
 replace hown := hown.new hb6
 replace hB := hB.acc hb6
 rw [hzb] at hr6
 refine zaf (zai (zak ?_))
 have hobt := h.look i hi
 obtain ⟨p, c, hlk, hsl, hpG⟩ := hobt
 rw [hn] at hlk hsl
 refine zbg [] (by kernel_rfl) ?_
 intro w901 hb901 hS901
 replace hr := hr.new hb901
 replace hmap := hmap.new hb901
 replace hown := hown.new hb901
 replace hr6 := hr6.new hb901
 replace hB := hB.acc hb901
 have hr_d901 := hr
 have hmap_d901 := hmap
 have hown_d901 := hown
 have hr6_d901 := hr6
 have hB_d901 := hB
 refine zah 0 (by kernel_rfl) rfl (fun _ _ => zab) ?_
 refine zah 1 (by kernel_rfl) rfl (fun _ _ => zal rfl) ?_
 refine zah 2 (by kernel_rfl) rfl (fun _ _ => zaj (off := 0) (by kernel_rfl) rfl) ?_
 refine zah 3 (by kernel_rfl) rfl (fun w' hS' => zam rfl (Ld.zbb (hr_d901.kq hS') (by kernel_rfl) rfl)) ?_
 refine zah 4 (by kernel_rfl) rfl (fun _ _ => zab) ?_
 refine zah 5 (by kernel_rfl) rfl (fun _ _ => zaQ (e := 94) (sz := 128) (by kernel_rfl) rfl rfl (i) (by omega) (by omega)) ?_
 refine zah 6 (by kernel_rfl) rfl (fun w' hS' => zam rfl (zii (hown_d901.kpd hS' (by first | (simp; done) | (simp; omega) | (simp [*]; done) | exact zaH (Or.inl (by omega)) | exact zaH (Or.inr (by simp)) | exact fun g hm => Nat.le_trans (by omega) (zel hm).1 | (intro b o e; cases e; exact zaH (Or.inl (by omega))) | (intro b hm; have := (hu.lt b (Option.mem_toList.1 hm)).1; omega) | (intro b o e; cases e; intro hm; have := (hu.lt _ (Option.mem_toList.1 hm)).1; omega))).sl (zgX h.ok) hla)) ?_
 refine zah 8 (by kernel_rfl) rfl (fun _ _ => zab) ?_
 refine zah 9 (by kernel_rfl) rfl (fun _ _ => zal rfl) ?_
 refine zah 10 (by kernel_rfl) rfl (fun _ _ => zaj (off := 1) (by kernel_rfl) rfl) ?_
 refine zah 11 (by kernel_rfl) rfl (fun w' hS' => zam rfl (Ld.zbb (hr_d901.kq hS') (by kernel_rfl) rfl)) ?_
 refine zah 12 (by kernel_rfl) rfl (fun _ _ => zab) ?_
 refine zah 13 (by kernel_rfl) rfl (fun w' hS' => zdw (k := 3) (e := 81) (.slice none 0 0) (by kernel_rfl) (by kernel_rfl) (by intro w; first | kernel_rfl | rfl) (hmap_d901.kpd hS' (by first | (simp; done) | (simp; omega) | (simp [*]; done) | exact zaH (Or.inl (by omega)) | exact zaH (Or.inr (by simp)) | exact fun g hm => Nat.le_trans (by omega) (zel hm).1 | (intro b o e; cases e; exact zaH (Or.inl (by omega))) | (intro b hm; have := (hu.lt b (Option.mem_toList.1 hm)).1; omega) | (intro b o e; cases e; intro hm; have := (hu.lt _ (Option.mem_toList.1 hm)).1; omega))) rfl rfl (i) (by first | rfl | omega) (by omega) (by omega) hlk) ?_
 refine zaS 7 (by kernel_rfl) ?_
 refine zbN rfl rfl (zci (e := 94) (.agg (bv Hs).toArray) (bv Hs) (List.replicate 128 (Value.int .u8 0)) 128 (by kernel_rfl) (by kernel_rfl) rfl rfl (by first | rfl | (simp; done) | (simp [zae, *]; done)) ⟨by decide, by decide⟩ (fun g18 w18 hg18 hr18 hb18 => ?_))
 have hS902 := hS901.add0 hb18
 refine ⟨hS902, ?_⟩
 have ge_hS901_g18 := Nat.le_trans hS901.size hg18
 have ge_hB_g18 := Nat.le_trans hB.size hg18
 have lt_g_g18 : g < g18 := Nat.lt_of_lt_of_le hr.lt hg18
 have lt_m_g18 : m < g18 := Nat.lt_of_lt_of_le hmap.lt hg18
 have lt_pl_g18 : pl < g18 := Nat.lt_of_lt_of_le hown.lt hg18
 have lt_g6_g18 : g6 < g18 := Nat.lt_of_lt_of_le hr6.lt hg18
 replace hr := hr.new hb18
 replace hmap := hmap.new hb18
 replace hown := hown.new hb18
 replace hr6 := hr6.new hb18
 replace hB := hB.acc hb18
 refine zaS 14 (by kernel_rfl) ?_
 have hv18 := hr18.owns (base := g18) (m := 1) (sz := 128) (Nat.le_refl _) (by omega) (by omega)
 have hsl2 := hsl.below hB (Nat.le_refl _)
 have sz_hB_25 := hB.size
 refine zbN rfl rfl (za7 (e := 94) (sz := 128) (bytes := 128) (z := .agg (List.replicate 128 (Value.int .u8 0)).toArray) (by kernel_rfl) rfl (by kernel_rfl) rfl (by decide) rfl hv18 rfl hsl2 (zaL _) (by unfold maxLen; omega) (by omega) (fun hm0 => by omega) (fun v25 w25 hv25 hgr25 hfr25 => ?_))
 have hS903 := hS902.add (Kp.zba hgr25) (fun g hm => by first | exact Or.inr hm | exact Or.inr (List.mem_cons_of_mem _ hm) | (have := (hv18.lt g (Option.mem_toList.1 hm)).1; left; omega) | exact (hfr18 g (Option.mem_toList.1 hm)).elim (fun e => Or.inr (Option.mem_toList.2 e)) (fun e => Or.inl (by omega)) | exact (hfr18 g (Option.mem_toList.1 hm)).elim (fun e => Or.inr (List.mem_cons_of_mem _ (Option.mem_toList.2 e))) (fun e => Or.inl (by omega)))
 refine ⟨hS903, ?_⟩
 replace hr := hr.own hv18 hgr25 (by omega)
 replace hr6 := hr6.own hv18 hgr25 (by omega)
 replace hB := hB.own hv18 hgr25 (by omega)
 have hobt := hv25.form' (by omega)
 obtain ⟨ga, oa, ca, rfl, hga, hgl, hcc⟩ := hobt
 have hall := hv25.sl
 rw [← zbI, hcons, show 1 + (n - 1) = n by omega] at hall
 refine zah 15 (by kernel_rfl) rfl (fun _ _ => zad) ?_
 refine zaR (by kernel_rfl) ?_
 refine zai (zak (zac (zaa rfl (zab) ?_)))
 refine zaa rfl (zaA (e := 94) (sz := 128) (by kernel_rfl) rfl rfl) ?_
 refine zaa rfl (zd6 rfl rfl (Coup.w64 (by omega))) ?_
 refine zaa rfl (zeQ rfl rfl (show IntKind.i64.wrap (2 * ((1 + (n - 1) : Nat) : Int) - 1) = ((2 * n - 1 : Nat) : Int) by rw [w64 (by omega)]; omega)) ?_
 refine zaa rfl (zad) (zaf (zai (zak (zac (zaa rfl (zab) (zaa rfl (zab) ?_))))))
 refine zaa rfl (zm2 rfl rfl (by omega) (rfl)) ?_
 refine zaa rfl (zab) ?_
 refine zaa rfl (zaV rfl rfl (Coup.w64 (by omega))) ?_
 refine zaa rfl (zab) ?_
 refine zaa rfl (zm2 rfl rfl (by omega) ((rm (by omega)).trans hk1)) ?_
 refine zaa rfl (zad) (zaf (zai (zak (zac (zaa rfl (zab) (zaa rfl (zab) ?_))))))
 refine zaa rfl (zaV rfl rfl (Coup.w64 (by omega))) ?_
 refine zaa rfl (zep rfl rfl (by omega) (by omega)) ?_
 refine zaa rfl (zaQ (e := 94) (sz := 128) (by kernel_rfl) rfl rfl ((k + 1) / 2) (by omega) (by omega)) ?_
 refine zaa rfl (zam rfl (zii hall hv2 hA)) ?_
 refine zaX rfl (zaO (List.replicate 128 (Value.int .u8 0)) (by kernel_rfl) (fun g10 w10 hg10 hr10 hb10 => ?_))
 have ge_hB_g10 := Nat.le_trans hB.size hg10
 have lt_g_g10 : g < g10 := Nat.lt_of_lt_of_le hr.lt hg10
 have lt_g6_g10 : g6 < g10 := Nat.lt_of_lt_of_le hr6.lt hg10
 replace hr := hr.new hb10
 replace hr6 := hr6.new hb10
 replace hall := hall.new hb10
 replace hB := hB.acc hb10
 rw [hzb] at hr10
 refine za4 rfl (zav 128 (bv A) rfl rfl hr10 (by kernel_rfl) (by first | assumption | (simp; done) | (simp [zae, *]; done)) (by first | assumption | (simp; done) | (simp [zae, *]; done) | rfl) (by first | exact zaL _ | assumption | (simp [Value.oneCell']; done)) (fun w904 hr10 ho904 => ?_))
 replace hr := hr.only ho904 (Nat.ne_of_lt lt_g_g10)
 replace hr6 := hr6.only ho904 (Nat.ne_of_lt lt_g6_g10)
 replace hall := hall.only ho904 (by omega)
 replace hB := ho904.below hB ge_hB_g10
 refine zaf (zai (zak (zak (zac (zaa rfl (zab) ?_)))))
 refine zaa rfl (zbU rfl rfl) ?_
 refine zaa rfl (zab) ?_
 refine zbJ 45 rfl (fun h0 => ?_) (fun h0 => ?_)
 ·
  refine zas rfl (zaa rfl (zab) (zas rfl ?_))
  refine zaa rfl (zhe rfl rfl (by omega) (by omega)) ?_
  refine zas rfl ?_
  refine zaa rfl (zbr rfl rfl) ?_
  refine zaa rfl (zay rfl) (zaf (zai ?_))
  refine zaZ rfl (fun he => ?_) (fun he => ?_)
  ·
   refine zak ?_
   have hobt : ∃ B1, (ver D i)[k / 2 - 1]? = some B1 := ⟨_, List.getElem?_eq_getElem (by omega)⟩
   obtain ⟨B1, hB1⟩ := hobt
   have hobt : ∃ B2, (ver D i)[k / 2]? = some B2 := ⟨_, List.getElem?_eq_getElem (by omega)⟩
   obtain ⟨B2, hB2⟩ := hobt
   have hB1l : (bv B1).length = 128 := by rw [zae]; exact hv2 B1 (List.mem_of_getElem? hB1)
   have hB2l : B2.length = 128 := hv2 B2 (List.mem_of_getElem? hB2)
   refine zac (zaa rfl (zab) (zaa rfl (zab) ?_))
   refine zaa rfl (zep rfl rfl (by omega) (by omega)) ?_
   refine zaa rfl (zeQ rfl rfl (show IntKind.i64.wrap ((k : Int) / 2 - 1) = ((k / 2 - 1 : Nat) : Int) by rw [w64 (by omega)]; omega)) ?_
   refine zaa rfl (zaQ (e := 94) (sz := 128) (by kernel_rfl) rfl rfl (k / 2 - 1) (by omega) (by omega)) ?_
   refine zaa rfl (zam rfl (zii hall hv2 hB1)) ?_
   refine za4 rfl (zav 128 (bv B1) rfl rfl hr10 (by kernel_rfl) (by first | assumption | (simp; done) | (simp [zae, *]; done)) (by first | assumption | (simp; done) | (simp [zae, *]; done) | rfl) (by first | exact zaL _ | assumption | (simp [Value.oneCell']; done)) (fun w905 hr10 ho905 => ?_))
   replace hr := hr.only ho905 (Nat.ne_of_lt lt_g_g10)
   replace hr6 := hr6.only ho905 (Nat.ne_of_lt lt_g6_g10)
   replace hall := hall.only ho905 (by omega)
   replace hB := ho905.below hB ge_hB_g10
   refine zaf (zai ?_)
   refine zbg [g10] (by kernel_rfl) ?_
   intro w906 hb906 hS906
   replace hr := hr.new hb906
   replace hr6 := hr6.new hb906
   replace hall := hall.new hb906
   replace hr10 := hr10.new hb906
   replace hB := hB.acc hb906
   have hr_d906 := hr
   have hr6_d906 := hr6
   have hall_d906 := hall
   have hr10_d906 := hr10
   have hB_d906 := hB
   refine zah 0 (by kernel_rfl) rfl (fun _ _ => zbl (e := 5) (n := 128) (0) (64) (128) (64) (by kernel_rfl) rfl rfl ⟨_, _, rfl, rfl⟩ rfl (by simp) (by omega) (by omega) (by omega) (by omega) (by omega)) ?_
   refine zah 1 (by kernel_rfl) rfl (fun _ _ => zab) ?_
   refine zah 2 (by kernel_rfl) rfl (fun _ _ => zab) ?_
   refine zah 3 (by kernel_rfl) rfl (fun _ _ => zep rfl rfl (by omega) (by omega)) ?_
   refine zah 4 (by kernel_rfl) rfl (fun _ _ => zaQ (e := 94) (sz := 128) (by kernel_rfl) rfl rfl (k / 2) (by omega) (by omega)) ?_
   refine zah 5 (by kernel_rfl) rfl (fun _ _ => zbl (e := 5) (n := 128) (0) (64) (128) (64) (by kernel_rfl) rfl rfl ⟨_, _, rfl, rfl⟩ rfl (by simp) (by omega) (by omega) (by omega) (by omega) (by omega)) ?_
   refine zaS 6 (by kernel_rfl) ?_
   refine zbN rfl rfl (zhg (e := 5) (by kernel_rfl) (by kernel_rfl) rfl rfl g10 (0) hr10 (bv (B2.take 64)) (by rw [zae, List.length_take, hB2l]; rfl) (fun _ => ⟨rfl, _, rfl, sec_src hall hv2 hB2 64⟩) (by rw [hB1l, zae, List.length_take]; omega) (zaL _) (fun w62 hr10 ho62 => ?_))
   have hS907 := hS906.aq ho62
   refine ⟨hS907, ?_⟩
   replace hr := hr.only ho62 (Nat.ne_of_lt lt_g_g10)
   replace hr6 := hr6.only ho62 (Nat.ne_of_lt lt_g6_g10)
   replace hall := hall.only ho62 (by omega)
   replace hB := ho62.below hB ge_hB_g10
   rw [zkM hB2l] at hr10
   refine zaR (by kernel_rfl) ?_
   refine zai (zak ?_)
   have hTl : (bv (zh5 B2 B1)).length = 128 := by rw [zae] at hB1l ⊢; rw [zh5, List.length_append, List.length_take, List.length_drop]; omega
   refine zac ?_
   refine zaa rfl (zam rfl (Ld.zb5 (k := 128) hr10 (by kernel_rfl) (by kernel_rfl) (by first | (simp; done) | (simp [zae, *]; done) | assumption))) ?_
   refine za4 rfl (zav 128 (bv (zh5 B2 B1)) rfl rfl hr6 (by kernel_rfl) (by first | assumption | (simp; done) | (simp [zae, *]; done)) (by first | assumption | (simp; done) | (simp [zae, *]; done) | rfl) (by first | exact zaL _ | assumption | (simp [Value.oneCell']; done)) (fun w908 hr6 ho908 => ?_))
   replace hr := hr.only ho908 (Nat.ne_of_lt lt_g_g6)
   replace hall := hall.only ho908 (by omega)
   replace hr10 := hr10.only ho908 (Nat.ne_of_gt lt_g6_g10)
   replace hB := ho908.below hB ge_hB_g6
   refine zaf (zai (zax ?_))
   refine zar [_] ⟨⟨_, rfl, Ld.zb5 (k := 128) hr6 (by kernel_rfl) (by kernel_rfl) (by first | (simp; done) | (simp [zae, *]; done) | assumption)⟩, trivial⟩ ?_
   refine ⟨?_, hB⟩
   rw [zgG, if_neg (by omega), if_neg (by omega), List.getD_eq_getElem?_getD, hB2, List.getD_eq_getElem?_getD, hB1]
   rfl
  ·
   refine zau (zai (zak (zac ?_)))
   refine zaa rfl (zam rfl (Ld.zb5 (k := 128) hr10 (by kernel_rfl) (by kernel_rfl) (by first | (simp; done) | (simp [zae, *]; done) | assumption))) ?_
   refine za4 rfl (zav 128 (bv A) rfl rfl hr6 (by kernel_rfl) (by first | assumption | (simp; done) | (simp [zae, *]; done)) (by first | assumption | (simp; done) | (simp [zae, *]; done) | rfl) (by first | exact zaL _ | assumption | (simp [Value.oneCell']; done)) (fun w909 hr6 ho909 => ?_))
   replace hr := hr.only ho909 (Nat.ne_of_lt lt_g_g6)
   replace hall := hall.only ho909 (by omega)
   replace hr10 := hr10.only ho909 (Nat.ne_of_gt lt_g6_g10)
   replace hB := ho909.below hB ge_hB_g6
   refine zaf (zai (zax ?_))
   refine zar [_] ⟨⟨_, rfl, Ld.zb5 (k := 128) hr6 (by kernel_rfl) (by kernel_rfl) (by first | (simp; done) | (simp [zae, *]; done) | assumption)⟩, trivial⟩ ?_
   refine ⟨?_, hB⟩
   rw [zgG, if_pos (by omega), hAg]
   rfl
 ·
  have hk0 : k = 0 := by omega
  refine zaE rfl rfl (zaE rfl rfl (zaE rfl rfl (zaa rfl (zaz rfl) (zaf (zai ?_)))))
  refine W_f rfl ?_
  refine zau (zai (zak (zac ?_)))
  refine zaa rfl (zam rfl (Ld.zb5 (k := 128) hr10 (by kernel_rfl) (by kernel_rfl) (by first | (simp; done) | (simp [zae, *]; done) | assumption))) ?_
  refine za4 rfl (zav 128 (bv A) rfl rfl hr6 (by kernel_rfl) (by first | assumption | (simp; done) | (simp [zae, *]; done)) (by first | assumption | (simp; done) | (simp [zae, *]; done) | rfl) (by first | exact zaL _ | assumption | (simp [Value.oneCell']; done)) (fun w910 hr6 ho910 => ?_))
  replace hr := hr.only ho910 (Nat.ne_of_lt lt_g_g6)
  replace hall := hall.only ho910 (by omega)
  replace hr10 := hr10.only ho910 (Nat.ne_of_gt lt_g6_g10)
  replace hB := ho910.below hB ge_hB_g6
  refine zaf (zai (zax ?_))
  refine zar [_] ⟨⟨_, rfl, Ld.zb5 (k := 128) hr6 (by kernel_rfl) (by kernel_rfl) (by first | (simp; done) | (simp [zae, *]; done) | assumption)⟩, trivial⟩ ?_
  refine ⟨?_, hB⟩
  have hA0 : zfC (ver D i) = A := by
    have h1 := hA
    rw [hk0] at h1
    have hobt := List.exists_cons_of_ne_nil hv1
    obtain ⟨a, l, e⟩ := hobt
    rw [e] at h1 ⊢
    simpa [zfC] using h1
  rw [zgG, hk0, if_neg (by omega), if_pos rfl, hA0]
  rfl
theorem _root_.Coup.za9.kpd0 {w w' : World} {M : List Nat} {p : Option Addr} {m sz : Nat} {cs : List Value} (h : za9 w p m sz cs) (k : Kp M w w') (hM : 0 < m → ∀ b o, p = some ⟨b, o, none⟩ → b ∉ M) : za9 w' p m sz cs := by
 rcases Nat.eq_zero_or_pos m with h0 | h0
 ·subst h0
  have hl := h.len
  rw [Nat.zero_mul] at hl
  obtain rfl := List.eq_nil_of_length_eq_zero hl
  exact za9.nil _ _ _
 ·exact h.kpd k (hM h0)
def zb4 (D : Dk) (xs : List (Nat × Sec)) : Dk := xs.foldl (fun D p => zh1 D p.1 [p.2]) D
theorem zd9 (D : Dk) : ∀ xs, (zb4 D xs).V.length = D.V.length := by
 intro xs
 induction xs generalizing D with
 | nil => rfl
 | cons x xs ih =>
  show (zb4 (zh1 D x.1 [x.2]) xs).V.length = _
  rw [ih]; exact List.length_set ..
theorem zff : ∀ (xs : List (Nat × Sec)) (D : Dk) (j : Nat), (∀ p ∈ xs, p.1 < D.V.length) → (∀ p ∈ xs, p.1 ≠ j) → ver (zb4 D xs) j = ver D j
 | [], D, j, _, _ => rfl
 | x :: xs, D, j, h1, h2 => by
  show ver (zb4 (zh1 D x.1 [x.2]) xs) j = _
  have hl : (zh1 D x.1 [x.2]).V.length = D.V.length := List.length_set ..
  rw [zff xs _ j (fun p hp => by rw [hl]; exact h1 p (List.mem_cons_of_mem _ hp)) (fun p hp => h2 p (List.mem_cons_of_mem _ hp)), zer (h1 x (List.mem_cons_self ..)), if_neg (h2 x (List.mem_cons_self ..))]
theorem zfp : ∀ (xs : List (Nat × Sec)) (D : Dk) (j : Nat) (s : Sec), (∀ p ∈ xs, p.1 < D.V.length) → (xs.map (·.1)).Nodup → (j, s) ∈ xs → ver (zb4 D xs) j = [s]
 | x :: xs, D, j, s, h1, h2, h3 => by
  show ver (zb4 (zh1 D x.1 [x.2]) xs) j = _
  have hl : (zh1 D x.1 [x.2]).V.length = D.V.length := List.length_set ..
  rw [List.map_cons, List.nodup_cons] at h2
  rcases List.mem_cons.1 h3 with e | e
  ·subst e
   rw [zff xs _ j (fun p hp => by rw [hl]; exact h1 p (List.mem_cons_of_mem _ hp)) (fun p hp e => h2.1 (List.mem_map.2 ⟨p, hp, e⟩)), zer (h1 _ (List.mem_cons_self ..)), if_pos rfl]
  ·exact zfp xs _ j s (fun p hp => by rw [hl]; exact h1 p (List.mem_cons_of_mem _ hp)) h2.2 e
theorem zhm (D : Dk) (xs : List (Nat × Sec)) {k : Nat} {p : Nat × Sec} (h : xs[k]? = some p) : zb4 D (xs.take (k + 1)) = zh1 (zb4 D (xs.take k)) p.1 [p.2] := by
 rw [List.take_add_one, h]; simp [zb4, List.foldl_append]
theorem zkN (D : Dk) (xs : List (Nat × Sec)) : (zb4 D xs).left = D.left ∧ (zb4 D xs).dead = D.dead := by
 induction xs generalizing D with
 | nil => exact ⟨rfl, rfl⟩
 | cons x xs ih => exact ih (zh1 D x.1 [x.2])
theorem zgl {D : Dk} {i : Nat} : i ∈ opN D ↔ i < D.V.length ∧ zbX D i = true := by
 rw [opN, List.mem_filter, List.mem_range]
theorem zjG (D : Dk) : (opN D).Nodup := List.Nodup.sublist List.filter_sublist List.nodup_range
def zdJ (D : Dk) (f : Nat → Nat → Sec) : List (Nat × Sec) := (opN D).zipIdx.map fun x => (x.1, f x.2 x.1)
theorem ziX {D : Dk} {f : Nat → Nat → Sec} {k i : Nat} (h : (opN D)[k]? = some i) : (zdJ D f)[k]? = some (i, f k i) := by
 rw [zdJ, List.getElem?_map, List.getElem?_zipIdx, h]; simp
theorem zea (D : Dk) (f : Nat → Nat → Sec) : (zdJ D f).map (·.1) = opN D := by
 rw [zdJ, List.map_map]
 show (opN D).zipIdx.map (fun x => x.1) = opN D
 exact List.zipIdx_map_fst ..
theorem zjH (D : Dk) (f : Nat → Nat → Sec) : (zdJ D f).length = (opN D).length := by rw [← zea D f, List.length_map]
theorem ziY {D : Dk} {f : Nat → Nat → Sec} {p : Nat × Sec} (h : p ∈ zdJ D f) : p.1 < D.V.length := by
 have : p.1 ∈ (zdJ D f).map (·.1) := List.mem_map_of_mem h
 rw [zea] at this
 exact (zgl.1 this).1
theorem zhn {D : Dk} {f : Nat → Nat → Sec} {k i : Nat} (h : (opN D)[k]? = some i) : ver (zb4 D ((zdJ D f).take k)) i = ver D i := by
 refine zff _ D i (fun p hp => ziY (List.mem_of_mem_take hp)) fun p hp e => ?_
 obtain ⟨j, hj⟩ := List.getElem?_of_mem hp
 rw [List.getElem?_take] at hj
 split at hj
 ·rename_i hjk
  have hk : ((zdJ D f).map (·.1))[j]? = some p.1 := by rw [List.getElem?_map, hj]; rfl
  rw [zea, e] at hk
  have hnd := zjG D
  have h1 := (List.getElem?_eq_some_iff.1 hk)
  have h2 := (List.getElem?_eq_some_iff.1 h)
  obtain ⟨l1, e1⟩ := h1
  obtain ⟨l2, e2⟩ := h2
  have := (List.getElem_inj hnd).1 (e1.trans e2.symm)
  omega
 ·cases hj
theorem opI_at {D : Dk} {k : Nat} (h : k < (opN D).length) : ∃ i, (opN D)[k]? = some i ∧ (iv (opI D))[k]? = some (.int .i64 (i : Int)) ∧ i < D.V.length := by
 obtain ⟨i, hi⟩ : ∃ i, (opN D)[k]? = some i := ⟨_, List.getElem?_eq_getElem h⟩
 refine ⟨i, hi, ?_, (zgl.1 (List.mem_of_getElem? hi)).1⟩
 rw [iv_get, opI, List.getElem?_map, hi]; rfl
theorem znd (D : Dk) : (opI D).length = (opN D).length := by simp [opI]
theorem zne {v : List Sec} (h : zbV v) (k : Nat) : (zgG v k).length = 128 := by
 have hg : ∀ j, (v.getD j zbv).length = 128 := fun j => by
  rw [List.getD_eq_getElem?_getD]
  cases hj : v[j]? with
  | none => simp [zbv]
  | some s => exact h s (List.mem_of_getElem? hj)
 unfold zgG
 split
 ·exact hg _
 ·split
  ·exact zlu h
  ·have h1 := hg (k / 2)
   have h2 := hg (k / 2 - 1)
   rw [zh5, List.length_append, List.length_take, List.length_drop]; omega
theorem zlx {v : List Sec} (h : zbV v) (_ : v ≠ []) (pick : Int) : (zgj v pick).length = 128 := zne h _
theorem zco (D : Dk) : (zcs D).V = D.V := by unfold zcs; split <;> rfl
def zbh (D : Dk) (picks : List Int) : Dk := { zb4 D (zdJ D fun k i => zgj (ver D i) (picks.getD k 0)) with left := -1, dead := false }
def zjI (D : Dk) : Dk := if za3 D then zb4 (zcs D) (zdJ (zcs D) fun _ i => zaB (zcs D) i) else zcs D
set_option maxRecDepth 20000 in
set_option maxHeartbeats 1000000 in
theorem flush16 {w : World} {g pl m : Nat} {G : List Nat} {D : Dk} {ol cl : Nat} {st : Int} {fu : Bool} {sv : Nat → Value} (h : DkM w g pl m G D ol cl st fu sv) :
   Calls Tryz.prog 66 [.pointer (some ⟨g, 0, none⟩)].toArray w (Ret fun v w' => v = .int .i64 (if za3 D then 0 else 10) ∧ (∃ st', DkM w' g pl m G (zjI D) ol cl st' fu sv) ∧ Kp [g, pl, m] w w') := by
 have hS := zeY h
 have hp := h.pos
 have hst := step36 h
 have hK := KpB.refl [g, pl, m] w
 obtain ⟨ok, hok⟩ : ∃ ok, za3 D = ok := ⟨_, rfl⟩
 rw [zjI]
 rw [hok] at hst ⊢
 obtain ⟨D1, hD1⟩ : ∃ D1, zcs D = D1 := ⟨_, rfl⟩
 rw [hD1] at hst ⊢
 have hlg := h.row.lt
 refine zaw (fn := Tryz.f66) (rs := [.tmp 2]) (n := 28) Tryz.func66 rfl rfl Tryz.ntmps66 (by kernel_rfl) rfl ?_
 refine zak (zac (zaa rfl (zad) (zaf (zai (zak (zak (zac (zaa rfl (zab) ?_))))))))
 refine zat rfl (zao (by kernel_rfl) rfl) (hS) ?_
 rintro _ _ ⟨rfl, rfl⟩
 refine zaa rfl (zbr rfl rfl) ?_
 refine zaf (zai ?_)
 refine zdT rfl ((by omega)) ?_
 refine zau (zai (zak (zak (zac (zaa rfl (zab) ?_)))))
 refine zat rfl (zao (by kernel_rfl) rfl) (hst) ?_
 rintro _ w10 ⟨rfl, ⟨st1, h1⟩, hb10⟩
 replace hK := hK.only hb10 (by first | (simp; done) | (right; omega))
 refine zaa rfl (zad) (zaf (zai (zak (zac (zaa rfl (zab) ?_)))))
 refine zaa rfl (zaW rfl rfl) ?_
 refine zaf (zai ?_)
 refine zaZ rfl (fun hne => ?_) (fun hne => ?_)
 ·
  refine zak (zac (zaa rfl (zab) (zaa rfl (zad) (zaf (zai (zax (zaT ?_)))))))
  refine zar [_] ⟨rfl, trivial⟩ ?_
  have hk0 : ok = false := by cases ok with | false => rfl | true => simp at hne
  refine ⟨by rw [hk0]; rfl, ⟨st1, by rw [hk0]; exact h1⟩, hK.k⟩
 ·
  have hk1 : ok = true := by cases ok with | true => rfl | false => simp at hne
  rw [hk1, if_pos rfl, if_pos rfl]
  have hOp := open22 h1
  have hoil := znd D1
  have hg1 := h1.row.lt
  have hpl1 := h1.own.lt
  have hm1 := h1.map.lt
  refine zau (zai (zak (zak (zac (zaa rfl (zab) ?_)))))
  refine zat rfl (zao (by kernel_rfl) rfl) (hOp) ?_
  rintro _ w15 ⟨p, c, rfl, hsl, hpb, hb15⟩
  replace hK := hK.new hb15
  refine zaa rfl (zaA (e := 3) (sz := 1) (by kernel_rfl) rfl rfl) ?_
  refine zaa rfl (zab) (zaf (zai (zaD ?_)))
  have hn8 := h1.ok.n
  have hoc : (opN D1).length ≤ D1.V.length := Nat.le_trans (List.length_filter_le _ _) (by rw [List.length_range]; exact Nat.le_refl _)
  have hobt : ∃ X, (zdJ D1 fun _ i => zaB D1 i) = X := ⟨_, rfl⟩
  obtain ⟨X, hX⟩ := hobt
  rw [hX]
  have hXl : X.length = (opN D1).length := by rw [← hX, zjH]
  have hpn : ∀ b o, p = some ⟨b, o, none⟩ → b ∉ [pl, m] := fun b o e hm => by
    have := hpb b o e
    simp only [List.mem_cons, List.not_mem_nil, or_false] at hm
    omega
  have hM0 : DkM w15 g pl m G (zb4 D1 (X.take 0)) ol cl st1 fu sv := h1.new (by assumption)
  refine zbF (α := Nat) 0 (fun k => [(17, .int .i64 (k : Nat)), (16, .int .i64 ((opI D1).length : Nat)), (15, .slice p (opI D1).length c), (0, .pointer (some ⟨g, 0, none⟩))])
    (fun k w' => k ≤ (opN D1).length ∧ DkM w' g pl m G (zb4 D1 (X.take k)) ol cl st1 fu sv ∧ za9 w' p (opI D1).length 1 (iv (opI D1)) ∧ KpB [g, pl, m] w w') (fun k => (opN D1).length - k)
    ⟨rfl, rfl, rfl, rfl, rfl⟩ ⟨Nat.zero_le _, hM0, hsl, hK⟩ ?_
  clear hM0 hsl hK
  rintro k f wr ⟨hk, hM, hsl, hK⟩
  refine zak (zac ?_)
  refine zaa rfl (zbd rfl rfl) ?_
  refine zaf (zai (zak ?_))
  refine zaZ rfl (fun hlt => ?_) (fun hlt => ?_)
  ·
   refine zau (zai (zak (zaD (zak ?_))))
   have hobt := opI_at (D := D1) (k := k) (by omega)
   obtain ⟨i, hik, hiv, hil⟩ := hobt
   have hobt := hsl.some (by omega)
   obtain ⟨gp, op, rfl, hgp⟩ := hobt
   have hrd : zaB (zb4 D1 (X.take k)) i = zaB D1 i := by rw [zaB, ← hX, zhn hik]; rfl
   have hVl := zd9 D1 (X.take k)
   have hXk : X[k]? = some (i, zaB D1 i) := by rw [← hX]; exact ziX hik
   have hnw := now38 hM i (by omega)
   rw [hrd] at hnw
   have hsn := zhm D1 X hXk
   have hl128 : (zaB D1 i).length = 128 := zfZ (zdI h1.ok hil).2.1
   refine zac ?_
   refine zaa rfl (zbm (e := 3) (by kernel_rfl) rfl rfl (k) (by omega) (by omega)) ?_
   refine zaa rfl (zam rfl (Ld.sl1 hsl (by kernel_rfl) hiv)) ?_
   refine zaa rfl (zad) (zaf (zai (zac (zaa rfl (zab) (zaa rfl (zab) (zaa rfl (zab) (zaa rfl (zab) ?_)))))))
   refine zat rfl (zao (by kernel_rfl) rfl) (hnw) ?_
   rintro _ w25 ⟨rfl, hb25⟩
   replace hK := hK.new hb25
   replace hM := hM.new hb25
   refine zat rfl (zao (by kernel_rfl) rfl) (zlw hM i _ (by omega) hl128) ?_
   rintro _ w26 ⟨hM2, hb26⟩
   replace hK := hK.kpd hb26 (by first | (simp; done) | (simp; omega))
   rw [← hsn] at hM2
   refine zaf (za2 (zai (zac ?_)))
   refine zaa rfl (zaV rfl rfl (Coup.w64 (by omega))) ?_
   refine zaa rfl (zab) (zaf ?_)
   refine zbq ⟨k + 1, by omega, ⟨by go_num, rfl, rfl, rfl, rfl⟩, by omega, hM2, (hsl.new hb25).kpd hb26 hpn, hK⟩
  ·
   have hkl : k = (opN D1).length := by omega
   rw [hkl, List.take_of_length_le (by omega)] at hM
   refine zbp (zbW (zb9 (zbw (zai (zak (zac (zaa rfl (zad) (zaf (zai (zax ?_))))))))))
   refine zar [_] ⟨rfl, trivial⟩ ?_
   exact ⟨rfl, ⟨st1, hM⟩, hK.k⟩
set_option maxRecDepth 20000 in
set_option maxHeartbeats 1000000 in
theorem crash20 {w : World} {g pl m : Nat} {G : List Nat} {D : Dk} {ol cl : Nat} {st : Int} {fu : Bool} {sv : Nat → Value} (h : DkM w g pl m G D ol cl st fu sv) (pp : Option Addr) (np cp : Nat) (picks : List Int) (hpk : za9 w pp np 1 (iv picks)) (hpkb : 0 < np → ∀ b o, pp = some ⟨b, o, none⟩ → b ∉ [g, pl, m]) :
   Calls Tryz.prog 31 [.pointer (some ⟨g, 0, none⟩), .slice pp np cp].toArray w (Ret fun v w' => v = .int .i64 0 ∧ DkM w' g pl m G (zbh D picks) ol cl 0 false sv ∧ Kp [g, pl, m] w w') := by
 have hS := zeY h
 have hp := h.pos
 have hK := KpB.refl [g, pl, m] w
 have hOp := open22 h
 have hoil := znd D
 have hg1 := h.row.lt
 have hpl1 := h.own.lt
 have hm1 := h.map.lt
 have hn8 := h.ok.n
 have hnp : np = picks.length := by simpa [zaM] using hpk.len.symm
 have hoc : (opN D).length ≤ D.V.length := Nat.le_trans (List.length_filter_le _ _) (by rw [List.length_range]; exact Nat.le_refl _)
 rw [zbh]
 obtain ⟨X, hX⟩ : ∃ X, (zdJ D fun k i => zgj (ver D i) (picks.getD k 0)) = X := ⟨_, rfl⟩
 rw [hX]
 have hXl : X.length = (opN D).length := by rw [← hX, zjH]
 refine zaw (fn := Tryz.f31) (rs := [.tmp 4]) (n := 44) Tryz.func31 rfl rfl Tryz.ntmps31 (by kernel_rfl) rfl ?_
 refine zak (zac (zaa rfl (zad) (zaf (zai (zak (zak (zac (zaa rfl (zab) ?_))))))))
 refine zat rfl (zao (by kernel_rfl) rfl) (hS) ?_
 rintro _ _ ⟨rfl, rfl⟩
 refine zaa rfl (zbr rfl rfl) ?_
 refine zaf (zai ?_)
 refine zdT rfl ((by omega)) ?_
 refine zau (zai (zak (zak (zac (zaa rfl (zab) ?_)))))
 refine zat rfl (zao (by kernel_rfl) rfl) (hOp) ?_
 rintro _ w12 ⟨p, c, rfl, hsl, hpb, hb12⟩
 replace hK := hK.new hb12
 refine zaa rfl (zaA (e := 3) (sz := 1) (by kernel_rfl) rfl rfl) ?_
 refine zaa rfl (zab) (zaf (zai (zaD ?_)))
 have hpn : ∀ b o, p = some ⟨b, o, none⟩ → b ∉ [pl, m] := fun b o e hm => by
   have := hpb b o e
   simp only [List.mem_cons, List.not_mem_nil, or_false] at hm
   omega
 have hM0 : DkM w12 g pl m G (zb4 D (X.take 0)) ol cl st fu sv := h.new (by assumption)
 refine zbF (α := Nat) 0 (fun k => [(14, .int .i64 (k : Nat)), (13, .int .i64 ((opI D).length : Nat)), (12, .slice p (opI D).length c), (0, .pointer (some ⟨g, 0, none⟩)), (1, .slice pp np cp)])
   (fun k w' => k ≤ (opN D).length ∧ DkM w' g pl m G (zb4 D (X.take k)) ol cl st fu sv ∧ za9 w' p (opI D).length 1 (iv (opI D)) ∧ KpB [g, pl, m] w w') (fun k => (opN D).length - k)
   ⟨rfl, rfl, rfl, rfl, rfl, rfl⟩ ⟨Nat.zero_le _, hM0, hsl, hK⟩ ?_
 clear hM0 hsl hK
 rintro k f wr ⟨hk, hM, hsl, hK⟩
 have hVl := zd9 D (X.take k)
 have hpk2 := hpk.kpd0 hK.k hpkb
 refine zak (zac ?_)
 refine zaa rfl (zbd rfl rfl) ?_
 refine zaf (zai (zak ?_))
 refine zaZ rfl (fun hlt => ?_) (fun hlt => ?_)
 ·
  refine zau (zai (zak (zaD (zak ?_))))
  have hobt := opI_at (D := D) (k := k) (by omega)
  obtain ⟨i, hik, hiv, hil⟩ := hobt
  have hobt := hsl.some (by omega)
  obtain ⟨gp, op, rfl, hgp⟩ := hobt
  refine zac (zaa rfl (zab) ?_)
  refine zaa rfl (zbm (e := 3) (by kernel_rfl) rfl rfl (k) (by omega) (by omega)) ?_
  refine zaa rfl (zam rfl (Ld.sl1 hsl (by kernel_rfl) hiv)) ?_
  refine zaa rfl (zad) (zaa rfl (zad) (zaf (zai (zak (zac (zaa rfl (zad) (zaf (zai ?_))))))))
  refine zjy (fun pk : Int => [(7, .int .i64 pk), (6, .int .i64 (i : Nat)), (14, .int .i64 (k : Nat)), (13, .int .i64 ((opI D).length : Nat)), (12, .slice (some ⟨gp, op, none⟩) (opI D).length c), (0, .pointer (some ⟨g, 0, none⟩)), (1, .slice pp np cp)]) (fun pk w' => pk = picks.getD k 0 ∧ wr = w') ?_ ?_
  ·
   refine zak (zac (zaa rfl (zab) (zaa rfl (zab) ?_)))
   refine zaa rfl (zaA (e := 3) (sz := 1) (by kernel_rfl) rfl rfl) ?_
   refine zaa rfl (zbd rfl rfl) ?_
   refine zaf (zai ?_)
   refine zaZ rfl (fun hkp => ?_) (fun hkp => ?_)
   ·
    have hobt : ∃ pk, picks[k]? = some pk := ⟨_, List.getElem?_eq_getElem (by omega)⟩
    obtain ⟨pk, hpk3⟩ := hobt
    have hobt := hpk2.some (by omega)
    obtain ⟨gq, oq, rfl, hgq⟩ := hobt
    refine zac (zaa rfl (zab) (zaa rfl (zab) ?_))
    refine zaa rfl (zbm (e := 3) (by kernel_rfl) rfl rfl (k) (by omega) (by omega)) ?_
    refine zaa rfl (zam rfl (Ld.sl1 hpk2 (by kernel_rfl) (zeq hpk3))) ?_
    refine zaa rfl (zad) (zaf ?_)
    refine zbq ⟨pk, ⟨rfl, rfl, rfl, rfl, rfl, rfl, rfl, rfl⟩, by rw [List.getD_eq_getElem?_getD, hpk3]; rfl, rfl⟩
   ·
    refine zau ?_
    refine zbq ⟨0, ⟨rfl, rfl, rfl, rfl, rfl, rfl, rfl, rfl⟩, by rw [List.getD_eq_getElem?_getD, List.getElem?_eq_none (by omega)]; rfl, rfl⟩
  ·
   rintro pk f2 wz ⟨hpkv, rfl⟩
   have hls := left40 hM i pk (by omega)
   have hfr : ver (zb4 D (X.take k)) i = ver D i := by rw [← hX, zhn hik]
   rw [hfr] at hls
   have hXk : X[k]? = some (i, zgj (ver D i) pk) := by rw [← hX, hpkv]; exact ziX hik
   have hsn := zhm D X hXk
   have hl128 : (zgj (ver D i) pk).length = 128 := zlx (zdI h.ok hil).2.1 (zdI h.ok hil).1 _
   refine zac (zaa rfl (zab) (zaa rfl (zab) (zaa rfl (zab) (zaa rfl (zab) (zaa rfl (zab) ?_)))))
   refine zat rfl (zao (by kernel_rfl) rfl) (hls) ?_
   rintro _ w32 ⟨rfl, hb32⟩
   replace hK := hK.new hb32
   replace hM := hM.new hb32
   refine zat rfl (zao (by kernel_rfl) rfl) (zlw hM i _ (by omega) hl128) ?_
   rintro _ w33 ⟨hM2, hb33⟩
   replace hK := hK.kpd hb33 (by first | (simp; done) | (simp; omega))
   rw [← hsn] at hM2
   refine zaf (za2 (zai (zac ?_)))
   refine zaa rfl (zaV rfl rfl (Coup.w64 (by omega))) ?_
   refine zaa rfl (zab) (zaf ?_)
   refine zbq ⟨k + 1, by omega, ⟨by go_num, rfl, rfl, rfl, rfl, rfl⟩, by omega, hM2, (hsl.new hb32).kpd hb33 hpn, hK⟩
 ·
  have hkl : k = (opN D).length := by omega
  rw [hkl, List.take_of_length_le (by omega)] at hM
  have hr := hM.row
  refine zbp (zbW (zb9 (zbw (zai (zak (zac (zaa rfl (zab) (zaa rfl (zab) (zaa rfl (zab) (zaa rfl (zal rfl) (zaa rfl (zaj (off := 2) (by kernel_rfl) rfl) ?_)))))))))))
  refine za4 rfl (zaP rfl rfl rfl rfl hr (by kernel_rfl) (by first | (simp only [List.length_replicate]; omega) | (simp only [zaM]; omega) | (simp only [zae, List.length_set]; omega) | simp) (fun w901 hr ho901 => ?_))
  replace hK := hK.only ho901 (by first | (simp; done) | (right; omega))
  have ho1 := ho901
  refine zaa rfl (zal rfl) (zaa rfl (zaj (off := 3) (by kernel_rfl) rfl) ?_)
  refine za4 rfl (zaP rfl rfl rfl rfl hr (by kernel_rfl) (by first | (simp only [List.length_replicate]; omega) | (simp only [zaM]; omega) | (simp only [zae, List.length_set]; omega) | simp) (fun w902 hr ho902 => ?_))
  replace hK := hK.only ho902 (by first | (simp; done) | (right; omega))
  have ho2 := ho902
  refine zaa rfl (zal rfl) (zaa rfl (zaj (off := 4) (by kernel_rfl) rfl) ?_)
  refine za4 rfl (zaP rfl rfl rfl rfl hr (by kernel_rfl) (by first | (simp only [List.length_replicate]; omega) | (simp only [zaM]; omega) | (simp only [zae, List.length_set]; omega) | simp) (fun w903 hr ho903 => ?_))
  replace hK := hK.only ho903 (by first | (simp; done) | (right; omega))
  refine zaf (zai (zak (zac (zaa rfl (zad) (zaf (zai (zax ?_)))))))
  refine zar [_] ⟨rfl, trivial⟩ ?_
  have ho3 := Only.trans (Only.trans ho1 ho2) ho903
  have ht := hM.turn ho3 (left' := -1) (dead' := false) (fu' := false) hr ⟨by omega, by omega, rfl⟩
  exact ⟨rfl, ht, hK.k⟩
structure DkO (w : World) (G : List Nat) (D : Dk) (sv : Nat → Value) : Prop where
 own : ∀ i, zbX D i = true → zaJ w 0 94 128 (sv i) ((ver D i).length - 1) (bv (ver D i).tail.flatten) ∧ ∀ b, (sv i).ownBlock = some b → b ∈ G
 sep : ∀ i j b, zbX D i = true → zbX D j = true → (sv i).ownBlock = some b → (sv j).ownBlock = some b → i = j
theorem DkO.kpd {w w' : World} {G M : List Nat} {D : Dk} {sv : Nat → Value} (h : DkO w G D sv) (k : Kp M w w') (hM : ∀ b ∈ G, b ∉ M) : DkO w' G D sv :=
 ⟨fun i hi => ⟨(h.own i hi).1.kpd k fun b hb e => hM b ((h.own i hi).2 b e) hb, (h.own i hi).2⟩, h.sep⟩
theorem DkO.alike {w : World} {G : List Nat} {D D' : Dk} {sv : Nat → Value} (h : DkO w G D sv) (hV : D'.V = D.V) : DkO w G D' sv := by
 have h1 : ∀ i, ver D' i = ver D i := fun i => by unfold ver; rw [hV]
 have h2 : ∀ i, zbX D' i = zbX D i := fun i => by unfold zbX; rw [h1]
 exact ⟨fun i hi => by rw [h1]; exact h.own i (by rw [← h2]; exact hi), fun i j b hi hj => h.sep i j b (by rw [← h2]; exact hi) (by rw [← h2]; exact hj)⟩
theorem DkO.look {w : World} {g pl m : Nat} {G : List Nat} {D : Dk} {ol cl : Nat} {st : Int} {fu : Bool} {sv : Nat → Value} (h : DkM w g pl m G D ol cl st fu sv) (ho : DkO w G D sv) (i : Nat) (hi : i < D.V.length) :
  ∃ p c, (since D sv i).getD (.slice none 0 0) = .slice p ((ver D i).length - 1) c ∧ zaJ w 0 94 128 (.slice p ((ver D i).length - 1) c) ((ver D i).length - 1) (bv (ver D i).tail.flatten) ∧ (∀ b, Value.ownBlock (.slice p ((ver D i).length - 1) c) = some b → b ∈ G) ∧ ∀ j b, zbX D j = true → j ≠ i → Value.ownBlock (.slice p ((ver D i).length - 1) c) = some b → (sv j).ownBlock ≠ some b := by
 by_cases hb : zbX D i = true
 ·obtain ⟨p, c, h1, _, _⟩ := h.sv i hb
  have h2 := ho.own i hb
  rw [h1] at h2
  refine ⟨p, c, by rw [since, if_pos hb]; exact h1, h2.1, h2.2, fun j b hj hne e e' => hne ?_⟩
  exact ho.sep j i b hj hb e' (by rw [h1]; exact e)
 ·have h1 := (zdI h.ok hi).1
  have h2 : (ver D i).length = 1 := by
   have := List.length_pos_iff.2 h1
   simp only [zbX, decide_eq_true_eq] at hb
   omega
  obtain ⟨a, ha⟩ := List.length_eq_one_iff.1 h2
  refine ⟨none, 0, by rw [since, if_neg hb, h2]; rfl, ?_, (fun b e => nomatch e), (fun j b _ _ e => nomatch e)⟩
  rw [ha]
  exact zby _ _ _ _
theorem zkO {D : Dk} {sv : Nat → Value} {i : Nat} {v : List Sec} {u : Value} (hi : i < D.V.length) (hv : 1 < v.length) : since (zh1 D i v) (fun j => if j = i then u else sv j) = zh0 (since D sv) i (some u) := by
 funext j
 unfold since zh0 zbX
 rw [zer hi]
 by_cases h : j = i
 ·subst h; simp [hv]
 ·simp only [if_neg (show ¬ i = j from fun e => h e.symm), if_neg h]
theorem zly {w w' : World} {g pl m : Nat} {G : List Nat} {D : Dk} {ol cl : Nat} {st : Int} {fu : Bool} {sv : Nat → Value} {i : Nat} {s : Sec} {u : Value} {ob : Option Nat} {p : Option Addr} {c : Nat}
  (h : DkM w g pl m G D ol cl st fu sv) (ho : DkO w G D sv) (hi : i < D.V.length) (hs : s.length = 128) (hsh : (ver D i).length < 100000)
  (k : Kp (m :: ob.toList) w w') (hmap : MapAt Tryz.prog 3 w' m D.V.length (zh0 (since D sv) i (some u))) (hu : u = .slice p ((ver D i).length - 1 + 1) c)
  (hv : zaJ w' 0 94 128 u ((ver D i).length - 1 + 1) (bv (ver D i).tail.flatten ++ bv s)) (hpG : ∀ b, ob = some b → b ∈ G)
  (hsep : ∀ j b, zbX D j = true → j ≠ i → ob = some b → (sv j).ownBlock ≠ some b) (hva : ∀ b, u.ownBlock = some b → ob = some b ∨ w.heap.size ≤ b) :
  ∃ G' sv', DkM w' g pl m G' (zh1 D i (ver D i ++ [s])) ol cl st fu sv' ∧ DkO w' G' (zh1 D i (ver D i ++ [s])) sv' ∧ ∀ b ∈ G', b ∈ G ∨ w.heap.size ≤ b := by
 obtain ⟨hv1, hv2, hv3⟩ := zdI h.ok hi
 have hvp := List.length_pos_iff.2 hv1
 obtain ⟨n1, n2, n3, n4⟩ := h.ne
 have hX : ∀ b, b ∉ G → b ≠ m → b ∉ m :: ob.toList := fun b hb hm e => by
  rcases List.mem_cons.1 e with e | e
  ·exact hm e
  ·exact hb (hpG b (Option.mem_toList.1 e))
 obtain ⟨D', hD'⟩ : ∃ D', zh1 D i (ver D i ++ [s]) = D' := ⟨_, rfl⟩
 have hver : ∀ j, ver D' j = if i = j then ver D i ++ [s] else ver D j := fun j => by rw [← hD']; exact zer hi
 have hlen : D'.V.length = D.V.length := by rw [← hD']; exact List.length_set ..
 have hopi : zbX D' i = true := by unfold zbX; rw [hver, if_pos rfl]; simp; omega
 have hopj : ∀ j, j ≠ i → zbX D' j = zbX D j := fun j hj => by unfold zbX; rw [hver, if_neg (Ne.symm hj)]
 have hla : zdH D' = zdH D := by
  rw [← hD', zjE]
  have hh : zfC (ver D i ++ [s]) = zfC (ver D i) := by obtain ⟨a, l, e⟩ := List.exists_cons_of_ne_nil hv1; rw [e]; rfl
  rw [hh]
  have hl := ziW hi
  refine List.ext_getElem? fun j => ?_
  rw [List.getElem?_set]
  by_cases hij : i = j
  ·subst hij
   rw [if_pos rfl, if_pos (List.getElem?_eq_some_iff.1 hl).1, hl]
  ·rw [if_neg hij]
 have htl : bv (ver D' i).tail.flatten = bv (ver D i).tail.flatten ++ bv s := by
  rw [hver, if_pos rfl, ← zbI]
  obtain ⟨a, l, e⟩ := List.exists_cons_of_ne_nil hv1
  rw [e]; simp
 have hln : (ver D' i).length - 1 = (ver D i).length - 1 + 1 := by rw [hver, if_pos rfl, List.length_append, List.length_singleton]; omega
 obtain ⟨sv', hsv'⟩ : ∃ sv' : Nat → Value, sv' = fun j => if j = i then u else sv j := ⟨_, rfl⟩
 have hsi : sv' i = u := by rw [hsv']; simp
 have hsj : ∀ j, j ≠ i → sv' j = sv j := fun j hj => by rw [hsv']; simp [hj]
 have hsz := k.size
 have hnew : ∀ b, u.ownBlock = some b → b ∈ G ∨ w.heap.size ≤ b := fun b e => (hva b e).imp (hpG b) id
 have hum : ∀ b, b ∈ u.ownBlock.toList → b ∈ G ∨ w.heap.size ≤ b := fun b hb => hnew b (Option.mem_toList.1 hb)
 have hg1 := h.row.lt
 have hg2 := h.own.lt
 have hg3 := h.map.lt
 have hown : ∀ j, zbX D' j = true → zaJ w' 0 94 128 (sv' j) ((ver D' j).length - 1) (bv (ver D' j).tail.flatten) ∧ ∀ b, (sv' j).ownBlock = some b → b ∈ G ++ u.ownBlock.toList := fun j hj => by
  by_cases e : j = i
  ·subst e
   rw [hsi, hln, htl]
   exact ⟨hv, fun b e => List.mem_append_right _ (Option.mem_toList.2 e)⟩
  ·rw [hopj j e] at hj
   rw [hsj j e, hver, if_neg (Ne.symm e)]
   have := ho.own j hj
   refine ⟨this.1.kpd k fun b hb e' => ?_, fun b e' => List.mem_append_left _ (this.2 b e')⟩
   rcases List.mem_cons.1 hb with hb | hb
   ·exact (n4 b (this.2 b e')).2.2 hb
   ·exact hsep j b hj e (Option.mem_toList.1 hb) e'
 rw [hD']
 refine ⟨G ++ u.ownBlock.toList, sv', ?_, ⟨hown, fun a b x ha hb ea eb => ?_⟩, fun b hb => ?_⟩
 ·have hs' : since D' sv' = zh0 (since D sv) i (some u) := by rw [← hD', hsv']; exact zkO hi (by rw [List.length_append, List.length_singleton]; omega)
  refine ⟨by rw [hlen]; rw [show D'.dead = D.dead by rw [← hD']; rfl]; exact h.row.kpd k (hX g (fun e => (n4 g e).1 rfl) n2), by rw [hlen, hla]; exact h.own.kpd k (hX pl (fun e => (n4 pl e).2.1 rfl) n3), by rw [hlen, hs']; exact hmap, fun j hj => ?_, fun b hb => ?_, ⟨n1, n2, n3, fun b hb => ?_⟩, by rw [show D'.left = D.left by rw [← hD']; rfl]; exact h.left, ?_, by rw [hlen]; exact h.pos⟩
  ·obtain ⟨h1, h2⟩ := hown j hj
   obtain ⟨q, c', e⟩ := h1.form
   rw [e] at h1 h2
   exact ⟨q, c', e, h1.sl, fun b o e' => h2 b (by rw [e']; rfl)⟩
  ·rcases List.mem_append.1 hb with hb | hb
   ·exact Nat.lt_of_lt_of_le (h.inG b hb) hsz
   ·exact (hv.lt b (Option.mem_toList.1 hb)).2
  ·rcases List.mem_append.1 hb with hb | hb
   ·exact n4 b hb
   ·rcases hum b hb with hb | hb
    ·exact n4 b hb
    ·exact ⟨by omega, by omega, by omega⟩
  ·rw [← hD']
   refine zkL h.ok (by simp) (fun x hx => ?_) (by rw [List.length_append, List.length_singleton]; omega)
   rcases List.mem_append.1 hx with hx | hx
   ·exact hv2 x hx
   ·rw [List.mem_singleton.1 hx]; exact hs
 ·have hcl : ∀ y, y ≠ i → zbX D' y = true → u.ownBlock = some x → (sv y).ownBlock = some x → False := fun y hy hoy eu ey => by
   rw [hopj y hy] at hoy
   rcases hva x eu with e | e
   ·exact hsep y x hoy hy e ey
   ·have := h.inG x ((ho.own y hoy).2 x ey); omega
  by_cases e1 : a = i
  ·by_cases e2 : b = i
   ·rw [e1, e2]
   ·rw [e1, hsi] at ea
    rw [hsj b e2] at eb
    exact (hcl b e2 hb ea eb).elim
  ·by_cases e2 : b = i
   ·rw [e2, hsi] at eb
    rw [hsj a e1] at ea
    exact (hcl a e1 ha eb ea).elim
   ·rw [hsj a e1] at ea
    rw [hsj b e2] at eb
    exact ho.sep a b x (by rw [← hopj a e1]; exact ha) (by rw [← hopj b e2]; exact hb) ea eb
 ·rcases List.mem_append.1 hb with hb | hb
  ·exact .inl hb
  ·exact hum b hb
set_option maxRecDepth 8000 in
set_option maxHeartbeats 1000000 in
theorem zoH {w : World} {g pl m : Nat} {G : List Nat} {D : Dk} {ol cl : Nat} {st : Int} {fu : Bool} {sv : Nat → Value} (h : DkM w g pl m G D ol cl st fu sv) (ho : DkO w G D sv) (i : Nat) (s : Sec) (hi : i < D.V.length) (hs : s.length = 128) (hsh : (ver D i).length < 100000) :
   Calls Tryz.prog 78 [.pointer (some ⟨g, 0, none⟩), .int .i64 (i : Int), .agg (bv s).toArray].toArray w
    (Ret fun v w' => v = .int .i64 (if za3 D then 0 else 10) ∧ (∃ st' G' sv', DkM w' g pl m G' (zfo D i s) ol cl st' fu sv' ∧ DkO w' G' (zfo D i s) sv' ∧ ∀ b ∈ G', b ∈ G ∨ w.heap.size ≤ b) ∧ Kp ([g, pl, m] ++ G) w w') := by
 have hml : maxLen = 9223372036854775807 := by decide
 have hK := KpB.refl ([g, pl, m] ++ G) w
 have hsl : (bv s).length = 128 := by rw [zae]; exact hs
 obtain ⟨D1, hD1⟩ : ∃ D1, zcs D = D1 := ⟨_, rfl⟩
 obtain ⟨ok, hok⟩ : ∃ ok, za3 D = ok := ⟨_, rfl⟩
 have hV1 : D1.V = D.V := by rw [← hD1]; exact zco D
 have hver : ver D1 i = ver D i := by unfold ver; rw [hV1]
 rw [zfo, hD1, hok, ← hver]
 rw [← hver] at hsh
 refine zaw (fn := Tryz.f78) (rs := [.tmp 6]) (n := 34) Tryz.func78 rfl rfl Tryz.ntmps78 (by kernel_rfl) rfl ?_
 refine zak (zac ?_)
 refine zaX rfl (zca ((bv s)) rfl (fun g5 w5 hg5 hr5 hb5 => ?_))
 replace hK := hK.new hb5
 have h5 := h.new hb5
 have ha := at39 h5 (i : Int)
 rw [if_pos (by omega)] at ha
 have hst := step36 h5
 rw [hD1, hok] at hst
 have ho5 := ho.kpd (M := []) (Kp.of_below hb5) (by simp)
 have g5g : g5 ≠ g := by have := h.row.lt; omega
 refine zaa rfl (zad) (zaf (zai (zak (zak (zac (zaa rfl (zab) (zaa rfl (zab) ?_)))))))
 refine zat rfl (zao (by kernel_rfl) rfl) (ha) ?_
 rintro _ _ ⟨rfl, rfl⟩
 refine zaa rfl (zad) (zaf (zai (zak (zac (zaa rfl (zab) ?_)))))
 refine zaa rfl (zaW rfl rfl) ?_
 refine zaf (zai ?_)
 refine zdT rfl ((by simp)) ?_
 refine zau (zai (zak (zak (zac (zaa rfl (zab) ?_)))))
 refine zat rfl (zao (by kernel_rfl) rfl) (hst) ?_
 rintro _ w16 ⟨rfl, ⟨st1, h1⟩, hb16⟩
 replace hK := hK.only hb16 (by first | (simp; done) | (right; omega))
 replace hr5 := hr5.only hb16 (by omega)
 have ho6 := (ho5.kpd (Kp.zbx hb16) (fun b hb => by simpa using (h.ne.2.2.2 b hb).1)).alike hV1
 refine zaa rfl (zad) (zaf (zai (zak (zac (zaa rfl (zab) ?_)))))
 refine zaa rfl (zaW rfl rfl) ?_
 refine zaf (zai ?_)
 refine zaZ rfl (fun hne => ?_) (fun hne => ?_)
 ·
  refine zak (zac (zaa rfl (zab) (zaa rfl (zad) (zaf (zai (zax (zaT ?_)))))))
  refine zar [_] ⟨rfl, trivial⟩ ?_
  have hk0 : ok = false := by cases ok with | false => rfl | true => simp at hne
  refine ⟨by rw [hk0]; rfl, ⟨st1, G, sv, by rw [hk0]; exact h1, by rw [hk0]; exact ho6, fun b hb => .inl hb⟩, hK.k⟩
 ·
  have hk1 : ok = true := by cases ok with | true => rfl | false => simp at hne
  have hr := h1.row
  have hmap := h1.map
  have hn8 := h1.ok.n
  rw [hk1, if_pos rfl, if_pos rfl]
  have hi1 : i < D1.V.length := by rw [hV1]; exact hi
  have hobt := DkO.look h1 ho6 i hi1
  obtain ⟨p, c, hlk, hown, hpG, hsep⟩ := hobt
  have hobt : ∃ ob, (Value.slice p ((ver D1 i).length - 1) c).ownBlock = ob := ⟨_, rfl⟩
  obtain ⟨ob, hob⟩ := hobt
  have hne := h.ne
  clear hver
  rw [hob] at hpG hsep
  have hx1 : ∀ b, b ∉ G → ob ≠ some b := fun b hb e => hb (hpG b e)
  have hx2 := hx1 g fun hg => (hne.2.2.2 g hg).1 rfl
  have hx3 := hx1 m fun hg => (hne.2.2.2 m hg).2.2 rfl
  have hx4 := hx1 pl fun hg => (hne.2.2.2 pl hg).2.1 rfl
  have hx5 := hx1 g5 fun hg => by have := h.inG g5 hg; omega
  have hx6 : g5 ≠ m := by have := h.map.lt; omega
  have hx7 : g ≠ m := hne.2.1
  have hx8 : pl ≠ m := hne.2.2.1
  have hvp := List.length_pos_iff.2 (zdI h1.ok hi1).1
  have hX0 : DkM w16 g pl m G D1 ol cl st1 fu sv := h1
  have hKx := KpB.refl (m :: ob.toList) w16
  have hK16 := hK
  refine zau (zai (zak ?_))
  refine zbg (m :: (Value.slice p ((ver D1 i).length - 1) c).ownBlock.toList) (by kernel_rfl) ?_
  intro w901 hb901 hS901
  replace hK := hK.new hb901
  replace hr5 := hr5.new hb901
  replace hr := hr.new hb901
  replace hmap := hmap.new hb901
  replace hKx := hKx.new hb901
  replace hown := hown.new hb901
  have hK_d901 := hK
  have hr5_d901 := hr5
  have hr_d901 := hr
  have hmap_d901 := hmap
  have hKx_d901 := hKx
  have hown_d901 := hown
  refine zah 0 (by kernel_rfl) rfl (fun _ _ => zab) ?_
  refine zah 1 (by kernel_rfl) rfl (fun _ _ => zal rfl) ?_
  refine zah 2 (by kernel_rfl) rfl (fun _ _ => zaj (off := 1) (by kernel_rfl) rfl) ?_
  refine zah 3 (by kernel_rfl) rfl (fun w' hS' => zam rfl (Ld.zbb (hr_d901.kq hS') (by kernel_rfl) rfl)) ?_
  refine zah 4 (by kernel_rfl) rfl (fun _ _ => zab) ?_
  refine zah 5 (by kernel_rfl) rfl (fun _ _ => zab) ?_
  refine zah 6 (by kernel_rfl) rfl (fun _ _ => zal rfl) ?_
  refine zah 7 (by kernel_rfl) rfl (fun _ _ => zaj (off := 1) (by kernel_rfl) rfl) ?_
  refine zah 8 (by kernel_rfl) rfl (fun w' hS' => zam rfl (Ld.zbb (hr_d901.kq hS') (by kernel_rfl) rfl)) ?_
  refine zah 9 (by kernel_rfl) rfl (fun _ _ => zab) ?_
  refine zah 11 (by kernel_rfl) rfl (fun w' hS' => zam rfl (Ld.zb5 (k := 128) (hr5_d901.kq hS') (by kernel_rfl) (by kernel_rfl) (by first | (simp; done) | (simp [zae, *]; done) | assumption))) ?_
  refine zfT 10 12 (by kernel_rfl) ?_ ?_
  ·
   refine zgD rfl rfl (zdw (k := 3) (e := 81) (.slice none 0 0) (by kernel_rfl) (by kernel_rfl) (by intro w; first | kernel_rfl | rfl) hmap rfl rfl (i) (by first | rfl | omega) (by omega) (by omega) hlk) hS901 ?_
   refine zaS 12 (by kernel_rfl) ?_
   refine zbN rfl rfl (zci (e := 94) (.agg (bv s).toArray) (bv s) (List.replicate 128 (Value.int .u8 0)) 128 (by kernel_rfl) (by kernel_rfl) rfl rfl (by first | rfl | (simp; done) | (simp [zae, *]; done)) ⟨by decide, by decide⟩ (fun g32 w32 hg32 hr32 hb32 => ?_))
   have hS903 := hS901.add0 hb32
   refine ⟨hS903, ?_⟩
   have ge_hS901_g32 := Nat.le_trans hS901.size hg32
   have lt_g5_g32 : g5 < g32 := Nat.lt_of_lt_of_le hr5.lt hg32
   have lt_g_g32 : g < g32 := Nat.lt_of_lt_of_le hr.lt hg32
   have lt_m_g32 : m < g32 := Nat.lt_of_lt_of_le hmap.lt hg32
   replace hK := hK.new hb32
   replace hr5 := hr5.new hb32
   replace hr := hr.new hb32
   replace hmap := hmap.new hb32
   replace hKx := hKx.new hb32
   replace hown := hown.new hb32
   refine zaS 13 (by kernel_rfl) ?_
   have hs32 := hr32.slA (m := 1) (sz := 128) hsl (by omega)
   refine zbN rfl rfl (za7 (e := 94) (sz := 128) (bytes := 128) (z := .agg (List.replicate 128 (Value.int .u8 0)).toArray) (by kernel_rfl) rfl (by kernel_rfl) rfl (by decide) rfl hown rfl hs32 (zaL _) (by unfold maxLen; omega) (by omega) (fun hm0 => by omega) (fun v33 w33 hv33 hgr33 hfr33 => ?_))
   have hS904 := hS903.ownS hown hgr33 (by first | (left; omega) | exact Or.inr (fun _ h => h) | exact Or.inr (fun _ h => List.mem_cons_of_mem _ h))
   refine ⟨hS904, ?_⟩
   have kG : Kp ob.toList w32 w33 := by rw [← hob]; exact Kp.zba hgr33
   have hfr : ∀ b, v33.ownBlock = some b → ob = some b ∨ w32.heap.size ≤ b := by rw [← hob]; exact hfr33
   replace hmap := hmap.kpd kG (by simpa using hx3)
   replace hKx := hKx.kpd kG (fun g' hg' => .inl (List.mem_cons_of_mem _ hg'))
   refine zaS 14 (by kernel_rfl) ?_
   refine zdG rfl rfl (zeW (k := 3) (e := 81) (_) (by kernel_rfl) (by kernel_rfl) hmap rfl rfl rfl (i) (by first | rfl | omega) (by omega) (by omega) (fun w906 hmap ho906 => ?_))
   have hS905 := hS904.aq ho906
   refine ⟨hS905, ?_⟩
   replace hKx := hKx.only ho906 (by first | (simp; done) | (right; omega))
   refine zaR (by kernel_rfl) ?_
   refine zai (zak (zac (zaa rfl (zad) (zaf (zai (zax ?_))))))
   refine zar [_] ⟨rfl, trivial⟩ ?_
   have hmw := h1.map.lt
   have hszx := Nat.le_trans hb901.size hb32.size
   have hva : ∀ b, v33.ownBlock = some b → b ∈ G ∨ w16.heap.size ≤ b := fun b e => (hfr b e).imp (hpG b) (fun hh => Nat.le_trans hszx hh)
   have hv34 := hv33.kpd (Kp.zbx ho906) (fun b hb e => by
    have h1 : b = m := by simpa using hb
    rcases hva b e with h2 | h2
    ·exact (hne.2.2.2 b h2).2.2 h1
    ·omega)
   obtain ⟨p33, c33, hp33⟩ := hv34.form
   have hobt := zly (s := s) h1 ho6 hi1 hs hsh hKx.k hmap hp33 hv34 hpG hsep (fun b e => (hfr b e).imp id (fun hh => Nat.le_trans hszx hh))
   obtain ⟨G', sv', f1, f2, f3⟩ := hobt
   refine ⟨rfl, ⟨st1, G', sv', f1, f2, fun b hb => (f3 b hb).imp id fun hh => ?_⟩, ?_⟩
   ·have e1 := hb5.size
    have e2 := (Kp.zbx hb16).size
    omega
   ·refine (hK16.kpd hKx.k fun b hb => .inl ?_).k
    rcases List.mem_cons.1 hb with hb | hb
    ·rw [hb]; simp
    ·exact List.mem_append_right _ (hpG b (Option.mem_toList.1 hb))
  ·
   refine zbN rfl rfl (zci (e := 94) (.agg (bv s).toArray) (bv s) (List.replicate 128 (Value.int .u8 0)) 128 (by kernel_rfl) (by kernel_rfl) rfl rfl (by first | rfl | (simp; done) | (simp [zae, *]; done)) ⟨by decide, by decide⟩ (fun g32 w32 hg32 hr32 hb32 => ?_))
   have hS907 := hS901.add0 hb32
   refine ⟨hS907, ?_⟩
   have ge_hS901_g32 := Nat.le_trans hS901.size hg32
   have lt_g5_g32 : g5 < g32 := Nat.lt_of_lt_of_le hr5.lt hg32
   have lt_g_g32 : g < g32 := Nat.lt_of_lt_of_le hr.lt hg32
   have lt_m_g32 : m < g32 := Nat.lt_of_lt_of_le hmap.lt hg32
   replace hK := hK.new hb32
   replace hr5 := hr5.new hb32
   replace hr := hr.new hb32
   replace hmap := hmap.new hb32
   replace hKx := hKx.new hb32
   replace hown := hown.new hb32
   refine zaS 10 (by kernel_rfl) ?_
   refine zgD rfl rfl (zdw (k := 3) (e := 81) (.slice none 0 0) (by kernel_rfl) (by kernel_rfl) (by intro w; first | kernel_rfl | rfl) hmap rfl rfl (i) (by first | rfl | omega) (by omega) (by omega) hlk) hS907 ?_
   refine zaS 13 (by kernel_rfl) ?_
   have hs32 := hr32.slA (m := 1) (sz := 128) hsl (by omega)
   refine zbN rfl rfl (za7 (e := 94) (sz := 128) (bytes := 128) (z := .agg (List.replicate 128 (Value.int .u8 0)).toArray) (by kernel_rfl) rfl (by kernel_rfl) rfl (by decide) rfl hown rfl hs32 (zaL _) (by unfold maxLen; omega) (by omega) (fun hm0 => by omega) (fun v33 w33 hv33 hgr33 hfr33 => ?_))
   have hS909 := hS907.ownS hown hgr33 (by first | (left; omega) | exact Or.inr (fun _ h => h) | exact Or.inr (fun _ h => List.mem_cons_of_mem _ h))
   refine ⟨hS909, ?_⟩
   have kG : Kp ob.toList w32 w33 := by rw [← hob]; exact Kp.zba hgr33
   have hfr : ∀ b, v33.ownBlock = some b → ob = some b ∨ w32.heap.size ≤ b := by rw [← hob]; exact hfr33
   replace hmap := hmap.kpd kG (by simpa using hx3)
   replace hKx := hKx.kpd kG (fun g' hg' => .inl (List.mem_cons_of_mem _ hg'))
   refine zaS 14 (by kernel_rfl) ?_
   refine zdG rfl rfl (zeW (k := 3) (e := 81) (_) (by kernel_rfl) (by kernel_rfl) hmap rfl rfl rfl (i) (by first | rfl | omega) (by omega) (by omega) (fun w911 hmap ho911 => ?_))
   have hS910 := hS909.aq ho911
   refine ⟨hS910, ?_⟩
   replace hKx := hKx.only ho911 (by first | (simp; done) | (right; omega))
   refine zaR (by kernel_rfl) ?_
   refine zai (zak (zac (zaa rfl (zad) (zaf (zai (zax ?_))))))
   refine zar [_] ⟨rfl, trivial⟩ ?_
   have hmw := h1.map.lt
   have hszx := Nat.le_trans hb901.size hb32.size
   have hva : ∀ b, v33.ownBlock = some b → b ∈ G ∨ w16.heap.size ≤ b := fun b e => (hfr b e).imp (hpG b) (fun hh => Nat.le_trans hszx hh)
   have hv34 := hv33.kpd (Kp.zbx ho911) (fun b hb e => by
    have h1 : b = m := by simpa using hb
    rcases hva b e with h2 | h2
    ·exact (hne.2.2.2 b h2).2.2 h1
    ·omega)
   obtain ⟨p33, c33, hp33⟩ := hv34.form
   have hobt := zly (s := s) h1 ho6 hi1 hs hsh hKx.k hmap hp33 hv34 hpG hsep (fun b e => (hfr b e).imp id (fun hh => Nat.le_trans hszx hh))
   obtain ⟨G', sv', f1, f2, f3⟩ := hobt
   refine ⟨rfl, ⟨st1, G', sv', f1, f2, fun b hb => (f3 b hb).imp id fun hh => ?_⟩, ?_⟩
   ·have e1 := hb5.size
    have e2 := (Kp.zbx hb16).size
    omega
   ·refine (hK16.kpd hKx.k fun b hb => .inl ?_).k
    rcases List.mem_cons.1 hb with hb | hb
    ·rw [hb]; simp
    ·exact List.mem_append_right _ (hpG b (Option.mem_toList.1 hb))
set_option maxRecDepth 20000 in
theorem zoI {w : World} {g pl m : Nat} {G : List Nat} {D : Dk} {ol cl : Nat} {st : Int} {fu : Bool} {sv : Nat → Value} (h : DkM w g pl m G D ol cl st fu sv) (i : Int) (s : Sec) (hi : ¬ (0 ≤ i ∧ i < D.V.length)) (hs : s.length = 128) :
  Calls Tryz.prog 78 [.pointer (some ⟨g, 0, none⟩), .int .i64 i, .agg (bv s).toArray].toArray w
   (Ret fun v w' => v = .int .i64 2 ∧ Below w.heap.size w w') := by
 have hB := Below.refl w.heap.size w
 have hsl : (bv s).length = 128 := by rw [zae]; exact hs
 refine zaw (fn := Tryz.f78) (rs := [.tmp 6]) (n := 34) Tryz.func78 rfl rfl Tryz.ntmps78 (by kernel_rfl) rfl ?_
 refine zak (zac ?_)
 refine zaX rfl (zca ((bv s)) rfl (fun g5 w5 hg5 hr5 hb5 => ?_))
 have ge_hB_g5 := Nat.le_trans hB.size hg5
 replace hB := hB.acc hb5
 have h5 := h.new hb5
 have ha := at39 h5 i
 rw [if_neg hi] at ha
 refine zaa rfl (zad) (zaf (zai (zak (zak (zac (zaa rfl (zab) (zaa rfl (zab) ?_)))))))
 refine zat rfl (zao (by kernel_rfl) rfl) (ha) ?_
 rintro _ _ ⟨rfl, rfl⟩
 refine zaa rfl (zad) (zaf (zai (zak (zac (zaa rfl (zab) ?_)))))
 refine zaa rfl (zaW rfl rfl) ?_
 refine zaf (zai ?_)
 refine zkt rfl ((by simp)) ?_
 refine zak (zac (zaa rfl (zab) (zaa rfl (zad) (zaf (zai (zax (zaT ?_)))))))
 refine zar [_] ⟨rfl, trivial⟩ ?_
 exact ⟨rfl, hB⟩
def zho (n : Nat) : Dk := ⟨List.replicate n [zbv], -1, false⟩
theorem newD_ok {n : Nat} (hn : n ≤ 8192) : zcG (zho n) := by
 have h : ∀ v ∈ (zho n).V, v = [zbv] := fun v hv => (List.mem_replicate.1 hv).2
 refine ⟨by show (List.replicate n [zbv]).length ≤ _; rw [List.length_replicate]; exact hn, fun v hv => by rw [h v hv]; simp, fun v hv s hs => ?_, fun v hv => by rw [h v hv]; simp⟩
 rw [h v hv] at hs
 rw [List.mem_singleton.1 hs, zbv, List.length_replicate]
theorem zfg (n : Nat) : (zho n).V.length = n := List.length_replicate ..
theorem zes {n i : Nat} : zbX (zho n) i = false := by
 unfold zbX ver zho
 dsimp only
 rw [List.getD_eq_getElem?_getD, List.getElem?_replicate]
 split <;> simp
theorem zij (n : Nat) : List.replicate (n * 128) (Value.int .u8 0) = bv (zdH (zho n)).flatten := by
 have e : zdH (zho n) = List.replicate n zbv := by
  unfold zdH zho
  dsimp only
  rw [List.map_replicate]; rfl
 have hf : ∀ n, (List.replicate n zbv).flatten = List.replicate (n * 128) 0 := by
  intro n
  induction n with
  | zero => rfl
  | succ n ih =>
   rw [List.replicate_succ, List.flatten_cons, ih, zbv, List.replicate_append_replicate]
   congr 1; omega
 rw [e, hf, bv, List.map_replicate]; rfl
set_option maxRecDepth 20000 in
theorem new11a {w : World} (n : Nat) (h1 : 1 ≤ n) (h2 : n ≤ 8192) :
  Calls Tryz.prog 26 [.int .i64 (n : Int)].toArray w (Ret fun v w' => ∃ g pl m, v = .tuple #[.pointer (some ⟨g, 0, none⟩), .int .i64 0] ∧ DkM w' g pl m [] (zho n) 0 n 0 false (fun _ => .slice none 0 0) ∧ w.heap.size ≤ g ∧ w.heap.size ≤ pl ∧ w.heap.size ≤ m ∧ Below w.heap.size w w') := by
 have hB := Below.refl w.heap.size w
 have hml : maxLen = 9223372036854775807 := by decide
 refine zaw (fn := Tryz.f26) (rs := [.tmp 2, .tmp 3]) (n := 15) Tryz.func26 rfl rfl Tryz.ntmps26 (by kernel_rfl) rfl ?_
 refine zak (zac (zaa rfl (zad) (zaa rfl (zad) (zaf (zai (zak (zak (zac (zaa rfl (zab) ?_)))))))))
 refine zaa rfl (zbd rfl rfl) ?_
 refine zaa rfl (zab) ?_
 refine ziK 6 rfl ((by omega)) ?_
 refine zas rfl (zaa rfl (zab) (zas rfl ?_))
 refine zaa rfl (zbU rfl rfl) ?_
 refine zaa rfl (zaz rfl) (zaf (zai ?_))
 refine zdT rfl ((by omega)) ?_
 refine zau (zai (zak (zac (zaa rfl (zab) ?_))))
 refine zaX rfl (ziN (e := 94) n (List.replicate 128 (.int .u8 0)) 128 128 (.int .u8 0) (by kernel_rfl) (by kernel_rfl) ⟨_, rfl, rfl⟩ ⟨_, rfl, rfl⟩ (by intro u hu; exact (List.mem_replicate.1 hu).2) (by simp) (by omega) (by omega) (fun g11 w11 hg11 hr11 hb11 => ?_))
 have ge_hB_g11 := Nat.le_trans hB.size hg11
 replace hB := hB.acc hb11
 rw [zij n] at hr11
 have l11 := hr11.lt
 refine zaX rfl (zgi (k := 3) (n) (fun m12 w12 hg12 hm12 hb12 => ?_))
 replace hr11 := hr11.new hb12
 replace hB := hB.acc hb12
 have l12 := hm12.lt
 refine zaa rfl (zm8 (.slice (some ⟨g11, 0, none⟩) n n) (.map (some m12)) [.slice (some ⟨g11, 0, none⟩) n n, .map (some m12), .int .i64 0, .bool false, .bool false] rfl rfl (by kernel_rfl)) ?_
 refine zaX rfl (zca ([.slice (some ⟨g11, 0, none⟩) n n, .map (some m12), .int .i64 0, .bool false, .bool false]) rfl (fun g14 w14 hg14 hr14 hb14 => ?_))
 have ge_hB_g14 := Nat.le_trans hB.size hg14
 have lt_g11_g14 : g11 < g14 := Nat.lt_of_lt_of_le hr11.lt hg14
 have lt_m12_g14 : m12 < g14 := Nat.lt_of_lt_of_le hm12.lt hg14
 replace hr11 := hr11.new hb14
 replace hm12 := hm12.new hb14
 replace hB := hB.acc hb14
 refine zaa rfl (zad) (zaa rfl (zad) (zaf (zai (zax ?_))))
 refine zar [_, _] ⟨rfl, rfl, trivial⟩ ?_
 have hlen := zfg n
 have hs : since (zho n) (fun _ => .slice none 0 0) = fun _ => none := by
  funext i
  unfold since
  rw [zes]; rfl
 have hbl : (bv (zdH (zho n)).flatten).length = n * 128 := by rw [← zij, List.length_replicate]
 refine ⟨g14, g11, m12, rfl, ⟨by rw [hlen]; exact hr14, by rw [hlen]; exact hr11.owns (Nat.zero_le _) hbl (by omega), by rw [hlen, hs]; exact hm12, fun i hi => ?_, (fun b hb => nomatch hb), ⟨by omega, by omega, by omega, fun b hb => (nomatch hb)⟩, ⟨by omega, by omega, rfl⟩, newD_ok h2, by omega⟩, by omega, by omega, by omega, hB⟩
 rw [zes] at hi
 cases hi
end Go.Proofs.YtielfpkjoidomaaGreat
namespace Coup
open Go Go.RowKit
theorem Kp.zcb {M : List Nat} {w w' : World} (h : Below w.heap.size w w') : Kp M w w' := (Kp.of_below (M := []) h).weak fun _ _ hm => nomatch hm
structure Mv (B B' : List Nat) (w w' : World) : Prop where
 k : Kp B w w'
 sub : ∀ b ∈ B', b ∈ B ∨ w.heap.size ≤ b
theorem Mv.of_below {B : List Nat} {w w' : World} (h : Below w.heap.size w w') : Mv B B w w' := ⟨Kp.zcb h, fun _ hb => .inl hb⟩
theorem Mv.zhp {B : List Nat} {w w' : World} (h : Kp B w w') : Mv B B w w' := ⟨h, fun _ hb => .inl hb⟩
theorem Mv.lo {B B' : List Nat} {w w' : World} {lo : Nat} (h : Mv B B' w w') (hB : ∀ b ∈ B, lo ≤ b) (hl : lo ≤ w.heap.size) : ∀ b ∈ B', lo ≤ b := fun b hb => (h.sub b hb).elim (hB b) (Nat.le_trans hl)
theorem Mv.bel {B B' : List Nat} {w w' : World} {lo : Nat} (h : Mv B B' w w') (hB : ∀ b ∈ B, lo ≤ b) (hl : lo ≤ w.heap.size) : Below lo w w' :=
 ⟨h.k.os, h.k.tape, h.k.output, h.k.size, fun i hi => h.k.block i (Nat.lt_of_lt_of_le hi hl) fun hm => absurd (hB i hm) (Nat.not_le.2 hi)⟩
theorem Kp.of_lo {lo : Nat} {w w' : World} (h : Below lo w w') : Kp (List.range' lo (w.heap.size - lo)) w w' :=
 ⟨h.os, h.tape, h.output, h.size, fun i hi hm => h.block i (Nat.not_le.1 fun hl => hm (List.mem_range'_1.2 ⟨hl, by omega⟩))⟩
theorem inLo {lo n b : Nat} (h : b ∈ List.range' lo n) : lo ≤ b := (List.mem_range'_1.1 h).1
theorem belLo {w0 w w' : World} {lo : Nat} (h : Below w0.heap.size w0 w) (k : Below lo w w') (hl : w0.heap.size ≤ lo) : Below w0.heap.size w0 w' := h.kpd (Kp.of_lo k) fun _ hm => Nat.le_trans hl (inLo hm)
class Thing (X : World → List Nat → Prop) : Prop where
 kpd : ∀ {w w' : World} {B M : List Nat}, X w B → Kp M w w' → (∀ b ∈ B, b ∉ M) → X w' B
 lt : ∀ {w : World} {B : List Nat}, X w B → ∀ b ∈ B, b < w.heap.size
def None : World → List Nat → Prop := fun _ B => B = []
instance : Thing None := ⟨fun h _ _ => h, fun h b hb => by rw [h] at hb; cases hb⟩
def Duo (X Y : World → List Nat → Prop) (lo : Nat) (w : World) : Prop := ∃ B C, X w B ∧ Y w C ∧ (∀ b ∈ B, lo ≤ b ∧ b ∉ C) ∧ ∀ b ∈ C, lo ≤ b
namespace Duo
variable {X X' Y Y' : World → List Nat → Prop} {lo : Nat} {w w' : World}
theorem kpd {M : List Nat} [hX : Thing X] [hY : Thing Y] (h : Duo X Y lo w) (k : Kp M w w') (hM : ∀ b ∈ M, b < lo) : Duo X Y lo w' := by
 obtain ⟨B, C, h1, h2, h3, h4⟩ := h
 exact ⟨B, C, hX.kpd h1 k fun b hb hm => absurd (h3 b hb).1 (Nat.not_le.2 (hM b hm)), hY.kpd h2 k fun b hb hm => absurd (h4 b hb) (Nat.not_le.2 (hM b hm)), h3, h4⟩
theorem new [hX : Thing X] [hY : Thing Y] (h : Duo X Y lo w) (hb : Below w.heap.size w w') : Duo X Y lo w' := h.kpd (M := []) (Kp.of_below hb) (by simp)
theorem only {g : Nat} [hX : Thing X] [hY : Thing Y] (h : Duo X Y lo w) (ho : Only g w w') (hg : g < lo) : Duo X Y lo w' := h.kpd (Kp.zbx ho) (by simpa using hg)
theorem swap (h : Duo X Y lo w) : Duo Y X lo w := by
 obtain ⟨B, C, h1, h2, h3, h4⟩ := h
 exact ⟨C, B, h2, h1, fun b hb => ⟨h4 b hb, fun hm => (h3 b hm).2 hb⟩, fun b hb => (h3 b hb).1⟩
theorem left [hY : Thing Y] {P : Program} {f : FuncId} {args : Array Value} {R : Value → Prop} (h : Duo X Y lo w) (hl : lo ≤ w.heap.size)
  (hc : ∀ B, X w B → (∀ b ∈ B, lo ≤ b) → Calls P f args w (Ret fun v w' => R v ∧ ∃ B', X' w' B' ∧ Mv B B' w w')) : Calls P f args w (Ret fun v w' => R v ∧ Duo X' Y lo w' ∧ Below lo w w') := by
 obtain ⟨B, C, h1, h2, h3, h4⟩ := h
 refine (hc B h1 fun b hb => (h3 b hb).1).to fun v w' ⟨hR, B', hX, hm⟩ => ⟨hR, ⟨B', C, hX, hY.kpd h2 hm.k fun b hb hb' => (h3 b hb').2 hb, fun b hb => ⟨hm.lo (fun b hb => (h3 b hb).1) hl b hb, fun hc => ?_⟩, h4⟩, hm.bel (fun b hb => (h3 b hb).1) hl⟩
 rcases hm.sub b hb with hb' | hb'
 ·exact (h3 b hb').2 hc
 ·exact absurd (hY.lt h2 b hc) (Nat.not_lt.2 hb')
theorem right [hX : Thing X] {P : Program} {f : FuncId} {args : Array Value} {R : Value → Prop} (h : Duo X Y lo w) (hl : lo ≤ w.heap.size)
  (hc : ∀ B, Y w B → (∀ b ∈ B, lo ≤ b) → Calls P f args w (Ret fun v w' => R v ∧ ∃ B', Y' w' B' ∧ Mv B B' w w')) : Calls P f args w (Ret fun v w' => R v ∧ Duo X Y' lo w' ∧ Below lo w w') :=
 (h.swap.left hl hc).to fun _ _ ⟨h1, h2, h3⟩ => ⟨h1, h2.swap, h3⟩
end Duo
end Coup
namespace Go.Proofs.YtielfpkjoidomaaGreat
open Go Go.RowKit Coup
def DkX (w : World) (g : Nat) (B : List Nat) (D : Dk) : Prop := ∃ pl m G ol cl st fu sv, B = [g, pl, m] ++ G ∧ DkM w g pl m G D ol cl st fu sv ∧ DkO w G D sv
namespace DkX
variable {w w' : World} {g : Nat} {B M : List Nat} {D : Dk}
theorem kpd (h : DkX w g B D) (k : Kp M w w') (hM : ∀ b ∈ B, b ∉ M) : DkX w' g B D := by
 obtain ⟨pl, m, G, ol, cl, st, fu, sv, rfl, h1, h2⟩ := h
 exact ⟨pl, m, G, ol, cl, st, fu, sv, rfl, h1.kpd k ⟨hM g (by simp), hM pl (by simp), hM m (by simp), fun b hb => hM b (by simp [hb])⟩, h2.kpd k fun b hb => hM b (by simp [hb])⟩
theorem new (h : DkX w g B D) (hb : Below w.heap.size w w') : DkX w' g B D := h.kpd (M := []) (Kp.of_below hb) (fun _ _ => by simp)
theorem lt (h : DkX w g B D) : ∀ b ∈ B, b < w.heap.size := by
 obtain ⟨pl, m, G, ol, cl, st, fu, sv, rfl, h1, h2⟩ := h
 intro b hb
 simp only [List.cons_append, List.nil_append, List.mem_cons] at hb
 rcases hb with rfl | rfl | rfl | hb
 ·exact h1.row.lt
 ·exact h1.own.lt
 ·exact h1.map.lt
 ·exact h1.inG b hb
theorem ok (h : DkX w g B D) : zcG D := by
 obtain ⟨pl, m, G, ol, cl, st, fu, sv, rfl, h1, h2⟩ := h
 exact h1.ok
theorem pos (h : DkX w g B D) : 0 < D.V.length := by
 obtain ⟨pl, m, G, ol, cl, st, fu, sv, rfl, h1, h2⟩ := h
 exact h1.pos
theorem only {b : Nat} (h : DkX w g B D) (ho : Only b w w') (hb : b ∉ B) : DkX w' g B D := h.kpd (Kp.zbx ho) fun x hx e => hb (by rw [← List.mem_singleton.1 e]; exact hx)
instance (g : Nat) (D : Dk) : Thing (fun w B => DkX w g B D) := ⟨kpd, lt⟩
end DkX
variable {w : World} {g : Nat} {B : List Nat} {D : Dk}
theorem sectors (h : DkX w g B D) : Calls Tryz.prog 47 [.pointer (some ⟨g, 0, none⟩)].toArray w (Ret fun v w' => v = .int .i64 (D.V.length : Int) ∧ w = w') := by
 obtain ⟨pl, m, G, ol, cl, st, fu, sv, rfl, h1, h2⟩ := h
 exact zeY h1
theorem dead (h : DkX w g B D) : Calls Tryz.prog 48 [.pointer (some ⟨g, 0, none⟩)].toArray w (Ret fun v w' => v = .bool D.dead ∧ w = w') := by
 obtain ⟨pl, m, G, ol, cl, st, fu, sv, rfl, h1, h2⟩ := h
 exact dead18 h1
theorem read (h : DkX w g B D) (i : Int) : Calls Tryz.prog 61 [.pointer (some ⟨g, 0, none⟩), .int .i64 i].toArray w (Ret fun v w' => v = .tuple #[.agg (bv (if inD D i then zaB D i.toNat else zbv)).toArray, .int .i64 (if inD D i then 0 else 2)] ∧ Below w.heap.size w w') := by
 obtain ⟨pl, m, G, ol, cl, st, fu, sv, rfl, h1, h2⟩ := h
 exact read23 h1 i
def zbu (D : Dk) (i : Int) (s : Sec) : Dk := if inD D i then zfo D i.toNat s else D
def zhq (D : Dk) (i : Int) : Int := if inD D i then (if za3 D then 0 else 10) else 2
def zbf (D : Dk) (k : Nat) : Prop := ∀ v ∈ D.V, v.length ≤ k
theorem zbf.ver {k i : Nat} (h : zbf D k) (hi : i < D.V.length) : (ver D i).length ≤ k := h _ (List.mem_of_getElem? (zhl hi))
theorem write (h : DkX w g B D) (i : Int) (s : Sec) (hs : s.length = 128) (hsh : zbf D 90000) :
  Calls Tryz.prog 78 [.pointer (some ⟨g, 0, none⟩), .int .i64 i, .agg (bv s).toArray].toArray w (Ret fun v w' => v = .int .i64 (zhq D i) ∧ ∃ B', DkX w' g B' (zbu D i s) ∧ Mv B B' w w') := by
 obtain ⟨pl, m, G, ol, cl, st, fu, sv, rfl, h1, h2⟩ := h
 rw [zbu, zhq]
 by_cases hi : 0 ≤ i ∧ i < D.V.length
 ·obtain ⟨k, rfl⟩ : ∃ k : Nat, i = k := ⟨i.toNat, by omega⟩
  have hin : inD D (k : Int) = true := decide_eq_true hi
  rw [hin, if_pos rfl, if_pos rfl, Int.toNat_natCast]
  have hk : k < D.V.length := by omega
  refine (zoH h1 h2 k s hk hs (Nat.lt_of_le_of_lt (hsh.ver hk) (by omega))).to fun v w' hR => ?_
  obtain ⟨e, ⟨st', G', sv', h3, h4, h5⟩, h6⟩ := hR
  refine ⟨e, [g, pl, m] ++ G', ⟨pl, m, G', ol, cl, st', fu, sv', rfl, h3, h4⟩, h6, fun b hb => ?_⟩
  rcases List.mem_append.1 hb with hb | hb
  ·exact .inl (List.mem_append_left _ hb)
  ·exact (h5 b hb).imp (List.mem_append_right _) id
 ·have hin : inD D i = false := decide_eq_false hi
  rw [hin]
  refine (zoI h1 i s hi hs).to fun v w' hR => ?_
  obtain ⟨e, h3⟩ := hR
  exact ⟨e, _, ⟨pl, m, G, ol, cl, st, fu, sv, rfl, h1.new h3, h2.kpd (M := []) (Kp.of_below h3) (by simp)⟩, Kp.zcb h3, fun b hb => .inl hb⟩
theorem znf {f : Nat → Nat → Sec} {k i : Nat} (h : (opN D)[k]? = some i) : (i, f k i) ∈ zdJ D f := List.mem_of_getElem? (ziX h)
theorem zfD {f : Nat → Nat → Sec} {k i : Nat} (h : (opN D)[k]? = some i) : ver (zb4 D (zdJ D f)) i = [f k i] :=
 zfp _ D i _ (fun _ hp => ziY hp) (by rw [zea]; exact zjG D) (znf h)
theorem zdu {f : Nat → Nat → Sec} {i : Nat} (h : zbX D i = false) : ver (zb4 D (zdJ D f)) i = ver D i := by
 refine zff _ D i (fun _ hp => ziY hp) fun p hp e => ?_
 have h1 : p.1 ∈ (zdJ D f).map (·.1) := List.mem_map_of_mem hp
 rw [zea, e] at h1
 rw [(zgl.1 h1).2] at h
 cases h
theorem DkO.settled {w : World} {G : List Nat} {D D1 : Dk} {sv : Nat → Value} (h : DkO w G D sv) (hV : D1.V = D.V) (f : Nat → Nat → Sec) : DkO w G (zb4 D1 (zdJ D1 f)) sv := by
 have h1 : DkO w G D1 sv := h.alike hV
 have hc : ∀ i, zbX (zb4 D1 (zdJ D1 f)) i = true → zbX D1 i = true ∧ ver (zb4 D1 (zdJ D1 f)) i = ver D1 i := fun i hi => by
  cases hb : zbX D1 i with
  | false => rw [zbX, zdu hb] at hi; rw [zbX] at hb; rw [hb] at hi; cases hi
  | true =>
   have hil : i < D1.V.length := by
    rw [zbX] at hb
    have := of_decide_eq_true hb
    by_cases hlt : i < D1.V.length
    ·exact hlt
    ·rw [ver, List.getD_eq_getElem?_getD, List.getElem?_eq_none (by omega)] at this; simp at this
   obtain ⟨k, hk⟩ := List.getElem?_of_mem (zgl.2 ⟨hil, hb⟩)
   rw [zbX, zfD hk] at hi
   simp at hi
 exact ⟨fun i hi => by rw [(hc i hi).2]; exact h1.own i (hc i hi).1, fun i j b hi hj => h1.sep i j b (hc i hi).1 (hc j hj).1⟩
theorem zjJ (h : zcG D) {i : Nat} (hi : i < D.V.length) (ho : zbX D i = false) : ∃ s, ver D i = [s] := by
 have h1 := List.length_pos_iff.2 (zdI h hi).1
 have h2 : ¬ 1 < (ver D i).length := of_decide_eq_false ho
 exact List.length_eq_one_iff.1 (by omega)
theorem Dk.ext' {D D' : Dk} (h1 : D.V = D'.V) (h2 : D.left = D'.left) (h3 : D.dead = D'.dead) : D = D' := by
 cases D; cases D'; simp_all
theorem V_ext {D D' : Dk} (hl : D.V.length = D'.V.length) (h : ∀ i, i < D.V.length → ver D i = ver D' i) : D.V = D'.V := by
 refine List.ext_getElem? fun i => ?_
 by_cases hi : i < D.V.length
 ·rw [zhl hi, zhl (hl ▸ hi), h i hi]
 ·rw [List.getElem?_eq_none (by omega), List.getElem?_eq_none (by omega)]
theorem zng (h : zcG D) : zjI D = zbe D := by
 unfold zjI zbe
 by_cases ho : za3 D = true
 ·rw [if_pos ho, if_pos ho]
  have h1 : zcG (zcs D) := by have := zco D; exact ⟨by rw [this]; exact h.n, by rw [this]; exact h.ne, by rw [this]; exact h.sec, by rw [this]; exact h.short⟩
  have hl := zkN (zcs D) (zdJ (zcs D) fun _ i => zaB (zcs D) i)
  refine Dk.ext' (V_ext ?_ fun i hi => ?_) hl.1 hl.2
  ·rw [zd9]; simp [zco]
  ·rw [zd9] at hi
   have e : ver { zcs D with V := (zcs D).V.map fun v => [zeX v] } i = [zeX (ver (zcs D) i)] := by
    unfold ver
    dsimp only
    rw [List.getD_eq_getElem?_getD, List.getElem?_map, zhl hi]; rfl
   have e2 : ver { zcs D with V := D.V.map fun v => [zeX v] } i = [zeX (ver (zcs D) i)] := by rw [← e, zco]
   rw [e2]
   cases hb : zbX (zcs D) i with
   | true =>
    obtain ⟨k, hk⟩ := List.getElem?_of_mem (zgl.2 ⟨hi, hb⟩)
    rw [zfD hk]; rfl
   | false =>
    rw [zdu hb]
    obtain ⟨s, hs⟩ := zjJ h1 hi hb
    rw [hs]; rfl
 ·rw [if_neg ho, if_neg ho]
theorem flush (h : DkX w g B D) : Calls Tryz.prog 66 [.pointer (some ⟨g, 0, none⟩)].toArray w (Ret fun v w' => v = .int .i64 (if za3 D then 0 else 10) ∧ DkX w' g B (zbe D) ∧ Kp B w w') := by
 obtain ⟨pl, m, G, ol, cl, st, fu, sv, rfl, h1, h2⟩ := h
 rw [← zng h1.ok]
 refine (flush16 h1).to fun v w' hR => ?_
 obtain ⟨e, ⟨st', h3⟩, h4⟩ := hR
 refine ⟨e, ⟨pl, m, G, ol, cl, st', fu, sv, rfl, h3, ?_⟩, h4.weak fun k _ hk => List.mem_append_left _ hk⟩
 have h5 := h2.kpd h4 (fun b hb => by have := h1.ne.2.2.2 b hb; simp [this])
 unfold zjI
 split
 ·exact h5.settled (zco D) _
 ·exact h5.alike (zco D)
theorem fuse (h : DkX w g B D) (k : Int) (hk : k ≤ 9223372036854775807) :
  Calls Tryz.prog 29 [.pointer (some ⟨g, 0, none⟩), .int .i64 k].toArray w (Ret fun v w' => v = .int .i64 (if 0 ≤ k then 0 else 2) ∧ DkX w' g B (if 0 ≤ k then { D with left := k } else D) ∧ Kp B w w') := by
 obtain ⟨pl, m, G, ol, cl, st, fu, sv, rfl, h1, h2⟩ := h
 refine (fuse15 h1 k hk).to fun v w' hR => ?_
 obtain ⟨e, ⟨st', fu', h3⟩, h4⟩ := hR
 refine ⟨e, ⟨pl, m, G, ol, cl, st', fu', sv, rfl, h3, ?_⟩, (Kp.zbx h4).weak fun k _ hk => by rw [List.mem_singleton.1 hk]; simp⟩
 have h5 := h2.kpd (Kp.zbx h4) (fun b hb => by have := h1.ne.2.2.2 b hb; simp [this])
 split
 ·exact h5.alike rfl
 ·exact h5
theorem crash (h : DkX w g B D) (pp : Option Addr) (np cp : Nat) (picks : List Int) (hpk : za9 w pp np 1 (iv picks)) (hpkb : 0 < np → ∀ b o, pp = some ⟨b, o, none⟩ → b ∉ B) :
  Calls Tryz.prog 31 [.pointer (some ⟨g, 0, none⟩), .slice pp np cp].toArray w (Ret fun v w' => v = .int .i64 0 ∧ DkX w' g B (zbh D picks) ∧ Kp B w w') := by
 obtain ⟨pl, m, G, ol, cl, st, fu, sv, rfl, h1, h2⟩ := h
 refine (crash20 h1 pp np cp picks hpk (fun h0 b o e hm => hpkb h0 b o e (List.mem_append_left _ hm))).to fun v w' hR => ?_
 obtain ⟨e, h3, h4⟩ := hR
 refine ⟨e, ⟨pl, m, G, ol, cl, 0, false, sv, rfl, h3, ?_⟩, h4.weak fun k _ hk => List.mem_append_left _ hk⟩
 have h5 := h2.kpd h4 (fun b hb => by have := h1.ne.2.2.2 b hb; simp [this])
 exact (h5.settled rfl _).alike rfl
end Go.Proofs.YtielfpkjoidomaaGreat
namespace Coup
open Go Go.RowKit
structure LoL (lo : Nat) (L : List Nat) (w w' : World) : Prop where
 os : w'.os = w.os
 tape : w'.tape = w.tape
 output : w'.output = w.output
 size : w.heap.size ≤ w'.heap.size
 block : ∀ i, i < w.heap.size → (i < lo ∨ i ∈ L) → w'.heap[i]? = w.heap[i]?
def zov (lo : Nat) (L : List Nat) (n : Nat) : List Nat := (List.range n).filter fun i => decide (¬ (i < lo ∨ i ∈ L))
theorem zaH {lo n b : Nat} {L : List Nat} (h : b < lo ∨ b ∈ L) : b ∉ zov lo L n := fun hm => by
 have := (List.mem_filter.1 hm).2
 simp only [decide_eq_true_eq] at this
 exact this h
theorem zel {lo n b : Nat} {L : List Nat} (h : b ∈ zov lo L n) : lo ≤ b ∧ b ∉ L := by
 have := (List.mem_filter.1 h).2
 simp only [decide_eq_true_eq, not_or, Nat.not_lt] at this
 exact this
namespace LoL
variable {lo : Nat} {L : List Nat} {w w1 w2 w' : World}
theorem refl (lo : Nat) (L : List Nat) (w : World) : LoL lo L w w := ⟨rfl, rfl, rfl, Nat.le_refl _, fun _ _ _ => rfl⟩
theorem kp (h : LoL lo L w w') : Kp (zov lo L w.heap.size) w w' :=
 ⟨h.os, h.tape, h.output, h.size, fun i hi hm => h.block i hi (by
  by_cases hx : i < lo ∨ i ∈ L
  ·exact hx
  ·exact absurd (List.mem_filter.2 ⟨List.mem_range.2 hi, decide_eq_true hx⟩) hm)⟩
theorem zhp {M : List Nat} (h : Kp M w w') (hM : ∀ b ∈ M, (lo ≤ b ∧ b ∉ L) ∨ w.heap.size ≤ b) : LoL lo L w w' :=
 ⟨h.os, h.tape, h.output, h.size, fun i hi hx => h.block i hi fun hm => by
  rcases hM i hm with h1 | h1
  ·exact hx.elim (fun hx => by omega) h1.2
  ·omega⟩
theorem of_below (h : Below w.heap.size w w') : LoL lo L w w' := zhp (M := []) (Kp.of_below h) (by simp)
theorem kpd {M : List Nat} (h : LoL lo L w w1) (k : Kp M w1 w') (hM : ∀ b ∈ M, (lo ≤ b ∧ b ∉ L) ∨ w.heap.size ≤ b) : LoL lo L w w' :=
 ⟨k.os.trans h.os, k.tape.trans h.tape, k.output.trans h.output, Nat.le_trans h.size k.size, fun i hi hx => (k.block i (Nat.lt_of_lt_of_le hi h.size) fun hm => by
  rcases hM i hm with h1 | h1
  ·exact hx.elim (fun hx => by omega) h1.2
  ·omega).trans (h.block i hi hx)⟩
theorem new (h : LoL lo L w w1) (hb : Below w1.heap.size w1 w') : LoL lo L w w' := h.kpd (M := []) (Kp.of_below hb) (by simp)
theorem only {g : Nat} (h : LoL lo L w w1) (ho : Only g w1 w') (hg : w.heap.size ≤ g ∨ lo ≤ g ∧ g ∉ L) : LoL lo L w w' := h.kpd (Kp.zbx ho) fun b hb => by
 rw [List.mem_singleton.1 hb]; exact hg.symm
theorem own {base e sz m : Nat} {v : Value} {xs : List Value} (h : LoL lo L w w1) (ho : zaJ w1 base e sz v m xs) (hg : w1.grownBy w' v.ownBlock) (hk : w.heap.size ≤ base) : LoL lo L w w' :=
 h.kpd (Kp.zba hg) fun b hb => by
  have := (ho.lt b (Option.mem_toList.1 hb)).1
  right; omega
theorem ll {L2 : List Nat} (h : LoL lo L w w1) (k : LoL lo L2 w1 w') (hL : ∀ b ∈ L, b ∈ L2) : LoL lo L w w' := h.kpd k.kp fun b hb => .inl ⟨(zel hb).1, fun hm => (zel hb).2 (hL b hm)⟩
theorem weak {lo2 : Nat} {L2 : List Nat} (h : LoL lo L w w') (h1 : lo2 ≤ lo) (h2 : ∀ b ∈ L2, b ∈ L) : LoL lo2 L2 w w' := ⟨h.os, h.tape, h.output, h.size, fun i hi hx => h.block i hi (hx.imp (fun h => by omega) (h2 i))⟩
end LoL
theorem row.kL {lo n g t : Nat} {L : List Nat} {cs : List Value} {w w' : World} (h : row w g cs t) (k : Kp (zov lo L n) w w') (hg : g < lo ∨ g ∈ L := by first | (left; omega) | (right; simp; done) | (right; simp [*]; done)) : row w' g cs t := h.kpd k (zaH hg)
theorem row.kl {lo g t : Nat} {L : List Nat} {cs : List Value} {w w' : World} (h : row w g cs t) (k : LoL lo L w w') (hg : g < lo ∨ g ∈ L := by first | (left; omega) | (right; simp; done) | (right; simp [*]; done)) : row w' g cs t := h.kpd k.kp (zaH hg)
theorem LoL.lq {lo : Nat} {L L2 : List Nat} {w w1 w' : World} (h : LoL lo L w w1) (k : LoL lo L2 w1 w') (hL : ∀ b ∈ L, b ∈ L2 := by first | (intro b hb; exact hb) | (intro b hb; simp [hb]; done) | simp) : LoL lo L w w' := h.ll k hL
theorem LoL.oq {lo g : Nat} {L : List Nat} {w w1 w' : World} (h : LoL lo L w w1) (ho : Only g w1 w') (hg : w.heap.size ≤ g ∨ lo ≤ g ∧ g ∉ L := by first | omega | (right; exact ⟨by omega, by assumption⟩)) : LoL lo L w w' := h.only ho hg
theorem zgm {w0 w w' : World} {lo : Nat} {L : List Nat} (h : Below w0.heap.size w0 w) (k : LoL lo L w w') (hl : w0.heap.size ≤ lo) : Below w0.heap.size w0 w' := h.kpd k.kp fun _ hm => Nat.le_trans hl (zel hm).1
theorem KpB.ll {M : List Nat} {w0 w w' : World} {lo : Nat} {L : List Nat} (h : KpB M w0 w) (k : LoL lo L w w') (hl : w0.heap.size ≤ lo) : KpB M w0 w' := h.kpd k.kp fun _ hm => .inr (Nat.le_trans hl (zel hm).1)
section
variable {md : Option Nat → Prop} {P : Program} {n : Nat} {Q : Post} {ρ : Env} {w w1 wc w' : World} {l : List Oper} {lo : Nat} {L : List Nat}
theorem zeZ {id : Nat} (lo : Nat) (L : List Nat) (hm : P.follows .mixedOrders = true) (h : ∀ w1, Below w.heap.size w w1 → w.heap.size = w1.heap.size → Kp (zov lo L w.heap.size) w1 w1 → WA md P n l (Kp (zov lo L w.heap.size) w1) Q [] ρ w1) : W md P n (.region id l.toArray true) Q ρ w :=
 W_draw (Kp (zov lo L w.heap.size) w.drew) hm (Kp.refl _ _) (h w.drew (Below.refl _ _).drew rfl (Kp.refl _ _))
theorem Kp.zjK {k : Nat} (hS : Kp (zov lo L k) w1 wc) (hn : k = w1.heap.size) (h : LoL lo L wc w') : Kp (zov lo L k) w1 w' :=
 hS.add h.kp fun g hm => by
  by_cases hg : g < k
  ·exact .inr (List.mem_filter.2 ⟨List.mem_range.2 hg, decide_eq_true fun hx => hx.elim (fun hl => absurd (zel hm).1 (Nat.not_le.2 hl)) (zel hm).2⟩)
  ·left; omega
end
structure Two (X Y : World → List Nat → Prop) (lo : Nat) (L : List Nat) (w : World) : Prop where
 ex : ∃ B C, X w B ∧ Y w C ∧ (∀ b ∈ B, lo ≤ b ∧ b ∉ C ∧ b ∉ L) ∧ ∀ b ∈ C, lo ≤ b ∧ b ∉ L
 lo : lo ≤ w.heap.size
 lt : ∀ b ∈ L, b < w.heap.size
namespace Two
variable {X X' Y Y' : World → List Nat → Prop} {lo : Nat} {L : List Nat} {w w' : World}
theorem kpd {M : List Nat} [hX : Thing X] [hY : Thing Y] (h : Two X Y lo L w) (k : Kp M w w') (hM : ∀ b ∈ M, b < lo ∨ b ∈ L) : Two X Y lo L w' := by
 obtain ⟨⟨B, C, h1, h2, h3, h4⟩, h5, h6⟩ := h
 exact ⟨⟨B, C, hX.kpd h1 k fun b hb hm => (hM b hm).elim (fun hl => absurd (h3 b hb).1 (Nat.not_le.2 hl)) (h3 b hb).2.2, hY.kpd h2 k fun b hb hm => (hM b hm).elim (fun hl => absurd (h4 b hb).1 (Nat.not_le.2 hl)) (h4 b hb).2, h3, h4⟩, Nat.le_trans h5 k.size, fun b hb => Nat.lt_of_lt_of_le (h6 b hb) k.size⟩
theorem new [hX : Thing X] [hY : Thing Y] (h : Two X Y lo L w) (hb : Below w.heap.size w w') : Two X Y lo L w' := h.kpd (M := []) (Kp.of_below hb) (by simp)
theorem newc {g : Nat} [hX : Thing X] [hY : Thing Y] (h : Two X Y lo L w) (hb : Below w.heap.size w w') (hg : w.heap.size ≤ g) (hg' : g < w'.heap.size) : Two X Y lo (g :: L) w' := by
 obtain ⟨⟨B, C, h1, h2, h3, h4⟩, h5, h6⟩ := h
 refine ⟨⟨B, C, hX.kpd h1 (M := []) (Kp.of_below hb) (by simp), hY.kpd h2 (M := []) (Kp.of_below hb) (by simp), fun b hb => ⟨(h3 b hb).1, (h3 b hb).2.1, fun hm => ?_⟩, fun b hb => ⟨(h4 b hb).1, fun hm => ?_⟩⟩, Nat.le_trans h5 hb.size, fun b hm => ?_⟩
 ·rcases List.mem_cons.1 hm with rfl | hm
  ·exact absurd (hX.lt h1 _ hb) (Nat.not_lt.2 hg)
  ·exact (h3 b hb).2.2 hm
 ·rcases List.mem_cons.1 hm with rfl | hm
  ·exact absurd (hY.lt h2 _ hb) (Nat.not_lt.2 hg)
  ·exact (h4 b hb).2 hm
 ·rcases List.mem_cons.1 hm with rfl | hm
  ·exact hg'
  ·exact Nat.lt_of_lt_of_le (h6 b hm) hb.size
theorem only {g : Nat} [hX : Thing X] [hY : Thing Y] (h : Two X Y lo L w) (ho : Only g w w') (hg : g < lo ∨ g ∈ L) : Two X Y lo L w' := h.kpd (Kp.zbx ho) fun b hb => by rw [List.mem_singleton.1 hb]; exact hg
theorem weak {L2 : List Nat} (h : Two X Y lo L w) (h2 : ∀ b ∈ L2, b ∈ L) : Two X Y lo L2 w := by
 obtain ⟨⟨B, C, a, b, h3, h4⟩, h5, h6⟩ := h
 exact ⟨⟨B, C, a, b, fun x hx => ⟨(h3 x hx).1, (h3 x hx).2.1, fun hm => (h3 x hx).2.2 (h2 x hm)⟩, fun x hx => ⟨(h4 x hx).1, fun hm => (h4 x hx).2 (h2 x hm)⟩⟩, h5, fun b hb => h6 b (h2 b hb)⟩
theorem swap (h : Two X Y lo L w) : Two Y X lo L w := by
 obtain ⟨⟨B, C, h1, h2, h3, h4⟩, h5, h6⟩ := h
 exact ⟨⟨C, B, h2, h1, fun b hb => ⟨(h4 b hb).1, fun hm => (h3 b hm).2.1 hb, (h4 b hb).2⟩, fun b hb => ⟨(h3 b hb).1, (h3 b hb).2.2⟩⟩, h5, h6⟩
theorem mv {B B' C : List Nat} [hX : Thing X] [hY : Thing Y] (h1 : X' w' B') (h2 : Y w C) (h3 : ∀ b ∈ B, lo ≤ b ∧ b ∉ C ∧ b ∉ L) (h4 : ∀ b ∈ C, lo ≤ b ∧ b ∉ L) (h5 : lo ≤ w.heap.size) (h6 : ∀ b ∈ L, b < w.heap.size) (hm : Mv B B' w w') : Two X' Y lo L w' :=
 ⟨⟨B', C, h1, hY.kpd h2 hm.k fun b hb hb' => (h3 b hb').2.1 hb, fun b hb => by
  rcases hm.sub b hb with hb' | hb'
  ·exact h3 b hb'
  ·exact ⟨Nat.le_trans h5 hb', fun hc => absurd (hY.lt h2 b hc) (Nat.not_lt.2 hb'), fun hc => absurd (h6 b hc) (Nat.not_lt.2 hb')⟩, h4⟩, Nat.le_trans h5 hm.k.size, fun b hb => Nat.lt_of_lt_of_le (h6 b hb) hm.k.size⟩
theorem left [hX : Thing X] [hY : Thing Y] {P : Program} {f : FuncId} {args : Array Value} {R : Value → Prop} (h : Two X Y lo L w)
  (hc : ∀ B, X w B → (∀ b ∈ B, lo ≤ b ∧ b ∉ L) → Calls P f args w (Ret fun v w' => R v ∧ ∃ B', X' w' B' ∧ Mv B B' w w')) : Calls P f args w (Ret fun v w' => R v ∧ Two X' Y lo L w' ∧ LoL lo L w w') := by
 obtain ⟨⟨B, C, h1, h2, h3, h4⟩, h5, h6⟩ := h
 exact (hc B h1 fun b hb => ⟨(h3 b hb).1, (h3 b hb).2.2⟩).to fun v w' ⟨hR, B', hX', hm⟩ => ⟨hR, mv (X := X) hX' h2 h3 h4 h5 h6 hm, LoL.zhp hm.k fun b hb => .inl ⟨(h3 b hb).1, (h3 b hb).2.2⟩⟩
theorem right [hX : Thing X] [hY : Thing Y] {P : Program} {f : FuncId} {args : Array Value} {R : Value → Prop} (h : Two X Y lo L w)
  (hc : ∀ B, Y w B → (∀ b ∈ B, lo ≤ b ∧ b ∉ L) → Calls P f args w (Ret fun v w' => R v ∧ ∃ B', Y' w' B' ∧ Mv B B' w w')) : Calls P f args w (Ret fun v w' => R v ∧ Two X Y' lo L w' ∧ LoL lo L w w') :=
 (h.swap.left hc).to fun _ _ ⟨h1, h2, h3⟩ => ⟨h1, h2.swap, h3⟩
theorem one {B : List Nat} (h : X w B) (hB : ∀ b ∈ B, lo ≤ b ∧ b ∉ L) (hl : lo ≤ w.heap.size) (hL : ∀ b ∈ L, b < w.heap.size) : Two X None lo L w := ⟨⟨B, [], h, rfl, fun b hb => ⟨(hB b hb).1, by simp, (hB b hb).2⟩, fun b hb => nomatch hb⟩, hl, hL⟩
theorem add {C : List Nat} [hX : Thing X] (h : Two X None lo L w) (hb : Below w.heap.size w w') (hY : Y w' C) (hC : ∀ b ∈ C, w.heap.size ≤ b) : Two X Y lo L w' := by
 obtain ⟨⟨B, _, h1, rfl, h3, h4⟩, h5, h6⟩ := h
 exact ⟨⟨B, C, hX.kpd h1 (M := []) (Kp.of_below hb) (by simp), hY, fun b hb => ⟨(h3 b hb).1, fun hc => absurd (hX.lt h1 b hb) (Nat.not_lt.2 (hC b hc)), (h3 b hb).2.2⟩, fun b hb => ⟨Nat.le_trans h5 (hC b hb), fun hm => absurd (h6 b hm) (Nat.not_lt.2 (hC b hb))⟩⟩, Nat.le_trans h5 hb.size, fun b hm => Nat.lt_of_lt_of_le (h6 b hm) hb.size⟩
theorem fst (h : Two X Y lo L w) : Two X None lo L w := by
 obtain ⟨⟨B, C, h1, h2, h3, h4⟩, h5, h6⟩ := h
 exact ⟨⟨B, [], h1, rfl, fun b hb => ⟨(h3 b hb).1, by simp, (h3 b hb).2.2⟩, fun b hb => nomatch hb⟩, h5, h6⟩
end Two
def OwnZ (e sz : Nat) (u : Value) (m : Nat) (xs : List Value) : World → List Nat → Prop := fun w C => C = u.ownBlock.toList ∧ zaJ w 0 e sz u m xs
instance (e sz : Nat) (u : Value) (m : Nat) (xs : List Value) : Thing (OwnZ e sz u m xs) :=
 ⟨fun {w w' B M} h k hM => ⟨h.1, h.2.kpd k fun g hm e => hM g (by rw [h.1]; exact Option.mem_toList.2 e) hm⟩, fun {w B} h b hb => by rw [h.1] at hb; exact (h.2.lt b (Option.mem_toList.1 hb)).2⟩
namespace Two
variable {X : World → List Nat → Prop} {lo : Nat} {L : List Nat} {w w' : World} {e sz : Nat} {u v : Value} {m k : Nat} {xs ys : List Value}
theorem owns (h : Two X (OwnZ e sz u m xs) lo L w) : zaJ w 0 e sz u m xs := by
 obtain ⟨⟨B, C, h1, h2, h3, h4⟩, h5, h6⟩ := h
 exact h2.2
theorem grow [hX : Thing X] {base : Nat} (h : Two X (OwnZ e sz u m xs) lo L w) (hv : zaJ w' base e sz v k ys) (hg : w.grownBy w' u.ownBlock) (hf : ∀ g, v.ownBlock = some g → u.ownBlock = some g ∨ w.heap.size ≤ g) : Two X (OwnZ e sz v k ys) lo L w' ∧ LoL lo L w w' := by
 obtain ⟨⟨B, C, h1, h2, h3, h4⟩, h5, h6⟩ := h
 have hm : Mv C v.ownBlock.toList w w' := ⟨by rw [h2.1]; exact Kp.zba hg, fun b hb => by rw [h2.1]; exact (hf b (Option.mem_toList.1 hb)).imp Option.mem_toList.2 id⟩
 have hz : OwnZ e sz v k ys w' v.ownBlock.toList := ⟨rfl, zaJ.mono hv (Nat.zero_le _)⟩
 exact ⟨(mv (X := OwnZ e sz u m xs) (X' := OwnZ e sz v k ys) (Y := X) hz h1 (fun b hb => ⟨(h4 b hb).1, fun hc => (h3 b hc).2.1 hb, (h4 b hb).2⟩) (fun b hb => ⟨(h3 b hb).1, (h3 b hb).2.2⟩) h5 h6 hm).swap, LoL.zhp hm.k fun b hb => .inl (h4 b hb)⟩
end Two
end Coup
namespace Go.Proofs.YtielfpkjoidomaaGreat
open Go Go.RowKit Coup
abbrev DZ (g : Nat) (D : Dk) : World → List Nat → Prop := fun w B => DkX w g B D
instance (g : Nat) (D : Dk) : Thing (DZ g D) := ⟨DkX.kpd, DkX.lt⟩
def zjL (D : Dk) (k : Int) : Dk := if 0 ≤ k then { D with left := k } else D
theorem zbE {D : Dk} {k k' : Nat} (h : zbf D k) (hk : k ≤ k') : zbf D k' := fun v hv => Nat.le_trans (h v hv) hk
theorem zkP {D : Dk} {i : Int} (h : inD D i = true) : ∃ k : Nat, i = k ∧ k < D.V.length := by
 have := of_decide_eq_true h
 exact ⟨i.toNat, by omega, by omega⟩
section
variable {Y : World → List Nat → Prop} [Thing Y] {g lo : Nat} {L : List Nat} {D : Dk} {w : World}
omit [Thing Y] in
theorem tOk (h : Two (DZ g D) Y lo L w) : zcG D ∧ 0 < D.V.length := by
 obtain ⟨⟨B, C, h1, h2, h3, h4⟩, h5, h6⟩ := h
 exact ⟨h1.ok, h1.pos⟩
theorem zlz (h : Two (DZ g D) Y lo L w) (i : Int) (s : Sec) (hs : s.length = 128) (hsh : zbf D 90000) :
  Calls Tryz.prog 78 [.pointer (some ⟨g, 0, none⟩), .int .i64 i, .agg (bv s).toArray].toArray w (Ret fun v w' => v = .int .i64 (zhq D i) ∧ Two (DZ g (zbu D i s)) Y lo L w' ∧ LoL lo L w w') :=
 h.left fun B hX _ => write hX i s hs hsh
theorem zlA (h : Two (DZ g D) Y lo L w) :
  Calls Tryz.prog 66 [.pointer (some ⟨g, 0, none⟩)].toArray w (Ret fun v w' => v = .int .i64 (if za3 D then 0 else 10) ∧ Two (DZ g (zbe D)) Y lo L w' ∧ LoL lo L w w') :=
 h.left fun B hX _ => (flush hX).to fun _ _ ⟨h1, h2, h3⟩ => ⟨h1, B, h2, .zhp h3⟩
theorem tFuse (h : Two (DZ g D) Y lo L w) (k : Int) (hk : k ≤ 9223372036854775807) :
  Calls Tryz.prog 29 [.pointer (some ⟨g, 0, none⟩), .int .i64 k].toArray w (Ret fun v w' => v = .int .i64 (if 0 ≤ k then 0 else 2) ∧ Two (DZ g (zjL D k)) Y lo L w' ∧ LoL lo L w w') :=
 h.left fun B hX _ => (fuse hX k hk).to fun _ _ ⟨h1, h2, h3⟩ => ⟨h1, B, h2, .zhp h3⟩
theorem tCrash (h : Two (DZ g D) Y lo L w) (pp : Option Addr) (np cp : Nat) (picks : List Int) (hpk : za9 w pp np 1 (iv picks)) (hpkb : 0 < np → ∀ b o, pp = some ⟨b, o, none⟩ → b < lo ∨ b ∈ L) :
  Calls Tryz.prog 31 [.pointer (some ⟨g, 0, none⟩), .slice pp np cp].toArray w (Ret fun v w' => v = .int .i64 0 ∧ Two (DZ g (zbh D picks)) Y lo L w' ∧ LoL lo L w w') :=
 h.left fun B hX hB => (crash hX pp np cp picks hpk fun h0 b o e hm => (hpkb h0 b o e).elim (fun hl => absurd (hB b hm).1 (Nat.not_le.2 hl)) (hB b hm).2).to fun _ _ ⟨h1, h2, h3⟩ => ⟨h1, B, h2, .zhp h3⟩
omit [Thing Y]
theorem ziZ (h : Two (DZ g D) Y lo L w) : Calls Tryz.prog 47 [.pointer (some ⟨g, 0, none⟩)].toArray w (Ret fun v w' => v = .int .i64 (D.V.length : Int) ∧ w = w') := by
 obtain ⟨⟨B, C, h1, h2, h3, h4⟩, h5, h6⟩ := h
 exact sectors h1
theorem tDead (h : Two (DZ g D) Y lo L w) : Calls Tryz.prog 48 [.pointer (some ⟨g, 0, none⟩)].toArray w (Ret fun v w' => v = .bool D.dead ∧ w = w') := by
 obtain ⟨⟨B, C, h1, h2, h3, h4⟩, h5, h6⟩ := h
 exact dead h1
theorem tRead (h : Two (DZ g D) Y lo L w) (i : Int) : Calls Tryz.prog 61 [.pointer (some ⟨g, 0, none⟩), .int .i64 i].toArray w (Ret fun v w' => v = .tuple #[.agg (bv (if inD D i then zaB D i.toNat else zbv)).toArray, .int .i64 (if inD D i then 0 else 2)] ∧ Below w.heap.size w w') := by
 obtain ⟨⟨B, C, h1, h2, h3, h4⟩, h5, h6⟩ := h
 exact read h1 i
end
theorem newC {w : World} (n : Nat) (h1 : 1 ≤ n) (h2 : n ≤ 8192) :
  Calls Tryz.prog 26 [.int .i64 (n : Int)].toArray w (Ret fun v w' => ∃ g B, v = .tuple #[.pointer (some ⟨g, 0, none⟩), .int .i64 0] ∧ DkX w' g B (zho n) ∧ (∀ b ∈ B, w.heap.size ≤ b) ∧ Below w.heap.size w w') :=
 (new11a n h1 h2).to fun v w' ⟨g, pl, m, e, hM, l1, l2, l3, hb⟩ => ⟨g, [g, pl, m] ++ [], e, ⟨pl, m, [], 0, n, 0, false, _, rfl, hM, ⟨fun i hi => absurd hi (by rw [zes]; simp), fun i j b hi => absurd hi (by rw [zes]; simp)⟩⟩, (fun b hb => by
  simp only [List.append_nil, List.mem_cons, List.not_mem_nil, or_false] at hb
  rcases hb with rfl | rfl | rfl <;> assumption), hb⟩
theorem znh {v : List Sec} (h : zbV v) (j : Nat) : (v.getD j zbv).length = 128 := by
 rw [List.getD_eq_getElem?_getD]
 cases hj : v[j]? with
 | none => simp [zbv]
 | some s => exact h s (List.mem_of_getElem? hj)
theorem zmn (n : Nat) : zbf (zho n) 1 := fun v hv => by rw [(List.mem_replicate.1 hv).2]; simp
theorem zgI : ∀ (xs : List (Nat × Sec)) {D : Dk} {k : Nat}, zbf D k → 1 ≤ k → zbf (zb4 D xs) k
 | [], D, k, h, h1 => h
 | x :: xs, D, k, h, h1 => zgI xs (D := zh1 D x.1 [x.2]) (fun v hv => by
  rcases List.mem_or_eq_of_mem_set hv with e | e
  ·exact h v e
  ·rw [e]; exact h1) h1
theorem zkQ {D : Dk} {k : Nat} (h : zbf D k) (h1 : 1 ≤ k) (p : List Int) : zbf (zbh D p) k := fun v hv => zgI _ h h1 v hv
theorem zbZ (D : Dk) (p : List Int) : (zbh D p).V.length = D.V.length := zd9 D _
theorem zcy {D : Dk} (h1 : D.left = -1) (h2 : D.dead = false) : za3 D = true ∧ zcs D = D := by
 have h : za3 D = true := by unfold za3; rw [h1, h2]; rfl
 refine ⟨h, ?_⟩
 rw [zcs, if_pos h, h1]
 exact Dk.ext' rfl h1.symm rfl
structure zb6 (D : Dk) (k : Nat) : Prop where
 left : D.left = -1
 dead : D.dead = false
 pos : 0 < D.V.length
 short : zbf D k
theorem zkR {D : Dk} {k : Nat} (h : zbf D k) (h1 : 1 ≤ k) (h2 : 0 < D.V.length) (p : List Int) : zb6 (zbh D p) k := ⟨rfl, rfl, by rw [zbZ]; exact h2, zkQ h h1 p⟩
theorem zb6.weak {D : Dk} {k k' : Nat} (h : zb6 D k) (hk : k ≤ k') : zb6 D k' := ⟨h.left, h.dead, h.pos, zbE h.short hk⟩
theorem zb6.zbu {D : Dk} {k : Nat} (h : zb6 D k) (i : Int) (s : Sec) : zb6 (zbu D i s) (k + 1) ∧ (Go.Proofs.YtielfpkjoidomaaGreat.zbu D i s).V.length = D.V.length ∧
  ∀ j, j < D.V.length → ver (Go.Proofs.YtielfpkjoidomaaGreat.zbu D i s) j = if i = (j : Int) then ver D j ++ [s] else ver D j := by
 unfold Go.Proofs.YtielfpkjoidomaaGreat.zbu
 split
 ·rename_i hin
  obtain ⟨m, rfl, hm⟩ := zkP hin
  obtain ⟨h1, h2⟩ := zcy h.left h.dead
  rw [Int.toNat_natCast, zfo, if_pos h1, h2]
  refine ⟨⟨h.left, h.dead, by show 0 < (D.V.set _ _).length; rw [List.length_set]; exact h.pos, fun v hv => ?_⟩, List.length_set .., fun j hj => ?_⟩
  ·rcases List.mem_or_eq_of_mem_set hv with e | e
   ·exact Nat.le_trans (h.short v e) (by omega)
   ·rw [e, List.length_append, List.length_singleton]
    have := h.short.ver hm
    omega
  ·rw [zer hm]
   by_cases e : m = j
   ·subst e; rw [if_pos rfl, if_pos rfl]
   ·rw [if_neg e, if_neg (by omega)]
 ·rename_i hin
  refine ⟨h.weak (by omega), rfl, fun j hj => ?_⟩
  rw [if_neg]
  intro e
  exact hin (decide_eq_true (by rw [e]; omega))
theorem zjM {n : Nat} (h : 0 < n) : zb6 (zho n) 1 := ⟨rfl, rfl, by rw [zfg]; exact h, zmn n⟩
def zik (s : Sec) : Sec := (s.drop 0).take 64
def zhr (s : Sec) : Sec := (s.drop 64).take 64
theorem zkS {a b : Sec} (ha : a.length = 128) (hb : b.length = 128) : zik (zh5 a b) = zik a ∧ zhr (zh5 a b) = zhr b := by
 have hl : (a.take 64).length = 64 := by rw [List.length_take]; omega
 unfold zik zhr zh5
 refine ⟨?_, ?_⟩
 ·rw [List.drop_zero, List.drop_zero, List.take_left' hl]
 ·rw [List.drop_left' hl]
theorem zkT {v : List Sec} (hv : v ≠ []) (hs : zbV v) (pick : Int) : ∃ a ∈ v, ∃ b ∈ v, zik (zgj v pick) = zik a ∧ zhr (zgj v pick) = zhr b := by
 have hp := List.length_pos_iff.2 hv
 obtain ⟨k, hk, hkl⟩ : ∃ k : Nat, pick % ((2 * v.length - 1 : Nat) : Int) = (k : Int) ∧ k < 2 * v.length - 1 := by
  have h1 := Int.emod_nonneg pick (show ((2 * v.length - 1 : Nat) : Int) ≠ 0 by omega)
  have h2 := Int.emod_lt_of_pos pick (show (0 : Int) < ((2 * v.length - 1 : Nat) : Int) by omega)
  exact ⟨(pick % ((2 * v.length - 1 : Nat) : Int)).toNat, by omega, by omega⟩
 have hg : ∀ j, j < v.length → v.getD j zbv ∈ v := fun j hj => by
  rw [List.getD_eq_getElem?_getD, List.getElem?_eq_getElem hj]; exact List.getElem_mem hj
 rw [zgj, hk, Int.toNat_natCast, zgG]
 split
 ·exact ⟨_, hg _ (by omega), _, hg _ (by omega), rfl, rfl⟩
 ·split
  ·have hh : zfC v ∈ v := by
    obtain ⟨a, l, rfl⟩ := List.exists_cons_of_ne_nil hv
    exact List.mem_cons_self ..
   exact ⟨_, hh, _, hh, rfl, rfl⟩
  ·have h1 := zkS (znh hs (k / 2)) (znh hs (k / 2 - 1))
   exact ⟨_, hg _ (by omega), _, hg _ (by omega), h1.1, h1.2⟩
theorem zhs {D : Dk} (hok : zcG D) (picks : List Int) {i : Nat} (hi : i < D.V.length) : ∃ s, ver (zbh D picks) i = [s] ∧ (s.length = 128) ∧ ∃ a ∈ ver D i, ∃ b ∈ ver D i, zik s = zik a ∧ zhr s = zhr b := by
 obtain ⟨hv1, hv2, hv3⟩ := zdI hok hi
 have e : ∀ j, ver (zbh D picks) j = ver (zb4 D (zdJ D fun k i => zgj (ver D i) (picks.getD k 0))) j := fun j => rfl
 rw [e]
 cases hb : zbX D i with
 | true =>
  obtain ⟨k, hk⟩ := List.getElem?_of_mem (zgl.2 ⟨hi, hb⟩)
  rw [zfD hk]
  exact ⟨_, rfl, zlx hv2 hv1 _, zkT hv1 hv2 _⟩
 | false =>
  rw [zdu hb]
  obtain ⟨s, hs⟩ := zjJ hok hi hb
  rw [hs] at hv2 ⊢
  exact ⟨s, rfl, hv2 s (by simp), s, by simp, s, by simp, rfl, rfl⟩
theorem zni {D : Dk} (hs : za3 D = true) {i : Nat} (hi : i < D.V.length) : ver (zbe D) i = [zaB D i] := by
 rw [zbe, if_pos hs]
 unfold ver
 dsimp only
 rw [List.getD_eq_getElem?_getD, List.getElem?_map, zhl hi]; rfl
theorem zb0 {D : Dk} : (zbe D).V.length = D.V.length := by
 unfold zbe
 split
 ·simp
 ·rw [zco]
theorem zcK {D : Dk} {k : Nat} (h : zb6 D k) : za3 D = true ∧ zb6 (zbe D) 1 := by
 obtain ⟨h2, h3⟩ := zcy h.left h.dead
 refine ⟨h2, ?_⟩
 rw [zbe, if_pos h2, h3]
 exact ⟨h.left, h.dead, by show 0 < (D.V.map _).length; rw [List.length_map]; exact h.pos, fun v hv => by obtain ⟨u, _, rfl⟩ := List.mem_map.1 hv; simp⟩
def zi0 : Int := 4611686018427387904
def zeb (c n : Int) : Bool := decide (1 ≤ c) && decide (c ≤ zi0) && decide (0 ≤ n) && decide (n < 2147483648)
def tagV (c n : Int) : Value := .agg #[.int .u64 c, .int .i64 n]
theorem zjN (c n : Int) : (Hid (zeb c n = false) ∧ c < 1) ∨ (Hid (zeb c n = false) ∧ 1 ≤ c ∧ 4611686018427387904 < c) ∨ (Hid (zeb c n = false) ∧ 1 ≤ c ∧ c ≤ 4611686018427387904 ∧ n < 0) ∨
  (Hid (zeb c n = false) ∧ 1 ≤ c ∧ c ≤ 4611686018427387904 ∧ 0 ≤ n ∧ 2147483648 ≤ n) ∨ (Hid (zeb c n = true) ∧ 1 ≤ c ∧ c ≤ 4611686018427387904 ∧ 0 ≤ n ∧ n < 2147483648) := by
 have h : ∀ b, (zeb c n = b) = ((decide (1 ≤ c) && decide (c ≤ 4611686018427387904) && decide (0 ≤ n) && decide (n < 2147483648)) = b) := fun _ => rfl
 simp only [Hid, h]
 by_cases h1 : 1 ≤ c
 ·by_cases h2 : c ≤ 4611686018427387904
  ·by_cases h3 : 0 ≤ n
   ·by_cases h4 : n < 2147483648
    ·right; right; right; right; simp [h1, h2, h3, h4]
    ·right; right; right; left; simp [h1, h2, h3, h4]; omega
   ·right; right; left; simp [h1, h2, h3]; omega
  ·right; left; simp [h1, h2]; omega
 ·left; simp [h1]; omega
theorem may10 (c n : Int) (w : World) : Calls Tryz.prog 94 #[.agg #[.int .u64 c, .int .i64 n]] w fun e w' => e = .returned (.bool (zeb c n)) ∧ Below w.heap.size w w' := by
 rcases zjN c n with ⟨HM, h1⟩ | ⟨HM, h1, h2⟩ | ⟨HM, h1, h2, h3⟩ | ⟨HM, h1, h2, h3, h4⟩ | ⟨HM, h1, h2, h3, h4⟩
 all_goals
  go_enter Tryz.func94, Tryz.ntmps94
  go_wp2
  go_ret
  exact ⟨zow (by rw [HM.out]; try (first | rfl | (simp <;> omega))), (Below.refl _ _).alloc (Nat.le_refl _) _⟩
def za1 (n : Nat) : Nat := (n + 51) / 48
theorem zlB (n : Nat) (hn : n ≤ 1000000) (w : World) : Calls Tryz.prog 91 #[.int .i64 n] w fun e w' => e = .returned (.int .i64 (za1 n)) ∧ w = w' := by
 go_enter Tryz.func91, Tryz.ntmps91
 go_wp2
 go_ret
 exact ⟨zeK (by rw [za1]; omega), rfl⟩
def zh6 (n : Int) : Int := if 0 ≤ n ∧ n ≤ 32768 then ((za1 n.toNat + 1) / 2 : Nat) else 0
theorem zgY {n : Int} (h : ¬ (0 ≤ n ∧ n ≤ 32768)) : zh6 n = 0 := if_neg h
theorem zht {n : Nat} (h : n ≤ 32768) : zh6 n = ((za1 n + 1) / 2 : Nat) := by rw [zh6, if_pos (by omega), Int.toNat_natCast]
theorem need12 (n : Int) (w : World) : Calls Tryz.prog 65 #[.int .i64 n] w fun e w' => e = .returned (.int .i64 (zh6 n)) ∧ w = w' := by
 by_cases h0 : n < 0
 ·have HN := Lib.hid (zgY (n := n) (by omega))
  go_enter Tryz.func65, Tryz.ntmps65
  go_wp2
  go_ret
  exact ⟨zeK HN.out.symm, rfl⟩
 ·by_cases h1 : 32768 < n
  ·have HN := Lib.hid (zgY (n := n) (by omega))
   go_enter Tryz.func65, Tryz.ntmps65
   go_wp2
   go_ret
   exact ⟨zeK HN.out.symm, rfl⟩
  ·obtain ⟨m, rfl⟩ := Int.eq_ofNat_of_zero_le (by omega : 0 ≤ n)
   have HN := Lib.hid (zht (n := m) (by omega))
   have hb : za1 m ≤ 1000 := by unfold za1; omega
   go_enter Tryz.func65, Tryz.ntmps65
   go_wp2_with (first | (go_at_call 91; refine (zlB _ (by omega) _).mono ?_; rintro e w' ⟨rfl, rfl⟩))
   go_ret
   refine ⟨zeK ?_, rfl⟩
   rw [HN.out]
   omega
theorem many28 (n : Nat) (hn : n ≤ 1000000) (w : World) : Calls Tryz.prog 57 #[.int .i64 n] w fun e w' => e = .returned (.int .i64 (za1 n)) ∧ w = w' := by
 go_enter Tryz.func57, Tryz.ntmps57
 go_wp2
 go_loop [3] (fun m => ∃ k : Nat, m = .int .i64 k ∧ 1 ≤ k ∧ 48 * (k - 1) < 4 + n) (fun m => 1000000 - (intOf m).toNat)
 case atStart => exact ⟨1, rfl, by omega, by omega⟩
 case round =>
  obtain ⟨k, rfl, hk1, hk2⟩ := hrel
  by_cases hlt : 48 * k < 4 + n
  ·go_wp2
   go_round
   case rel => exact ⟨k + 1, by go_num, by omega, by omega⟩
   case measure => simp [intOf] <;> omega
  ·go_wp2
   go_ret
   exact ⟨zeK (by rw [za1]; omega), rfl⟩
theorem need13 (n : Int) (w : World) : Calls Tryz.prog 33 #[.int .i64 n] w fun e w' => e = .returned (.int .i64 (zh6 n)) ∧ w = w' := by
 by_cases h0 : n < 0
 ·have HN := Lib.hid (zgY (n := n) (by omega))
  go_enter Tryz.func33, Tryz.ntmps33
  go_wp2
  go_ret
  exact ⟨zeK HN.out.symm, rfl⟩
 ·by_cases h1 : 32768 < n
  ·have HN := Lib.hid (zgY (n := n) (by omega))
   go_enter Tryz.func33, Tryz.ntmps33
   go_wp2
   go_ret
   exact ⟨zeK HN.out.symm, rfl⟩
  ·obtain ⟨m, rfl⟩ := Int.eq_ofNat_of_zero_le (by omega : 0 ≤ n)
   have HN := Lib.hid (zht (n := m) (by omega))
   have hb : za1 m ≤ 1000 := by unfold za1; omega
   go_enter Tryz.func33, Tryz.ntmps33
   go_wp2_with (first | (go_at_call 57; refine (many28 _ (by omega) _).mono ?_; rintro e w' ⟨rfl, rfl⟩))
   go_ret
   refine ⟨zeK ?_, rfl⟩
   rw [HN.out]
   omega
theorem znj {α : Type} {p : List α → Prop} (h0 : p []) (h1 : ∀ l b, p l → p (l ++ [b])) (l : List α) : p l := by
 have : ∀ m : List α, p m.reverse := fun m => by
  induction m with
  | nil => exact h0
  | cons b m ih => rw [List.reverse_cons]; exact h1 _ _ ih
 have := this l.reverse
 rwa [List.reverse_reverse] at this
def zdK (l : List UInt8) : Nat := l.foldl (fun a b => 256 * a + b.toNat) 0
theorem foldB (l : List UInt8) : ∀ a : Nat, l.foldl (fun a b => 256 * a + b.toNat) a = a * 256 ^ l.length + zdK l := by
 induction l with
 | nil => intro a; simp [zdK]
 | cons b l ih =>
  intro a
  rw [zdK, List.foldl_cons, List.foldl_cons, ih, ih]
  simp only [List.length_cons, Nat.pow_succ]
  rw [Nat.add_mul, Nat.add_mul]
  have : 256 * a * 256 ^ l.length = a * (256 ^ l.length * 256) := by rw [Nat.mul_comm 256 a, Nat.mul_assoc, Nat.mul_comm 256]
  omega
theorem zkU (l m : List UInt8) : zdK (l ++ m) = zdK l * 256 ^ m.length + zdK m := by
 rw [zdK, List.foldl_append, foldB]; rfl
theorem zf0 (l : List UInt8) (b : UInt8) : zdK (l ++ [b]) = 256 * zdK l + b.toNat := by
 rw [zkU]; simp [zdK]; omega
theorem znk (l : List UInt8) : zdK l < 256 ^ l.length := by
 refine znj (p := fun l => zdK l < 256 ^ l.length) ?_ ?_ l
 ·simp [zdK]
 ·intro l b ih
  rw [zf0, List.length_append, List.length_singleton, Nat.pow_succ]
  have := b.toNat_lt
  omega
def beB : Nat → Nat → List UInt8
 | 0, _ => []
 | k + 1, n => beB k (n / 256) ++ [UInt8.ofNat n]
theorem zaG (k n : Nat) : (beB k n).length = k := by
 induction k generalizing n with
 | zero => rfl
 | succ k ih => simp [beB, ih]
theorem zdY (k n : Nat) : zdK (beB k n) = n % 256 ^ k := by
 induction k generalizing n with
 | zero => simp [beB, zdK, Nat.mod_one]
 | succ k ih =>
  rw [beB, zf0, ih, Nat.pow_succ, Nat.mul_comm (256 ^ k) 256, Nat.mod_mul]
  simp
  omega
theorem zf1 (l : List UInt8) : beB l.length (zdK l) = l := by
 refine znj (p := fun l => beB l.length (zdK l) = l) rfl ?_ l
 ·intro l b ih
  rw [List.length_append, List.length_singleton, beB, zf0]
  have hb := b.toNat_lt
  rw [show (256 * zdK l + b.toNat) / 256 = zdK l by omega, ih]
  congr 2
  apply UInt8.toNat.inj
  simp
theorem or_step (a : Nat) (b : UInt8) : (256 * a) ||| b.toNat = 256 * a + b.toNat := by
 have := Nat.two_pow_add_eq_or_of_lt (i := 8) (b := b.toNat) (by have := b.toNat_lt; omega) a
 simpa using this.symm
theorem zlC (l : List UInt8) (k : Nat) (b : UInt8) (h : l[k]? = some b) : zdK (l.take (k + 1)) = 256 * zdK (l.take k) + b.toNat := by
 rw [List.take_add_one, h, Option.toList_some, zf0]
theorem zjO (l : List UInt8) (k : Nat) (hk : k ≤ 7) : zdK (l.take k) < 72057594037927936 := by
 have h := znk (l.take k)
 have : 256 ^ (l.take k).length ≤ 256 ^ 7 := Nat.pow_le_pow_right (by omega) (by simp; omega)
 omega
theorem zf2 (p : Option Addr) (n c : Nat) (l : List UInt8) (w : World) (h : za9 w p n 1 (bv l)) (hn : n ≤ 8) : Calls Tryz.prog 124 #[.slice p n c] w fun e w' => e = .returned (.int .u64 (zdK l)) ∧ w = w' := by
 obtain ⟨h1, h2, h3⟩ := h
 have H1 : l.length = n := by simpa [zae] using h1
 clear h1 h2
 have HL := Lib.hid H1; clear H1
 go_enter Tryz.func124, Tryz.ntmps124
 go_wp2
 go_loop [2, 7] (fun a i => ∃ k : Nat, k ≤ n ∧ i = .int .i64 k ∧ a = .int .u64 (zdK (l.take k))) (fun _ i => n - (intOf i).toNat)
 case atStart => exact ⟨0, by omega, rfl, by simp [zdK]⟩
 case round =>
  obtain ⟨k, hk, rfl, rfl⟩ := hrel
  by_cases hlt : k < n
  ·obtain ⟨b, off, rfl, hbs, hc⟩ := h3 (by omega)
   have hl := HL.out
   obtain ⟨x, hx⟩ : ∃ x, l[k]? = some x := ⟨_, List.getElem?_eq_getElem (by omega)⟩
   have h1 := hc k (by omega)
   rw [zli, hx] at h1
   clear hc h3 hl
   obtain ⟨a, ha⟩ : ∃ a, a = zdK (l.take k) := ⟨_, rfl⟩
   have ha' : a < 72057594037927936 := by rw [ha]; exact zjO l k (by omega)
   rw [← ha]
   have HA := Lib.hid ha; clear ha
   have HX := Lib.hid hx; clear hx
   simp only [Option.map_some, zcS] at h1
   go_wp2
   go_round
   case rel =>
    refine ⟨k + 1, by omega, by go_num, ?_⟩
    have hb := x.toNat_lt
    rw [zlC l k x HX.out, ← HA.out, show (a : Int) * 256 = ((256 * a : Nat) : Int) by omega, show IntKind.u64.wrap (x.toNat : Int) = ((x.toNat : Nat) : Int) by rw [IntKind.wrap_u64]; omega,
     bits_or_u64_nat _ _ (by omega) (by omega), or_step]
   case measure => simp [intOf] <;> omega
  ·go_wp2
   go_ret
   refine ⟨?_, rfl⟩
   have := HL.out
   rw [List.take_of_length_le (by omega)]
   rfl
theorem zoJ (k n : Nat) : beB (k + 1) n = UInt8.ofNat (n / 256 ^ k) :: beB k n := by
 induction k generalizing n with
 | zero => simp [beB]
 | succ k ih => rw [beB, ih, beB, Nat.div_div_eq_div_mul, Nat.pow_succ, Nat.mul_comm 256]; rfl
def zaI (n : Nat) : List UInt8 := List.replicate n 0
theorem zf3 (n : Nat) : bv (zaI n) = List.replicate n (zcS 0) := by simp [bv, zaI]
def zaq (l : List UInt8) (i : Nat) : List UInt8 := (l.drop (64 * i)).take 64
theorem zcf (l : List UInt8) (i : Nat) (h : 64 * i + 64 ≤ l.length) : (zaq l i).length = 64 := by simp [zaq]; omega
def zh7 (l : List UInt8) (k : Nat) : List UInt8 := (l.drop (128 * k)).take 128
theorem zjP (l : List UInt8) (k : Nat) (h : 128 * k + 128 ≤ l.length) : (zh7 l k).length = 128 := by simp [zh7]; omega
theorem zkV (l : List UInt8) (q r : Nat) (hr : r < 2) : ((zh7 l q).drop (64 * r)).take 64 = zaq l (2 * q + r) := by
 unfold zh7 zaq
 rw [List.drop_take, List.take_take, List.drop_drop]
 congr 1
 ·omega
 ·congr 1; omega
theorem zdx {α : Type} (l m : List α) (h : l.length = m.length) : splice l 0 m = m := by
 simp [splice, ← h]
theorem zgJ : (Tryz.prog.info? 139).map (fun i => i.zero.map (·.cells)) = some (some (bv (zaI 64)).toArray) := by kernel_rfl
theorem zgK : (Tryz.prog.info? 94).map (fun i => i.zero.map (·.cells)) = some (some (bv (zaI 128)).toArray) := by kernel_rfl
theorem zil : (Tryz.prog.info? 139).map (·.size) = some 64 := by kernel_rfl
theorem zjQ : (Tryz.prog.info? 94).map (·.size) = some 128 := by kernel_rfl
theorem row48 : (Tryz.prog.underlying 94).any (·.isRow) = true := by kernel_rfl
theorem zoK : (Tryz.prog.underlying 139).any (·.isRow) = true := by kernel_rfl
theorem _root_.Coup.za9.range {w : World} {b off n sz : Nat} {cs : List Value} (h : za9 w (some ⟨b, off, none⟩) n sz cs) (o m : Nat) (ho : o + m ≤ n * sz) : w.rangeAt b (off + o) ((cs.drop o).take m) := by
 intro j v hv
 have hj : j < m := by
  have := (List.getElem?_eq_some_iff.1 hv).1
  simp at this; omega
 obtain ⟨b', off', he, _, hc⟩ := h.at_ (by omega)
 cases he
 rw [List.getElem?_take, if_pos hj, List.getElem?_drop] at hv
 rw [Nat.add_assoc, hc _ (by omega), hv]
theorem half32 (p : Option Addr) (n c : Nat) (l : List UInt8) (i : Nat) (w : World) (h : za9 w p n 128 (bv l)) (hi : i / 2 < n) (hn : n ≤ 1000000) :
  Calls Tryz.prog 123 #[.slice p n c, .int .i64 i] w fun e w' => e = .returned (.agg (bv (zaq l i)).toArray) ∧ Below w.heap.size w w' := by
 obtain ⟨q, hq⟩ : ∃ q, q = i / 2 := ⟨_, rfl⟩
 have hlen : l.length = n * 128 := by simpa [zae] using h.len
 obtain ⟨b, off, rfl, hbs, hc⟩ := h.at_ (by omega)
 have hrg : ∀ w1, Below w.heap.size w w1 → w1.rangeAt b (off + q * 128) (bv (zh7 l q)) := fun w1 hb => by
  have := (h.below hb (Nat.le_refl _)).range (q * 128) 128 (by omega)
  rwa [← zcT, ← zdD, Nat.mul_comm q 128, show (l.drop (128 * q)).take 128 = zh7 l q from rfl, Nat.mul_comm 128 q] at this
 have hqi : (i : Int) / 2 = (q : Int) := by omega
 have hqn : q < n := by omega
 have hlq : (bv (zh7 l q)).length = 128 := by rw [zae, zjP l q (by omega)]
 have HQ := Lib.hid hq
 have HC := Lib.hid hc
 have HH := Lib.hid h
 have HR := Lib.hid hrg
 have HL := Lib.hid hlen
 have HLQ := Lib.hid hlq
 clear hq hc h hrg hlen hi hlq
 have main : ∀ r : Nat, r < 2 → (i : Int) % 2 = r → i = 2 * q + r → Calls Tryz.prog 123 #[.slice (some ⟨b, off, none⟩) n c, .int .i64 i] w fun e w' => e = .returned (.agg (bv (zaq l i)).toArray) ∧ Below w.heap.size w w' := by
  intro r hr hri hiq
  have HI := Lib.hid hiq
  have hrng : ∀ (g2 : Nat) (w3 : World) (l3 : List Value), Hid (l3 = splice (bv (zaI 128)) 0 (bv (zh7 l q))) → row w3 g2 l3 94 → w3.rangeAt g2 (64 * r) (bv (zaq l i)) := fun g2 w3 l3 HL3 hr3 => by
   rw [HL3.out, zdx _ _ (by rw [HLQ.out, zae, zaI]; simp)] at hr3
   have := hr3.zh8 (64 * r) 64
   rwa [← zcT, ← zdD, zkV _ _ _ hr, ← hiq] at this
  have hl64 : (bv (zaq l i)).length = 64 := by rw [zae, zcf l i (by have := HL.out; omega)]
  have HR3 := Lib.hid hrng
  have H64 := Lib.hid hl64
  clear hiq hrng hl64
  have hap := run_arrayAt (P := Tryz.prog) 139 5 64 (by kernel_rfl)
  rcases (by omega : r = 0 ∨ r = 1) with rfl | rfl
  all_goals
   go_enter Tryz.func123, Tryz.ntmps123
   go_wp2_with (first
    | (with_reducible refine zdE (.alloc 139) ?_; refine zbL rfl 139 rfl _ zgJ ?_; intro g w1 hg hr1 hb1)
    | (with_reducible refine zdE (.load 94 _) ?_; refine zct rfl 94 _ rfl b (off + q * 128) rfl (bv (zh7 l q)) (HR.out _ hb1) row48 (by rw [HLQ.out]; exact zjQ) ?_)
    | (with_reducible refine zdE (.alloc 94) ?_; refine zbL rfl 94 rfl _ zgK ?_; intro g2 w2 hg2 hr2 hb2)
    | (with_reducible refine zdE (.store 94 _ _) ?_; refine zbQ rfl 94 _ _ rfl g2 0 rfl (bv (zh7 l q)) rfl _ 94 hr2 (by rw [HLQ.out]; exact zjQ) (by rw [HLQ.out, zae, zaI]; simp) (zaL _) ?_; intro l3 w3 HL3 hr3 ho3)
    | (with_reducible refine zdE (.load 139 _) ?_; refine zct rfl 139 _ rfl g2 _ rfl (bv (zaq l i)) (HR3.out g2 _ _ HL3 hr3) zoK (by rw [H64.out]; exact zil) ?_)
    | (with_reducible refine zdE (.store 139 _ _) ?_; refine zbQ rfl 139 _ _ rfl g 0 rfl (bv (zaq l i)) rfl _ 139 ((hr1.new hb2).only ho3 (by have := hr1.lt; omega)) (by rw [H64.out]; exact zil) (by rw [H64.out, zae, zaI]; simp) (zaL _) ?_; intro l4 w4 HL4 hr4 ho4))
   have h4 : l4 = bv (zaq l i) := by rw [HL4.out, zdx _ _ (by rw [H64.out, zae, zaI]; simp)]
   subst h4
   refine bodyPost_ret (zdn rfl _ _ g 139 _ rfl hr4 zoK (by rw [H64.out]; exact zil)) rfl ?_
   exact ⟨rfl, ho4.below (ho3.below (hb1.trans (hb2.mono hb1.size)) (Nat.le_trans hb1.size hg2)) hg⟩
 rcases Nat.mod_two_eq_zero_or_one i with e | e
 ·exact main 0 (by omega) (by omega) (by have := HQ.out; omega)
 ·exact main 1 (by omega) (by omega) (by have := HQ.out; omega)
end Go.Proofs.YtielfpkjoidomaaGreat
