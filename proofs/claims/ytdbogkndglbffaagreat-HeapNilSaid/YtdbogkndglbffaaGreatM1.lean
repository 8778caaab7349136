import Derived.Test.YtdbogkndglbffaaGreatM0
import Derived.OpenShut
import Derived.Deep.Slices
import Derived.Lib.Builder
import Derived.Lib.OthersKept
import Derived.Laws.Externs
import Derived.Test.YtdbogkndglbffaaGreatProg
import Derived.Maps.OwnSet
import Derived.Maps.Keyed
namespace Coup
open Go Go.RowKit Go.ChangeShapes Go.WideShapes Go.Deep
section
variable {H : Type} {enc : TypeId × Value → H} {P : Program} {W : World} {base : Nat} {spare : Nat → Bool} {held : Bool}
def Flat (enc : TypeId × Value → H) (P : Program) (W : World) (base : Nat) (spare : Nat → Bool) (held : Bool) (t n : Nat) : Prop :=
 ∀ fuel cs x, DataW.trod enc P W base spare held fuel t cs = some x → ∃ l, cs = bv l ∧ l.length = n
end
section
variable {H : Type} {enc : TypeId × Value → H} {P : Program} {W : World} {base : Nat} {spare : Nat → Bool} {held : Bool}
def RowCells (W : World) (c k : Int) (l : List UInt8) (cs : List Value) : Prop := ∃ q cp, cs = [.int .u64 c, .int .i64 k, .slice q l.length cp] ∧ zaT W q l.length 1 (bv l)
end
theorem iv_get (l : List Int) (i : Nat) : (iv l)[i]? = (l[i]?).map (.int .i64) := by simp [iv]
theorem iv_some {l : List Int} {i : Nat} {x : Int} (h : l[i]? = some x) : (iv l)[i]? = some (.int .i64 x) := by simp [iv, h]
def okI (l : List Int) : Prop := ∀ x ∈ l, -9223372036854775808 ≤ x ∧ x ≤ 9223372036854775807
theorem okI.at_ {l : List Int} (h : okI l) {i : Nat} {x : Int} (hx : l[i]? = some x) : -9223372036854775808 ≤ x ∧ x ≤ 9223372036854775807 := h x (List.mem_of_getElem? hx)
section
variable {H : Type} {enc : TypeId × Value → H} {P : Program} {W : World} {base : Nat} {spare : Nat → Bool} {held : Bool}
end
end Coup
namespace Coup
open Go Go.RowKit
theorem vb {a b : Bool} (h : a = b) : Value.bool a = Value.bool b := congrArg _ h
theorem vi {k : IntKind} {a b : Int} (h : a = b) : Value.int k a = Value.int k b := congrArg _ h
section
variable {P : Program} {ρ : Env} {w : World} {d : Option Nat} {ty : TypeId} {pos : String} {af : Array Edge} {gd : Option (Nat × Bool)}
def zes (P : Program) (t : Nat) : Bool := match P.underlying t with | some (.interface _) => false | some _ => true | none => false
theorem zn6 {t : Nat} {x : Operand} (ht : zes P t = true) : (execOp (ev ρ) ⟨d, .makeInterface t x, ty, pos, af, gd⟩).run P w = .ok (.value (.iface t (ev ρ x))) w := by
 unfold zes at ht
 cases hu : P.underlying t with
 | none => simp [hu] at ht
 | some dd =>
  rw [hu] at ht
  simp only [execOp, Instr.makeInterface, Sem.run_bind, run_underlying hu, Result.andThen_ok]
  cases dd <;> first | (simp at ht; done) | rfl
def methP (P : Program) (t : Nat) (name : String) (f : FuncId) : Prop := ∀ (a : Addr) (w : World), (method (P.types.size + Made.depth) t (.pointer (some a)) name).run P w = .ok (f, .pointer (some a)) w
def methV (P : Program) (t : Nat) (name : String) (f : FuncId) (e : Nat) : Prop := ∀ (a : Addr) (w : World), (method (P.types.size + Made.depth) t (.pointer (some a)) name).run P w = ((loadVar e a).run P w).andThen fun v w' => .ok (f, v) w'
theorem zg7 {f : FuncId} (hc : zb9 P f = true) (vl : Array Value) : (callFunc f vl).run P w = .ok (.enter f vl) w := by
 unfold zb9 at hc
 cases hfn : P.funcs[f]? with
 | none => simp [hfn] at hc
 | some fn =>
  rw [hfn] at hc
  simp only [Bool.and_eq_true, Bool.not_eq_true'] at hc
  cases hb : fn.body with
  | none => simp [hb] at hc
  | some c =>
   have hn : ¬ fn.name = "runtime.NumGoroutine" := by simpa using hc.1
   simp [callFunc, program, Sem.run, hfn, hn, hb, Result.andThen]
theorem zn7 {f : FuncId} {x : Operand} {fl vl : List Value} {al : List Operand} {ats : Array Nat} (hc : zb9 P f = true) (hx : ev ρ x = .func (.func f) fl.toArray #[]) (hv : al.map (ev ρ) = vl) :
  (execOp (ev ρ) ⟨d, .call ⟨.value x, al.toArray, ats⟩, ty, pos, af, gd⟩).run P w = .ok (.enter f (fl ++ vl).toArray) w := by
 have h1 : al.toArray.map (ev ρ) = vl.toArray := by rw [← hv]; simp
 have h2 := zg7 (w := w) hc (fl ++ vl).toArray
 simp [execOp, resolve, Deferred.ofValue, h1, hx, invoke, h2, Result.andThen]
end
theorem zmt {a : Int} (h : 0 ≤ a ∧ a < 18446744073709551616) : (BitVec.ofInt 64 a).toNat = a.toNat := by
 rw [BitVec.toNat_ofInt]
 have : a % ((2 ^ 64 : Nat) : Int) = a := Int.emod_eq_of_lt h.1 (by simpa using h.2)
 rw [this]
theorem shrN {a b : Int} (s : Nat) (hb : b = (s : Int)) (hs : s ≤ 64) : a.fdiv (2 ^ (min b.toNat IntKind.u64.bits)) = a / 2 ^ s := by
 subst hb
 show a.fdiv (2 ^ (min ((s : Int).toNat) 64)) = a / 2 ^ s
 rw [Int.toNat_natCast, Nat.min_eq_left hs, Int.fdiv_eq_ediv_of_nonneg _ (Int.le_of_lt (Int.pow_pos (by decide)))]
theorem orU {a b : Int} (s : Nat) (q : Int) (ha : 0 ≤ a ∧ a < 18446744073709551616) (hq : a = q * 2 ^ s) (hb : 0 ≤ b ∧ b < 2 ^ s) (hs : a + b < 18446744073709551616) :
  IntKind.u64.wrap ((BitVec.ofInt IntKind.u64.bits a ||| BitVec.ofInt IntKind.u64.bits b).toNat : Int) = a + b := by
 show IntKind.u64.wrap ((BitVec.ofInt 64 a ||| BitVec.ofInt 64 b).toNat : Int) = a + b
 have hq0 : 0 ≤ q := by
  rcases Int.lt_or_le q 0 with h | h
  ·have h5 : (0 : Int) < 2 ^ s := Int.pow_pos (by decide)
   have := Int.mul_neg_of_neg_of_pos h h5; omega
  ·exact h
 rw [BitVec.toNat_or, zmt ha, zmt (by omega)]
 have h1 : a.toNat = q.toNat <<< s := by
  rw [Nat.shiftLeft_eq]
  have h2 : (q.toNat : Int) = q := Int.toNat_of_nonneg hq0
  have h3 : ((q.toNat * 2 ^ s : Nat) : Int) = q * 2 ^ s := by rw [Int.natCast_mul, h2, Int.natCast_pow]; rfl
  omega
 have h2 : b.toNat < 2 ^ s := by
  have h3 : ((2 ^ s : Nat) : Int) = 2 ^ s := by rw [Int.natCast_pow]; rfl
  omega
 rw [h1, ← Nat.shiftLeft_add_eq_or_of_lt h2, ← h1, wu64 (by omega)]
 omega
section
variable {P : Program} {ρ : Env} {w : World} {d : Option Nat} {ty : TypeId} {pos : String} {af : Array Edge} {gd : Option (Nat × Bool)}
end
def tabOk (s : ByteArray) : Bool := (List.range 255).all fun j => match s[j + 1]? with
 | some b => decide (1 ≤ b.toNat) && decide (b.toNat ≤ 8) && decide (2 ^ (b.toNat - 1) ≤ j + 1) && decide (j + 1 < 2 ^ b.toNat)
 | none => false
section
variable {P : Program} {ρ : Env} {w : World} {d : Option Nat} {ty : TypeId} {pos : String} {af : Array Edge} {gd : Option (Nat × Bool)} {K : Value → World → Prop}
end
def zed (w : World) (base e sz g o m c : Nat) (xs : List Value) : Prop := zaB w base e sz (.slice (some ⟨g, o, none⟩) m c) m xs
namespace zed
variable {w w' : World} {base e sz g o m c : Nat} {xs : List Value}
theorem lt (h : zed w base e sz g o m c xs) : g < w.heap.size := (zaB.lt h g rfl).2
theorem len (h : zed w base e sz g o m c xs) : xs.length = m * sz := h.1
theorem new (h : zed w base e sz g o m c xs) (hb : Below w.heap.size w w') : zed w' base e sz g o m c xs := zaB.new h hb
theorem kpd {M : List Nat} (h : zed w base e sz g o m c xs) (k : Kp M w w') (hM : g ∉ M) : zed w' base e sz g o m c xs := zaB.kpd h k fun g' hm e => hM (by
 have : g = g' := by simpa [Value.ownBlock] using e
 rw [this]; exact hm)
theorem only {g' : Nat} (h : zed w base e sz g o m c xs) (ho : Only g' w w') (hg : g ≠ g') : zed w' base e sz g o m c xs := h.kpd (Kp.za7 ho) (by simpa using hg)
theorem sl (h : zed w base e sz g o m c xs) : zaT w (some ⟨g, o, none⟩) m sz xs := zaB.sl h
end zed
theorem zet {l vs : List Value} {k : Nat} (h : k + vs.length ≤ l.length) (i : Nat) : (splice l k vs)[i]? = if i < k then l[i]? else if i < k + vs.length then vs[i - k]? else l[i]? := by
 unfold splice
 by_cases h1 : i < k
 ·rw [if_pos h1, List.getElem?_append_left (by rw [List.length_take]; omega), List.getElem?_take, if_pos h1]
 ·rw [if_neg h1, List.getElem?_append_right (by rw [List.length_take]; omega), List.length_take, Nat.min_eq_left (by omega)]
  by_cases h2 : i < k + vs.length
  ·rw [if_pos h2, List.getElem?_append_left (by omega)]
  ·rw [if_neg h2, List.getElem?_append_right (by omega), List.getElem?_drop]
   congr 1; omega
section
variable {P : Program} {ρ : Env} {w : World} {d : Option Nat} {ty : TypeId} {pos : String} {af : Array Edge} {gd : Option (Nat × Bool)} {Kw : World → Prop}
theorem zgl {t : Nat} {x y : Operand} {g o : Nat} {base e sz m c : Nat} {xs : List Value} (vs : List Value) (j : Nat) (hown : zed w base e sz g o m c xs) (hx : ev ρ x = .pointer (some ⟨g, o + j, none⟩))
  (hy : (ev ρ y).cells = vs.toArray) (hs : zcm P t vs.length = true) (hfit : j + vs.length ≤ xs.length) (h1 : ∀ v ∈ vs, v.oneCell' = true)
  (h : ∀ w', zed w' base e sz g o m c (splice xs j vs) → Only g w w' → Kw w') : Sk P ρ w ⟨d, .store t x y, ty, pos, af, gd⟩ Kw := by
 have hlen := hown.1
 rcases hown.2 with ⟨hn, _⟩ | ⟨g', off, cap, cur, he, hb, hg, hmc, hmx, hsz, hcur⟩
 ·cases hn
 ·cases he
  have hrow : row w g cur.toList e := by unfold row; simpa using hg
  have hle : m * sz ≤ c * sz := Nat.mul_le_mul_right _ hmc
  have hcl : cur.toList.length = cur.size := by simp
  refine zf5 vs hx hy hrow hs (by omega) h1 fun w' hr ho => h w' ⟨?_, Or.inr ⟨g, o, c, (splice cur.toList (o + j) vs).toArray, rfl, hb, hr, hmc, hmx, ?_, ?_⟩⟩ ho
  ·simp only [splice, List.length_append, List.length_take, List.length_drop]; omega
  ·simp only [splice, List.size_toArray, List.length_append, List.length_take, List.length_drop]; omega
  ·rw [← hcur]
   have hm2 : ((cur.toList.drop o).take (m * sz)).length = m * sz := by rw [List.length_take, List.length_drop]; omega
   refine List.ext_getElem? fun i => ?_
   rw [List.getElem?_take, List.getElem?_drop, zet (by omega), zet (by rw [hm2]; omega), List.getElem?_take, List.getElem?_drop]
   by_cases hi : i < m * sz
   ·rw [if_pos hi]
    by_cases h2 : i < j
    ·rw [if_pos (by omega), if_pos h2, if_pos hi]
    ·rw [if_neg (by omega), if_neg h2]
     by_cases h3 : i < j + vs.length
     ·rw [if_pos (by omega), if_pos h3]; congr 1; omega
     ·rw [if_neg (by omega), if_neg h3, if_pos hi]
   ·rw [if_neg hi, if_neg (by omega), if_neg (by omega), if_neg hi]
end
section
variable {P : Program} {ρ : Env} {w : World} {d : Option Nat} {ty : TypeId} {pos : String} {af : Array Edge} {gd : Option (Nat × Bool)} {K : Value → World → Prop}
def fieldOne (P : Program) (t i off : Nat) : Bool := match P.underlying t with | some (.struct fs) => (match fs[i]? with | some f => Nat.beq f.offset off && zgj P f.type | none => false) | _ => false
theorem zkJ {t e sz : Nat} (ht : P.underlying t = some (.slice e)) (hs : zcm P e sz = true) (h : ∀ g w', w.heap.size ≤ g → row w' g [] e → Below w.heap.size w w' → K (.slice (some ⟨g, 0, none⟩) 0 0) w') : Mk P ρ w ⟨d, .buildSlice t 0 #[], ty, pos, af, gd⟩ K := by
 obtain ⟨ie, h1, h2⟩ := zca hs
 refine ⟨_, _, ?_, h w.heap.size (w.alloc (.cells #[] e)) (Nat.le_refl _) (zda w _ e) (zb6 w _)⟩
 simp [execOp, Instr.buildSlice, run_underlying ht, Go.sizeOf, typeInfo, h1, Instr.fill, newRow, Result.andThen]
 congr 2
 exact Array.eq_empty_of_size_eq_zero (by simp)
end
section
variable {P : Program} {ρ : Env} {w : World} {d : Option Nat} {ty : TypeId} {pos : String} {af : Array Edge} {gd : Option (Nat × Bool)}
end
theorem Kp.toB {M : List Nat} {B : Nat} {w w' : World} (h : Kp M w w') (hM : ∀ g, g ∈ M → B ≤ g) (hB : B ≤ w.heap.size) : Below B w w' := ⟨h.os, h.tape, h.output, h.size, fun k hk => h.block k (by omega) fun hm => by have := hM k hm; omega⟩
def methRow (P : Program) (t : Nat) (name : String) (f : FuncId) (byP : Bool) : Bool := match P.info? t with
 | some i => (match i.methods.find? (·.name == name) with | some m => m.path.isEmpty && (match m.func with | some (g, b) => Nat.beq g f && (b == byP) | none => false) | none => false)
 | none => false
structure zjX (B : Nat) (w w' : World) : Prop where
 bel : Below B w w'
 size : B ≤ w'.heap.size
namespace zjX
variable {B : Nat} {w0 w w' : World}
theorem refl (h : B ≤ w.heap.size) : zjX B w w := ⟨Below.refl _ _, h⟩
theorem acc (h : zjX B w0 w) (k : Below w.heap.size w w') : zjX B w0 w' := ⟨h.bel.trans (k.mono h.size), Nat.le_trans h.size k.size⟩
theorem tr (h : zjX B w0 w) (k : Below B w w') : zjX B w0 w' := ⟨h.bel.trans k, Nat.le_trans h.size k.size⟩
theorem zn8 {g : Nat} (h : zjX B w0 w) (ho : Only g w w') (hg : B ≤ g) : zjX B w0 w' := ⟨ho.below h.bel hg, by rw [ho.size]; exact h.size⟩
theorem kpd {M : List Nat} (h : zjX B w0 w) (k : Kp M w w') (hM : ∀ g, g ∈ M → B ≤ g) : zjX B w0 w' := h.tr (k.toB hM h.size)
theorem own {base e sz m : Nat} {v : Value} {xs : List Value} (h : zjX B w0 w) (ho : zaB w base e sz v m xs) (hg : w.grownBy w' v.ownBlock) (hk : B ≤ base) : zjX B w0 w' := h.kpd (Kp.za8 hg) fun g hm => Nat.le_trans hk (ho.lt g (Option.mem_toList.1 hm)).1
end zjX
section
variable {md : Option Nat → Prop} {P : Program} {n : Nat} {Q : Post} {ρ : Env} {w : World}
theorem zmu {ops : Array Oper} {rest : List Oper} {d : Option Nat} {op : Op} {ty : TypeId} {pos : String} {af : Array Edge} {j : Nat} {b : Bool} (hy : yl ops ρ j = none) (h : WR md P n ops rest Q (upo ρ d undef) w) :
  WR md P n ops (⟨d, op, ty, pos, af, some (j, b)⟩ :: rest) Q ρ w := by
 intro hl rd a hmd ha
 simp only [List.all_cons, Bool.and_eq_true] at hl
 have hw : Region.wanted ⟨d, op, ty, pos, af, some (j, b)⟩ (yielded ops a.tmps) = false := by
  simp only [Region.wanted, ha.yl, hy]
  simp
 unfold wpListIn
 rw [if_neg (by simp [hw])]
 exact ⟨fun f _ => zhN rd f, h hl.2 rd _ hmd (ha.put d (zg0.lt hl.1) undef)⟩
end
section
variable {P : Program} {ρ : Env} {w : World} {d : Option Nat} {ty : TypeId} {pos : String} {af : Array Edge} {gd : Option (Nat × Bool)} {K : Value → World → Prop}
def ptrT (P : Program) (t : Nat) : Bool := match P.underlying t with | some (.pointer e) => (P.info? e).isSome | _ => false
theorem zhm {t : Nat} (h : ptrT P t = true) : ∃ e j, P.underlying t = some (.pointer e) ∧ P.info? e = some j := by
 unfold ptrT at h
 split at h
 ·rename_i e hu
  obtain ⟨j, hj⟩ := Option.isSome_iff_exists.1 h
  exact ⟨e, j, hu, hj⟩
 ·cases h
theorem zmv {t : Nat} (ht : ptrT P t = true) (n : Nat) : (Op.equalIn (n + 1) t (.pointer none) (.pointer none)).run P w = .ok true w := by
 obtain ⟨e, j, h1, h2⟩ := zhm ht
 simp [Op.equalIn, run_underlying h1, Go.sizeOf, typeInfo, h2, Result.andThen]
theorem ziG {t : Nat} (ht : ptrT P t = true) (n : Nat) (a : Addr) : (Op.equalIn (n + 1) t (.pointer (some a)) (.pointer none)).run P w = .ok false w := by
 obtain ⟨e, j, h1, h2⟩ := zhm ht
 simp [Op.equalIn, run_underlying h1, Go.sizeOf, typeInfo, h2, Result.andThen]
theorem zf6 {t t' : Nat} {x y : Operand} (ht : ptrT P t = true) (hx : ev ρ x = .pointer none) (hy : ev ρ y = .pointer none) : (execOp (ev ρ) ⟨d, .binOp .eql t x y t', ty, pos, af, gd⟩).run P w = .ok (.value (.bool true)) w := by
 have := zmv (w := w) ht 9999
 simp [execOp, hx, hy, eqGuard, binOp, Op.equal, Op.maxDepth, this, Result.andThen]
theorem zch {t t' : Nat} {x y : Operand} {a : Addr} (ht : ptrT P t = true) (hx : ev ρ x = .pointer (some a)) (hy : ev ρ y = .pointer none) : (execOp (ev ρ) ⟨d, .binOp .eql t x y t', ty, pos, af, gd⟩).run P w = .ok (.value (.bool false)) w := by
 have := ziG (w := w) ht 9999 a
 simp [execOp, hx, hy, eqGuard, binOp, Op.equal, Op.maxDepth, this, Result.andThen]
def unsafeOk (P : Program) (src dst e cells : Nat) : Bool := match P.underlying src, P.underlying dst with
 | some (.pointer t), some .unsafePointer => (match P.info? t with | some j => decide (j.size ≠ 0) && liesAt P P.depth e (cells / P.cellsOf e) 0 t 1 | none => false)
 | _, _ => false
end
section
variable {P : Program} {ρ : Env} {w : World} {d : Option Nat} {ty : TypeId} {pos : String} {af : Array Edge} {gd : Option (Nat × Bool)} {K : Value → World → Prop}
def zn9 (w : World) (g : Nat) (l : List UInt8) (i : Nat) : Prop := w.heap[g]? = some (.stringIter ⟨l.toArray⟩ i)
namespace zn9
variable {w w' : World} {g i : Nat} {l : List UInt8}
theorem lt (h : zn9 w g l i) : g < w.heap.size := (Array.getElem?_eq_some_iff.1 h).1
theorem new (h : zn9 w g l i) (hb : Below w.heap.size w w') : zn9 w' g l i := (hb.block g h.lt).trans h
theorem only {g' : Nat} (h : zn9 w g l i) (ho : Only g' w w') (hg : g ≠ g') : zn9 w' g l i := (ho.block g hg).trans h
theorem kpd {M : List Nat} (h : zn9 w g l i) (k : Kp M w w') (hg : g ∉ M) : zn9 w' g l i := (k.block g h.lt hg).trans h
end zn9
end
section
variable {P : Program} {ρ : Env} {w w' : World} {d : Option Nat} {ty : TypeId} {pos : String} {af : Array Edge} {gd : Option (Nat × Bool)} {K : Value → World → Prop}
end
section
variable {P : Program} {ρ : Env} {w : World} {d : Option Nat} {ty : TypeId} {pos : String} {af : Array Edge} {gd : Option (Nat × Bool)} {K : Value → World → Prop}
end
section
variable {P : Program} {ρ : Env} {w : World} {d : Option Nat} {ty : TypeId} {pos : String} {af : Array Edge} {gd : Option (Nat × Bool)}
theorem zhn {t e : Nat} (ht : P.underlying t = some (.slice e)) (n : Nat) (p : Option Addr) (a b : Nat) : (Op.equalIn (n + 1) t (.slice p a b) (.slice none 0 0)).run P w = .ok p.isNone w := by
 cases p <;> simp [Op.equalIn, run_underlying ht, Result.andThen]
theorem zgm {t t' e : Nat} {x y : Operand} {p : Option Addr} {a b : Nat} (ht : P.underlying t = some (.slice e)) (hx : ev ρ x = .slice p a b) (hy : ev ρ y = .slice none 0 0) : (execOp (ev ρ) ⟨d, .binOp .eql t x y t', ty, pos, af, gd⟩).run P w = .ok (.value (.bool p.isNone)) w := by
 have := zhn (w := w) ht 9999 p a b
 simp [execOp, hx, hy, eqGuard, binOp, Op.equal, Op.maxDepth, this, Result.andThen]
theorem zmw {t t' e : Nat} {x y : Operand} {p : Option Addr} {a b : Nat} (ht : P.underlying t = some (.slice e)) (hx : ev ρ x = .slice p a b) (hy : ev ρ y = .slice none 0 0) : (execOp (ev ρ) ⟨d, .binOp .neq t x y t', ty, pos, af, gd⟩).run P w = .ok (.value (.bool (!p.isNone))) w := by
 have := zhn (w := w) ht 9999 p a b
 simp [execOp, hx, hy, eqGuard, binOp, Op.equal, Op.maxDepth, this, Result.andThen]
theorem zgn {t e n : Nat} {x : Operand} {lo hi mx : Option Operand} {g off : Nat} (l h m k : Nat) (ht : arrayOf P t n e 1 = true) (hx : ev ρ x = .pointer (some ⟨g, off, none⟩))
  (hl : ob ρ lo 0 l) (hh : ob ρ hi n h) (hm : ob ρ mx n m) (hmh : mx.isSome = true → hi.isSome = true) (h1 : l ≤ h) (h2 : h ≤ m) (h3 : m ≤ n) (hk : h - l = k) :
  (execOp (ev ρ) ⟨d, .slice t x lo hi mx, ty, pos, af, gd⟩).run P w = .ok (.value (.slice (some ⟨g, if m = l then off else off + l, none⟩) k (m - l))) w := by
 subst hk
 rw [zhj l h m ht hx hl hh hm hmh h1 h2 h3]
 split <;> simp
theorem zho {K : Value → World → Prop} {t t' e sz bytes : Nat} {s x : Operand} {k c g0 o0 : Nat} {news : List Value} {sp : Option Addr} {z : Value} (ht : P.underlying t = some (.slice e)) (ht' : t' = t)
  (hi : (P.info? e).map (fun i => (i.zero, i.size, i.bytes)) = some (some z, sz, bytes)) (hzs : z.cells.size = sz) (hsz : 0 < sz) (hs : ev ρ s = .slice (some ⟨g0, o0, none⟩) 0 0) (hg0 : g0 < w.heap.size)
  (hx : ev ρ x = .slice sp k c) (hsrc : zaT w sp k sz news) (h63 : k ≤ maxLen) (hbytes : k * bytes ≤ 140737488355328)
  (h : ∀ g o c' w', zaT w' (some ⟨g, o, none⟩) k sz news → (g = g0 ∨ w.heap.size ≤ g) → g < w'.heap.size → k ≤ c' → Below w.heap.size w w' → K (.slice (some ⟨g, o, none⟩) k c') w') : Mk P ρ w ⟨d, .call ⟨.builtin .append, #[s, x], #[t, t']⟩, ty, pos, af, gd⟩ K := by
 subst ht'
 obtain ⟨i, hq, hzz⟩ := Option.map_eq_some_iff.1 hi
 simp only [Prod.mk.injEq] at hzz
 obtain ⟨hz, hsize, hby⟩ := hzz
 by_cases hk : k = 0
 ·subst hk
  obtain rfl : news = [] := List.eq_nil_of_length_eq_zero (by simpa using hsrc.len)
  have hrun : (Builtin.append_ #[t', t'] ty #[.slice (some ⟨g0, o0, none⟩) 0 0, .slice sp 0 c]).run P w = .ok (.slice (some ⟨g0, o0, none⟩) 0 0) w := by
   cases sp with
   | none => simp [Builtin.append_, run_underlying ht, Go.sizeOf, typeInfo, hq, Builtin.lenOf, Builtin.firstCells, storeCells, Result.andThen]
   | some a => simp [Builtin.append_, run_underlying ht, Go.sizeOf, typeInfo, hq, Builtin.lenOf, Builtin.firstCells, loadCells, loadCellsFrom, storeCells, Result.andThen]
  refine ⟨_, w, ?_, h g0 o0 0 w ⟨by simp, Nat.zero_le _, fun h => by omega⟩ (.inl rfl) hg0 (Nat.le_refl _) (Below.refl _ _)⟩
  simp [execOp, resolve, invoke, builtin, hs, hx, hrun, Result.andThen]
 ·have hk := Nat.pos_of_ne_zero hk
  obtain ⟨g1, o1, rfl, _⟩ := hsrc.some (Nat.mul_pos hk hsz)
  obtain ⟨v', w', hr, h2, h3⟩ := run_append_arg_grows (P := P) (w := w) t' ty e i z sz bytes ht hq hz hsize hby hzs hsz ⟨g0, o0, none⟩ 0 0 [] (by simp) (fun j u hu => by simp at hu) ⟨g1, o1, none⟩ k c news hsrc.len
   (fun j u hu => by rw [Addr.add_lit]; exact hsrc.cell j hu) (by omega) (by omega) (by rw [Nat.zero_add]; exact hbytes)
  rw [Nat.zero_add, List.nil_append] at h2
  have ho := zc5 h2
  obtain ⟨g, o, c', rfl, hb, hlt, hcc⟩ := ho.form' hk
  refine ⟨_, w', ?_, h g o c' w' ho.sl (.inr hb) hlt hcc ⟨h3.os, h3.tape, h3.output, h3.size, fun k hk => h3.block k hk (by simp)⟩⟩
  simp [execOp, resolve, invoke, builtin, hs, hx, hr, Result.andThen]
theorem row.slZ {g t : Nat} {L : List UInt8} (h : row w g (bv L) t) (o k : Nat) (ho : o + k ≤ L.length) (hm : k ≤ maxLen) : zaT w (some ⟨g, if o + k = o then 0 else 0 + o, none⟩) k 1 (bv ((L.drop o).take k)) := by
 by_cases hk : k = 0
 ·subst hk
  exact ⟨by simp [bv], Nat.zero_le _, fun h => by omega⟩
 ·rw [if_neg (by omega), Nat.zero_add]
  exact h.slB o k ho hm
theorem zee {t i : Nat} {x : Operand} (v : Value) (cs : List Value) (hx : ev ρ x = v) (hb : P.built t [(i, v)] = some cs.toArray) : (execOp (ev ρ) ⟨d, .build t #[(i, x)], ty, pos, af, gd⟩).run P w = .ok (.value (.agg cs.toArray)) w := by
 have := run_build (P := P) w t #[(i, v)] cs.toArray (by simpa using hb)
 simp only [execOp, List.map_toArray, List.map_cons, List.map_nil, hx, Sem.run_bind, this, Result.andThen_ok]
 rfl
theorem zgo {t i j : Nat} {x y : Operand} (v u : Value) (cs : List Value) (hx : ev ρ x = v) (hy : ev ρ y = u) (hb : P.built t [(i, v), (j, u)] = some cs.toArray) : (execOp (ev ρ) ⟨d, .build t #[(i, x), (j, y)], ty, pos, af, gd⟩).run P w = .ok (.value (.agg cs.toArray)) w := by
 have := run_build (P := P) w t #[(i, v), (j, u)] cs.toArray (by simpa using hb)
 simp only [execOp, List.map_toArray, List.map_cons, List.map_nil, hx, hy, Sem.run_bind, this, Result.andThen_ok]
 rfl
end
end Coup
namespace Go.Proofs.YtdbogkndglbffaaGreat
open Go Go.RowKit Coup
structure View where
 kind : Nat
 next : Nat
 slots : List (Option (List UInt8))
def u8 (n : Nat) : UInt8 := UInt8.ofNat n
theorem zkK {n : Nat} (h : n < 256) : (u8 n).toNat = n := by unfold u8; rw [UInt8.toNat_ofNat']; omega
def be2 (n : Nat) : List UInt8 := [u8 (n / 256), u8 (n % 256)]
def be4 (n : Nat) : List UInt8 := [u8 (n / 16777216), u8 (n / 65536 % 256), u8 (n / 256 % 256), u8 (n % 256)]
def bod (s : Option (List UInt8)) : List UInt8 := s.getD []
def zdn : List (Option (List UInt8)) → List UInt8
 | [] => []
 | s :: S => zdn S ++ bod s
def zby : List (Option (List UInt8)) → Nat
 | [] => 0
 | s :: S => (bod s).length + zby S
theorem zff : ∀ S, (zdn S).length = zby S
 | [] => rfl
 | s :: S => by rw [zdn, List.length_append, zff S, zby]; omega
theorem zfE : ∀ S s, zdn (S ++ [s]) = bod s ++ zdn S
 | [], s => by simp [zdn]
 | t :: S, s => by simp [zdn, zfE S s]
theorem zdt : ∀ S T, zby (S ++ T) = zby S + zby T
 | [], T => by simp [zby]
 | s :: S, T => by simp [zby, zdt S T]; omega
def ent (e : Nat) : Option (List UInt8) → List UInt8
 | none => [0, 0, 0, 0]
 | some r => be2 (e - r.length) ++ be2 r.length
theorem zmx (e : Nat) (s : Option (List UInt8)) : (ent e s).length = 4 := by cases s <;> rfl
def zgp : Nat → List (Option (List UInt8)) → List UInt8
 | _, [] => []
 | e, s :: S => ent e s ++ zgp (e - (bod s).length) S
theorem zdu : ∀ e S, (zgp e S).length = 4 * S.length
 | _, [] => rfl
 | e, s :: S => by rw [zgp, List.length_append, zmx, zdu _ S, List.length_cons]; omega
theorem zgq : ∀ e S s, zgp e (S ++ [s]) = zgp e S ++ ent (e - zby S) s
 | e, [], s => by simp [zgp, zby]
 | e, t :: S, s => by
  simp only [List.cons_append, zgp, zgq _ S s, zby, List.append_assoc]
  rw [show e - (bod t).length - zby S = e - ((bod t).length + zby S) by omega]
def zcp (V : View) : Nat := 12 + 4 * V.slots.length + zby V.slots
def zcd (V : View) (e : List UInt8) : List UInt8 := [u8 V.kind, 0] ++ be2 V.slots.length ++ e ++ [0, 0] ++ be4 V.next
def zcC (V : View) (e : List UInt8) (S : List (Option (List UInt8))) : List UInt8 := zcd V e ++ zgp 512 S ++ List.replicate (500 - 4 * S.length - zby S) 0 ++ zdn S
def zaD (V : View) : List UInt8 := zcC V (be2 (512 - zby V.slots)) V.slots
theorem zfg {V : View} {e : List UInt8} {S : List (Option (List UInt8))} (he : e.length = 2) (h : 12 + 4 * S.length + zby S ≤ 512) : (zcC V e S).length = 512 := by
 simp [zcC, zcd, be2, be4, zdu, zff, he]; omega
structure Good (V : View) : Prop where
 kind : V.kind ≤ 4
 next : V.next < 2147483648
 size : zcp V ≤ 512
 cell : ∀ r, some r ∈ V.slots → r.length ≤ 400
 last : V.slots.getLast? ≠ some none
theorem zmy {V : View} {e : List UInt8} (he : e.length = 2) {S : List (Option (List UInt8))} {i : Nat} (h : i < 12) : (zcC V e S)[i]? = (zcd V e)[i]? := by
 unfold zcC
 have hl : (zcd V e).length = 12 := by simp [zcd, be2, be4, he]
 rw [List.append_assoc, List.append_assoc, List.getElem?_append_left (by omega)]
theorem get_ent (V : View) (e : List UInt8) (he : e.length = 2) (S T : List (Option (List UInt8))) (s : Option (List UInt8)) (k : Nat) (hk : k < 4) :
  (zcC V e (S ++ s :: T))[12 + 4 * S.length + k]? = (ent (512 - zby S) s)[k]? := by
 have hl : (zcd V e).length = 12 := by simp [zcd, be2, be4, he]
 have hd : ∀ (S : List (Option (List UInt8))) (e : Nat), zgp e (S ++ s :: T) = zgp e S ++ (ent (e - zby S) s ++ zgp (e - zby S - (bod s).length) T) := by
  intro S
  induction S with
  | nil => intro e; simp [zgp, zby]
  | cons t S ih =>
   intro e
   simp only [List.cons_append, zgp, ih, zby, List.append_assoc]
   rw [show e - (bod t).length - zby S = e - ((bod t).length + zby S) by omega]
 unfold zcC
 rw [hd, List.append_assoc, List.append_assoc, List.getElem?_append_right (by omega), hl, show 12 + 4 * S.length + k - 12 = 4 * S.length + k by omega,
  List.append_assoc, List.getElem?_append_right (by rw [zdu]; omega), zdu, show 4 * S.length + k - 4 * S.length = k by omega, List.append_assoc, List.getElem?_append_left (by rw [zmx]; exact hk)]
theorem get_rec (V : View) (e : List UInt8) (he : e.length = 2) (S T : List (Option (List UInt8))) (r : List UInt8) (hs : 12 + 4 * (S ++ some r :: T).length + zby (S ++ some r :: T) ≤ 512) :
  ((zcC V e (S ++ some r :: T)).drop (512 - zby S - r.length)).take r.length = r := by
 have hl : (zcd V e).length = 12 := by simp [zcd, be2, be4, he]
 have ht : ∀ (S : List (Option (List UInt8))), zdn (S ++ some r :: T) = zdn T ++ (r ++ zdn S) := by
  intro S
  induction S with
  | nil => simp [zdn, bod]
  | cons t S ih => simp [zdn, ih]
 have hls : zby (S ++ some r :: T) = zby S + (r.length + zby T) := by rw [zdt]; rfl
 rw [hls] at hs
 unfold zcC
 rw [ht, hls]
 have hd : (zgp 512 (S ++ some r :: T)).length = 4 * (S.length + (T.length + 1)) := by rw [zdu]; simp
 have hA : (zcd V e ++ zgp 512 (S ++ some r :: T) ++ List.replicate (500 - 4 * (S ++ some r :: T).length - (zby S + (r.length + zby T))) 0 ++ zdn T).length = 512 - zby S - r.length := by
  rw [List.length_append, List.length_append, List.length_append, hl, hd, List.length_replicate, zff]
  simp at hs ⊢; omega
 rw [← List.append_assoc (bs := zdn T), List.drop_left' hA, List.take_left]
theorem zls {α : Type} (A B C D : List α) (h : B.length = D.length) : (A ++ B ++ C).take A.length ++ D ++ (A ++ B ++ C).drop (A.length + D.length) = A ++ D ++ C := by
 have e1 : (A ++ B ++ C).take A.length = A := by rw [List.append_assoc, List.take_left]
 have e2 : (A ++ B ++ C).drop (A.length + D.length) = C := by rw [← h, ← List.length_append, List.drop_left]
 rw [e1, e2]
theorem set4 (A Z : List UInt8) (x0 x1 x2 x3 a b c d : UInt8) (n : Nat) (h : n = A.length) :
  ((((A ++ x0 :: x1 :: x2 :: x3 :: Z).set n a).set (n + 1) b).set (n + 2) c).set (n + 3) d = A ++ a :: b :: c :: d :: Z := by
 subst h
 rw [List.set_append_right _ _ (by omega), List.set_append_right _ _ (by omega), List.set_append_right _ _ (by omega), List.set_append_right _ _ (by omega)]
 rw [Nat.sub_self, show A.length + 1 - A.length = 1 by omega, show A.length + 2 - A.length = 2 by omega, show A.length + 3 - A.length = 3 by omega]
 rfl
theorem rep4 (n : Nat) (h : 4 ≤ n) : List.replicate n (0 : UInt8) = 0 :: 0 :: 0 :: 0 :: List.replicate (n - 4) 0 := by
 obtain ⟨m, rfl⟩ : ∃ m, n = m + 4 := ⟨n - 4, by omega⟩
 rfl
theorem zgr {V : View} {e : List UInt8} (he : e.length = 2) : (zcd V e).length = 12 := by simp [zcd, be2, be4, he]
theorem zlt (V : View) (e : List UInt8) (S : List (Option (List UInt8))) (h : 12 + 4 * (S.length + 1) + zby S ≤ 512) : zcC V e (S ++ [none]) = zcC V e S := by
 unfold zcC
 rw [zgq, zfE, zdt, List.length_append]
 show zcd V e ++ (zgp 512 S ++ [0, 0, 0, 0]) ++ List.replicate (500 - 4 * (S.length + 1) - (zby S + (0 + 0))) 0 ++ ([] ++ zdn S) = _
 rw [List.nil_append, rep4 (500 - 4 * S.length - zby S) (by omega), show 500 - 4 * S.length - zby S - 4 = 500 - 4 * (S.length + 1) - (zby S + (0 + 0)) by omega]
 simp only [List.append_assoc, List.cons_append, List.nil_append]
def midB (V : View) (e : List UInt8) (S : List (Option (List UInt8))) (r : List UInt8) : List UInt8 :=
 zcd V e ++ zgp 512 S ++ List.replicate (500 - 4 * S.length - zby S - r.length) 0 ++ (r ++ zdn S)
theorem zmz (V : View) (e : List UInt8) (he : e.length = 2) (S : List (Option (List UInt8))) (r : List UInt8) (h : 12 + 4 * S.length + zby S + r.length ≤ 512) :
  (zcC V e S).take (512 - zby S - r.length) ++ (r ++ (zcC V e S).drop (512 - zby S - r.length + r.length)) = midB V e S r := by
 have e1 : zcC V e S = (zcd V e ++ zgp 512 S ++ List.replicate (500 - 4 * S.length - zby S - r.length) 0) ++ List.replicate r.length 0 ++ zdn S := by
  unfold zcC
  rw [show 500 - 4 * S.length - zby S = (500 - 4 * S.length - zby S - r.length) + r.length by omega, ← List.replicate_append_replicate, Nat.add_sub_cancel]
  simp only [List.append_assoc]
 have hl : (zcd V e ++ zgp 512 S ++ List.replicate (500 - 4 * S.length - zby S - r.length) (0 : UInt8)).length = 512 - zby S - r.length := by
  rw [List.length_append, List.length_append, zgr he, zdu, List.length_replicate]; omega
 have h2 := zls (zcd V e ++ zgp 512 S ++ List.replicate (500 - 4 * S.length - zby S - r.length) 0) (List.replicate r.length 0) (zdn S) r (by rw [List.length_replicate])
 rw [hl, ← e1] at h2
 rw [← List.append_assoc, h2, midB]
 simp only [List.append_assoc]
theorem mid_len (V : View) (e : List UInt8) (he : e.length = 2) (S : List (Option (List UInt8))) (r : List UInt8) (h : 12 + 4 * S.length + zby S + r.length ≤ 512) : (midB V e S r).length = 512 := by
 rw [midB, List.length_append, List.length_append, List.length_append, List.length_append, zgr he, zdu, List.length_replicate, zff]; omega
theorem zlu (V : View) (e : List UInt8) (he : e.length = 2) (S : List (Option (List UInt8))) (r : List UInt8) (h : 12 + 4 * (S.length + 1) + zby S + r.length ≤ 512) (a b c d : UInt8) (ha : [a, b, c, d] = ent (512 - zby S) (some r)) :
  ((((midB V e S r).set (12 + 4 * S.length) a).set (12 + 4 * S.length + 1) b).set (12 + 4 * S.length + 2) c).set (12 + 4 * S.length + 3) d = zcC V e (S ++ [some r]) := by
 have e1 : midB V e S r = (zcd V e ++ zgp 512 S) ++ 0 :: 0 :: 0 :: 0 :: (List.replicate (500 - 4 * S.length - zby S - r.length - 4) 0 ++ (r ++ zdn S)) := by
  rw [midB, rep4 _ (by omega)]
  simp only [List.append_assoc, List.cons_append]
 rw [e1, set4 _ _ _ _ _ _ _ _ _ _ _ (by rw [List.length_append, zgr he, zdu])]
 unfold zcC
 rw [zgq, zfE, zdt, List.length_append, ← ha]
 show _ = zcd V e ++ (zgp 512 S ++ [a, b, c, d]) ++ List.replicate (500 - 4 * (S.length + 1) - (zby S + (r.length + 0))) 0 ++ (r ++ zdn S)
 rw [show 500 - 4 * S.length - zby S - r.length - 4 = 500 - 4 * (S.length + 1) - (zby S + (r.length + 0)) by omega]
 simp only [List.append_assoc, List.cons_append, List.nil_append]
theorem zmA (V : View) (S : List (Option (List UInt8))) (a b : UInt8) : ((zcC V [0, 0] S).set 4 a).set 5 b = zcC V [a, b] S := by
 simp only [zcC, zcd, be2, be4, List.append_assoc, List.cons_append, List.nil_append]
 rfl
theorem zmB (L r : List UInt8) (k : Nat) : splice (bv L) k (bv r) = bv (L.take k ++ (r ++ L.drop (k + r.length))) := by
 simp only [splice, bv, List.map_append, List.map_take, List.map_drop, List.length_map, List.append_assoc]
structure za0 (w : World) (lo : Nat) (o : List Nat) (vs : List Value) (S : List (Option (List UInt8))) : Prop where
 len : vs.length = S.length
 no : ∀ (i : Nat), S[i]? = some none → vs[i]? = some (.slice none 0 0)
 yes : ∀ (i : Nat) r, S[i]? = some (some r) → ∃ b off c, vs[i]? = some (.slice (some ⟨b, off, none⟩) r.length c) ∧ zaT w (some ⟨b, off, none⟩) r.length 1 (bv r) ∧ b < w.heap.size ∧ b ∉ o ∧ lo ≤ b ∧ r.length ≤ c
namespace za0
variable {w w' : World} {lo : Nat} {o : List Nat} {vs : List Value} {S : List (Option (List UInt8))}
theorem nil (w : World) (lo : Nat) (o : List Nat) : za0 w lo o [] [] := ⟨rfl, fun i h => by simp at h, fun i r h => by simp at h⟩
theorem kp {M : List Nat} (h : za0 w lo o vs S) (k : Kp M w w') (hM : ∀ g, g ∈ M → w.heap.size ≤ g ∨ g ∈ o ∨ g < lo) : za0 w' lo o vs S := ⟨h.len, h.no, fun i r hr => by
 obtain ⟨b, off, c, h1, h2, h3, h4, h5⟩ := h.yes i r hr
 refine ⟨b, off, c, h1, h2.kpd k fun b' o' e hm => ?_, Nat.lt_of_lt_of_le h3 k.size, h4, h5⟩
 cases e
 rcases hM b hm with e | e | e
 ·omega
 ·exact h4 e
 ·omega⟩
theorem new (h : za0 w lo o vs S) (hb : Below w.heap.size w w') : za0 w' lo o vs S := h.kp (M := []) (Kp.of_below hb) (by simp)
theorem avoid {o' : List Nat} (h : za0 w lo o vs S) (ho : ∀ g, g ∈ o' → g ∈ o ∨ w.heap.size ≤ g ∨ g < lo) : za0 w lo o' vs S := ⟨h.len, h.no, fun i r hr => by
 obtain ⟨b, off, c, h1, h2, h3, h4, h5⟩ := h.yes i r hr
 refine ⟨b, off, c, h1, h2, h3, fun hm => ?_, h5⟩
 rcases ho b hm with e | e | e
 ·exact h4 e
 ·omega
 ·omega⟩
theorem only {g : Nat} (h : za0 w lo o vs S) (ho : Only g w w') (hg : g < lo ∨ g ∈ o) : za0 w' lo o vs S := h.kp (Kp.za7 ho) (fun g' hm => by
 have : g' = g := by simpa using hm
 subst this
 exact hg.elim (fun e => Or.inr (Or.inr e)) fun e => Or.inr (Or.inl e))
theorem kpd {M : List Nat} (h : za0 w lo o vs S) (k : Kp M w w') (hM : ∀ g, g ∈ M → g < lo ∨ g ∈ o) : za0 w' lo o vs S := h.kp k fun g hm => (hM g hm).elim (fun e => Or.inr (Or.inr e)) fun e => Or.inr (Or.inl e)
end za0
theorem orN {a b : Int} (s : Nat) (q : Int) (ha : 0 ≤ a) (hq : a = q * 2 ^ s) (hb : 0 ≤ b ∧ b < 2 ^ s) (hs : a + b < 9223372036854775808) : ((BitVec.ofInt 64 a ||| BitVec.ofInt 64 b).toNat : Int) = a + b := by
 have h := orU (a := a) (b := b) s q ⟨ha, by omega⟩ hq hb (by omega)
 have hlt := (BitVec.ofInt 64 a ||| BitVec.ofInt 64 b).isLt
 have e : IntKind.u64.wrap ((BitVec.ofInt 64 a ||| BitVec.ofInt 64 b).toNat : Int) = ((BitVec.ofInt 64 a ||| BitVec.ofInt 64 b).toNat : Int) := wu64 (by omega)
 exact e.symm.trans h
theorem orI {a b : Int} (s : Nat) (q : Int) (ha : 0 ≤ a) (hq : a = q * 2 ^ s) (hb : 0 ≤ b ∧ b < 2 ^ s) (hs : a + b < 9223372036854775808) : IntKind.i64.wrap ((BitVec.ofInt IntKind.i64.bits a ||| BitVec.ofInt IntKind.i64.bits b).toNat : Int) = a + b := by
 have h := orN s q ha hq hb hs
 show IntKind.i64.wrap ((BitVec.ofInt 64 a ||| BitVec.ofInt 64 b).toNat : Int) = a + b
 rw [h, w64 (by omega)]
set_option maxRecDepth 20000 in
theorem two35 (p : Option Addr) (n c : Nat) (a b : UInt8) (w : World) (hn : n = 2) (h : zaT w p n 1 (bv [a, b])) : Calls Tryz.prog 145 [.slice p n c].toArray w (Ret fun v w' => v = .int .i64 (256 * (a.toNat : Int) + b.toNat) ∧ Below w.heap.size w w') := by
 have hB := Below.refl w.heap.size w
 subst hn
 have ha := a.toNat_lt
 have hb := b.toNat_lt
 obtain ⟨g, o, rfl, hg⟩ := h.some (by omega)
 refine zas (fn := Tryz.f145) (rs := [.tmp 2]) (n := 13) Tryz.func145 rfl rfl Tryz.ntmps145 (by kernel_rfl) rfl ?_
 refine zaf (zaa (zad (zac) (zae (zah (zaf ?_)))))
 refine za5 [] (by kernel_rfl) ?_
 intro w901 hb901 hS901
 replace hB := hB.acc hb901
 have hB_d901 := hB
 refine zat 0 (zab) ?_
 refine zat 1 (zaX (e := 5) (by kernel_rfl) rfl rfl (0) (by omega) (by omega)) ?_
 refine zbp 2 (fun w' hS' => zaI rfl (Ld.sl1 (h.below (hB_d901.kpd hS' (by first | (simp; done) | (simp; omega) | (simp [*]; done) | exact zaq (Or.inl (by omega)) | exact zaq (Or.inr (by simp)) | exact fun g hm => Nat.le_trans (by omega) (zcs hm).1 | (intro b o e; cases e; exact zaq (Or.inl (by omega))) | (intro b hm; have := (hu.lt b (Option.mem_toList.1 hm)).1; omega) | (intro b o e; cases e; intro hm; have := (hu.lt _ (Option.mem_toList.1 hm)).1; omega) | assumption)) (Nat.le_refl _)) (by kernel_rfl) (show (bv [a, b])[0]? = some (.int .u8 (a.toNat : Int)) from rfl))) ?_
 refine zat 3 (zbz (k := .i64) (by kernel_rfl) (by kernel_rfl) rfl (Coup.w64 (by omega))) ?_
 refine zat 4 (ziA rfl rfl (by omega) (show IntKind.i64.wrap ((a.toNat : Int) * 2 ^ 8) = 256 * (a.toNat : Int) by rw [w64 (by omega)]; omega)) ?_
 refine zat 5 (zab) ?_
 refine zat 6 (zaX (e := 5) (by kernel_rfl) rfl rfl (1) (by omega) (by omega)) ?_
 refine zbp 7 (fun w' hS' => zaI rfl (Ld.sl1 (h.below (hB_d901.kpd hS' (by first | (simp; done) | (simp; omega) | (simp [*]; done) | exact zaq (Or.inl (by omega)) | exact zaq (Or.inr (by simp)) | exact fun g hm => Nat.le_trans (by omega) (zcs hm).1 | (intro b o e; cases e; exact zaq (Or.inl (by omega))) | (intro b hm; have := (hu.lt b (Option.mem_toList.1 hm)).1; omega) | (intro b o e; cases e; intro hm; have := (hu.lt _ (Option.mem_toList.1 hm)).1; omega) | assumption)) (Nat.le_refl _)) (by kernel_rfl) (show (bv [a, b])[1]? = some (.int .u8 (b.toNat : Int)) from rfl))) ?_
 refine zat 8 (zbz (k := .i64) (by kernel_rfl) (by kernel_rfl) rfl (Coup.w64 (by omega))) ?_
 refine zat 9 (zml rfl rfl (orI 8 a.toNat (by omega) (by omega) (by omega) (by omega))) ?_
 refine zat 10 (zac) ?_
 refine zaL (by kernel_rfl) ?_
 refine zah (zaz ?_)
 refine zam [_] ⟨rfl, trivial⟩ ?_
 exact ⟨rfl, hB⟩
theorem zef {S : List (Option (List UInt8))} {i : Nat} {s : Option (List UInt8)} (h : S[i]? = some s) : zby (S.take (i + 1)) = zby (S.take i) + (bod s).length := by
 rw [List.take_add_one, h, zdt]
 simp [zby]
theorem zde (S : List (Option (List UInt8))) (i : Nat) : zby (S.take i) ≤ zby S := by
 have := zdt (S.take i) (S.drop i)
 rw [List.take_append_drop] at this
 omega
theorem za0.val {w : World} {lo : Nat} {o : List Nat} {vs : List Value} {S : List (Option (List UInt8))} (h : za0 w lo o vs S) {i : Nat} {s : Option (List UInt8)} (hs : S[i]? = some s) :
  ∃ p c, vs[i]? = some (.slice p (bod s).length c) ∧ zaT w p (bod s).length 1 (bv (bod s)) ∧ (s = none ↔ p = none) ∧ (bod s).length ≤ c ∧ ∀ b o, p = some ⟨b, o, none⟩ → lo ≤ b := by
 cases s with
 | none => exact ⟨none, 0, h.no i hs, zaT.nil _ _ _, by simp, Nat.le_refl _, fun b o e => by cases e⟩
 | some r =>
  obtain ⟨b, off, c, h1, h2, _, _, h5, h6⟩ := h.yes i r hs
  exact ⟨_, c, h1, h2, by simp, h6, fun b o e => by cases e; exact h5⟩
set_option maxRecDepth 20000 in
set_option maxHeartbeats 1000000 in
theorem zmC (V : View) (p : Option Addr) (c : Nat) (vs : List Value) (w : World) (lo : Nat) (o : List Nat) (h : zaT w p V.slots.length 1 vs) (hs : za0 w lo o vs V.slots) (hb : zcp V ≤ 1000000) :
   Calls Tryz.prog 146 [.agg #[.int .i64 (V.kind : Int), .int .i64 (V.next : Int), .slice p V.slots.length c]].toArray w (Ret fun v w' => v = .int .i64 (zcp V : Int) ∧ Below w.heap.size w w') := by
 have hB := Below.refl w.heap.size w
 have hml : maxLen = 9223372036854775807 := by decide
 obtain ⟨S, hS⟩ : ∃ S, V.slots = S := ⟨_, rfl⟩
 have hz : zcp V = 12 + 4 * S.length + zby S := by rw [zcp, hS]
 rw [hz] at hb ⊢
 rw [hS] at h hs ⊢
 refine zas (fn := Tryz.f146) (rs := [.tmp 2]) (n := 24) Tryz.func146 rfl rfl Tryz.ntmps146 (by kernel_rfl) rfl ?_
 refine zaf (zaa ?_)
 refine zay rfl (zaU ([_, _, _]) rfl (fun g1 w1 hg1 hr1 hb1 => ?_))
 replace hB := hB.acc hb1
 refine zad (zac) (zae (zah (zaf (zaa (zad (zav 2) ?_)))))
 refine zad (zax hr1) ?_
 refine zad (zaJ (e := 33) (sz := 1) (by kernel_rfl) rfl rfl) ?_
 refine zad (zc1 rfl rfl (Coup.w64 (by omega))) ?_
 refine zad (zaN rfl rfl (Coup.w64 (by omega))) ?_
 refine zad (zac) (zae (zah (zaf (zaf (zaa (zad (zav 2) ?_))))))
 refine zad (zax hr1) ?_
 refine zad (zaJ (e := 33) (sz := 1) (by kernel_rfl) rfl rfl) ?_
 refine zad (zab) (zae (zah (zaE ?_)))
 refine zbB (α := Nat) 0 (fun k => [(14, .int .i64 (k : Nat)), (13, .int .i64 (S.length : Nat)), (12, .slice p S.length c), (3, .int .i64 ((12 + 4 * S.length + zby (S.take k) : Nat) : Int))]) (fun k w' => k ≤ S.length ∧ Below w.heap.size w w') (fun k => S.length - k)
   ⟨rfl, rfl, rfl, vi (by simp [zby]), rfl⟩ ⟨Nat.zero_le _, hB⟩ ?_
 rintro i f wr ⟨hi, hB⟩
 have hlt1 := zde S i
 refine zaf (zaa ?_)
 refine zad (za2 rfl rfl) ?_
 refine zae (zah (zaf ?_))
 refine zbf rfl (fun hlt => ?_) (fun hlt => ?_)
 ·
  refine zau (zah (zaf (zaE (zaf ?_))))
  have hobt : ∃ s, S[i]? = some s := ⟨_, List.getElem?_eq_getElem (by omega)⟩
  obtain ⟨s, hsi⟩ := hobt
  have hvv := hs.val hsi
  obtain ⟨q, cq, hv, hq, hqn, -⟩ := hvv
  have hobt := h.some (by omega)
  obtain ⟨g, off, rfl, hg⟩ := hobt
  have hsn := zef hsi
  have hlt2 := zde S (i + 1)
  refine zaa ?_
  refine zad (zaX (e := 33) (by kernel_rfl) rfl rfl (i) (by omega) (by omega)) ?_
  refine zad (zaI rfl (Ld.sl1 (h.below hB (Nat.le_refl _)) (by kernel_rfl) hv)) ?_
  refine zad (zac) (zae (zah (zaa (zad (zab) (zad (zab) ?_)))))
  refine zad (zaJ (e := 5) (sz := 1) (by kernel_rfl) rfl rfl) ?_
  refine zad (zaN rfl rfl (Coup.w64 (by omega))) ?_
  refine zad (zac) (zae (za6 (zah (zaa ?_))))
  refine zad (zaN rfl rfl (Coup.w64 (by omega))) ?_
  refine zad (zab) (zae ?_)
  refine zbw ⟨i + 1, by omega, ⟨rfl, rfl, rfl, vi (by omega), rfl⟩, by omega, hB⟩
 ·
  obtain rfl : i = S.length := by omega
  rw [List.take_of_length_le (Nat.le_refl _)]
  refine zbm (zbW (zcr (zbt (zah (zaf (zaa (zad (zab) (zad (zac) (zae (zah (zaz ?_)))))))))))
  refine zam [_] ⟨rfl, trivial⟩ ?_
  exact ⟨rfl, hB⟩
set_option maxRecDepth 20000 in
theorem nil37 (q : Option Addr) (n c : Nat) (w : World) : Calls Tryz.prog 177 [.slice q n c].toArray w (Ret fun v w' => v = .bool q.isNone ∧ w = w') := by
 refine zas (fn := Tryz.f177) (rs := [.tmp 2]) (n := 5) Tryz.func177 rfl rfl Tryz.ntmps177 (by kernel_rfl) rfl ?_
 refine zaf (zaa (zad (zac) (zae (zah (zaf (zaa (zad (zab) ?_)))))))
 refine zad (zgm (e := 5) (by kernel_rfl) rfl rfl) ?_
 refine zad (zac) (zae (zah (zaz ?_)))
 refine zam [_] ⟨rfl, trivial⟩ ?_
 exact ⟨rfl, rfl⟩
def zjD (S : List (Option (List UInt8))) (i : Int) : Bool := decide (0 ≤ i) && (S.getD i.toNat none).isSome
set_option maxRecDepth 20000 in
set_option maxHeartbeats 1000000 in
theorem has26 (V : View) (p : Option Addr) (c : Nat) (vs : List Value) (k : Int) (w : World) (lo : Nat) (o : List Nat) (h : zaT w p V.slots.length 1 vs) (hs : za0 w lo o vs V.slots) :
   Calls Tryz.prog 98 [.agg #[.int .i64 (V.kind : Int), .int .i64 (V.next : Int), .slice p V.slots.length c], .int .i64 k].toArray w (Ret fun v w' => v = .bool (zjD V.slots k) ∧ Below w.heap.size w w') := by
 have hB := Below.refl w.heap.size w
 obtain ⟨S, hS⟩ : ∃ S, V.slots = S := ⟨_, rfl⟩
 rw [hS] at h hs ⊢
 refine zas (fn := Tryz.f98) (rs := [.tmp 4]) (n := 22) Tryz.func98 rfl rfl Tryz.ntmps98 (by kernel_rfl) rfl ?_
 refine zaf (zaa ?_)
 refine zay rfl (zaU ([_, _, _]) rfl (fun g2 w2 hg2 hr2 hb2 => ?_))
 replace hB := hB.acc hb2
 refine zad (zac) (zae (zah (zaf (zaa (zad (zab) ?_)))))
 refine zad (zc2 rfl rfl) ?_
 refine zad (zab) ?_
 refine zb8 7 rfl (fun h0 => ?_) (fun h0 => ?_)
 ·
  refine zan rfl (zad (zab) (zan rfl (zad (zav 2) (zan rfl ?_))))
  refine zad (zax hr2) ?_
  refine zan rfl ?_
  refine zad (zaJ (e := 33) (sz := 1) (by kernel_rfl) rfl rfl) ?_
  refine zan rfl ?_
  refine zad (za2 rfl rfl) ?_
  refine zad (zaA rfl) (zad (zab) ?_)
  refine zb8 14 rfl (fun h1 => ?_) (fun h1 => ?_)
  ·
   refine zan rfl (zad (zav 2) (zan rfl ?_))
   refine zad (zax hr2) ?_
   refine zan rfl (zad (zab) (zan rfl ?_))
   have hobt : ∃ i : Nat, k = i := ⟨k.toNat, by omega⟩
   obtain ⟨i, rfl⟩ := hobt
   have hobt : ∃ s, S[i]? = some s := ⟨_, List.getElem?_eq_getElem (by omega)⟩
   obtain ⟨s, hsi⟩ := hobt
   have hvv := hs.val hsi
   obtain ⟨q, cq, hv, hq, hqn, -⟩ := hvv
   have hobt := h.some (by omega)
   obtain ⟨g, off, rfl, hg⟩ := hobt
   refine zad (zaX (e := 33) (by kernel_rfl) rfl rfl (i) (by omega) (by omega)) ?_
   refine zan rfl ?_
   refine zad (zaI rfl (Ld.sl1 (h.below hB (Nat.le_refl _)) (by kernel_rfl) hv)) ?_
   refine zan rfl ?_
   refine zad (zmw (e := 5) (by kernel_rfl) rfl rfl) ?_
   refine zad (zaA rfl) (zad (zac) (zae (zah (zaz ?_))))
   refine zam [_] ⟨rfl, trivial⟩ ?_
   refine ⟨vb ?_, hB⟩
   rw [zjD, Int.toNat_natCast, List.getD_eq_getElem?_getD, hsi, decide_eq_true (by omega)]
   cases s <;> cases q <;> simp_all
  ·
   refine zaK rfl rfl (zaK rfl rfl (zaK rfl rfl (zaK rfl rfl (zaK rfl rfl (zaK rfl rfl (zad (zaw rfl) (zad (zac) (zae (zah (zaz ?_))))))))))
   refine zam [_] ⟨rfl, trivial⟩ ?_
   refine ⟨vb ?_, hB⟩
   rw [zjD, List.getD_eq_getElem?_getD, List.getElem?_eq_none (by omega)]
   simp
 ·
  refine zaK rfl rfl (zaK rfl rfl (zaK rfl rfl (zaK rfl rfl (zaK rfl rfl (zad (zaw rfl) (zad (zab) (zaK rfl rfl (zaK rfl rfl (zaK rfl rfl (zaK rfl rfl (zaK rfl rfl ?_)))))))))))
  refine zaK rfl rfl (zad (zaw rfl) (zad (zac) (zae (zah (zaz ?_)))))
  refine zam [_] ⟨rfl, trivial⟩ ?_
  refine ⟨vb ?_, hB⟩
  rw [zjD, decide_eq_false (by omega)]; rfl
def zbK (S : List (Option (List UInt8))) : Nat := S.findIdx fun s => s.isNone
theorem zoa {S : List (Option (List UInt8))} {i : Nat} (h : S[i]? = some none) (hf : i ≤ zbK S) : zbK S = i := by
 obtain ⟨hl, he⟩ := List.getElem?_eq_some_iff.1 h
 rcases Nat.lt_or_eq_of_le hf with h1 | h1
 ·have := List.not_of_lt_findIdx h1
  rw [he] at this; simp at this
 ·exact h1.symm
theorem zob {S : List (Option (List UInt8))} {i : Nat} {r : List UInt8} (h : S[i]? = some (some r)) (hf : i ≤ zbK S) : i + 1 ≤ zbK S := by
 obtain ⟨hl, he⟩ := List.getElem?_eq_some_iff.1 h
 rcases Nat.lt_or_eq_of_le hf with h1 | h1
 ·exact h1
 ·exfalso
  have h2 : zbK S < S.length := by omega
  have := List.findIdx_getElem (p := fun s : Option (List UInt8) => s.isNone) (xs := S) (w := h2)
  have e : S[List.findIdx (fun s : Option (List UInt8) => s.isNone) S]'h2 = some r := by
   have h3 : S[zbK S]? = some (some r) := by rw [← h1]; exact h
   exact (List.getElem?_eq_some_iff.1 h3).2
  rw [e] at this; simp at this
set_option maxRecDepth 20000 in
set_option maxHeartbeats 1000000 in
theorem index36 (S : List (Option (List UInt8))) (p : Option Addr) (c : Nat) (vs : List Value) (w : World) (lo : Nat) (o : List Nat) (h : zaT w p S.length 1 vs) (hs : za0 w lo o vs S) :
   Calls Tryz.prog 176 [.slice p S.length c, .func (.func 177) #[] #[]].toArray w (Ret fun v w' => v = .int .i64 (if zbK S < S.length then (zbK S : Int) else -1) ∧ Below w.heap.size w w') := by
 have hB := Below.refl w.heap.size w
 have hml : maxLen = 9223372036854775807 := by decide
 have hmax := h.max
 refine zas (fn := Tryz.f176) (rs := [.tmp 4]) (n := 19) Tryz.func176 rfl rfl Tryz.ntmps176 (by kernel_rfl) rfl ?_
 refine zaf (zaa (zad (zac) (zae (zah (zaf (zaf (zaa (zad (zab) ?_))))))))
 refine zad (zaJ (e := 33) (sz := 1) (by kernel_rfl) rfl rfl) ?_
 refine zad (zab) (zae (zah (zaE ?_)))
 refine zbB (α := Nat) 0 (fun k => [(8, .int .i64 (k : Nat)), (7, .int .i64 (S.length : Nat)), (0, .slice p S.length c), (1, .func (.func 177) #[] #[])]) (fun k w' => k ≤ S.length ∧ k ≤ zbK S ∧ Below w.heap.size w w') (fun k => S.length - k)
   ⟨rfl, rfl, rfl, rfl, rfl⟩ ⟨Nat.zero_le _, Nat.zero_le _, hB⟩ ?_
 rintro i f wr ⟨hi, hfr, hB⟩
 refine zaf (zaa ?_)
 refine zad (za2 rfl rfl) ?_
 refine zae (zah (zaf ?_))
 refine zbf rfl (fun hlt => ?_) (fun hlt => ?_)
 ·
  refine zau (zah (zaf (zaE (zaf (zaa (zad (zab) (zad (zac) (zae (zah (zaf ?_))))))))))
  have hobt : ∃ s, S[i]? = some s := ⟨_, List.getElem?_eq_getElem (by omega)⟩
  obtain ⟨s, hsi⟩ := hobt
  have hvv := hs.val hsi
  obtain ⟨q, cq, hv, hq, hqn, -⟩ := hvv
  have hobt := h.some (by omega)
  obtain ⟨g, off, rfl, hg⟩ := hobt
  refine zaa (zad (zab) (zad (zab) (zad (zab) ?_)))
  refine zad (zaX (e := 33) (by kernel_rfl) rfl rfl (i) (by omega) (by omega)) ?_
  refine zad (zaI rfl (Ld.sl1 (h.below hB (Nat.le_refl _)) (by kernel_rfl) hv)) ?_
  refine zao rfl (zn7 (by kernel_rfl) rfl rfl) (nil37 q (bod s).length cq wr) ?_
  rintro _ _ ⟨rfl, rfl⟩
  refine zae (zah ?_)
  refine zjB rfl (fun hq0 => ?_) (fun hq0 => ?_)
  ·
   refine zaf (zaa (zad (zab) (zad (zac) (zae (zah (zaz (zbd (zaP (zeL (zbd (zaP ?_)))))))))))
   refine zam [_] ⟨rfl, trivial⟩ ?_
   have hs0 : s = none := by rw [hqn]; cases q with | none => rfl | some a => simp at hq0
   rw [hs0] at hsi
   have hfi := zoa hsi hfr
   refine ⟨?_, hB⟩
   rw [if_pos (by omega), hfi]; rfl
  ·
   obtain ⟨r, hr⟩ : ∃ r, s = some r := by
    cases s with
    | none => rw [hqn.1 rfl] at hq0; simp at hq0
    | some r => exact ⟨r, rfl⟩
   rw [hr] at hsi
   have hfg := zob hsi hfr
   refine zau (za6 (zah (zaa ?_)))
   refine zad (zaN rfl rfl (Coup.w64 (by omega))) ?_
   refine zad (zab) (zae ?_)
   refine zbw ⟨i + 1, by omega, ⟨rfl, rfl, rfl, rfl, rfl⟩, by omega, hfg, hB⟩
 ·
  obtain rfl : i = S.length := by omega
  refine zbm (zbW (zcr (zbt (zah (zaf (zaa (zad (zac) (zae (zah (zaz ?_))))))))))
  refine zam [_] ⟨rfl, trivial⟩ ?_
  refine ⟨?_, hB⟩
  rw [if_neg (by omega)]; rfl
set_option maxRecDepth 20000 in
theorem free23 (V : View) (p : Option Addr) (c : Nat) (vs : List Value) (w : World) (lo : Nat) (o : List Nat) (h : zaT w p V.slots.length 1 vs) (hs : za0 w lo o vs V.slots) :
   Calls Tryz.prog 143 [.agg #[.int .i64 (V.kind : Int), .int .i64 (V.next : Int), .slice p V.slots.length c]].toArray w (Ret fun v w' => v = .int .i64 (zbK V.slots : Nat) ∧ Below w.heap.size w w') := by
 have hB := Below.refl w.heap.size w
 have hle : zbK V.slots ≤ V.slots.length := List.findIdx_le_length
 obtain ⟨S, hS⟩ : ∃ S, V.slots = S := ⟨_, rfl⟩
 rw [hS] at h hs hle ⊢
 obtain ⟨F, hF⟩ : ∃ F : Int, (if zbK S < S.length then (zbK S : Int) else -1) = F := ⟨_, rfl⟩
 have hI := index36 S p c vs
 rw [hF] at hI
 refine zas (fn := Tryz.f143) (rs := [.tmp 2]) (n := 13) Tryz.func143 rfl rfl Tryz.ntmps143 (by kernel_rfl) rfl ?_
 refine zaf (zaa ?_)
 refine zay rfl (zaU ([_, _, _]) rfl (fun g1 w1 hg1 hr1 hb1 => ?_))
 replace hB := hB.acc hb1
 refine zad (zac) (zae (zah (zaf (zaf (zaa (zad (zav 2) ?_))))))
 refine zad (zax hr1) ?_
 refine zao rfl (zaj (by kernel_rfl) rfl) (hI w1 lo o (h.below hB (Nat.le_refl _)) (hs.new hB)) ?_
 rintro _ w6 ⟨rfl, hb6⟩
 replace hr1 := hr1.new hb6
 replace hB := hB.acc hb6
 refine zad (zac) (zae (zah (zaf (zaa (zad (zab) ?_)))))
 refine zad (zc2 rfl rfl) ?_
 refine zae (zah ?_)
 refine zbf rfl (fun hge => ?_) (fun hge => ?_)
 ·
  refine zaf (zaa (zad (zab) (zad (zac) (zae (zah (zaz (zaP ?_)))))))
  refine zam [_] ⟨rfl, trivial⟩ ?_
  refine ⟨vi ?_, hB⟩
  rw [← hF] at hge ⊢
  split at hge
  · rename_i h1; rw [if_pos h1]
  · omega
 ·
  refine zau (zah (zaf (zaa (zad (zav 2) ?_))))
  refine zad (zax hr1) ?_
  refine zad (zaJ (e := 33) (sz := 1) (by kernel_rfl) rfl rfl) ?_
  refine zad (zac) (zae (zah (zaz ?_)))
  refine zam [_] ⟨rfl, trivial⟩ ?_
  refine ⟨vi ?_, hB⟩
  rw [← hF] at hge
  split at hge <;> omega
theorem zdB (n : Nat) : IntKind.u8.wrap (n : Int) = ((u8 n).toNat : Int) := by
 rw [IntKind.wrap_u8, u8, UInt8.toNat_ofNat']; omega
theorem shrI (n : Nat) {b : Int} (s : Nat) (hb : b = (s : Int)) (hs : s ≤ 64) : (n : Int).fdiv (2 ^ (min b.toNat IntKind.i64.bits)) = ((n / 2 ^ s : Nat) : Int) := by
 have := shrN (a := (n : Int)) s hb hs
 rw [Int.natCast_ediv, Int.natCast_pow]
 exact this
theorem zmD (n : Nat) : u8 (n % 256) = u8 n := by
 refine UInt8.toNat_inj.1 ?_
 unfold u8
 rw [UInt8.toNat_ofNat', UInt8.toNat_ofNat']; omega
theorem shrJ {a b : Int} (n s : Nat) (ha : a = (n : Int)) (hb : b = (s : Int)) (hs : s ≤ 64) : a.fdiv (2 ^ (min b.toNat IntKind.i64.bits)) = ((n / 2 ^ s : Nat) : Int) := by
 subst ha; exact shrI n s hb hs
theorem zoc {a : Int} (n : Nat) (ha : a = (n : Int)) : IntKind.u8.wrap a = ((u8 n).toNat : Int) := by
 subst ha; exact zdB n
theorem zmE {w : World} {g k : Nat} {l : List Value} {v : Value} {t : TypeId} (h : row w g (l.set (0 + k) v) t) : row w g (l.set k v) t := by rw [Nat.zero_add] at h; exact h
theorem zmF (L r : List UInt8) (j k : Nat) (h : r.length = 0 ∨ j = k) : splice (bv L) j (bv r) = splice (bv L) k (bv r) := by
 rcases h with h | rfl
 ·have : r = [] := List.eq_nil_of_length_eq_zero h
  subst this
  simp [splice, bv]
 ·rfl
def zod (L : List UInt8) (n : Nat) : Nat → List UInt8
 | 0 => L
 | k + 1 => (zod L n k).set (8 + k) (u8 (n / 2 ^ (24 - 8 * k)))
theorem zkL (L : List UInt8) (n : Nat) : ∀ k, (zod L n k).length = L.length
 | 0 => rfl
 | k + 1 => by rw [zod, List.length_set, zkL L n k]
def zcQ : List UInt8 := List.replicate 512 0
theorem zbM {l : List UInt8} {i : Nat} {b : UInt8} (h : i < l.length) : (bv l).set i (.int .u8 (b.toNat : Int)) = bv (l.set i b) := by
 simp only [bv, List.map_set]; rfl
theorem zdR : List.replicate 512 (Value.int .u8 0) = bv zcQ := by
 rw [zcQ, bv, List.map_replicate]; rfl
theorem zlv (V : View) : zod (((zcQ.set 0 (u8 V.kind)).set 2 (u8 (V.slots.length / 2 ^ 8))).set 3 (u8 V.slots.length)) V.next 4 = zcC V [0, 0] [] := by
 have e : zcQ = [0, 0, 0, 0, 0, 0, 0, 0, 0, 0, 0, 0] ++ List.replicate 500 0 := by
  rw [zcQ, show (512 : Nat) = 12 + 500 from rfl, ← List.replicate_append_replicate]; rfl
 have e2 : zcC V [0, 0] [] = zcd V [0, 0] ++ List.replicate 500 0 := by
  simp only [zcC, zgp, zdn, zby, List.append_nil, List.length_nil, Nat.mul_zero, Nat.sub_zero]
 rw [e, e2]
 generalize List.replicate 500 (0 : UInt8) = T
 have m : ∀ n : Nat, u8 (n % 256) = u8 n := fun n => by
  refine UInt8.toNat_inj.1 ?_
  unfold u8
  rw [UInt8.toNat_ofNat', UInt8.toNat_ofNat']; omega
 have h1 : V.next / 2 ^ (24 - 8 * 0) = V.next / 16777216 := rfl
 have h2 : V.next / 2 ^ (24 - 8 * 1) = V.next / 65536 := rfl
 have h3 : V.next / 2 ^ (24 - 8 * 2) = V.next / 256 := rfl
 have h4 : V.next / 2 ^ (24 - 8 * 3) = V.next := by rw [show 24 - 8 * 3 = 0 from rfl, Nat.pow_zero, Nat.div_one]
 simp only [zod, h1, h2, h3, h4, zcd, be2, be4, m]
 rfl
set_option maxRecDepth 20000 in
set_option maxHeartbeats 2000000 in
theorem ziH (V : View) (p : Option Addr) (c : Nat) (vs : List Value) (w : World) (lo : Nat) (o : List Nat) (h : zaT w p V.slots.length 1 vs) (hs : za0 w lo o vs V.slots) (hk : V.kind < 256) (hn : V.next < 2147483648) (hz : zcp V ≤ 512) :
   Calls Tryz.prog 144 [.agg #[.int .i64 (V.kind : Int), .int .i64 (V.next : Int), .slice p V.slots.length c]].toArray w (Ret fun v w' => v = .agg (bv (zaD V)).toArray ∧ Below w.heap.size w w') := by
 have hB := Below.refl w.heap.size w
 have hml : maxLen = 9223372036854775807 := by decide
 obtain ⟨Z, hZ⟩ : ∃ Z, zcQ = Z := ⟨_, rfl⟩
 have hZl : Z.length = 512 := by rw [← hZ, zcQ, List.length_replicate]
 refine zas (fn := Tryz.f144) (rs := [.cell 2 62]) (n := 90) Tryz.func144 rfl rfl Tryz.ntmps144 (by kernel_rfl) rfl ?_
 refine zaf (zaa ?_)
 refine zay rfl (zaU ([_, _, _]) rfl (fun g1 w1 hg1 hr1 hb1 => ?_))
 replace hB := hB.acc hb1
 refine zay rfl (zar (List.replicate 512 (Value.int .u8 0)) (by kernel_rfl) (fun g2 w2 hg2 hr2 hb2 => ?_))
 have ge_hB_g2 := Nat.le_trans hB.size hg2
 have lt_g1_g2 : g1 < g2 := Nat.lt_of_lt_of_le hr1.lt hg2
 replace hr1 := hr1.new hb2
 replace hB := hB.acc hb2
 rw [zdR, hZ] at hr2
 refine zae (zah (zaf (zaa (zad (zav 0) ?_))))
 refine zad (zax hr1) ?_
 refine zad (zbz (k := .u8) (by kernel_rfl) (by kernel_rfl) rfl (zdB V.kind)) ?_
 refine zad (zbj (e := 5) (m := 512) (by kernel_rfl) rfl rfl (0) rfl (by omega)) ?_
 refine zaG rfl (zbg hr2 (fun w901 hr2 ho901 => ?_))
 replace hr1 := hr1.only ho901 (Nat.ne_of_lt lt_g1_g2)
 replace hB := ho901.below hB ge_hB_g2
 replace hr2 : row w901 g2 ((bv Z).set 0 (.int .u8 ((u8 V.kind).toNat : Int))) 62 := hr2
 rw [zbM (by omega)] at hr2
 refine zae (zah (zaf ?_))
 refine za5 [g2] (by kernel_rfl) ?_
 intro w902 hb902 hS902
 replace hr1 := hr1.new hb902
 replace hr2 := hr2.new hb902
 replace hB := hB.acc hb902
 have hr1_d902 := hr1
 refine zat 0 (zav 2) ?_
 refine zbp 1 (fun w' hS' => zax (hr1_d902.kq hS')) ?_
 refine zat 2 (zaJ (e := 33) (sz := 1) (by kernel_rfl) rfl rfl) ?_
 refine zat 3 (zeG rfl rfl (by omega) (shrI V.slots.length 8 rfl (by omega))) ?_
 refine zat 4 (zbz (k := .u8) (by kernel_rfl) (by kernel_rfl) rfl (zdB (V.slots.length / 2 ^ 8))) ?_
 refine zat 5 (zav 2) ?_
 refine zbp 6 (fun w' hS' => zax (hr1_d902.kq hS')) ?_
 refine zat 7 (zaJ (e := 33) (sz := 1) (by kernel_rfl) rfl rfl) ?_
 refine zat 8 (zbz (k := .u8) (by kernel_rfl) (by kernel_rfl) rfl (zdB V.slots.length)) ?_
 refine zat 9 (zbj (e := 5) (m := 512) (by kernel_rfl) rfl rfl (2) rfl (by omega)) ?_
 refine zaH 10 (by kernel_rfl) ?_
 refine zbO rfl rfl (zbg hr2 (fun w904 hr2 ho904 => ?_))
 have hS903 := hS902.aq ho904
 refine ⟨hS903, ?_⟩
 replace hr1 := hr1.only ho904 (Nat.ne_of_lt lt_g1_g2)
 replace hB := ho904.below hB ge_hB_g2
 replace hr2 : row w904 g2 ((bv (Z.set 0 (u8 V.kind))).set 2 (.int .u8 ((u8 (V.slots.length / 2 ^ 8)).toNat : Int))) 62 := hr2
 rw [zbM (by rw [List.length_set]; omega)] at hr2
 refine zat 11 (zbj (e := 5) (m := 512) (by kernel_rfl) rfl rfl (3) rfl (by omega)) ?_
 refine zaH 12 (by kernel_rfl) ?_
 refine zbO rfl rfl (zbg hr2 (fun w906 hr2 ho906 => ?_))
 have hS905 := hS903.aq ho906
 refine ⟨hS905, ?_⟩
 replace hr1 := hr1.only ho906 (Nat.ne_of_lt lt_g1_g2)
 replace hB := ho906.below hB ge_hB_g2
 replace hr2 : row w906 g2 ((bv ((Z.set 0 (u8 V.kind)).set 2 (u8 (V.slots.length / 2 ^ 8)))).set 3 (.int .u8 ((u8 V.slots.length).toNat : Int))) 62 := hr2
 rw [zbM (by rw [List.length_set, List.length_set]; omega)] at hr2
 refine zaL (by kernel_rfl) ?_
 refine zah (zaf (zaf (zaa (zad (zab) (zae (zah (zaE ?_)))))))
 have hobt : ∃ L, ((Z.set 0 (u8 V.kind)).set 2 (u8 (V.slots.length / 2 ^ 8))).set 3 (u8 V.slots.length) = L := ⟨_, rfl⟩
 obtain ⟨L1, hL1⟩ := hobt
 have hL1l : L1.length = 512 := by rw [← hL1, List.length_set, List.length_set, List.length_set]; exact hZl
 rw [hL1] at hr2
 refine zbB (α := Nat) 0 (fun k => [(23, .int .i64 (k : Nat)), (1, .pointer (some ⟨g1, 0, none⟩)), (2, .pointer (some ⟨g2, 0, none⟩))])
   (fun k w' => k ≤ 4 ∧ row w' g1 [.int .i64 (V.kind : Int), .int .i64 (V.next : Int), .slice p V.slots.length c] 155 ∧ row w' g2 (bv (zod L1 V.next k)) 62 ∧ Below w.heap.size w w') (fun k => 4 - k)
   ⟨rfl, rfl, rfl, rfl⟩ ⟨Nat.zero_le _, hr1, hr2, hB⟩ ?_
 clear hr1 hr2 hB
 have hw1 : w.heap.size ≤ g1 := by omega
 have hw2 : w.heap.size ≤ g2 := by omega
 rintro i f wr ⟨hi, hr1, hr2, hB⟩
 have hNl := zkL L1 V.next i
 refine zaf (zaa ?_)
 refine zad (za2 rfl rfl) ?_
 refine zae (zah (zaf ?_))
 refine zbf rfl (fun hlt => ?_) (fun hlt => ?_)
 ·
  refine zau (zah (zaf (zaE (zaf (zaa (zad (zab) (zad (zac) (zae (zah (zaa (zad (zab) ?_)))))))))))
  refine zad (zaN rfl rfl (Coup.w64 (by omega))) ?_
  refine zad (zav 1) ?_
  refine zad (zax hr1) ?_
  refine zad (zab) ?_
  refine zad (zc1 rfl rfl (Coup.w64 (by omega))) ?_
  refine zad (zc0 rfl rfl (Coup.w64 (by omega))) ?_
  refine zad (zeG rfl rfl (by omega) (shrI V.next (24 - 8 * i) (by omega) (by omega))) ?_
  refine zad (zbz (k := .u8) (by kernel_rfl) (by kernel_rfl) rfl (zdB (V.next / 2 ^ (24 - 8 * i)))) ?_
  refine zad (zbj (e := 5) (m := 512) (by kernel_rfl) rfl rfl (8 + i) (by omega) (by omega)) ?_
  refine zaG rfl (zbg hr2 (fun w907 hr2 ho907 => ?_))
  replace hr1 := hr1.only ho907 (Nat.ne_of_lt lt_g1_g2)
  replace hB := ho907.below hB ge_hB_g2
  replace hr2 : row w907 g2 ((bv (zod L1 V.next i)).set (8 + i) (.int .u8 ((u8 (V.next / 2 ^ (24 - 8 * i))).toNat : Int))) 62 := zmE hr2
  rw [zbM (by omega)] at hr2
  refine zae (za6 (zah (zaa ?_)))
  refine zad (zaN rfl rfl (Coup.w64 (by omega))) ?_
  refine zad (zab) (zae ?_)
  refine zbw ⟨i + 1, by omega, ⟨rfl, rfl, rfl, rfl⟩, by omega, hr1, ?_, hB⟩
  exact hr2
 ·
  obtain rfl : i = 4 := by omega
  have hF : zod L1 V.next 4 = zcC V [0, 0] [] := by
    rw [← hL1, ← hZ]
    exact zlv V
  rw [hF] at hr2
  refine zbm (zbW (zcr (zbt (zah (zaf (zaa (zad (zac) (zae (zah (zaf (zaf ?_)))))))))))
  refine zaa (zad (zav 2) ?_)
  refine zad (zax hr1) ?_
  refine zad (zaJ (e := 33) (sz := 1) (by kernel_rfl) rfl rfl) ?_
  refine zad (zab) (zae (zah (zaE ?_)))
  refine zbB (α := Nat) 0 (fun k => [(40, .int .i64 (k : Nat)), (39, .int .i64 (V.slots.length : Nat)), (38, .slice p V.slots.length c), (4, .int .i64 ((512 - zby (V.slots.take k) : Nat) : Int)), (1, .pointer (some ⟨g1, 0, none⟩)), (2, .pointer (some ⟨g2, 0, none⟩))])
    (fun k w' => k ≤ V.slots.length ∧ row w' g2 (bv (zcC V [0, 0] (V.slots.take k))) 62 ∧ Below w.heap.size w w') (fun k => V.slots.length - k)
    ⟨rfl, rfl, rfl, vi (by simp [zby]), rfl, rfl, rfl⟩ ⟨Nat.zero_le _, hr2, hB⟩ ?_
  clear hr1 hr2 hB
  rintro i f wr ⟨hi, hr2, hB⟩
  have hlt1 := zde V.slots i
  unfold zcp at hz
  refine zaf (zaa ?_)
  refine zad (za2 rfl rfl) ?_
  refine zae (zah (zaf ?_))
  refine zbf rfl (fun hlt => ?_) (fun hlt => ?_)
  ·
   refine zau (zah (zaf (zaE (zaf ?_))))
   have hobt : ∃ s, V.slots[i]? = some s := ⟨_, List.getElem?_eq_getElem (by omega)⟩
   obtain ⟨s, hsi⟩ := hobt
   have hvv := hs.val hsi
   obtain ⟨q, cq, hv, hq, hqn, -⟩ := hvv
   have hobt := h.some (by omega)
   obtain ⟨g, off, rfl, hg⟩ := hobt
   have hsn := zef hsi
   have hlt2 := zde V.slots (i + 1)
   have hts : V.slots.take (i + 1) = V.slots.take i ++ [s] := by rw [List.take_add_one, hsi]; rfl
   have htl : (V.slots.take i).length = i := by rw [List.length_take]; omega
   refine zaa (zad (zab) ?_)
   refine zad (zaX (e := 33) (by kernel_rfl) rfl rfl (i) (by omega) (by omega)) ?_
   refine zad (zaI rfl (Ld.sl1 (h.below hB (Nat.le_refl _)) (by kernel_rfl) hv)) ?_
   refine zad (zac) (zad (zac) (zae (zah (zaf (zaf (zaa (zad (zab) ?_)))))))
   refine zad (zgm (e := 5) (by kernel_rfl) rfl rfl) ?_
   refine zae (zah ?_)
   refine zjB rfl (fun hq0 => ?_) (fun hq0 => ?_)
   ·
    refine zbm (zbW (zbt (zah (zaa ?_))))
    refine zad (zaN rfl rfl (Coup.w64 (by omega))) ?_
    refine zad (zab) (zae ?_)
    have hs0 : s = none := by rw [hqn]; cases q with | none => rfl | some a => simp at hq0
    subst hs0
    rw [show (bod none).length = 0 from rfl] at hsn
    have hpn := zlt V [0, 0] (V.slots.take i) (by rw [htl]; omega)
    rw [← hts] at hpn
    rw [← hpn] at hr2
    refine zbw ⟨i + 1, by omega, ⟨rfl, rfl, rfl, vi (by omega), rfl, rfl, rfl⟩, by omega, hr2, hB⟩
   ·
    obtain ⟨r, rfl⟩ : ∃ r, s = some r := by
      cases s with
      | none => rw [hqn.1 rfl] at hq0; simp at hq0
      | some r => exact ⟨r, rfl⟩
    have hobt := hs.yes i r hsi
    obtain ⟨b, ob, cb, hv1, hsb, hbl, -⟩ := hobt
    obtain ⟨rfl, -, rfl⟩ : q = some ⟨b, ob, none⟩ ∧ (bod (some r)).length = r.length ∧ cq = cb := by
      have := Option.some.inj (hv.symm.trans hv1)
      injection this with e1 e2 e3
      exact ⟨e1, e2, e3⟩
    rw [show (bod (some r)).length = r.length from rfl] at hsn ⊢
    have hobt : ∃ E, 512 - zby (V.slots.take i) - r.length = E := ⟨_, rfl⟩
    obtain ⟨E, hE⟩ := hobt
    have hmid := zmz V [0, 0] rfl (V.slots.take i) r (by rw [htl]; omega)
    have hmidl := mid_len V [0, 0] rfl (V.slots.take i) r (by rw [htl]; omega)
    have hset := zlu V [0, 0] rfl (V.slots.take i) r (by rw [htl]; omega) (u8 (E / 2 ^ 8)) (u8 E) (u8 (r.length / 2 ^ 8)) (u8 r.length) (by rw [← zmD E, ← zmD r.length, ← hE]; rfl)
    rw [hE] at hmid
    rw [htl, ← hts] at hset
    have hpl : (zcC V [0, 0] (V.slots.take i)).length = 512 := zfg rfl (by rw [htl]; omega)
    generalize midB V [0, 0] (V.slots.take i) r = M at hmid hmidl hset
    refine zau (zah (zaf (zaa (zad (zab) (zad (zab) ?_)))))
    refine zad (zaJ (e := 5) (sz := 1) (by kernel_rfl) rfl rfl) ?_
    refine zad (zc0 rfl rfl (Coup.w64 (by omega))) ?_
    refine zad (zac) (zae (zah (zaf (zaa (zad (zab) ?_)))))
    refine zad (zgn (e := 5) E 512 512 (512 - E) (by kernel_rfl) rfl ⟨_, _, rfl, by omega⟩ rfl rfl (by simp) (by omega) (by omega) (by omega) rfl) ?_
    have hobt : ∃ O, (if 512 = E then 0 else 0 + E) = O := ⟨_, rfl⟩
    obtain ⟨O, hO⟩ := hobt
    have hO2 : r.length = 0 ∨ O = E := by rw [← hO]; split <;> omega
    have hO3 : O + r.length ≤ 512 := by rw [← hO]; split <;> omega
    rw [hO]
    refine zad (zab) ?_
    refine zay rfl (zmq (e := 5) (by kernel_rfl) (by kernel_rfl) rfl rfl g2 (O) hr2 (bv r) (by rw [zal]; simp [Nat.min_def]; omega) (fun _ => ⟨rfl, _, rfl, fun j v hv => by rw [Addr.add_lit]; exact (hsb.below hB (Nat.le_refl _)).cell j hv⟩) (by rw [zal, zal, hpl]; exact hO3) (zb5 _) (fun w54 hr2 ho54 => ?_))
    replace hB := ho54.below hB ge_hB_g2
    rw [zmF _ _ _ _ hO2, zmB, hmid] at hr2
    refine zae (zah (zaf (zaa (zad (zab) ?_))))
    refine zad (zc1 rfl rfl (Coup.w64 (by omega))) ?_
    refine zad (zaN rfl rfl (Coup.w64 (by omega))) ?_
    refine zad (zac) (zae (zah (zaa (zad (zab) (zad (zab) ?_)))))
    refine zad (zaN rfl rfl (Coup.w64 (by omega))) ?_
    refine zad (zab) ?_
    refine zad (zaN rfl rfl (Coup.w64 (by omega))) ?_
    refine zad (zab) ?_
    refine zad (zaN rfl rfl (Coup.w64 (by omega))) ?_
    refine zad (zab) ?_
    refine zad (zeG rfl rfl (by omega) (shrJ E 8 (by omega) rfl (by omega))) ?_
    refine zad (zbz (k := .u8) (by kernel_rfl) (by kernel_rfl) rfl (zdB (E / 2 ^ 8))) ?_
    refine zad (zab) ?_
    refine zad (zbz (k := .u8) (by kernel_rfl) (by kernel_rfl) rfl (zoc E (by omega))) ?_
    refine zad (zab) ?_
    refine zad (zaJ (e := 5) (sz := 1) (by kernel_rfl) rfl rfl) ?_
    refine zad (zeG rfl rfl (by omega) (shrI r.length 8 rfl (by omega))) ?_
    refine zad (zbz (k := .u8) (by kernel_rfl) (by kernel_rfl) rfl (zdB (r.length / 2 ^ 8))) ?_
    refine zad (zab) ?_
    refine zad (zaJ (e := 5) (sz := 1) (by kernel_rfl) rfl rfl) ?_
    refine zad (zbz (k := .u8) (by kernel_rfl) (by kernel_rfl) rfl (zdB r.length)) ?_
    refine zad (zbj (e := 5) (m := 512) (by kernel_rfl) rfl rfl (12 + 4 * i) (by omega) (by omega)) ?_
    refine zaG rfl (zbg hr2 (fun w908 hr2 ho908 => ?_))
    replace hB := ho908.below hB ge_hB_g2
    replace hr2 : row w908 g2 ((bv M).set (12 + 4 * i) (.int .u8 ((u8 (E / 2 ^ 8)).toNat : Int))) 62 := zmE hr2
    rw [zbM (by omega)] at hr2
    refine zad (zbj (e := 5) (m := 512) (by kernel_rfl) rfl rfl (12 + 4 * i + 1) (by omega) (by omega)) ?_
    refine zaG rfl (zbg hr2 (fun w909 hr2 ho909 => ?_))
    replace hB := ho909.below hB ge_hB_g2
    replace hr2 : row w909 g2 ((bv (M.set (12 + 4 * i) (u8 (E / 2 ^ 8)))).set (12 + 4 * i + 1) (.int .u8 ((u8 E).toNat : Int))) 62 := zmE hr2
    rw [zbM (by rw [List.length_set]; omega)] at hr2
    refine zad (zbj (e := 5) (m := 512) (by kernel_rfl) rfl rfl (12 + 4 * i + 2) (by omega) (by omega)) ?_
    refine zaG rfl (zbg hr2 (fun w910 hr2 ho910 => ?_))
    replace hB := ho910.below hB ge_hB_g2
    replace hr2 : row w910 g2 ((bv ((M.set (12 + 4 * i) (u8 (E / 2 ^ 8))).set (12 + 4 * i + 1) (u8 E))).set (12 + 4 * i + 2) (.int .u8 ((u8 (r.length / 2 ^ 8)).toNat : Int))) 62 := zmE hr2
    rw [zbM (by rw [List.length_set, List.length_set]; omega)] at hr2
    refine zad (zbj (e := 5) (m := 512) (by kernel_rfl) rfl rfl (12 + 4 * i + 3) (by omega) (by omega)) ?_
    refine zaG rfl (zbg hr2 (fun w911 hr2 ho911 => ?_))
    replace hB := ho911.below hB ge_hB_g2
    replace hr2 : row w911 g2 ((bv (((M.set (12 + 4 * i) (u8 (E / 2 ^ 8))).set (12 + 4 * i + 1) (u8 E)).set (12 + 4 * i + 2) (u8 (r.length / 2 ^ 8)))).set (12 + 4 * i + 3) (.int .u8 ((u8 r.length).toNat : Int))) 62 := zmE hr2
    rw [zbM (by rw [List.length_set, List.length_set, List.length_set]; omega), hset] at hr2
    refine zae (za6 (zah (zaa ?_)))
    refine zad (zaN rfl rfl (Coup.w64 (by omega))) ?_
    refine zad (zab) (zae ?_)
    refine zbw ⟨i + 1, by omega, ⟨rfl, rfl, rfl, vi (by omega), rfl, rfl, rfl⟩, by omega, hr2, hB⟩
  ·
   obtain rfl : i = V.slots.length := by omega
   rw [List.take_of_length_le (Nat.le_refl _)] at hr2 ⊢
   have hpl : (zcC V [0, 0] V.slots).length = 512 := zfg rfl (by omega)
   have hend := zmA V V.slots (u8 ((512 - zby V.slots) / 2 ^ 8)) (u8 (512 - zby V.slots))
   have hend2 : zcC V [u8 ((512 - zby V.slots) / 2 ^ 8), u8 (512 - zby V.slots)] V.slots = zaD V := by
     rw [zaD, ← zmD (512 - zby V.slots)]; rfl
   rw [hend2] at hend
   have hbl : (zaD V).length = 512 := zfg rfl (by omega)
   generalize zaD V = Q at hend hbl ⊢
   generalize zcC V [0, 0] V.slots = M at hend hpl hr2
   refine zbm (zbW (zcr (zbt (zah (zaf (zaa (zad (zab) ?_)))))))
   refine zad (zeG rfl rfl (by omega) (shrI (512 - zby V.slots) 8 rfl (by omega))) ?_
   refine zad (zbz (k := .u8) (by kernel_rfl) (by kernel_rfl) rfl (zdB ((512 - zby V.slots) / 2 ^ 8))) ?_
   refine zad (zab) ?_
   refine zad (zbz (k := .u8) (by kernel_rfl) (by kernel_rfl) rfl (zdB (512 - zby V.slots))) ?_
   refine zad (zbj (e := 5) (m := 512) (by kernel_rfl) rfl rfl (4) rfl (by omega)) ?_
   refine zaG rfl (zbg hr2 (fun w912 hr2 ho912 => ?_))
   replace hB := ho912.below hB ge_hB_g2
   replace hr2 : row w912 g2 ((bv M).set 4 (.int .u8 ((u8 ((512 - zby V.slots) / 2 ^ 8)).toNat : Int))) 62 := hr2
   rw [zbM (by omega)] at hr2
   refine zad (zbj (e := 5) (m := 512) (by kernel_rfl) rfl rfl (5) rfl (by omega)) ?_
   refine zaG rfl (zbg hr2 (fun w913 hr2 ho913 => ?_))
   replace hB := ho913.below hB ge_hB_g2
   replace hr2 : row w913 g2 ((bv (M.set 4 (u8 ((512 - zby V.slots) / 2 ^ 8)))).set 5 (.int .u8 ((u8 (512 - zby V.slots)).toNat : Int))) 62 := hr2
   rw [zbM (by rw [List.length_set]; omega), hend] at hr2
   refine zae (zah (zaf (zaa ?_)))
   refine zad (zbc 512 hr2) ?_
   refine zaG rfl (zaO 512 (_) hr2 (fun w914 hr2 ho914 => ?_))
   replace hB := ho914.below hB ge_hB_g2
   refine zae (zah (zaz ?_))
   refine zam [_] ⟨⟨_, rfl, Ld.zbX (k := 512) hr2 (by kernel_rfl) (by kernel_rfl) (by first | (simp; done) | (simp [zal, *]; done) | assumption)⟩, trivial⟩ ?_
   exact ⟨rfl, hB⟩
def At2 (L : List UInt8) (i m : Nat) : Prop := m < 65536 ∧ i + 2 ≤ L.length ∧ (L.drop i).take 2 = be2 m
theorem take2 {L : List UInt8} {i : Nat} {a b : UInt8} (ha : L[i]? = some a) (hb : L[i + 1]? = some b) : (L.drop i).take 2 = [a, b] := by
 apply List.ext_getElem?
 intro j
 rcases j with _ | _ | j
 ·simp [List.getElem?_take, ha]
 ·simp [List.getElem?_take, hb]
 ·simp [List.getElem?_take]; omega
theorem At2.of {L : List UInt8} {i m : Nat} {a b : UInt8} (hm : m < 65536) (ha : L[i]? = some a) (hb : L[i + 1]? = some b) (h : [a, b] = be2 m) : At2 L i m :=
 ⟨hm, by have := (List.getElem?_eq_some_iff.1 hb).1; omega, by rw [take2 ha hb, h]⟩
theorem At2.fst {L : List UInt8} {i m : Nat} (h : At2 L i m) : L[i]? = some (u8 (m / 256)) := by
 have := congrArg (·[0]?) h.2.2
 simpa [List.getElem?_take, be2] using this
theorem At2.num {m : Nat} (h : m < 65536) : 256 * ((u8 (m / 256)).toNat : Int) + ((u8 (m % 256)).toNat : Int) = (m : Int) := by
 rw [zkK (by omega), zkK (by omega)]; omega
theorem getB (V : View) (hz : zcp V ≤ 512) (i : Nat) (h : i < 12) : (zaD V)[i]? = (zcd V (be2 (512 - zby V.slots)))[i]? := zmy rfl h
theorem at_kind (V : View) (hz : zcp V ≤ 512) : (zaD V)[0]? = some (u8 V.kind) := getB V hz 0 (by omega)
theorem zmG (V : View) (hz : zcp V ≤ 512) : At2 (zaD V) 2 V.slots.length := by
 unfold zcp at hz
 exact At2.of (by omega) (getB V hz 2 (by omega)) (getB V hz 3 (by omega)) rfl
theorem at_hi (V : View) (hz : zcp V ≤ 512) (hn : V.next < 2147483648) : At2 (zaD V) 8 (V.next / 65536) := by
 refine At2.of (by omega) (getB V hz 8 (by omega)) (getB V hz 9 (by omega)) ?_
 rw [be2, Nat.div_div_eq_div_mul]
theorem at_lo (V : View) (hz : zcp V ≤ 512) : At2 (zaD V) 10 (V.next % 65536) := by
 refine At2.of (by omega) (getB V hz 10 (by omega)) (getB V hz 11 (by omega)) ?_
 rw [be2]
 congr 3 <;> omega
def zjY (S : List (Option (List UInt8))) (i : Nat) : Option (List UInt8) → Nat
 | none => 0
 | some r => 512 - zby (S.take i) - r.length
theorem zeP {S : List (Option (List UInt8))} {i : Nat} {s : Option (List UInt8)} (hs : S[i]? = some s) : S = S.take i ++ s :: S.drop (i + 1) := by
 obtain ⟨hl, he⟩ := List.getElem?_eq_some_iff.1 hs
 conv => lhs; rw [← List.take_append_drop i S, List.drop_eq_getElem_cons hl, he]
theorem zkM (V : View) {i : Nat} {s : Option (List UInt8)} (hs : V.slots[i]? = some s) (k : Nat) (hk : k < 4) : (zaD V)[12 + 4 * i + k]? = (ent (512 - zby (V.slots.take i)) s)[k]? := by
 have hl := (List.getElem?_eq_some_iff.1 hs).1
 have := get_ent V (be2 (512 - zby V.slots)) rfl (V.slots.take i) (V.slots.drop (i + 1)) s k hk
 rw [← zeP hs, List.length_take, Nat.min_eq_left (by omega)] at this
 exact this
theorem at_from (V : View) {i : Nat} {s : Option (List UInt8)} (hs : V.slots[i]? = some s) : At2 (zaD V) (12 + 4 * i) (zjY V.slots i s) := by
 have h0 := zkM V hs 0 (by omega)
 have h1 := zkM V hs 1 (by omega)
 cases s with
 | none => exact At2.of (a := 0) (b := 0) (by simp [zjY]) h0 h1 (show [0, 0] = be2 0 by decide)
 | some r => exact At2.of (a := u8 ((512 - zby (V.slots.take i) - r.length) / 256)) (b := u8 ((512 - zby (V.slots.take i) - r.length) % 256)) (by simp only [zjY]; omega) h0 h1 rfl
theorem at_long (V : View) (hz : zcp V ≤ 512) {i : Nat} {s : Option (List UInt8)} (hs : V.slots[i]? = some s) : At2 (zaD V) (12 + 4 * i + 2) (bod s).length := by
 have h0 := zkM V hs 2 (by omega)
 have h1 := zkM V hs 3 (by omega)
 have h2 := zef hs
 have h3 := zde V.slots (i + 1)
 unfold zcp at hz
 cases s with
 | none => exact At2.of (by simp [bod]) h0 h1 rfl
 | some r => exact At2.of (by omega) h0 h1 rfl
theorem at_rec (V : View) (hz : zcp V ≤ 512) {i : Nat} {r : List UInt8} (hs : V.slots[i]? = some (some r)) : ((zaD V).drop (zjY V.slots i (some r))).take r.length = r := by
 have := get_rec V (be2 (512 - zby V.slots)) rfl (V.slots.take i) (V.slots.drop (i + 1)) r (by rw [← zeP hs]; exact hz)
 rw [← zeP hs] at this
 exact this
theorem zbv (V : View) (hz : zcp V ≤ 512) : (zaD V).length = 512 := zfg rfl hz
theorem zfT (L : List UInt8) (g t o i m n c : Nat) (w : World) (h : row w g (bv L) t) (h2 : At2 L i m) (ho : o = i) (hn : n = 2) : Calls Tryz.prog 145 [.slice (some ⟨g, o, none⟩) n c].toArray w (Ret fun v w' => v = .int .i64 (m : Int) ∧ Below w.heap.size w w') := by
 subst hn ho
 have hs := h.slB o 2 h2.2.1 (by unfold maxLen; omega)
 rw [h2.2.2, be2] at hs
 have := two35 (some ⟨g, o, none⟩) 2 c _ _ w rfl hs
 rw [At2.num h2.1] at this
 exact this
namespace za0
variable {w w' : World} {lo : Nat} {o : List Nat} {vs : List Value} {S : List (Option (List UInt8))}
theorem grow {v : Value} {o' : List Nat} (h : za0 w lo o vs S) (hg : w.grownBy w' v.ownBlock) (hv : ∀ g, v.ownBlock = some g → g ∈ o ∨ g < lo) (hf : ∀ g, g ∈ o' → g ∈ o ∨ w.heap.size ≤ g ∨ g < lo) : za0 w' lo o' vs S :=
 have h1 : za0 w lo (o' ++ o) vs S := h.avoid fun g hm => (List.mem_append.1 hm).elim (fun e => hf g e) Or.inl
 (h1.kp (Kp.za8 hg) fun g hm => (hv g (Option.mem_toList.1 hm)).elim (fun e => Or.inr (Or.inl (List.mem_append_right _ e))) fun e => Or.inr (Or.inr e)).avoid fun g hm => Or.inl (List.mem_append_left _ hm)
theorem growV {v v' : Value} (h : za0 w lo v.ownBlock.toList vs S) (hg : w.grownBy w' v.ownBlock) (hf : ∀ g, v'.ownBlock = some g → v.ownBlock = some g ∨ w.heap.size ≤ g) : za0 w' lo v'.ownBlock.toList vs S :=
 h.grow hg (fun g e => Or.inl (Option.mem_toList.2 e)) fun g hm => (hf g (Option.mem_toList.1 hm)).elim (fun e => Or.inl (Option.mem_toList.2 e)) fun e => Or.inr (Or.inl e)
theorem zoe {v v' : Value} {L : List Nat} (h : za0 w lo (v.ownBlock.toList ++ L) vs S) (hg : w.grownBy w' v.ownBlock) (hf : ∀ g, v'.ownBlock = some g → v.ownBlock = some g ∨ w.heap.size ≤ g) : za0 w' lo (v'.ownBlock.toList ++ L) vs S :=
 h.grow hg (fun g e => Or.inl (List.mem_append_left _ (Option.mem_toList.2 e))) fun g hm => (List.mem_append.1 hm).elim
  (fun e => (hf g (Option.mem_toList.1 e)).elim (fun e => Or.inl (List.mem_append_left _ (Option.mem_toList.2 e))) fun e => Or.inr (Or.inl e)) fun e => Or.inl (List.mem_append_right _ e)
theorem mono {lo' : Nat} (h : za0 w lo o vs S) (hl : lo' ≤ lo) : za0 w lo' o vs S := ⟨h.len, h.no, fun i r hr => by
 obtain ⟨b, off, c, h1, h2, h3, h4, h5⟩ := h.yes i r hr
 exact ⟨b, off, c, h1, h2, h3, h4, by omega⟩⟩
theorem snocN (h : za0 w lo o vs S) : za0 w lo o (vs ++ [.slice none 0 0]) (S ++ [none]) := by
 have hl := h.len
 refine ⟨by simp [hl], fun i hi => ?_, fun i r hi => ?_⟩
 ·rcases Nat.lt_or_ge i S.length with h1 | h1
  ·rw [List.getElem?_append_left h1] at hi
   rw [List.getElem?_append_left (by omega)]; exact h.no i hi
  ·rw [List.getElem?_append_right h1] at hi
   rw [List.getElem?_append_right (by omega), hl]
   rcases Nat.eq_zero_or_pos (i - S.length) with h2 | h2
   ·rw [h2]; rfl
   ·rw [List.getElem?_eq_none (by simp; omega)] at hi; cases hi
 ·rcases Nat.lt_or_ge i S.length with h1 | h1
  ·rw [List.getElem?_append_left h1] at hi
   rw [List.getElem?_append_left (by omega)]; exact h.yes i r hi
  ·rw [List.getElem?_append_right h1] at hi
   rcases Nat.eq_zero_or_pos (i - S.length) with h2 | h2
   ·rw [h2] at hi; cases hi
   ·rw [List.getElem?_eq_none (by simp; omega)] at hi; cases hi
theorem snocS {b off c : Nat} {r : List UInt8} (h : za0 w lo o vs S) (h2 : zaT w (some ⟨b, off, none⟩) r.length 1 (bv r)) (h3 : b < w.heap.size) (h4 : b ∉ o) (h5 : lo ≤ b) (h9 : r.length ≤ c) : za0 w lo o (vs ++ [.slice (some ⟨b, off, none⟩) r.length c]) (S ++ [some r]) := by
 have hl := h.len
 refine ⟨by simp [hl], fun i hi => ?_, fun i r' hi => ?_⟩
 ·rcases Nat.lt_or_ge i S.length with h1 | h1
  ·rw [List.getElem?_append_left h1] at hi
   rw [List.getElem?_append_left (by omega)]; exact h.no i hi
  ·rw [List.getElem?_append_right h1] at hi
   rcases Nat.eq_zero_or_pos (i - S.length) with h2 | h2
   ·rw [h2] at hi; cases hi
   ·rw [List.getElem?_eq_none (by simp; omega)] at hi; cases hi
 ·rcases Nat.lt_or_ge i S.length with h1 | h1
  ·rw [List.getElem?_append_left h1] at hi
   rw [List.getElem?_append_left (by omega)]; exact h.yes i r' hi
  ·rw [List.getElem?_append_right h1] at hi
   rcases Nat.eq_zero_or_pos (i - S.length) with h6 | h6
   ·rw [h6] at hi
    cases hi
    rw [List.getElem?_append_right (by omega), hl, h6]
    exact ⟨b, off, c, rfl, h2, h3, h4, h5, h9⟩
   ·rw [List.getElem?_eq_none (by simp; omega)] at hi; cases hi
end za0
theorem zaB.onlyN {w w' : World} {base e sz m g : Nat} {v : Value} {xs : List Value} (h : zaB w base e sz v m xs) (ho : Only g w w') (hg : v.ownBlock ≠ some g) : zaB w' base e sz v m xs :=
 Coup.zaB.kpd h (Kp.za7 ho) fun g' hm e => by
  have : g' = g := by simpa using hm
  subst this
  exact hg e
def OwV (w : World) (lo : Nat) (p : Option Addr) (n c : Nat) (vs : List Value) (S : List (Option (List UInt8))) : Prop :=
 zaB w lo 33 1 (.slice p n c) n vs ∧ za0 w lo (Value.ownBlock (.slice p n c)).toList vs S
def zmH (V : View) (p : Option Addr) (n c : Nat) : Value := .agg #[.int .i64 (V.kind : Int), .int .i64 (V.next : Int), .slice p n c]
set_option maxRecDepth 20000 in
set_option maxHeartbeats 2000000 in
theorem read22 (V : View) (w : World) (hV : Good V) :
   Calls Tryz.prog 97 [.agg (bv (zaD V)).toArray].toArray w (Ret fun v w' => ∃ p c vs, v = .tuple #[zmH V p V.slots.length c, .bool true] ∧ OwV w' w.heap.size p V.slots.length c vs V.slots ∧ Below w.heap.size w w') := by
 have hB := Below.refl w.heap.size w
 have hml : maxLen = 9223372036854775807 := by decide
 have hz := hV.size
 have hbl := zbv V hz
 have hk0 := at_kind V hz
 have hm2 := zmG V hz
 have hh8 := at_hi V hz hV.next
 have hl10 := at_lo V hz
 have hkd := hV.kind
 have hnx := hV.next
 have hz2 := hz
 unfold zcp at hz2
 obtain ⟨Q, hQ⟩ : ∃ Q, zaD V = Q := ⟨_, rfl⟩
 rw [hQ] at hbl hk0 hm2 hh8 hl10 ⊢
 obtain ⟨S, hS⟩ : ∃ S, V.slots = S := ⟨_, rfl⟩
 obtain ⟨n, hn⟩ : ∃ n, V.slots.length = n := ⟨_, rfl⟩
 have hnS : n = S.length := by rw [← hn, hS]
 rw [hn] at hm2 hz2 ⊢
 refine zas (fn := Tryz.f97) (rs := [.cell 2 155, .tmp 3]) (n := 116) Tryz.func97 rfl rfl Tryz.ntmps97 (by kernel_rfl) rfl ?_
 refine zaf (zaa ?_)
 refine zay rfl (zaU ((bv Q)) rfl (fun g1 w1 hg1 hr1 hb1 => ?_))
 have ge_hB_g1 := Nat.le_trans hB.size hg1
 replace hB := hB.acc hb1
 refine zay rfl (zar ([Value.int .i64 0, Value.int .i64 0, Value.slice none 0 0]) (by kernel_rfl) (fun g2 w2 hg2 hr2 hb2 => ?_))
 have ge_hB_g2 := Nat.le_trans hB.size hg2
 have lt_g1_g2 : g1 < g2 := Nat.lt_of_lt_of_le hr1.lt hg2
 replace hr1 := hr1.new hb2
 replace hB := hB.acc hb2
 refine zad (zac) (zae (zah (zaf (zaa ?_))))
 refine zad (zbj (e := 5) (m := 512) (by kernel_rfl) rfl rfl (0) rfl (by omega)) ?_
 refine zad (zaI rfl (Ld.zdY hr1 (by kernel_rfl) (show (bv Q)[0]? = some (.int .u8 ((u8 V.kind).toNat : Int)) by rw [bv, List.getElem?_map, hk0]; rfl))) ?_
 refine zad (zbz (k := .i64) (by kernel_rfl) (by kernel_rfl) rfl (show IntKind.i64.wrap ((u8 V.kind).toNat : Int) = (V.kind : Int) by rw [zkK (by omega)]; exact w64 (by omega))) ?_
 refine zad (zav 0) ?_
 refine zaG rfl (zbg hr2 (fun w901 hr2 ho901 => ?_))
 replace hr1 := hr1.only ho901 (Nat.ne_of_lt lt_g1_g2)
 replace hB := ho901.below hB ge_hB_g2
 refine zae (zah (zaf ?_))
 refine za5 [g2] (by kernel_rfl) ?_
 intro w902 hb902 hS902
 replace hr1 := hr1.new hb902
 replace hr2 := hr2.new hb902
 replace hB := hB.acc hb902
 refine zat 0 (zbe (e := 5) (n := 512) (8) (10) (512) (2) (by kernel_rfl) rfl ⟨_, _, rfl, rfl⟩ ⟨_, _, rfl, rfl⟩ rfl (by simp) (by omega) (by omega) (by omega) (by omega) (by omega)) ?_
 refine zat 3 (zbe (e := 5) (n := 512) (10) (12) (512) (2) (by kernel_rfl) rfl ⟨_, _, rfl, rfl⟩ ⟨_, _, rfl, rfl⟩ rfl (by simp) (by omega) (by omega) (by omega) (by omega) (by omega)) ?_
 refine zaH 1 (by kernel_rfl) ?_
 refine zbb rfl rfl (zaj (by kernel_rfl) rfl) (zfT Q g1 _ _ 8 (V.next / 65536) _ _ w902 hr1 hh8 rfl rfl) ?_
 rintro _ w15 ⟨rfl, hb15⟩
 have hS903 := hS902.add0 hb15
 refine ⟨hS903, ?_⟩
 replace hr1 := hr1.new hb15
 replace hr2 := hr2.new hb15
 replace hB := hB.acc hb15
 refine zat 2 (ziA rfl rfl (by omega) (show IntKind.i64.wrap (((V.next / 65536 : Nat) : Int) * 2 ^ 16) = (65536 * (V.next / 65536) : Nat) by rw [w64 (by omega)]; omega)) ?_
 refine zaH 4 (by kernel_rfl) ?_
 refine zbb rfl rfl (zaj (by kernel_rfl) rfl) (zfT Q g1 _ _ 10 (V.next % 65536) _ _ w15 hr1 hl10 rfl rfl) ?_
 rintro _ w18 ⟨rfl, hb18⟩
 have hS904 := hS903.add0 hb18
 refine ⟨hS904, ?_⟩
 replace hr1 := hr1.new hb18
 replace hr2 := hr2.new hb18
 replace hB := hB.acc hb18
 refine zat 5 (zml rfl rfl (show _ = (V.next : Int) from (orI 16 (V.next / 65536 : Nat) (by omega) (by omega) (by omega) (by omega)).trans (by omega))) ?_
 refine zat 6 (zav 1) ?_
 refine zaH 7 (by kernel_rfl) ?_
 refine zbO rfl rfl (zbg hr2 (fun w906 hr2 ho906 => ?_))
 have hS905 := hS904.aq ho906
 refine ⟨hS905, ?_⟩
 replace hr1 := hr1.only ho906 (Nat.ne_of_lt lt_g1_g2)
 replace hB := ho906.below hB ge_hB_g2
 refine zaL (by kernel_rfl) ?_
 refine zah (zaf (zaa ?_))
 refine zad (zbe (e := 5) (n := 512) (2) (4) (512) (2) (by kernel_rfl) rfl ⟨_, _, rfl, rfl⟩ ⟨_, _, rfl, rfl⟩ rfl (by simp) (by omega) (by omega) (by omega) (by omega) (by omega)) ?_
 refine zao rfl (zaj (by kernel_rfl) rfl) (zfT Q g1 _ _ 2 n _ _ w906 hr1 hm2 rfl rfl) ?_
 rintro _ w22 ⟨rfl, hb22⟩
 replace hr1 := hr1.new hb22
 replace hr2 := hr2.new hb22
 replace hB := hB.acc hb22
 refine zad (zac) (zae (zah (zaf (zaf (zaa (zad (zav 0) ?_))))))
 refine zad (zax hr2) ?_
 refine zad (zbu rfl rfl) ?_
 refine zad (zab) ?_
 refine zdc 26 rfl ((by omega)) ?_
 refine zan rfl (zad (zav 1) (zan rfl ?_))
 refine zad (zax hr2) ?_
 refine zan rfl ?_
 refine zad (zc2 rfl rfl) ?_
 refine zad (zaw rfl) (zad (zab) ?_)
 refine zdc 31 rfl ((by omega)) ?_
 refine zan rfl (zad (zab) (zan rfl ?_))
 refine zad (zc1 rfl rfl (Coup.w64 (by omega))) ?_
 refine zan rfl ?_
 refine zad (zaN rfl rfl (Coup.w64 (by omega))) ?_
 refine zan rfl ?_
 refine zad (zbu rfl rfl) ?_
 refine zad (zaw rfl) (zae (zah ?_))
 refine zcL rfl ((by omega)) ?_
 refine zau (zah (zaf (zaf (zaa (zad (zab) (zad (zab) (zae (zah (zaE ?_)))))))))
 have hB0 := Below.refl w22.heap.size w22
 have hobt : ∃ B, w22.heap.size = B := ⟨_, rfl⟩
 obtain ⟨B, hBd⟩ := hobt
 have hwB : w.heap.size ≤ B := by rw [← hBd]; exact hB.size
 have g1B : g1 < B := by rw [← hBd]; exact hr1.lt
 have g2B : g2 < B := by rw [← hBd]; exact hr2.lt
 refine zbB (α := Nat × Value × List Value) (0, .slice none 0 0, []) (fun k => [(39, .int .i64 (k.1 : Nat)), (38, .int .i64 (n : Nat)), (4, .int .i64 (n : Nat)), (1, .pointer (some ⟨g1, 0, none⟩)), (2, .pointer (some ⟨g2, 0, none⟩))])
   (fun k w' => k.1 ≤ n ∧ row w' g1 (bv Q) 62 ∧ row w' g2 [.int .i64 (V.kind : Int), .int .i64 (V.next : Int), k.2.1] 155 ∧ zaB w' B 33 1 k.2.1 k.1 k.2.2 ∧ za0 w' B k.2.1.ownBlock.toList k.2.2 (S.take k.1) ∧ B ≤ w'.heap.size ∧ Below w.heap.size w w') (fun k => n - k.1)
   ⟨rfl, rfl, rfl, rfl, rfl, rfl⟩ ⟨Nat.zero_le _, hr1, hr2, zbI _ _ _ _, za0.nil _ _ _, by omega, hB⟩ ?_
 clear hr1 hr2 hB hB0
 rintro ⟨i, v, vs⟩ f wr ⟨hi, hr1, hr2, hv, hsl, hBs, hB⟩
 simp only at hi hr2 hv hsl
 have hvl0 := hv.lt
 have hBsz := hB.size
 have hBr := Below.refl wr.heap.size wr
 refine zaf (zaa ?_)
 refine zad (za2 rfl rfl) ?_
 refine zae (zah (zaf ?_))
 refine zbf rfl (fun hlt => ?_) (fun hlt => ?_)
 ·
  refine zau (zah (zaf (zaE (zaf (zaa (zad (zab) (zad (zac) (zae (zah (zaf ?_))))))))))
  have hobt : ∃ s, S[i]? = some s := ⟨_, List.getElem?_eq_getElem (by omega)⟩
  obtain ⟨s, hsi⟩ := hobt
  have hsV : V.slots[i]? = some s := by rw [hS]; exact hsi
  have hfr := at_from V hsV
  have hlg := at_long V hz hsV
  rw [hQ] at hfr hlg
  rw [hS] at hfr
  have hts : S.take (i + 1) = S.take i ++ [s] := by rw [List.take_add_one, hsi]; rfl
  refine zaa (zad (zab) ?_)
  refine zad (zc1 rfl rfl (Coup.w64 (by omega))) ?_
  refine zad (zaN rfl rfl (Coup.w64 (by omega))) ?_
  refine zad (zac) (zae (zah (zaf ?_)))
  refine za5 [] (by kernel_rfl) ?_
  intro w907 hb907 hS907
  replace hr1 := hr1.new hb907
  replace hr2 := hr2.new hb907
  replace hv := hv.new hb907
  replace hsl := hsl.new hb907
  replace hB := hB.acc hb907
  replace hBr := hBr.acc hb907
  refine zat 0 (zab) ?_
  refine zat 1 (zab) ?_
  refine zat 2 (zaN rfl rfl (Coup.w64 (by omega))) ?_
  refine zat 3 (zab) ?_
  refine zat 4 (zaN rfl rfl (Coup.w64 (by omega))) ?_
  refine zat 5 (zbe (e := 5) (n := 512) (12 + 4 * i) (12 + 4 * i + 2) (12 + 4 * i + 2) (2) (by kernel_rfl) rfl ⟨_, _, rfl, by omega⟩ ⟨_, _, rfl, by omega⟩ ⟨_, _, rfl, by omega⟩ (by simp) (by omega) (by omega) (by omega) (by omega) (by omega)) ?_
  refine zat 7 (zab) ?_
  refine zat 8 (zaN rfl rfl (Coup.w64 (by omega))) ?_
  refine zat 9 (zab) ?_
  refine zat 10 (zaN rfl rfl (Coup.w64 (by omega))) ?_
  refine zat 11 (zab) ?_
  refine zat 12 (zaN rfl rfl (Coup.w64 (by omega))) ?_
  refine zat 13 (zbe (e := 5) (n := 512) (12 + 4 * i + 2) (12 + 4 * i + 4) (12 + 4 * i + 4) (2) (by kernel_rfl) rfl ⟨_, _, rfl, by omega⟩ ⟨_, _, rfl, by omega⟩ ⟨_, _, rfl, by omega⟩ (by simp) (by omega) (by omega) (by omega) (by omega) (by omega)) ?_
  refine zaH 6 (by kernel_rfl) ?_
  refine zbb rfl rfl (zaj (by kernel_rfl) rfl) (zfT Q g1 _ _ (12 + 4 * i) (zjY S i s) _ _ w907 hr1 hfr (Nat.zero_add _) rfl) ?_
  rintro _ w51 ⟨rfl, hb51⟩
  have hS908 := hS907.add0 hb51
  refine ⟨hS908, ?_⟩
  replace hr1 := hr1.new hb51
  replace hr2 := hr2.new hb51
  replace hv := hv.new hb51
  replace hsl := hsl.new hb51
  replace hB := hB.acc hb51
  replace hBr := hBr.acc hb51
  refine zaH 14 (by kernel_rfl) ?_
  refine zbb rfl rfl (zaj (by kernel_rfl) rfl) (zfT Q g1 _ _ (12 + 4 * i + 2) (bod s).length _ _ w51 hr1 hlg (Nat.zero_add _) rfl) ?_
  rintro _ w59 ⟨rfl, hb59⟩
  have hS909 := hS908.add0 hb59
  refine ⟨hS909, ?_⟩
  replace hr1 := hr1.new hb59
  replace hr2 := hr2.new hb59
  replace hv := hv.new hb59
  replace hsl := hsl.new hb59
  replace hB := hB.acc hb59
  replace hBr := hBr.acc hb59
  refine zat 15 (zac) ?_
  refine zat 16 (zac) ?_
  refine zaL (by kernel_rfl) ?_
  refine zah (zaf (zaa (zad (zac) (zae (zah (zaf (zaf (zaa (zad (zab) ?_)))))))))
  refine zad (zaM rfl rfl) ?_
  refine zad (zab) ?_
  refine zb8 62 rfl (fun hf0 => ?_) (fun hf0 => ?_)
  ·
   refine zaK rfl rfl (zaK rfl rfl (zad (zaA rfl) (zae (zah ?_))))
   refine W_t rfl ?_
   refine zaf (zaf ?_)
   obtain ⟨r, rfl⟩ : ∃ r, s = some r := by
     cases s with
     | none => exact absurd rfl hf0
     | some r => exact ⟨r, rfl⟩
   have hrc := hV.cell r (List.mem_of_getElem? hsV)
   have hsn := zef hsi
   have hlt2 := zde S (i + 1)
   rw [show (bod (some r)).length = r.length from rfl] at hsn hlg ⊢
   have hrec := at_rec V hz hsV
   rw [hQ, hS] at hrec
   have hobt : ∃ E, zjY S i (some r) = E := ⟨_, rfl⟩
   obtain ⟨E, hE⟩ := hobt
   have hE2 : E = 512 - zby (S.take i) - r.length := hE.symm
   rw [hE] at hrec hfr hf0 ⊢
   refine zaa (zad (zab) ?_)
   refine zad (zbu rfl rfl) ?_
   refine zad (zab) ?_
   refine zdc 68 rfl ((by omega)) ?_
   refine zan rfl (zad (zab) (zan rfl (zad (zab) (zan rfl ?_))))
   refine zad (zaN rfl rfl (Coup.w64 (by omega))) ?_
   refine zan rfl ?_
   refine zad (zbu rfl rfl) ?_
   refine zad (zaw rfl) (zae (zah ?_))
   refine zcL rfl ((by omega)) ?_
   refine zau (zah (zaa ?_))
   refine zay rfl (zkJ (e := 5) (sz := 1) (by kernel_rfl) (by kernel_rfl) (fun g75 w75 hg75 hr75 hb75 => ?_))
   have ge_hB_g75 := Nat.le_trans hB.size hg75
   have ge_hBr_g75 := Nat.le_trans hBr.size hg75
   have lt_g1_g75 : g1 < g75 := Nat.lt_of_lt_of_le hr1.lt hg75
   have lt_g2_g75 : g2 < g75 := Nat.lt_of_lt_of_le hr2.lt hg75
   replace hr1 := hr1.new hb75
   replace hr2 := hr2.new hb75
   replace hv := hv.new hb75
   replace hsl := hsl.new hb75
   replace hB := hB.acc hb75
   replace hBr := hBr.acc hb75
   refine zad (zab) (zad (zab) (zad (zab) ?_))
   refine zad (zaN rfl rfl (Coup.w64 (by omega))) ?_
   refine zad (zab) (zad (zab) ?_)
   refine zad (zaN rfl rfl (Coup.w64 (by omega))) ?_
   refine zad (zgn (n := 512) (e := 5) E (E + r.length) (E + r.length) r.length (by kernel_rfl) rfl ⟨_, _, rfl, rfl⟩ ⟨_, _, rfl, by omega⟩ ⟨_, _, rfl, by omega⟩ (by simp) (by omega) (by omega) (by omega) (by omega)) ?_
   have hsrc := hr1.slZ E r.length (by omega) (by omega)
   rw [hrec] at hsrc
   have hszr := hBr.size
   refine zay rfl (zho (e := 5) (sz := 1) (bytes := 1) (z := .int .u8 0) (by kernel_rfl) rfl (by kernel_rfl) rfl (by decide) rfl hr75.lt rfl hsrc (by omega) (by omega) (fun g84 o84 c84 w84 hx84 hg84 hlt84 hcc84 hb84 => ?_))
   replace hr1 := hr1.new hb84
   replace hr2 := hr2.new hb84
   replace hv := hv.new hb84
   replace hsl := hsl.new hb84
   replace hB := hB.acc hb84
   replace hBr := hBr.acc hb84
   have hg84b : wr.heap.size ≤ g84 := by rcases hg84 with h | h <;> omega
   refine zad (zac) (zae (zah (zaa (zad (zav 2) ?_))))
   refine zad (zax hr2) ?_
   refine zad (zab) ?_
   refine zay rfl (zdF (e := 33) (.slice (some ⟨g84, o84, none⟩) r.length c84) ([.slice (some ⟨g84, o84, none⟩) r.length c84]) ([Value.slice none 0 0]) 1 (by kernel_rfl) (by kernel_rfl) rfl rfl rfl ⟨by decide, by decide⟩ (fun g88 w88 hg88 hr88 hb88 => ?_))
   have ge_hB_g88 := Nat.le_trans hB.size hg88
   have ge_hBr_g88 := Nat.le_trans hBr.size hg88
   have lt_g1_g88 : g1 < g88 := Nat.lt_of_lt_of_le hr1.lt hg88
   have lt_g2_g88 : g2 < g88 := Nat.lt_of_lt_of_le hr2.lt hg88
   replace hr1 := hr1.new hb88
   replace hr2 := hr2.new hb88
   replace hv := hv.new hb88
   replace hsl := hsl.new hb88
   replace hx84 := hx84.new hb88
   replace hB := hB.acc hb88
   have hs88 := hr88.slA (m := 1) (sz := 1) rfl (by omega)
   have hlt88 := Nat.lt_of_lt_of_le hlt84 hb88.size
   have sz_hB_89 := hB.size
   refine zay rfl (zbq (e := 33) (sz := 1) (bytes := 24) (z := Value.slice none 0 0) (by kernel_rfl) rfl (by kernel_rfl) rfl (by decide) rfl hv rfl hs88 (by simp [Value.oneCell']) (by unfold maxLen; omega) (by omega) (fun hm0 => by omega) (fun v89 w89 hv89 hgr89 hfr89 => ?_))
   replace hr1 := hr1.own hv hgr89 (by omega)
   replace hr2 := hr2.own hv hgr89 (by omega)
   replace hB := hB.own hv hgr89 (by omega)
   have hform := hv89.form
   obtain ⟨p89, c89, rfl⟩ := hform
   have hx84 := hx84.kpd (Kp.za8 hgr89) (fun b' o' e hm => by cases e; simp only [Option.mem_toList] at hm; have := (hvl0 g84 hm).2; omega)
   have hsl := (hsl.growV hgr89 hfr89).snocS (c := c84) hx84 (Nat.lt_of_lt_of_le hlt88 hgr89.size) (fun e => (hfr89 g84 (Option.mem_toList.1 e)).elim (fun e' => by have := (hvl0 g84 e').2; omega) (fun e' => by omega)) (by omega) hcc84
   rw [← hts] at hsl
   refine zad (zav 2) ?_
   refine zaG rfl (zbg hr2 (fun w910 hr2 ho910 => ?_))
   replace hr1 := hr1.only ho910 (Nat.ne_of_lt lt_g1_g2)
   replace hv89 := hv89.only ho910 (by omega)
   replace hsl := hsl.only ho910 (by omega)
   replace hB := ho910.below hB ge_hB_g2
   refine zae (za6 (zah (zaa ?_)))
   refine zad (zaN rfl rfl (Coup.w64 (by omega))) ?_
   refine zad (zab) (zae ?_)
   refine zbw ⟨(i + 1, .slice p89 (i + 1) c89, vs ++ [.slice (some ⟨g84, o84, none⟩) r.length c84]), by simp only; omega, ⟨rfl, by go_num, rfl, rfl, rfl, rfl⟩, by simp only; omega, hr1, hr2, hv89, hsl, by have h := hv89.form' (by omega); obtain ⟨_, _, _, _, h1, h2, _⟩ := h; omega, hB⟩
  ·
   have hs0 : s = none := by
     cases s with
     | none => rfl
     | some r =>
       exfalso
       have hsn := zef hsi
       have hlt2 := zde S (i + 1)
       rw [show (bod (some r)).length = r.length from rfl] at hsn
       rw [hS] at hz2
       simp only [zjY] at hf0
       omega
   subst hs0
   refine zan rfl (zad (zab) (zan rfl ?_))
   refine zad (zaM rfl rfl) ?_
   refine zad (zaw rfl) (zae (zah ?_))
   refine zcL rfl ((by rw [show (bod none).length = 0 from rfl]; omega)) ?_
   refine zau (zah (zaa (zad (zav 2) ?_)))
   refine zad (zax hr2) ?_
   refine zad (zab) ?_
   refine zay rfl (zdF (e := 33) (.slice none 0 0) ([.slice none 0 0]) ([Value.slice none 0 0]) 1 (by kernel_rfl) (by kernel_rfl) rfl rfl rfl ⟨by decide, by decide⟩ (fun g88 w88 hg88 hr88 hb88 => ?_))
   have ge_hB_g88 := Nat.le_trans hB.size hg88
   have ge_hBr_g88 := Nat.le_trans hBr.size hg88
   have lt_g1_g88 : g1 < g88 := Nat.lt_of_lt_of_le hr1.lt hg88
   have lt_g2_g88 : g2 < g88 := Nat.lt_of_lt_of_le hr2.lt hg88
   replace hr1 := hr1.new hb88
   replace hr2 := hr2.new hb88
   replace hv := hv.new hb88
   replace hsl := hsl.new hb88
   replace hB := hB.acc hb88
   replace hBr := hBr.acc hb88
   have hs88 := hr88.slA (m := 1) (sz := 1) rfl (by omega)
   have hszr := hBr.size
   have sz_hB_89 := hB.size
   refine zay rfl (zbq (e := 33) (sz := 1) (bytes := 24) (z := Value.slice none 0 0) (by kernel_rfl) rfl (by kernel_rfl) rfl (by decide) rfl hv rfl hs88 (by simp [Value.oneCell']) (by unfold maxLen; omega) (by omega) (fun hm0 => by omega) (fun v89 w89 hv89 hgr89 hfr89 => ?_))
   replace hr1 := hr1.own hv hgr89 (by omega)
   replace hr2 := hr2.own hv hgr89 (by omega)
   replace hB := hB.own hv hgr89 (by omega)
   have hform := hv89.form
   obtain ⟨p89, c89, rfl⟩ := hform
   have hsl := (hsl.growV hgr89 hfr89).snocN
   rw [← hts] at hsl
   refine zad (zav 2) ?_
   refine zaG rfl (zbg hr2 (fun w911 hr2 ho911 => ?_))
   replace hr1 := hr1.only ho911 (Nat.ne_of_lt lt_g1_g2)
   replace hv89 := hv89.only ho911 (by omega)
   replace hsl := hsl.only ho911 (by omega)
   replace hB := ho911.below hB ge_hB_g2
   refine zae (za6 (zah (zaa ?_)))
   refine zad (zaN rfl rfl (Coup.w64 (by omega))) ?_
   refine zad (zab) (zae ?_)
   refine zbw ⟨(i + 1, .slice p89 (i + 1) c89, vs ++ [.slice none 0 0]), by simp only; omega, ⟨rfl, by go_num, rfl, rfl, rfl, rfl⟩, by simp only; omega, hr1, hr2, hv89, hsl, by have h := hv89.form' (by omega); obtain ⟨_, _, _, _, h1, h2, _⟩ := h; omega, hB⟩
 ·
  obtain rfl : i = n := by omega
  rw [show S.take i = S from List.take_of_length_le (by omega)] at hsl
  have hform := hv.form
  obtain ⟨p, c, rfl⟩ := hform
  have hSz := fun (w' : World) (h1 : zaT w' p i 1 vs) (h2 : za0 w' B (Value.ownBlock (.slice p i c)).toList vs S) => zmC V p c vs w' B _ (by rw [hn]; exact h1) (by rw [hS]; exact h2) (by omega)
  have hPg := fun (w' : World) (h1 : zaT w' p i 1 vs) (h2 : za0 w' B (Value.ownBlock (.slice p i c)).toList vs S) => ziH V p c vs w' B _ (by rw [hn]; exact h1) (by rw [hS]; exact h2) (by omega) hnx hz
  rw [hn] at hSz hPg
  rw [hQ] at hPg
  by_cases hi0 : 0 < i
  · obtain ⟨g, off, c', e0, -, hgl, -⟩ := hv.form' hi0
    injection e0 with e1 e2 e3
    subst e1 e3
    have hobt : ∃ s, S[i - 1]? = some s := ⟨_, List.getElem?_eq_getElem (by omega)⟩
    obtain ⟨s, hsi⟩ := hobt
    have hvv := hsl.val hsi
    obtain ⟨q, cq, hvq, hq, hqn, -⟩ := hvv
    have hqs : q.isNone = false := by
      cases s with
      | none =>
        exfalso
        apply hV.last
        rw [hS, List.getLast?_eq_getElem?, ← hnS]
        exact hsi
      | some r => cases q with
        | none => have := hqn.2 rfl; cases this
        | some a => rfl
    refine zbm (zbW (zcr (zbt (zah (zaf (zaf ?_))))))
    refine za5 [] (by kernel_rfl) ?_
    intro w912 hb912 hS912
    replace hr1 := hr1.new hb912
    replace hr2 := hr2.new hb912
    replace hv := hv.new hb912
    replace hsl := hsl.new hb912
    replace hB := hB.acc hb912
    have hr1_d912 := hr1
    have hr2_d912 := hr2
    have hv_d912 := hv
    refine zat 0 (zab) ?_
    refine zat 1 (zbu rfl rfl) ?_
    refine zat 2 (zab) ?_
    refine zlp 94 rfl ((by omega)) ?_
    refine zat 3 (zav 2) ?_
    refine zbp 4 (fun w' hS' => zax (hr2_d912.kq hS')) ?_
    refine zat 5 (zab) ?_
    refine zat 6 (zc0 rfl rfl (Coup.w64 (by omega))) ?_
    refine zat 7 (zaX (e := 33) (by kernel_rfl) rfl rfl (i - 1) (by omega) (by omega)) ?_
    refine zbp 8 (fun w' hS' => zaI rfl (Ld.sl1 (hv_d912.kpd hS' (by first | (simp; done) | (simp; omega) | (simp [*]; done) | exact zaq (Or.inl (by omega)) | exact zaq (Or.inr (by simp)) | exact fun g hm => Nat.le_trans (by omega) (zcs hm).1 | (intro b o e; cases e; exact zaq (Or.inl (by omega))) | (intro b hm; have := (hu.lt b (Option.mem_toList.1 hm)).1; omega) | (intro b o e; cases e; intro hm; have := (hu.lt _ (Option.mem_toList.1 hm)).1; omega) | assumption)).sl (by kernel_rfl) hvq)) ?_
    refine zat 9 (zgm (e := 5) (by kernel_rfl) rfl rfl) ?_
    refine zat 10 (zaA rfl) ?_
    refine zat 11 (zab) ?_
    refine WA_fb 103 rfl (hqs) ?_
    refine zbp 12 (fun w' hS' => zbc 3 (hr2_d912.kq hS')) ?_
    refine zaH 13 (by kernel_rfl) ?_
    refine zbb rfl rfl (zaj (by kernel_rfl) rfl) (hSz w912 hv.sl hsl) ?_
    rintro _ w105 ⟨rfl, hb105⟩
    have hS913 := hS912.add0 hb105
    refine ⟨hS913, ?_⟩
    replace hr2 := hr2.new hb105
    replace hv := hv.new hb105
    replace hsl := hsl.new hb105
    replace hB := hB.acc hb105
    refine zat 14 (zbu rfl rfl) ?_
    refine zat 15 (zaw rfl) ?_
    refine zat 16 (zab) ?_
    refine zjO 108 rfl ((by omega)) ?_
    refine zbp 17 (fun w' hS' => zbc 3 (hr2_d912.kq hS')) ?_
    refine zbp 19 (fun w' hS' => zbc 512 (hr1_d912.kq hS')) ?_
    refine zaH 18 (by kernel_rfl) ?_
    refine zbb rfl rfl (zaj (by kernel_rfl) rfl) (hPg w105 hv.sl hsl) ?_
    rintro _ w110 ⟨rfl, hb110⟩
    have hS914 := hS913.add0 hb110
    refine ⟨hS914, ?_⟩
    replace hr2 := hr2.new hb110
    replace hv := hv.new hb110
    replace hsl := hsl.new hb110
    replace hB := hB.acc hb110
    refine zat 20 (zhS (n := 512) (by kernel_rfl) rfl rfl (by simp [*]) (by simp [*])) ?_
    refine zat 21 (zaw rfl) ?_
    refine zaL (by kernel_rfl) ?_
    refine zah ?_
    refine W_fn rfl ((by simp)) ?_
    refine zau (zah (zaf (zaa ?_)))
    refine zad (zbc 3 hr2) ?_
    refine zaG rfl (zaO 3 (_) hr2 (fun w915 hr2 ho915 => ?_))
    replace hv := hv.only ho915 (by omega)
    replace hsl := hsl.only ho915 (by omega)
    replace hB := ho915.below hB ge_hB_g2
    refine zad (zac) (zae (zah (zaz ?_)))
    refine zam [_, _] ⟨⟨_, rfl, Ld.zbX (k := 3) hr2 (by kernel_rfl) (by kernel_rfl) (by first | (simp; done) | (simp [zal, *]; done) | assumption)⟩, rfl, trivial⟩ ?_
    exact ⟨_, c, vs, rfl, ⟨hv.mono hwB, by rw [hS]; exact hsl.mono hwB⟩, hB⟩
  · skip
    refine zbm (zbW (zcr (zbt (zah (zaf (zaf ?_))))))
    refine za5 [] (by kernel_rfl) ?_
    intro w916 hb916 hS916
    replace hr1 := hr1.new hb916
    replace hr2 := hr2.new hb916
    replace hv := hv.new hb916
    replace hsl := hsl.new hb916
    replace hB := hB.acc hb916
    have hr1_d916 := hr1
    have hr2_d916 := hr2
    refine zat 0 (zab) ?_
    refine zat 1 (zbu rfl rfl) ?_
    refine zat 2 (zab) ?_
    refine zjO 94 rfl ((by omega)) ?_
    refine zaF 3 (by kernel_rfl) rfl ?_
    refine zaF 4 (by kernel_rfl) rfl ?_
    refine zaF 5 (by kernel_rfl) rfl ?_
    refine zaF 6 (by kernel_rfl) rfl ?_
    refine zaF 7 (by kernel_rfl) rfl ?_
    refine zaF 8 (by kernel_rfl) rfl ?_
    refine zaF 9 (by kernel_rfl) rfl ?_
    refine zat 10 (zaw rfl) ?_
    refine zat 11 (zab) ?_
    refine zbp 12 (fun w' hS' => zbc 3 (hr2_d916.kq hS')) ?_
    refine zaH 13 (by kernel_rfl) ?_
    refine zbb rfl rfl (zaj (by kernel_rfl) rfl) (hSz w916 hv.sl hsl) ?_
    rintro _ w105 ⟨rfl, hb105⟩
    have hS917 := hS916.add0 hb105
    refine ⟨hS917, ?_⟩
    replace hr2 := hr2.new hb105
    replace hv := hv.new hb105
    replace hsl := hsl.new hb105
    replace hB := hB.acc hb105
    refine zat 14 (zbu rfl rfl) ?_
    refine zat 15 (zaw rfl) ?_
    refine zat 16 (zab) ?_
    refine zjO 108 rfl ((by omega)) ?_
    refine zbp 17 (fun w' hS' => zbc 3 (hr2_d916.kq hS')) ?_
    refine zbp 19 (fun w' hS' => zbc 512 (hr1_d916.kq hS')) ?_
    refine zaH 18 (by kernel_rfl) ?_
    refine zbb rfl rfl (zaj (by kernel_rfl) rfl) (hPg w105 hv.sl hsl) ?_
    rintro _ w110 ⟨rfl, hb110⟩
    have hS918 := hS917.add0 hb110
    refine ⟨hS918, ?_⟩
    replace hr2 := hr2.new hb110
    replace hv := hv.new hb110
    replace hsl := hsl.new hb110
    replace hB := hB.acc hb110
    refine zat 20 (zhS (n := 512) (by kernel_rfl) rfl rfl (by simp [*]) (by simp [*])) ?_
    refine zat 21 (zaw rfl) ?_
    refine zaL (by kernel_rfl) ?_
    refine zah ?_
    refine W_fn rfl ((by simp)) ?_
    refine zau (zah (zaf (zaa ?_)))
    refine zad (zbc 3 hr2) ?_
    refine zaG rfl (zaO 3 (_) hr2 (fun w919 hr2 ho919 => ?_))
    replace hv := hv.only ho919 (by omega)
    replace hsl := hsl.only ho919 (by omega)
    replace hB := ho919.below hB ge_hB_g2
    refine zad (zac) (zae (zah (zaz ?_)))
    refine zam [_, _] ⟨⟨_, rfl, Ld.zbX (k := 3) hr2 (by kernel_rfl) (by kernel_rfl) (by first | (simp; done) | (simp [zal, *]; done) | assumption)⟩, rfl, trivial⟩ ?_
    exact ⟨_, c, vs, rfl, ⟨hv.mono hwB, by rw [hS]; exact hsl.mono hwB⟩, hB⟩
def ziI (S : List (Option (List UInt8))) (i : Nat) (r : List UInt8) : List (Option (List UInt8)) := if i = S.length then S ++ [some r] else S.set i (some r)
def zcR (V : View) (i : Nat) (r : List UInt8) : View := { V with slots := ziI V.slots i r }
theorem zkN : ∀ (S : List (Option (List UInt8))) (i : Nat) (s : Option (List UInt8)), zby (S.set i s) ≤ zby S + (bod s).length
 | [], i, s => by simp [zby]
 | t :: S, 0, s => by simp [zby]; omega
 | t :: S, i + 1, s => by simp only [List.set_cons_succ, zby]; have := zkN S i s; omega
theorem zmI (V : View) (i : Nat) (r : List UInt8) : zcp (zcR V i r) ≤ zcp V + 4 + r.length := by
 unfold zcp zcR ziI
 dsimp only
 split
 ·rw [zdt, List.length_append]; simp [zby, bod]; omega
 ·rw [List.length_set]; have := zkN V.slots i (some r); simp only [bod, Option.getD_some] at this; omega
namespace za0
variable {w w' : World} {lo : Nat} {o : List Nat} {vs : List Value} {S : List (Option (List UInt8))}
theorem ziI {b off c i : Nat} {r : List UInt8} (h : za0 w lo o vs S) (h2 : zaT w (some ⟨b, off, none⟩) r.length 1 (bv r)) (h3 : b < w.heap.size) (h4 : b ∉ o) (h5 : lo ≤ b) (h9 : r.length ≤ c) : za0 w lo o (vs.set i (.slice (some ⟨b, off, none⟩) r.length c)) (S.set i (some r)) := by
 have hl := h.len
 refine ⟨by simp [hl], fun j hj => ?_, fun j r' hj => ?_⟩
 ·rw [List.getElem?_set] at hj ⊢
  by_cases h6 : i = j
  ·rw [if_pos h6] at hj; split at hj <;> cases hj
  ·rw [if_neg h6] at hj ⊢; exact h.no j hj
 ·rw [List.getElem?_set] at hj ⊢
  by_cases h6 : i = j
  ·rw [if_pos h6] at hj ⊢
   by_cases h7 : i < S.length
   ·rw [if_pos h7] at hj
    rw [if_pos (by omega)]
    cases hj
    exact ⟨b, off, c, rfl, h2, h3, h4, h5, h9⟩
   ·rw [if_neg h7] at hj; cases hj
  ·rw [if_neg h6] at hj ⊢; exact h.yes j r' hj
theorem zod {i : Nat} (h : za0 w lo o vs S) : za0 w lo o (vs.set i (.slice none 0 0)) (S.set i none) := by
 have hl := h.len
 refine ⟨by simp [hl], fun j hj => ?_, fun j r' hj => ?_⟩
 ·rw [List.getElem?_set] at hj ⊢
  by_cases h6 : i = j
  ·rw [if_pos h6] at hj ⊢
   by_cases h7 : i < S.length
   ·rw [if_pos (by omega)]
   ·rw [if_neg h7] at hj; cases hj
  ·rw [if_neg h6] at hj ⊢; exact h.no j hj
 ·rw [List.getElem?_set] at hj ⊢
  by_cases h6 : i = j
  ·rw [if_pos h6] at hj; split at hj <;> cases hj
  ·rw [if_neg h6] at hj ⊢; exact h.yes j r' hj
end za0
theorem zlw {l : List Value} {i : Nat} {v : Value} (h : i < l.length) : splice l i [v] = l.set i v := zhl h
theorem zeg : (bv zcQ).length = 512 := by rw [zal, zcQ, List.length_replicate]
set_option maxRecDepth 20000 in
set_option maxHeartbeats 2000000 in
theorem with24 (V : View) (p pr : Option Addr) (c cr i B : Nat) (vs : List Value) (r : List UInt8) (w : World) (hown : zaB w B 33 1 (.slice p V.slots.length c) V.slots.length vs) (hs : za0 w B (Value.ownBlock (.slice p V.slots.length c)).toList vs V.slots)
   (hBw : B ≤ w.heap.size) (hr : ∀ w', Below B w w' → zaT w' pr r.length 1 (bv r)) (hi : i ≤ V.slots.length) (hr4 : r.length ≤ 400) (hz : zcp V ≤ 512) (hk : V.kind < 256) (hn : V.next < 2147483648) :
   Calls Tryz.prog 99 [zmH V p V.slots.length c, .int .i64 (i : Int), .slice pr r.length cr].toArray w
     (Ret fun v w' => v = (if 512 < zcp (zcR V i r) then .tuple #[.agg (bv zcQ).toArray, .int .i64 8] else .tuple #[.agg (bv (zaD (zcR V i r))).toArray, .int .i64 0]) ∧ Below B w w') := by
 have hBB := zjX.refl hBw
 have hB := Below.refl w.heap.size w
 have hml : maxLen = 9223372036854775807 := by decide
 have hsz := zmI V i r
 obtain ⟨S, hS⟩ : ∃ S, V.slots = S := ⟨_, rfl⟩
 obtain ⟨n, hn1⟩ : ∃ n, S.length = n := ⟨_, rfl⟩
 have hz2 := hz
 unfold zcp at hz2
 rw [hS] at hown hs hi hz2 ⊢
 rw [hn1] at hown hs hi hz2 ⊢
 have hlt0 := hown.lt
 have hzl := zeg
 unfold zmH
 refine zas (fn := Tryz.f99) (rs := [.cell 6 62, .tmp 7]) (n := 31) Tryz.func99 rfl rfl Tryz.ntmps99 (by kernel_rfl) rfl ?_
 refine zaf (zaa ?_)
 refine zay rfl (zaU ([_, _, _]) rfl (fun g3 w3 hg3 hr3 hb3 => ?_))
 have ge_hBB_g3 := Nat.le_trans hBB.size hg3
 have ge_hB_g3 := Nat.le_trans hB.size hg3
 replace hown := hown.new hb3
 replace hBB := hBB.acc hb3
 replace hB := hB.acc hb3
 refine zay rfl (zar (List.replicate 512 (Value.int .u8 0)) (by kernel_rfl) (fun g6 w6 hg6 hr6 hb6 => ?_))
 have ge_hBB_g6 := Nat.le_trans hBB.size hg6
 have ge_hB_g6 := Nat.le_trans hB.size hg6
 have lt_g3_g6 : g3 < g6 := Nat.lt_of_lt_of_le hr3.lt hg6
 replace hown := hown.new hb6
 replace hr3 := hr3.new hb6
 replace hBB := hBB.acc hb6
 replace hB := hB.acc hb6
 rw [zdR] at hr6
 have hs := (hs.avoid (o' := (Value.ownBlock (.slice p n c)).toList ++ [g3, g6]) (fun g hm => by
   rcases List.mem_append.1 hm with e | e
   · exact Or.inl e
   · simp only [List.mem_cons, List.not_mem_nil, or_false] at e
     omega)).new hB
 refine zad (zac) (zae (zah ?_))
 refine zmf (fun q : Option Addr × Nat × Nat × List Value => [(3, .pointer (some ⟨g3, 0, none⟩)), (6, .pointer (some ⟨g6, 0, none⟩)), (1, .int .i64 (i : Nat)), (2, .slice pr r.length cr)]) (fun q w' => row w' g3 [.int .i64 (V.kind : Int), .int .i64 (V.next : Int), .slice q.1 q.2.1 q.2.2.1] 155 ∧ row w' g6 (bv zcQ) 62 ∧ zaB w' B 33 1 (.slice q.1 q.2.1 q.2.2.1) q.2.1 q.2.2.2 ∧ za0 w' B ((Value.ownBlock (.slice q.1 q.2.1 q.2.2.1)).toList ++ [g3, g6]) q.2.2.2 (if i = n then S ++ [none] else S) ∧ q.2.1 = (if i = n then S ++ [none] else S).length ∧ (Value.ownBlock (.slice q.1 q.2.1 q.2.2.1) ≠ some g3 ∧ Value.ownBlock (.slice q.1 q.2.1 q.2.2.1) ≠ some g6) ∧ zjX B w w') ?_ ?_
 ·
  refine zaf (zaa (zad (zab) (zad (zav 2) ?_)))
  refine zad (zax hr3) ?_
  refine zad (zaJ (e := 33) (sz := 1) (by kernel_rfl) rfl rfl) ?_
  refine zad (za9 rfl rfl) ?_
  refine zae (zah ?_)
  refine zbf rfl (fun he => ?_) (fun he => ?_)
  ·
   refine zaa (zad (zav 2) ?_)
   refine zad (zax hr3) ?_
   refine zay rfl (zdF (e := 33) (.slice none 0 0) ([.slice none 0 0]) ([Value.slice none 0 0]) 1 (by kernel_rfl) (by kernel_rfl) rfl rfl rfl ⟨by decide, by decide⟩ (fun g15 w15 hg15 hr15 hb15 => ?_))
   have ge_hBB_g15 := Nat.le_trans hBB.size hg15
   have lt_g3_g15 : g3 < g15 := Nat.lt_of_lt_of_le hr3.lt hg15
   have lt_g6_g15 : g6 < g15 := Nat.lt_of_lt_of_le hr6.lt hg15
   replace hown := hown.new hb15
   replace hr3 := hr3.new hb15
   replace hr6 := hr6.new hb15
   replace hs := hs.new hb15
   replace hBB := hBB.acc hb15
   have hs15 := hr15.slA (m := 1) (sz := 1) rfl (by omega)
   have sz_hBB_16 := hBB.size
   refine zay rfl (zbq (e := 33) (sz := 1) (bytes := 24) (z := Value.slice none 0 0) (by kernel_rfl) rfl (by kernel_rfl) rfl (by decide) rfl hown rfl hs15 (by simp [Value.oneCell']) (by unfold maxLen; omega) (by omega) (fun hm0 => by omega) (fun v16 w16 hv16 hgr16 hfr16 => ?_))
   replace hBB := hBB.own hown hgr16 (by omega)
   have hform := hv16.form
   obtain ⟨p16, c16, rfl⟩ := hform
   have hs := (hs.zoe hgr16 hfr16).snocN
   have hn3 : g3 ∉ (Value.ownBlock (.slice p n c)).toList := fun hm => by have := (hlt0 g3 (Option.mem_toList.1 hm)).2; omega
   have hn6 : g6 ∉ (Value.ownBlock (.slice p n c)).toList := fun hm => by have := (hlt0 g6 (Option.mem_toList.1 hm)).2; omega
   have h163 : Value.ownBlock (.slice p16 (n + 1) c16) ≠ some g3 := fun e => (hfr16 g3 e).elim (fun e => hn3 (Option.mem_toList.2 e)) (fun e => by have := hr3.lt; omega)
   have h166 : Value.ownBlock (.slice p16 (n + 1) c16) ≠ some g6 := fun e => (hfr16 g6 e).elim (fun e => hn6 (Option.mem_toList.2 e)) (fun e => by have := hr6.lt; omega)
   have hr3 := hr3.kpd (Kp.za8 hgr16) hn3
   have hr6 := hr6.kpd (Kp.za8 hgr16) hn6
   refine zad (zav 2) ?_
   refine zaG rfl (zbg hr3 (fun w901 hr3 ho901 => ?_))
   replace hs := hs.only ho901 (by first | (simp; done) | (right; omega))
   replace hr6 := hr6.only ho901 (Nat.ne_of_gt lt_g3_g6)
   replace hBB := hBB.zn8 ho901 ge_hBB_g3
   have hv16 := zaB.onlyN hv16 (by assumption : Only g3 _ w901) h163
   refine zae ?_
   refine zbw ⟨(p16, n + 1, c16, vs ++ [.slice none 0 0]), ⟨rfl, rfl, rfl, rfl, rfl⟩, hr3, hr6, hv16, ?_, ?_, ⟨h163, h166⟩, hBB⟩
   · rw [if_pos (by omega)]; exact hs
   · rw [if_pos (by omega), List.length_append, hn1]; rfl
  ·
   refine zau ?_
   refine zbw ⟨(p, n, c, vs), ⟨rfl, rfl, rfl, rfl, rfl⟩, hr3, hr6, hown, ?_, ?_, ⟨fun e => by have := (hlt0 g3 e).2; omega, fun e => by have := (hlt0 g6 e).2; omega⟩, hBB⟩
   · rw [if_neg (by omega)]; exact hs
   · rw [if_neg (by omega), hn1]
 ·
  rintro ⟨q, m, c', vs'⟩ f2 wz ⟨hr3, hr6, hown, hs, hm, ⟨h3, h6⟩, hBB⟩
  simp only at hr3 hown hs hm h3 h6
  have hobt : ∃ S', (if i = n then S ++ [none] else S) = S' := ⟨_, rfl⟩
  obtain ⟨S', hS'⟩ := hobt
  rw [hS'] at hs hm
  have him : i < m := by
    rw [hm, ← hS']
    split
    · rw [List.length_append]; simp; omega
    · omega
  have hset : S'.set i (some r) = ziI S i r := by
    rw [← hS', ziI, hn1]
    split
    · rename_i h; rw [h, ← hn1, List.set_append_right _ _ (Nat.le_refl _), Nat.sub_self]; rfl
    · rfl
  have hlen : (zcR V i r).slots.length = m := by
    show (ziI V.slots i r).length = m
    rw [hS, ← hset, List.length_set, ← hm]
  have hslots : (zcR V i r).slots = ziI S i r := by
    show ziI V.slots i r = _
    rw [hS]
  have hobt := hown.form' (by omega)
  obtain ⟨g, o, cc, e0, hBg, hgl, -⟩ := hobt
  injection e0 with e1 e2 e3
  subst e1 e3
  have hG : zed wz B 33 1 g o m c' vs' := hown
  have hvl : vs'.length = m := by have := hown.1; omega
  replace hs : za0 wz B [g, g3, g6] vs' S' := hs
  have hg3 : g ≠ g3 := fun e => h3 (by rw [e]; rfl)
  have hg6 : g ≠ g6 := fun e => h6 (by rw [e]; rfl)
  refine zaf ?_
  refine za5 [g] (by kernel_rfl) ?_
  intro w902 hb902 hS902
  replace hr3 := hr3.new hb902
  replace hr6 := hr6.new hb902
  replace hs := hs.new hb902
  replace hG := hG.new hb902
  replace hBB := hBB.acc hb902
  have hr3_d902 := hr3
  have hr6_d902 := hr6
  have hs_d902 := hs
  have hG_d902 := hG
  have hBB_d902 := hBB
  refine zat 0 (zav 2) ?_
  refine zbp 1 (fun w' hS' => zax (hr3_d902.kq hS')) ?_
  refine zat 2 (zab) ?_
  refine zat 4 (zab) ?_
  refine zaH 3 (by kernel_rfl) ?_
  refine zco rfl rfl (zkJ (e := 5) (sz := 1) (by kernel_rfl) (by kernel_rfl) (fun g21 w21 hg21 hr21 hb21 => ?_))
  have hS903 := hS902.add0 hb21
  refine ⟨hS903, ?_⟩
  have ge_hS902_g21 := Nat.le_trans hS902.size hg21
  have ge_hBB_g21 := Nat.le_trans hBB.size hg21
  have lt_g3_g21 : g3 < g21 := Nat.lt_of_lt_of_le hr3.lt hg21
  have lt_g6_g21 : g6 < g21 := Nat.lt_of_lt_of_le hr6.lt hg21
  have lt_g_g21 : g < g21 := Nat.lt_of_lt_of_le hG.lt hg21
  replace hr3 := hr3.new hb21
  replace hr6 := hr6.new hb21
  replace hs := hs.new hb21
  replace hG := hG.new hb21
  replace hBB := hBB.acc hb21
  refine zaH 5 (by kernel_rfl) ?_
  have l3 := hr3.lt
  have l6 := hr6.lt
  have lG := hG.lt
  have lB := hBB.size
  refine zco rfl rfl (zho (e := 5) (sz := 1) (bytes := 1) (z := .int .u8 0) (by kernel_rfl) rfl (by kernel_rfl) rfl (by decide) rfl hr21.lt rfl (hr _ hBB.bel) (by omega) (by omega) (fun g23 o23 c23 w23 hx23 hg23 hlt23 hcc23 hb23 => ?_))
  have hS904 := hS903.add0 hb23
  refine ⟨hS904, ?_⟩
  replace hr3 := hr3.new hb23
  replace hr6 := hr6.new hb23
  replace hs := hs.new hb23
  replace hG := hG.new hb23
  replace hBB := hBB.acc hb23
  have hgb : g < g23 ∧ g3 < g23 ∧ g6 < g23 ∧ B ≤ g23 := by rcases hg23 with h | h <;> omega
  refine zat 6 (zaX (e := 33) (by kernel_rfl) rfl rfl (i) (by omega) (by omega)) ?_
  refine zaH 7 (by kernel_rfl) ?_
  refine zbO rfl rfl (zgl ([.slice (some ⟨g23, o23, none⟩) r.length c23]) (i) hG rfl rfl (by kernel_rfl) (by first | (simp only [ziE, List.length_cons, List.length_nil]; omega) | omega | (simp; omega)) (by simp [Value.oneCell']) (fun w906 hG ho906 => ?_))
  have hS905 := hS904.aq ho906
  refine ⟨hS905, ?_⟩
  replace hr3 := hr3.only ho906 (by omega)
  replace hr6 := hr6.only ho906 (by omega)
  replace hs := hs.only ho906 (by first | (simp; done) | (right; omega))
  replace hx23 := hx23.only ho906 (by omega)
  replace hBB := hBB.zn8 ho906 (by omega)
  rw [zlw (by omega)] at hG
  have hs := hs.ziI (i := i) (c := c23) hx23 (by rw [ho906.size]; exact hlt23) (by simp; omega) (by omega) hcc23
  rw [hset] at hs
  have hSz := fun (w' : World) (h1 : zaT w' (some ⟨g, o, none⟩) m 1 (vs'.set i (.slice (some ⟨g23, o23, none⟩) r.length c23))) (h2 : za0 w' B [g, g3, g6] (vs'.set i (.slice (some ⟨g23, o23, none⟩) r.length c23)) (ziI S i r)) => zmC (zcR V i r) (some ⟨g, o, none⟩) c' _ w' B _ (by rw [hlen]; exact h1) (by rw [hslots]; exact h2) (by omega)
  rw [hlen] at hSz
  refine zaL (by kernel_rfl) ?_
  refine zah (zaf (zaf (zaa ?_)))
  refine zad (zbc 3 hr3) ?_
  refine zao rfl (zaj (by kernel_rfl) rfl) (hSz w906 hG.sl hs) ?_
  rintro _ w26 ⟨rfl, hb26⟩
  replace hr3 := hr3.new hb26
  replace hr6 := hr6.new hb26
  replace hs := hs.new hb26
  replace hG := hG.new hb26
  replace hx23 := hx23.new hb26
  replace hBB := hBB.acc hb26
  refine zad (zbu rfl rfl) ?_
  refine zae (zah ?_)
  refine zbf rfl (fun hfull => ?_) (fun hfull => ?_)
  ·
   refine zaf (zaa ?_)
   refine zad (zbi (bv zcQ) (by rw [← zdR]; kernel_rfl)) ?_
   refine zaG rfl (zaO 512 (bv zcQ) hr6 (fun w907 hr6 ho907 => ?_))
   replace hr3 := hr3.only ho907 (Nat.ne_of_lt lt_g3_g6)
   replace hs := hs.only ho907 (by first | (simp; done) | (right; omega))
   replace hG := hG.only ho907 (by omega)
   replace hx23 := hx23.only ho907 (by omega)
   replace hBB := hBB.zn8 ho907 ge_hBB_g6
   refine zad (zac) (zae (zah (zaz (zaP ?_))))
   refine zam [_, _] ⟨⟨_, rfl, Ld.zbX (k := 512) hr6 (by kernel_rfl) (by kernel_rfl) (by first | (simp; done) | (simp [zal, *]; done) | assumption)⟩, rfl, trivial⟩ ?_
   exact ⟨by rw [if_pos (by omega)]; rfl, hBB.bel⟩
  ·
   have hPg := fun (w' : World) (h1 : zaT w' (some ⟨g, o, none⟩) m 1 (vs'.set i (.slice (some ⟨g23, o23, none⟩) r.length c23))) (h2 : za0 w' B [g, g3, g6] (vs'.set i (.slice (some ⟨g23, o23, none⟩) r.length c23)) (ziI S i r)) => ziH (zcR V i r) (some ⟨g, o, none⟩) c' _ w' B _ (by rw [hlen]; exact h1) (by rw [hslots]; exact h2) hk hn (by omega)
   rw [hlen] at hPg
   have hbl2 : (bv (zaD (zcR V i r))).length = 512 := by rw [zal]; exact zbv (zcR V i r) (by omega)
   refine zau (zah (zaf (zaa ?_)))
   refine zad (zbc 3 hr3) ?_
   refine zao rfl (zaj (by kernel_rfl) rfl) (hPg w26 hG.sl hs) ?_
   rintro _ w30 ⟨rfl, hb30⟩
   replace hr3 := hr3.new hb30
   replace hr6 := hr6.new hb30
   replace hs := hs.new hb30
   replace hG := hG.new hb30
   replace hx23 := hx23.new hb30
   replace hBB := hBB.acc hb30
   refine zaG rfl (zaO 512 (bv (zaD (zcR V i r))) hr6 (fun w908 hr6 ho908 => ?_))
   replace hr3 := hr3.only ho908 (Nat.ne_of_lt lt_g3_g6)
   replace hs := hs.only ho908 (by first | (simp; done) | (right; omega))
   replace hG := hG.only ho908 (by omega)
   replace hx23 := hx23.only ho908 (by omega)
   replace hBB := hBB.zn8 ho908 ge_hBB_g6
   refine zad (zac) (zae (zah (zaz ?_)))
   refine zam [_, _] ⟨⟨_, rfl, Ld.zbX (k := 512) hr6 (by kernel_rfl) (by kernel_rfl) (by first | (simp; done) | (simp [zal, *]; done) | assumption)⟩, rfl, trivial⟩ ?_
   exact ⟨by rw [if_neg (by omega)]; rfl, hBB.bel⟩
def zjZ (V : View) (i : Nat) (r : List UInt8) : List UInt8 := if 512 < zcp (zcR V i r) then zcQ else zaD (zcR V i r)
def zfh (V : View) (i : Nat) (r : List UInt8) : Nat := if 512 < zcp (zcR V i r) then 8 else 0
theorem zmJ (V : View) (i : Nat) (r : List UInt8) : (bv (zjZ V i r)).length = 512 := by
 unfold zjZ
 split
 ·exact zeg
 ·rw [zal]; exact zbv _ (by omega)
theorem with24' (V : View) (p pr : Option Addr) (c cr i B : Nat) (vs : List Value) (r : List UInt8) (w : World) (hown : zaB w B 33 1 (.slice p V.slots.length c) V.slots.length vs) (hs : za0 w B (Value.ownBlock (.slice p V.slots.length c)).toList vs V.slots)
  (hBw : B ≤ w.heap.size) (hr : ∀ w', Below B w w' → zaT w' pr r.length 1 (bv r)) (hi : i ≤ V.slots.length) (hr4 : r.length ≤ 400) (hV : Good V) :
  Calls Tryz.prog 99 [zmH V p V.slots.length c, .int .i64 (i : Int), .slice pr r.length cr].toArray w
   (Ret fun v w' => v = .tuple #[.agg (bv (zjZ V i r)).toArray, .int .i64 (zfh V i r : Nat)] ∧ Below B w w') := by
 have h := with24 V p pr c cr i B vs r w hown hs hBw hr hi hr4 hV.size (by have := hV.kind; omega) hV.next
 refine h.to fun v w' ⟨h1, h2⟩ => ⟨?_, h2⟩
 rw [h1, zjZ, zfh]
 split <;> rfl
theorem za3 {V : View} (hV : Good V) : (bv (zaD V)).length = 512 := by rw [zal]; exact zbv V hV.size
def zhp (S : List (Option (List UInt8))) (k : Int) : List UInt8 := if zjD S k then bod (S.getD k.toNat none) else []
set_option maxRecDepth 20000 in
set_option maxHeartbeats 1000000 in
theorem new7 (k : Int) (w : World) : Calls Tryz.prog 106 [.int .i64 k].toArray w (Ret fun v w' => v = (if 0 ≤ k ∧ k ≤ 4 then .tuple #[.agg (bv (zaD ⟨k.toNat, 0, []⟩)).toArray, .int .i64 0] else .tuple #[.agg (bv zcQ).toArray, .int .i64 2]) ∧ Below w.heap.size w w') := by
 have hB := Below.refl w.heap.size w
 have hzl := zeg
 refine zas (fn := Tryz.f106) (rs := [.cell 2 62, .tmp 3]) (n := 14) Tryz.func106 rfl rfl Tryz.ntmps106 (by kernel_rfl) rfl ?_
 refine zaf (zaa ?_)
 refine zay rfl (zar (List.replicate 512 (Value.int .u8 0)) (by kernel_rfl) (fun g2 w2 hg2 hr2 hb2 => ?_))
 have ge_hB_g2 := Nat.le_trans hB.size hg2
 replace hB := hB.acc hb2
 rw [zdR] at hr2
 refine zad (zac) (zae (zah (zaf (zaf (zaa (zad (zab) ?_))))))
 refine zad (za2 rfl rfl) ?_
 refine zad (zab) ?_
 refine zb8 6 rfl (fun h0 => ?_) (fun h0 => ?_)
 ·
  refine zaK rfl rfl (zaK rfl rfl (zad (zaA rfl) (zae (zah ?_))))
  refine W_t rfl ?_
  refine zaf (zaa ?_)
  refine zad (zbi (bv zcQ) (by rw [← zdR]; kernel_rfl)) ?_
  refine zaG rfl (zaO 512 (bv zcQ) hr2 (fun w901 hr2 ho901 => ?_))
  replace hB := ho901.below hB ge_hB_g2
  refine zad (zac) (zae (zah (zaz (zaP ?_))))
  refine zam [_, _] ⟨⟨_, rfl, Ld.zbX (k := 512) hr2 (by kernel_rfl) (by kernel_rfl) (by first | (simp; done) | (simp [zal, *]; done) | assumption)⟩, rfl, trivial⟩ ?_
  exact ⟨by rw [if_neg (by omega)]; rfl, hB⟩
 ·
  refine zan rfl (zad (zab) (zan rfl ?_))
  refine zad (zbu rfl rfl) ?_
  refine zad (zaw rfl) (zae (zah ?_))
  refine zbf rfl (fun h1 => ?_) (fun h1 => ?_)
  ·
   refine zaf (zaa ?_)
   refine zad (zbi (bv zcQ) (by rw [← zdR]; kernel_rfl)) ?_
   refine zaG rfl (zaO 512 (bv zcQ) hr2 (fun w902 hr2 ho902 => ?_))
   replace hB := ho902.below hB ge_hB_g2
   refine zad (zac) (zae (zah (zaz (zaP ?_))))
   refine zam [_, _] ⟨⟨_, rfl, Ld.zbX (k := 512) hr2 (by kernel_rfl) (by kernel_rfl) (by first | (simp; done) | (simp [zal, *]; done) | assumption)⟩, rfl, trivial⟩ ?_
   exact ⟨by rw [if_neg (by omega)]; rfl, hB⟩
  ·
   have hobt : ∃ m : Nat, k = m := ⟨k.toNat, by omega⟩
   obtain ⟨m, rfl⟩ := hobt
   rw [Int.toNat_natCast, if_pos (by omega)]
   have hPg := fun w' => ziH ⟨m, 0, []⟩ none 0 [] w' 0 [] (zaT.nil _ _ _) (za0.nil _ _ _) (by show m < 256; omega) (by show 0 < 2147483648; omega) (by simp [zcp, zby])
   have hpl : (bv (zaD ⟨m, 0, []⟩)).length = 512 := by rw [zal]; exact zbv _ (by simp [zcp, zby])
   generalize zaD ⟨m, 0, []⟩ = Q at hPg hpl ⊢
   refine zau (zah (zaf (zaa (zad (zab) ?_))))
   refine zad (zee (.int .i64 (m : Int)) [.int .i64 (m : Int), .int .i64 0, .slice none 0 0] rfl (by kernel_rfl)) ?_
   refine zao rfl (zaj (by kernel_rfl) rfl) (hPg w2) ?_
   rintro _ w13 ⟨rfl, hb13⟩
   replace hr2 := hr2.new hb13
   replace hB := hB.acc hb13
   refine zaG rfl (zaO 512 (bv Q) hr2 (fun w903 hr2 ho903 => ?_))
   replace hB := ho903.below hB ge_hB_g2
   refine zad (zac) (zae (zah (zaz ?_)))
   refine zam [_, _] ⟨⟨_, rfl, Ld.zbX (k := 512) hr2 (by kernel_rfl) (by kernel_rfl) (by first | (simp; done) | (simp [zal, *]; done) | assumption)⟩, rfl, trivial⟩ ?_
   exact ⟨rfl, hB⟩
abbrev vw (V : View) (p : Option Addr) (c : Nat) : List Value := [.int .i64 (V.kind : Int), .int .i64 (V.next : Int), .slice p V.slots.length c]
structure Vw (w : World) (lo : Nat) (av : List Nat) (p : Option Addr) (n c : Nat) (vs : List Value) (S : List (Option (List UInt8))) : Prop where
 own : zaB w lo 33 1 (.slice p n c) n vs
 slts : za0 w lo ((Value.ownBlock (.slice p n c)).toList ++ av) vs S
 ne : ∀ g, g ∈ av → Value.ownBlock (.slice p n c) ≠ some g
namespace Vw
variable {w w' : World} {lo : Nat} {av : List Nat} {p : Option Addr} {n c : Nat} {vs : List Value} {S : List (Option (List UInt8))}
theorem of (h : OwV w lo p n c vs S) : Vw w lo [] p n c vs S := ⟨h.1, by rw [List.append_nil]; exact h.2, fun g h => by simp at h⟩
theorem new (h : Vw w lo av p n c vs S) (hb : Below w.heap.size w w') : Vw w' lo av p n c vs S := ⟨h.own.new hb, h.slts.new hb, h.ne⟩
theorem kpd {M : List Nat} (h : Vw w lo av p n c vs S) (k : Kp M w w') (hM : ∀ g, g ∈ M → g ∈ av) : Vw w' lo av p n c vs S :=
 ⟨h.own.kpd k fun g hm => h.ne g (hM g hm), h.slts.kpd k fun g hm => Or.inr (List.mem_append_right _ (hM g hm)), h.ne⟩
theorem only {g : Nat} (h : Vw w lo av p n c vs S) (ho : Only g w w') (hg : g ∈ av) : Vw w' lo av p n c vs S := h.kpd (Kp.za7 ho) fun g' hm => by
 have : g' = g := by simpa using hm
 rw [this]; exact hg
theorem cons {g : Nat} (h : Vw w lo av p n c vs S) (hg : w.heap.size ≤ g) : Vw w lo (g :: av) p n c vs S := by
 refine ⟨h.own, h.slts.avoid fun g' hm => ?_, fun g' hm e => ?_⟩
 ·rcases List.mem_append.1 hm with e | e
  ·exact Or.inl (List.mem_append_left _ e)
  ·rcases List.mem_cons.1 e with rfl | e
   ·exact Or.inr (Or.inl hg)
   ·exact Or.inl (List.mem_append_right _ e)
 ·rcases List.mem_cons.1 hm with rfl | e'
  ·have := (h.own.lt g' e).2; omega
  ·exact h.ne g' e' e
theorem out (h : Vw w lo av p n c vs S) : za0 w lo (Value.ownBlock (.slice p n c)).toList vs S := h.slts.avoid fun g hm => Or.inl (List.mem_append_left _ hm)
theorem len (h : Vw w lo av p n c vs S) : vs.length = n := by have := h.own.1; omega
theorem some (h : Vw w lo av p n c vs S) (hn : 0 < n) : ∃ g o, p = Option.some ⟨g, o, none⟩ ∧ lo ≤ g ∧ g < w.heap.size := by
 obtain ⟨g, o, cc, e0, h1, h2, _⟩ := h.own.form' hn
 injection e0 with e1 e2 e3
 exact ⟨g, o, e1, h1, h2⟩
end Vw
theorem zeQ (V : View) (w : World) (hV : Good V) :
  Calls Tryz.prog 97 [.agg (bv (zaD V)).toArray].toArray w (Ret fun v w' => ∃ p c vs, v = .tuple #[zmH V p V.slots.length c, .bool true] ∧ Vw w' w.heap.size [] p V.slots.length c vs V.slots ∧ Below w.heap.size w w') :=
 (read22 V w hV).to fun v w' ⟨p, c, vs, h1, h2, h3⟩ => ⟨p, c, vs, h1, Vw.of h2, h3⟩
set_option maxRecDepth 20000 in
theorem kind19 (V : View) (w : World) (hV : Good V) : Calls Tryz.prog 53 [.agg (bv (zaD V)).toArray].toArray w (Ret fun v w' => v = .int .i64 (V.kind : Int) ∧ Below w.heap.size w w') := by
 have hB := Below.refl w.heap.size w
 have hbl := za3 hV
 refine zas (fn := Tryz.f53) (rs := [.tmp 2]) (n := 12) Tryz.func53 rfl rfl Tryz.ntmps53 (by kernel_rfl) rfl ?_
 refine zaf (zaa ?_)
 refine zay rfl (zaU ((bv (zaD V))) rfl (fun g1 w1 hg1 hr1 hb1 => ?_))
 replace hB := hB.acc hb1
 refine zad (zac) (zae (zah (zaf (zaa ?_))))
 refine zad (zbc 512 hr1) ?_
 refine zao rfl (zaj (by kernel_rfl) rfl) (zeQ V w1 hV) ?_
 rintro _ w7 ⟨p, c, vs, rfl, hv, hb7⟩
 replace hB := hB.acc hb7
 refine zad (zab) (zad (zai rfl rfl) (zad (zai rfl rfl) ?_))
 have hv0 := hv
 refine zay rfl (zar ([Value.int .i64 0, Value.int .i64 0, Value.slice none 0 0]) (by kernel_rfl) (fun g3 w3 hg3 hr3 hb3 => ?_))
 have ge_hB_g3 := Nat.le_trans hB.size hg3
 replace hv := hv.new hb3
 replace hB := hB.acc hb3
 replace hv := (hv0.cons hg3).new hb3
 refine zaG rfl (zaO 3 (vw V p c) hr3 (fun w901 hr3 ho901 => ?_))
 replace hB := ho901.below hB ge_hB_g3
 refine zad (zac) (zae (zah (zaf (zaa (zad (zav 0) ?_)))))
 refine zad (zax hr3) ?_
 refine zad (zac) (zae (zah (zaz ?_)))
 refine zam [_] ⟨rfl, trivial⟩ ?_
 exact ⟨rfl, hB⟩
set_option maxRecDepth 20000 in
theorem next20 (V : View) (w : World) (hV : Good V) : Calls Tryz.prog 104 [.agg (bv (zaD V)).toArray].toArray w (Ret fun v w' => v = .int .i64 (V.next : Int) ∧ Below w.heap.size w w') := by
 have hB := Below.refl w.heap.size w
 have hbl := za3 hV
 refine zas (fn := Tryz.f104) (rs := [.tmp 2]) (n := 12) Tryz.func104 rfl rfl Tryz.ntmps104 (by kernel_rfl) rfl ?_
 refine zaf (zaa ?_)
 refine zay rfl (zaU ((bv (zaD V))) rfl (fun g1 w1 hg1 hr1 hb1 => ?_))
 replace hB := hB.acc hb1
 refine zad (zac) (zae (zah (zaf (zaa ?_))))
 refine zad (zbc 512 hr1) ?_
 refine zao rfl (zaj (by kernel_rfl) rfl) (zeQ V w1 hV) ?_
 rintro _ w7 ⟨p, c, vs, rfl, hv, hb7⟩
 replace hB := hB.acc hb7
 refine zad (zab) (zad (zai rfl rfl) (zad (zai rfl rfl) ?_))
 have hv0 := hv
 refine zay rfl (zar ([Value.int .i64 0, Value.int .i64 0, Value.slice none 0 0]) (by kernel_rfl) (fun g3 w3 hg3 hr3 hb3 => ?_))
 have ge_hB_g3 := Nat.le_trans hB.size hg3
 replace hv := hv.new hb3
 replace hB := hB.acc hb3
 replace hv := (hv0.cons hg3).new hb3
 refine zaG rfl (zaO 3 (vw V p c) hr3 (fun w901 hr3 ho901 => ?_))
 replace hB := ho901.below hB ge_hB_g3
 refine zad (zac) (zae (zah (zaf (zaa (zad (zav 1) ?_)))))
 refine zad (zax hr3) ?_
 refine zad (zac) (zae (zah (zaz ?_)))
 refine zam [_] ⟨rfl, trivial⟩ ?_
 exact ⟨rfl, hB⟩
set_option maxRecDepth 20000 in
theorem may18 (V : View) (w : World) (hV : Good V) : Calls Tryz.prog 147 [.agg (bv (zaD V)).toArray].toArray w (Ret fun v w' => v = .bool true ∧ Below w.heap.size w w') := by
 have hB := Below.refl w.heap.size w
 have hbl := za3 hV
 refine zas (fn := Tryz.f147) (rs := [.tmp 2]) (n := 11) Tryz.func147 rfl rfl Tryz.ntmps147 (by kernel_rfl) rfl ?_
 refine zaf (zaa ?_)
 refine zay rfl (zaU ((bv (zaD V))) rfl (fun g1 w1 hg1 hr1 hb1 => ?_))
 replace hB := hB.acc hb1
 refine zad (zac) (zae (zah (zaf (zaa ?_))))
 refine zad (zbc 512 hr1) ?_
 refine zao rfl (zaj (by kernel_rfl) rfl) (zeQ V w1 hV) ?_
 rintro _ w7 ⟨p, c, vs, rfl, hv, hb7⟩
 replace hB := hB.acc hb7
 refine zad (zab) (zad (zai rfl rfl) (zad (zai rfl rfl) ?_))
 have hv0 := hv
 refine zay rfl (zar ([Value.int .i64 0, Value.int .i64 0, Value.slice none 0 0]) (by kernel_rfl) (fun g3 w3 hg3 hr3 hb3 => ?_))
 have ge_hB_g3 := Nat.le_trans hB.size hg3
 replace hv := hv.new hb3
 replace hB := hB.acc hb3
 replace hv := (hv0.cons hg3).new hb3
 refine zaG rfl (zaO 3 (vw V p c) hr3 (fun w901 hr3 ho901 => ?_))
 replace hB := ho901.below hB ge_hB_g3
 refine zad (zac) (zae (zah (zaf (zaa (zad (zab) (zad (zac) (zae (zah (zaz ?_)))))))))
 refine zam [_] ⟨rfl, trivial⟩ ?_
 exact ⟨rfl, hB⟩
set_option maxRecDepth 20000 in
theorem slots12 (V : View) (w : World) (hV : Good V) : Calls Tryz.prog 102 [.agg (bv (zaD V)).toArray].toArray w (Ret fun v w' => v = .int .i64 (V.slots.length : Int) ∧ Below w.heap.size w w') := by
 have hB := Below.refl w.heap.size w
 have hbl := za3 hV
 refine zas (fn := Tryz.f102) (rs := [.tmp 2]) (n := 13) Tryz.func102 rfl rfl Tryz.ntmps102 (by kernel_rfl) rfl ?_
 refine zaf (zaa ?_)
 refine zay rfl (zaU ((bv (zaD V))) rfl (fun g1 w1 hg1 hr1 hb1 => ?_))
 replace hB := hB.acc hb1
 refine zad (zac) (zae (zah (zaf (zaa ?_))))
 refine zad (zbc 512 hr1) ?_
 refine zao rfl (zaj (by kernel_rfl) rfl) (zeQ V w1 hV) ?_
 rintro _ w7 ⟨p, c, vs, rfl, hv, hb7⟩
 replace hB := hB.acc hb7
 refine zad (zab) (zad (zai rfl rfl) (zad (zai rfl rfl) ?_))
 have hv0 := hv
 refine zay rfl (zar ([Value.int .i64 0, Value.int .i64 0, Value.slice none 0 0]) (by kernel_rfl) (fun g3 w3 hg3 hr3 hb3 => ?_))
 have ge_hB_g3 := Nat.le_trans hB.size hg3
 replace hv := hv.new hb3
 replace hB := hB.acc hb3
 replace hv := (hv0.cons hg3).new hb3
 refine zaG rfl (zaO 3 (vw V p c) hr3 (fun w901 hr3 ho901 => ?_))
 replace hB := ho901.below hB ge_hB_g3
 refine zad (zac) (zae (zah (zaf (zaa (zad (zav 2) ?_)))))
 refine zad (zax hr3) ?_
 refine zad (zaJ (e := 33) (sz := 1) (by kernel_rfl) rfl rfl) ?_
 refine zad (zac) (zae (zah (zaz ?_)))
 refine zam [_] ⟨rfl, trivial⟩ ?_
 exact ⟨rfl, hB⟩
theorem zeroQ : ∃ Z, zcQ = Z ∧ List.replicate 512 (Value.int .u8 0) = bv Z ∧ (bv Z).length = 512 := ⟨_, rfl, zdR, zeg⟩
theorem zhT (S : List (Option (List UInt8))) : zbK S ≤ S.length := List.findIdx_le_length
set_option maxRecDepth 20000 in
theorem get17 (V : View) (k : Int) (w : World) (hV : Good V) : Calls Tryz.prog 96 [.agg (bv (zaD V)).toArray, .int .i64 k].toArray w
   (Ret fun v w' => (∃ q c, v = .tuple #[.slice q (zhp V.slots k).length c, .int .i64 (if zjD V.slots k then 0 else 6)] ∧ zaT w' q (zhp V.slots k).length 1 (bv (zhp V.slots k)) ∧ (zhp V.slots k).length ≤ c ∧ ∀ b o, q = some ⟨b, o, none⟩ → w.heap.size ≤ b) ∧ Below w.heap.size w w') := by
 have hB := Below.refl w.heap.size w
 have hbl := za3 hV
 refine zas (fn := Tryz.f96) (rs := [.tmp 4, .tmp 5]) (n := 26) Tryz.func96 rfl rfl Tryz.ntmps96 (by kernel_rfl) rfl ?_
 refine zaf (zaa ?_)
 refine zay rfl (zaU ((bv (zaD V))) rfl (fun g2 w2 hg2 hr2 hb2 => ?_))
 replace hB := hB.acc hb2
 refine zad (zac) (zad (zac) (zae (zah (zaf (zaa ?_)))))
 refine zad (zbc 512 hr2) ?_
 refine zao rfl (zaj (by kernel_rfl) rfl) (zeQ V w2 hV) ?_
 rintro _ w10 ⟨p, c, vs, rfl, hv, hb10⟩
 replace hB := hB.acc hb10
 refine zad (zab) (zad (zai rfl rfl) (zad (zai rfl rfl) ?_))
 have hv0 := hv
 refine zay rfl (zar ([Value.int .i64 0, Value.int .i64 0, Value.slice none 0 0]) (by kernel_rfl) (fun g6 w6 hg6 hr6 hb6 => ?_))
 have ge_hB_g6 := Nat.le_trans hB.size hg6
 replace hv := hv.new hb6
 replace hB := hB.acc hb6
 replace hv := (hv0.cons hg6).new hb6
 refine zaG rfl (zaO 3 (vw V p c) hr6 (fun w901 hr6 ho901 => ?_))
 replace hv := hv.only ho901 (by first | (simp; done) | (right; omega))
 replace hB := ho901.below hB ge_hB_g6
 refine zad (zac) (zae (zah (zaf (zaE (zaf (zaa (zad (zab) ?_)))))))
 refine zad (zbS rfl) ?_
 refine zad (zac) (zae (zah ?_))
 refine ziw rfl (rfl) ?_
 refine zaf (zaa ?_)
 refine zad (zbc 3 hr6) ?_
 refine zad (zab) ?_
 refine zao rfl (zaj (by kernel_rfl) rfl) (has26 V p c vs k w901 _ _ hv.own.sl hv.slts) ?_
 rintro _ w19 ⟨rfl, hb19⟩
 replace hv := hv.new hb19
 replace hr6 := hr6.new hb19
 replace hB := hB.acc hb19
 refine zad (zbS rfl) ?_
 refine zad (zac) (zae (zah ?_))
 refine W_ifnb rfl (fun hh => ?_) (fun hh => ?_)
 ·
  refine zaf (zaa (zad (zac) (zad (zac) (zae (zah (zaz (zbd (zaP ?_))))))))
  refine zam [_, _] ⟨rfl, rfl, trivial⟩ ?_
  refine ⟨⟨none, 0, ?_, ?_, ?_, fun b o e => by cases e⟩, hB⟩
  · rw [zhp, hh]; rfl
  · rw [zhp, hh]; exact zaT.nil _ _ _
  · rw [zhp, hh]; exact Nat.le_refl _
 ·
  have hobt : ∃ i : Nat, k = i := ⟨k.toNat, by unfold zjD at hh; simp at hh; omega⟩
  obtain ⟨i, rfl⟩ := hobt
  obtain ⟨s, hsi⟩ : ∃ s, V.slots[i]? = some s := by
    refine ⟨_, List.getElem?_eq_getElem ?_⟩
    unfold zjD at hh
    simp only [Bool.and_eq_true] at hh
    have h2 := hh.2
    rw [Int.toNat_natCast, List.getD_eq_getElem?_getD] at h2
    rcases Nat.lt_or_ge i V.slots.length with h | h
    ·exact h
    ·rw [List.getElem?_eq_none h] at h2; cases h2
  have hil := (List.getElem?_eq_some_iff.1 hsi).1
  have hvv := hv.slts.val hsi
  obtain ⟨q, cq, hv1, hq, hqn, hqc, hqb⟩ := hvv
  have hgr : zhp V.slots (i : Int) = bod s := by rw [zhp, hh, if_pos rfl, Int.toNat_natCast, List.getD_eq_getElem?_getD, hsi]; rfl
  have hsm := hv.some (by omega)
  obtain ⟨g, o, rfl, _, _⟩ := hsm
  refine zau (za6 (zah (zaf (zaa (zad (zav 2) ?_)))))
  refine zad (zax hr6) ?_
  refine zad (zab) ?_
  refine zad (zaX (e := 33) (by kernel_rfl) rfl rfl (i) (by omega) (by omega)) ?_
  refine zad (zaI rfl (Ld.sl1 hv.own.sl (by kernel_rfl) hv1)) ?_
  refine zad (zac) (zad (zac) (zae (zah (zaz ?_))))
  refine zam [_, _] ⟨rfl, rfl, trivial⟩ ?_
  refine ⟨⟨q, cq, ?_, ?_, ?_, fun b o e => Nat.le_trans hb2.size (hqb b o e)⟩, hB⟩
  · rw [hgr, hh]; rfl
  · rw [hgr]; exact hq
  · rw [hgr]; exact hqc
def roomV (V : View) : Int := max (min (512 - (zcp V : Int) - (if zbK V.slots = V.slots.length then 4 else 0)) 400) (-1)
def linkV (V : View) (k : Int) : View := { V with next := k.toNat }
def linkP (V : View) (k : Int) : List UInt8 := if 0 ≤ k ∧ k < 2147483648 then zaD (linkV V k) else zcQ
set_option maxRecDepth 20000 in
set_option maxHeartbeats 1000000 in
theorem link9a (V : View) (m : Nat) (w : World) (hV : Good V) (hm : m < 2147483648) : Calls Tryz.prog 94 [.agg (bv (zaD V)).toArray, .int .i64 (m : Int)].toArray w
  (Ret fun v w' => v = .tuple #[.agg (bv (zaD { V with next := m })).toArray, .int .i64 0] ∧ Below w.heap.size w w') := by
 have hB := Below.refl w.heap.size w
 have hkd := hV.kind
 have hPg := fun w' p c vs lo o h hs => ziH { V with next := m } p c vs w' lo o h hs (by show V.kind < 256; omega) hm hV.size
 have hql : (bv (zaD { V with next := m })).length = 512 := by rw [zal]; exact zbv _ hV.size
 generalize zaD { V with next := m } = Q at hPg hql ⊢
 have hbl := za3 hV
 have hR := zeQ V
 generalize zaD V = Q0 at hR hbl ⊢
 obtain ⟨Z, hzz, hzb, hzl⟩ := zeroQ
 refine zas (fn := Tryz.f94) (rs := [.cell 4 62, .tmp 5]) (n := 29) Tryz.func94 rfl rfl Tryz.ntmps94 (by kernel_rfl) rfl ?_
 refine zaf (zaa ?_)
 refine zay rfl (zaU ((bv Q0)) rfl (fun g2 w2 hg2 hr2 hb2 => ?_))
 replace hB := hB.acc hb2
 refine zay rfl (zar (List.replicate 512 (Value.int .u8 0)) (by kernel_rfl) (fun g4 w4 hg4 hr4 hb4 => ?_))
 have ge_hB_g4 := Nat.le_trans hB.size hg4
 replace hr2 := hr2.new hb4
 replace hB := hB.acc hb4
 rw [hzb] at hr4
 refine zad (zac) (zae (zah (zaf (zaa ?_))))
 refine zad (zbc 512 hr2) ?_
 refine zao rfl (zaj (by kernel_rfl) rfl) (hR w4 hV) ?_
 rintro _ w10 ⟨p, c, vs, rfl, hv, hb10⟩
 replace hr4 := hr4.new hb10
 replace hB := hB.acc hb10
 refine zad (zab) (zad (zai rfl rfl) (zad (zai rfl rfl) ?_))
 have hv0 := hv
 refine zay rfl (zar ([Value.int .i64 0, Value.int .i64 0, Value.slice none 0 0]) (by kernel_rfl) (fun g6 w6 hg6 hr6 hb6 => ?_))
 have ge_hB_g6 := Nat.le_trans hB.size hg6
 have lt_g4_g6 : g4 < g6 := Nat.lt_of_lt_of_le hr4.lt hg6
 replace hr4 := hr4.new hb6
 replace hv := hv.new hb6
 replace hB := hB.acc hb6
 replace hv := (hv0.cons hg6).new hb6
 refine zaG rfl (zaO 3 (vw V p c) hr6 (fun w901 hr6 ho901 => ?_))
 replace hr4 := hr4.only ho901 (Nat.ne_of_lt lt_g4_g6)
 replace hv := hv.only ho901 (by first | (simp; done) | (right; omega))
 replace hB := ho901.below hB ge_hB_g6
 refine zad (zac) (zae (zah (zaf (zaE (zaf (zaa (zad (zab) ?_)))))))
 refine zad (zbS rfl) ?_
 refine zad (zac) (zae (zah ?_))
 refine ziw rfl (rfl) ?_
 refine zaf (zaa (zad (zab) ?_))
 refine zad (za2 rfl rfl) ?_
 refine zad (zab) ?_
 refine zdc 20 rfl ((by omega)) ?_
 refine zan rfl (zad (zab) (zan rfl ?_))
 refine zad (zc2 rfl rfl) ?_
 refine zad (zaw rfl) (zad (zac) (zae (zah ?_)))
 refine zcL rfl ((by omega)) ?_
 refine zau (za6 (zah (zaf (zaa (zad (zab) (zad (zav 1) ?_))))))
 refine zaG rfl (zbg hr6 (fun w902 hr6 ho902 => ?_))
 replace hr4 := hr4.only ho902 (Nat.ne_of_lt lt_g4_g6)
 replace hv := hv.only ho902 (by first | (simp; done) | (right; omega))
 replace hB := ho902.below hB ge_hB_g6
 refine zae (zah (zaf (zaa ?_)))
 refine zad (zbc 3 hr6) ?_
 refine zao rfl (zaj (by kernel_rfl) rfl) (hPg w902 p c vs _ _ hv.own.sl hv.slts) ?_
 rintro _ w28 ⟨rfl, hb28⟩
 replace hr4 := hr4.new hb28
 replace hB := hB.acc hb28
 refine zaG rfl (zaO 512 (bv Q) hr4 (fun w903 hr4 ho903 => ?_))
 replace hB := ho903.below hB ge_hB_g4
 refine zad (zac) (zae (zah (zaz ?_)))
 refine zam [_, _] ⟨⟨_, rfl, Ld.zbX (k := 512) hr4 (by kernel_rfl) (by kernel_rfl) (by first | (simp; done) | (simp [zal, *]; done) | assumption)⟩, rfl, trivial⟩ ?_
 exact ⟨rfl, hB⟩
def zhU (V : View) (r : List UInt8) : Nat := if 400 < r.length then 3 else zfh V (zbK V.slots) r
def znV (V : View) (r : List UInt8) : List UInt8 := if zhU V r = 0 then zaD (zcR V (zbK V.slots) r) else zcQ
set_option maxRecDepth 20000 in
set_option maxHeartbeats 1000000 in
theorem lay8 (V : View) (pr : Option Addr) (cr : Nat) (r : List UInt8) (w : World) (hV : Good V) (hr : zaT w pr r.length 1 (bv r)) : Calls Tryz.prog 92 [.agg (bv (zaD V)).toArray, .slice pr r.length cr].toArray w
   (Ret fun v w' => v = .tuple #[.agg (bv (znV V r)).toArray, .int .i64 (if zhU V r = 0 then zbK V.slots else 0 : Nat), .int .i64 (zhU V r : Nat)] ∧ Below w.heap.size w w') := by
 have hB := Below.refl w.heap.size w
 have hR := zeQ V
 have hbl := za3 hV
 have hfl := zhT V.slots
 obtain ⟨F, hF⟩ : ∃ F, zbK V.slots = F := ⟨_, rfl⟩
 have hFr := free23 V
 rw [hF] at hfl hFr
 have hW := with24' V
 have hWl := zmJ V F r
 have hPE : zfh V F r = 0 ∨ zfh V F r = 8 := by unfold zfh; split <;> simp
 have hPE2 : zfh V F r = 0 → zjZ V F r = zaD (zcR V F r) := by
   unfold zfh zjZ; split
   ·intro h; cases h
   ·intro _; rfl
 rw [znV, zhU, hF]
 obtain ⟨P, hP⟩ : ∃ P, zjZ V F r = P := ⟨_, rfl⟩
 obtain ⟨E, hE⟩ : ∃ E, zfh V F r = E := ⟨_, rfl⟩
 obtain ⟨R, hRr⟩ : ∃ R, zaD (zcR V F r) = R := ⟨_, rfl⟩
 have hW2 := fun p c cr B vs w h1 h2 h3 h4 h5 => hW p pr c cr F B vs r w h1 h2 h3 h4 hfl h5 hV
 rw [hP, hE] at hW2
 rw [hP] at hWl
 rw [hE] at hPE
 rw [hP, hE, hRr] at hPE2
 rw [hE, hRr]
 clear hW hP hE hRr
 generalize zaD V = Q at hR hbl ⊢
 obtain ⟨Z, hzz, hzb, hzl⟩ := zeroQ
 rw [hzz]
 refine zas (fn := Tryz.f92) (rs := [.cell 4 62, .tmp 5, .tmp 6]) (n := 41) Tryz.func92 rfl rfl Tryz.ntmps92 (by kernel_rfl) rfl ?_
 refine zaf (zaa ?_)
 refine zay rfl (zaU ((bv Q)) rfl (fun g2 w2 hg2 hr2 hb2 => ?_))
 replace hB := hB.acc hb2
 refine zay rfl (zar (List.replicate 512 (Value.int .u8 0)) (by kernel_rfl) (fun g4 w4 hg4 hr4 hb4 => ?_))
 have ge_hB_g4 := Nat.le_trans hB.size hg4
 replace hr2 := hr2.new hb4
 replace hB := hB.acc hb4
 rw [hzb] at hr4
 refine zad (zac) (zad (zac) (zae (zah (zaf (zaa ?_)))))
 refine zad (zbc 512 hr2) ?_
 have hszlo := hB.size
 have l4 := hr4.lt
 have hBr := Below.refl w4.heap.size w4
 refine zao rfl (zaj (by kernel_rfl) rfl) (hR w4 hV) ?_
 rintro _ w14 ⟨p, c, vs, rfl, hv, hb14⟩
 replace hr4 := hr4.new hb14
 replace hB := hB.acc hb14
 replace hBr := hBr.acc hb14
 refine zad (zab) (zad (zai rfl rfl) (zad (zai rfl rfl) ?_))
 have hv0 := hv
 refine zay rfl (zar ([Value.int .i64 0, Value.int .i64 0, Value.slice none 0 0]) (by kernel_rfl) (fun g7 w7 hg7 hr7 hb7 => ?_))
 have ge_hB_g7 := Nat.le_trans hB.size hg7
 have ge_hBr_g7 := Nat.le_trans hBr.size hg7
 have lt_g4_g7 : g4 < g7 := Nat.lt_of_lt_of_le hr4.lt hg7
 replace hr4 := hr4.new hb7
 replace hv := hv.new hb7
 replace hB := hB.acc hb7
 replace hBr := hBr.acc hb7
 replace hv := (hv0.cons hg7).new hb7
 refine zaG rfl (zaO 3 (vw V p c) hr7 (fun w901 hr7 ho901 => ?_))
 replace hr4 := hr4.only ho901 (Nat.ne_of_lt lt_g4_g7)
 replace hv := hv.only ho901 (by first | (simp; done) | (right; omega))
 replace hB := ho901.below hB ge_hB_g7
 replace hBr := ho901.below hBr ge_hBr_g7
 refine zad (zac) (zae (zah (zaf (zaE (zaf (zaa (zad (zab) ?_)))))))
 refine zad (zbS rfl) ?_
 refine zad (zac) (zae (zah ?_))
 refine ziw rfl (rfl) ?_
 refine zaf (zaa (zad (zab) ?_))
 refine zad (zaJ (e := 5) (sz := 1) (by kernel_rfl) rfl rfl) ?_
 refine zad (zbu rfl rfl) ?_
 refine zad (zac) (zae (zah ?_))
 refine zbf rfl (fun hlen => ?_) (fun hlen => ?_)
 ·
  refine zaf (zaa ?_)
  refine zad (zbi (bv Z) (by rw [← hzb]; kernel_rfl)) ?_
  refine zaG rfl (zaO 512 (bv Z) hr4 (fun w902 hr4 ho902 => ?_))
  replace hB := ho902.below hB ge_hB_g4
  refine zad (zac) (zad (zac) (zae (zah (zaz (zbd (zaP ?_))))))
  refine zam [_, _, _] ⟨⟨_, rfl, Ld.zbX (k := 512) hr4 (by kernel_rfl) (by kernel_rfl) (by first | (simp; done) | (simp [zal, *]; done) | assumption)⟩, rfl, rfl, trivial⟩ ?_
  have hE0 : (if 400 < r.length then 3 else E) = 3 := if_pos (by omega)
  rw [hE0]
  exact ⟨rfl, hB⟩
 ·
  have hE0 : (if 400 < r.length then 3 else E) = E := if_neg (by omega)
  rw [hE0]
  refine zau (za6 (zah (zaf (zaa ?_))))
  refine zad (zbc 3 hr7) ?_
  refine zao rfl (zaj (by kernel_rfl) rfl) (hFr p c vs w901 _ _ hv.own.sl hv.slts) ?_
  rintro _ w27 ⟨rfl, hb27⟩
  replace hr4 := hr4.new hb27
  replace hv := hv.new hb27
  replace hr7 := hr7.new hb27
  replace hB := hB.acc hb27
  replace hBr := hBr.acc hb27
  refine zad (zac) (zae (zah (zaf (zaa ?_))))
  refine zad (zbc 3 hr7) ?_
  refine zad (zab) (zad (zab) ?_)
  have hrr := fun w' hb => hr.below (w' := w') (hB.trans (Below.mono hb hszlo)) (Nat.le_refl _)
  refine zao rfl (zaj (by kernel_rfl) rfl) (hW2 p c cr _ vs w27 hv.own hv.out hBr.size hrr (by omega)) ?_
  rintro _ w32 ⟨rfl, hb32⟩
  replace hB := hB.trans (hb32.mono hszlo)
  replace hr4 := hr4.below hb32 l4
  refine zad (zab) (zad (zai rfl rfl) (zad (zai rfl rfl) ?_))
  refine zay rfl (zar (List.replicate 512 (Value.int .u8 0)) (by kernel_rfl) (fun g10 w10 hg10 hr10 hb10 => ?_))
  have ge_hB_g10 := Nat.le_trans hB.size hg10
  have lt_g4_g10 : g4 < g10 := Nat.lt_of_lt_of_le hr4.lt hg10
  replace hr4 := hr4.new hb10
  replace hB := hB.acc hb10
  rw [hzb] at hr10
  refine zaG rfl (zaO 512 (bv P) hr10 (fun w903 hr10 ho903 => ?_))
  replace hr4 := hr4.only ho903 (Nat.ne_of_lt lt_g4_g10)
  replace hB := ho903.below hB ge_hB_g10
  refine zad (zac) (zae (zah (zaf (zaf (zaa (zad (zab) ?_))))))
  refine zad (zaM rfl rfl) ?_
  refine zae (zah ?_)
  refine zbf rfl (fun hne => ?_) (fun hne => ?_)
  ·
   refine zaf (zaa ?_)
   refine zad (zbi (bv Z) (by rw [← hzb]; kernel_rfl)) ?_
   refine zad (zab) ?_
   refine zaG rfl (zaO 512 (bv Z) hr4 (fun w904 hr4 ho904 => ?_))
   replace hB := ho904.below hB ge_hB_g4
   refine zad (zac) (zad (zac) (zae (zah (zaz (zaP ?_)))))
   refine zam [_, _, _] ⟨⟨_, rfl, Ld.zbX (k := 512) hr4 (by kernel_rfl) (by kernel_rfl) (by first | (simp; done) | (simp [zal, *]; done) | assumption)⟩, rfl, rfl, trivial⟩ ?_
   rw [if_neg (by omega), if_neg (by omega)]
   exact ⟨rfl, hB⟩
  ·
   refine zau (zah (zaf (zaa ?_)))
   refine zad (zbc 512 hr10) ?_
   refine zad (zab) ?_
   refine zaG rfl (zaO 512 (bv P) hr4 (fun w905 hr4 ho905 => ?_))
   replace hB := ho905.below hB ge_hB_g4
   refine zad (zac) (zad (zac) (zae (zah (zaz ?_))))
   refine zam [_, _, _] ⟨⟨_, rfl, Ld.zbX (k := 512) hr4 (by kernel_rfl) (by kernel_rfl) (by first | (simp; done) | (simp [zal, *]; done) | assumption)⟩, rfl, rfl, trivial⟩ ?_
   have hE1 : E = 0 := by omega
   have hP1 := hPE2 hE1
   refine ⟨?_, hB⟩
   show Value.tuple #[.agg (bv P).toArray, .int .i64 (F : Nat), .int .i64 (0 : Nat)] = _
   rw [if_pos hE1, if_pos hE1, hP1, hE1]
def putE (V : View) (k : Int) (r : List UInt8) : Nat := if 400 < r.length then 3 else if zjD V.slots k then zfh V k.toNat r else 6
def putG (V : View) (k : Int) (r : List UInt8) : List UInt8 := if putE V k r = 0 then zaD (zcR V k.toNat r) else zcQ
theorem zmK {S : List (Option (List UInt8))} {i : Nat} {r : List UInt8} (h : S[i]? = some (some r)) : zjD S (i : Int) = true := by
 rw [zjD, Int.toNat_natCast, List.getD_eq_getElem?_getD, h, decide_eq_true (by omega)]; rfl
def trimS (S : List (Option (List UInt8))) : List (Option (List UInt8)) := (S.reverse.dropWhile Option.isNone).reverse
theorem zkO (S : List (Option (List UInt8))) : trimS (S ++ [none]) = trimS S := by simp [trimS]
theorem ziJ (S : List (Option (List UInt8))) (r : List UInt8) : trimS (S ++ [some r]) = S ++ [some r] := by simp [trimS]
theorem ziK (S : List (Option (List UInt8))) : ∃ k, k ≤ S.length ∧ trimS S = S.take k ∧ (S.take k).getLast? ≠ some none ∧ zby (S.take k) = zby S := by
 induction hn : S.length generalizing S with
 | zero => exact ⟨0, Nat.zero_le _, by rw [List.eq_nil_of_length_eq_zero hn]; rfl, by simp, by rw [List.eq_nil_of_length_eq_zero hn]; rfl⟩
 | succ n ih =>
  rcases List.eq_nil_or_concat S with rfl | ⟨T, s, rfl⟩
  ·simp at hn
  ·rw [List.concat_eq_append] at hn ⊢
   have hT : T.length = n := by simp at hn; omega
   cases s with
   | none =>
    obtain ⟨k, h1, h2, h3, h4⟩ := ih T hT
    refine ⟨k, by omega, ?_, ?_, ?_⟩
    ·rw [zkO, h2, List.take_append_of_le_length (by omega)]
    ·rwa [List.take_append_of_le_length (by omega)]
    ·rw [List.take_append_of_le_length (by omega), h4, zdt]; simp [zby, bod]
   | some r =>
    refine ⟨n + 1, Nat.le_refl _, ?_, ?_, ?_⟩
    ·rw [ziJ, List.take_of_length_le (by simp; omega)]
    ·rw [List.take_of_length_le (by simp; omega)]; simp
    ·rw [List.take_of_length_le (by simp; omega)]
def wtV (V : View) (i : Nat) : View := { V with slots := trimS (V.slots.set i none) }
def takeP (V : View) (k : Int) : List UInt8 := if zjD V.slots k then zaD (wtV V k.toNat) else zcQ
theorem ziL : ∀ (S : List (Option (List UInt8))) (i : Nat), zby (S.set i none) ≤ zby S
 | [], i => by simp
 | t :: S, 0 => by simp [zby, bod]
 | t :: S, i + 1 => by simp only [List.set_cons_succ, zby]; have := ziL S i; omega
theorem zof (V : View) (i : Nat) : zcp (wtV V i) ≤ zcp V := by
 obtain ⟨k, h1, h2, _, h4⟩ := ziK (V.slots.set i none)
 have h5 := ziL V.slots i
 rw [List.length_set] at h1
 unfold zcp wtV
 dsimp only
 rw [h2, h4, List.length_take, List.length_set]
 omega
end Go.Proofs.YtdbogkndglbffaaGreat
namespace Coup
open Go Go.RowKit Go.Maps
def kvL (f : Nat → Option Value) (a : Nat) : Nat → List (Lit × DataW Value)
 | 0 => []
 | m + 1 => match f a with
  | some v => (.int .i64 (a : Int), .held v) :: kvL f (a + 1) m
  | none => kvL f (a + 1) m
theorem zgs {f g : Nat → Option Value} : ∀ (m a : Nat), (∀ i, a ≤ i → i < a + m → f i = g i) → kvL f a m = kvL g a m
 | 0, a, h => rfl
 | m + 1, a, h => by
  rw [kvL, kvL, h a (Nat.le_refl _) (by omega), zgs m (a + 1) (fun i h1 h2 => h i (by omega) (by omega))]
theorem zhV (f : Nat → Option Value) : ∀ m a, (kvL f a m).length ≤ m
 | 0, a => Nat.le_refl _
 | m + 1, a => by
  have := zhV f m (a + 1)
  rw [kvL]; split <;> simp <;> omega
theorem zhW {f : Nat → Option Value} : ∀ {m a : Nat} {x : Lit × DataW Value}, x ∈ kvL f a m → ∃ i, a ≤ i ∧ i < a + m ∧ x.1 = .int .i64 (i : Int)
 | 0, a, x, h => by simp [kvL] at h
 | m + 1, a, x, h => by
  rw [kvL] at h
  split at h
  ·rcases List.mem_cons.1 h with rfl | h
   ·exact ⟨a, Nat.le_refl _, by omega, rfl⟩
   ·obtain ⟨i, h1, h2, h3⟩ := zhW h; exact ⟨i, by omega, by omega, h3⟩
  ·obtain ⟨i, h1, h2, h3⟩ := zhW h; exact ⟨i, by omega, by omega, h3⟩
theorem zdv (a b : Nat) : Lit.sameKey (.int .i64 (a : Int)) (.int .i64 (b : Int)) = decide (a = b) := by
 simp only [Lit.sameKey, true_and]
 by_cases h : a = b
 ·simp [h]
 ·have : ¬ ((a : Int) = b) := by omega
  simp [h, this]
theorem zf7 {f : Nat → Option Value} {i : Nat} : ∀ (m a : Nat), a ≤ i → i < a + m → (kvL f a m).find? (fun p => p.1.sameKey (.int .i64 (i : Int))) = (f i).map fun v => (.int .i64 (i : Int), .held v)
 | 0, a, h1, h2 => by omega
 | m + 1, a, h1, h2 => by
  have hno : ∀ (m' a' : Nat), i < a' → (kvL f a' m').find? (fun p => p.1.sameKey (.int .i64 (i : Int))) = none := fun m' a' h => by
   rw [List.find?_eq_none]
   intro x hx
   obtain ⟨j, h3, h4, h5⟩ := zhW hx
   rw [h5, zdv]; simp; omega
  by_cases h : a = i
  ·subst h
   rw [kvL]
   cases hf : f a with
   | some v => simp only [List.find?_cons, zdv]; simp
   | none => exact hno m (a + 1) (by omega)
  ·rw [kvL]
   have ih := zf7 (f := f) (i := i) m (a + 1) (by omega) (by omega)
   cases hf : f a with
   | some v => simp only [List.find?_cons, zdv]; simp [h, ih]
   | none => exact ih
def zg1 (f : Nat → Option Value) (i : Nat) (v : Option Value) : Nat → Option Value := fun j => if j = i then v else f j
theorem zj0 {f : Nat → Option Value} {i : Nat} : ∀ (m a : Nat), (kvL f a m).filter (fun p => !p.1.sameKey (.int .i64 (i : Int))) = kvL (zg1 f i none) a m
 | 0, a => rfl
 | m + 1, a => by
  have ih := zj0 (f := f) (i := i) m (a + 1)
  rw [kvL, kvL]
  by_cases h : a = i
  ·rw [show zg1 f i none a = none from if_pos h]
   cases hf : f a with
   | some v => subst h; simp only [List.filter_cons, zdv]; simpa using ih
   | none => exact ih
  ·rw [show zg1 f i none a = f a from if_neg h]
   cases hf : f a with
   | some v => simp only [List.filter_cons, zdv]; simp [h, ih]
   | none => exact ih
theorem zmL {f : Nat → Option Value} {i : Nat} {v : Value} : ∀ (m a : Nat), f i = none → a ≤ i → i < a + m → DataW.insert (.int .i64 (i : Int), .held v) (kvL f a m) = kvL (zg1 f i (some v)) a m
 | 0, a, _, h1, h2 => by omega
 | m + 1, a, hn, h1, h2 => by
  rw [kvL, kvL]
  by_cases h : a = i
  ·subst h
   rw [show zg1 f a (some v) a = some v from if_pos rfl, hn]
   have e : kvL (zg1 f a (some v)) (a + 1) m = kvL f (a + 1) m := zgs m (a + 1) fun j h3 h4 => if_neg (by omega)
   simp only [e]
   cases hk : kvL f (a + 1) m with
   | nil => rfl
   | cons y r =>
    obtain ⟨j, h3, h4, h5⟩ := zhW (f := f) (x := y) (m := m) (a := a + 1) (by rw [hk]; exact List.mem_cons_self ..)
    rw [DataW.insert]
    rw [if_pos (by rw [h5]; simp [Lit.before]; omega)]
  ·rw [show zg1 f i (some v) a = f a from if_neg h]
   have ih := zmL (f := f) (i := i) (v := v) m (a + 1) hn (by omega) (by omega)
   cases hf : f a with
   | some u =>
    simp only
    rw [DataW.insert, if_neg (by simp [Lit.before]; omega), ih]
   | none => exact ih
def RH : Value → Option (DataW Value × List MemPlace) := fun v => some (.held v, [])
def MapAt (P : Program) (k : TypeId) (w : World) (m N : Nat) (f : Nat → Option Value) : Prop := w.ownsMap P k RH m N (.map (kvL f 0 N))
theorem zhX {P : Program} {k : TypeId} {R : Value → Option (DataW Value × List MemPlace)} {w : World} {b n N : Nat} {es : List (Lit × DataW Value)} (h : w.ownsMap P k R b n (.map es)) (hN : es.length ≤ N) : w.ownsMap P k R b N (.map es) := by
 obtain ⟨e, clock, hb, F, hs, hD⟩ := h
 refine ⟨e, clock, hb, F, ?_, hD⟩
 have h1 : es = (e.toList.map (Go.WideElems.rg P k R)).foldr DataW.insert [] := by injection hD
 have h2 := length_sorted (e.toList.map (Go.WideElems.rg P k R))
 rw [← h1] at h2
 simp at h2
 omega
namespace MapAt
variable {P : Program} {k : TypeId} {w w' : World} {m N : Nat} {f : Nat → Option Value}
theorem lt (h : MapAt P k w m N f) : m < w.heap.size := World.ownsMap.lt h
theorem same (h : MapAt P k w m N f) (he : w'.heap[m]? = w.heap[m]?) : MapAt P k w' m N f := by
 obtain ⟨es, clock, hb, r⟩ := h
 exact ⟨es, clock, he.trans hb, r⟩
theorem kpd {M : List Nat} (h : MapAt P k w m N f) (hk : Kp M w w') (hM : m ∉ M) : MapAt P k w' m N f := h.same (hk.block m h.lt hM)
theorem new (h : MapAt P k w m N f) (hb : Below w.heap.size w w') : MapAt P k w' m N f := h.kpd (M := []) (Kp.of_below hb) (fun h => by cases h)
theorem only {g : Nat} (h : MapAt P k w m N f) (ho : Only g w w') (hg : m ≠ g) : MapAt P k w' m N f := h.kpd (Kp.za7 ho) (by simpa using hg)
theorem own {base e sz n : Nat} {v : Value} {xs : List Value} (h : MapAt P k w m N f) (ho : zaB w base e sz v n xs) (hg : w.grownBy w' v.ownBlock) (hk : m < base) : MapAt P k w' m N f := h.kpd (Kp.za8 hg) fun hm => by
 have := (ho.lt m (Option.mem_toList.1 hm)).1; omega
end MapAt
structure KpB (M : List Nat) (w0 w : World) : Prop where
 k : Kp M w0 w
namespace KpB
variable {M : List Nat} {w0 w w' : World}
theorem refl (M : List Nat) (w : World) : KpB M w w := ⟨Kp.refl M w⟩
theorem kpd {N : List Nat} (h : KpB M w0 w) (k : Kp N w w') (hN : ∀ g, g ∈ N → g ∈ M ∨ w0.heap.size ≤ g) : KpB M w0 w' :=
 ⟨⟨k.os.trans h.k.os, k.tape.trans h.k.tape, k.output.trans h.k.output, Nat.le_trans h.k.size k.size, fun b hb hm => by
  rw [k.block b (Nat.lt_of_lt_of_le hb h.k.size) fun hn => ?_]
  ·exact h.k.block b hb hm
  ·rcases hN b hn with e | e
   ·exact hm e
   ·omega⟩⟩
theorem new (h : KpB M w0 w) (hb : Below w.heap.size w w') : KpB M w0 w' := h.kpd (N := []) (Kp.of_below hb) (fun g hm => by cases hm)
theorem only {g : Nat} (h : KpB M w0 w) (ho : Only g w w') (hg : g ∈ M ∨ w0.heap.size ≤ g) : KpB M w0 w' := h.kpd (Kp.za7 ho) fun g' hm => by
 have : g' = g := by simpa using hm
 rw [this]; exact hg
theorem own {base e sz m : Nat} {v : Value} {xs : List Value} (h : KpB M w0 w) (ho : zaB w base e sz v m xs) (hg : w.grownBy w' v.ownBlock) (hk : w0.heap.size ≤ base) : KpB M w0 w' :=
 h.kpd (Kp.za8 hg) fun g hm => Or.inr (Nat.le_trans hk (ho.lt g (Option.mem_toList.1 hm)).1)
end KpB
theorem zeR {w w' : World} {b : Nat} (h : w.mapTurned w' b) : Only b w w' := by
 obtain ⟨es, clock, es', clock', hb, rfl⟩ := h
 exact ⟨rfl, rfl, rfl, by simp [Go.ChangeMaps.setBlock], fun k hk => Go.ChangeMaps.heap_setBlock_other hb _ hk⟩
section
variable {P : Program} {ρ : Env} {w : World} {d : Option Nat} {ty : TypeId} {pos : String} {af : Array Edge} {gd : Option (Nat × Bool)} {K : Value → World → Prop} {Kw : World → Prop}
theorem zog {t t' : Nat} {x y : Operand} {a : Addr} (ht : ptrT P t = true) (hx : ev ρ x = .pointer (some a)) (hy : ev ρ y = .pointer none) : (execOp (ev ρ) ⟨d, .binOp .neq t x y t', ty, pos, af, gd⟩).run P w = .ok (.value (.bool true)) w := by
 have := ziG (w := w) ht 9999 a
 simp [execOp, hx, hy, eqGuard, binOp, Op.equal, Op.maxDepth, this, Result.andThen]
theorem zkP {i : Nat} (h : i < 9223372036854775808) : (Lit.int .i64 (i : Int)).wf = true := by
 have e1 : IntKind.i64.min = -9223372036854775808 := by decide
 have e2 : IntKind.i64.max = 9223372036854775807 := by decide
 simp [Lit.wf, e1, e2]; omega
theorem zlx {t k e : TypeId} {x y : Operand} {m N : Nat} {f : Nat → Option Value} {a : Int} (z : Value) (ht : P.underlying t = some (.map k e)) (hk : P.underlying k = some (.int .i64)) (hz : ∀ w, (zeroValue e).run P w = .ok z w)
  (hm : MapAt P k w m N f) (hx : ev ρ x = .map (some m)) (hy : ev ρ y = .int .i64 a) (i : Nat) (ha : a = (i : Int)) (hi : i < N) (hN : N ≤ 1000000) :
  (execOp (ev ρ) ⟨d, .lookup t x y false, ty, pos, af, gd⟩).run P w = .ok (.value ((f i).getD z)) w := by
 subst ha
 obtain ⟨v, ps, hr, hv⟩ := World.ownsMap.lookup hm (int_keyed hk) ht (hz w) (zd := .held z) (zp := []) rfl (keyOf_int_mk hk (zkP (i := i) (by omega)))
 have e : DataW.atKey (.map (kvL f 0 N)) (.int .i64 (i : Int)) (.held z) = .held ((f i).getD z) := by
  unfold DataW.atKey
  simp only [zf7 N 0 (Nat.zero_le _) (by omega : i < 0 + N)]
  cases f i <;> rfl
 rw [e] at hv
 have : v = (f i).getD z := by
  have h1 : (some (DataW.held v, ([] : List MemPlace))) = some (.held ((f i).getD z), ps) := hv
  injection h1 with h1
  injection h1 with h1 h2
  injection h1
 subst this
 simp [execOp, hx, hy, hr, Result.andThen]
theorem zeu {t k e : TypeId} {x y : Operand} {m N : Nat} {f : Nat → Option Value} {a : Int} {v : Value} (z : Value) (ht : P.underlying t = some (.map k e)) (hk : P.underlying k = some (.int .i64)) (hz : ∀ w, (zeroValue e).run P w = .ok z w)
  (hm : MapAt P k w m N f) (hx : ev ρ x = .map (some m)) (hy : ev ρ y = .int .i64 a) (i : Nat) (ha : a = (i : Int)) (hi : i < N) (hN : N ≤ 1000000) (hv : (f i).getD z = v) :
  (execOp (ev ρ) ⟨d, .lookup t x y false, ty, pos, af, gd⟩).run P w = .ok (.value v) w := by
 rw [← hv]; exact zlx z ht hk hz hm hx hy i ha hi hN
theorem zeh {t k e : TypeId} {x y u : Operand} {m N : Nat} {f : Nat → Option Value} {a : Int} (v : Value) (ht : P.underlying t = some (.map k e)) (hk : P.underlying k = some (.int .i64))
  (hm : MapAt P k w m N f) (hx : ev ρ x = .map (some m)) (hy : ev ρ y = .int .i64 a) (hu : ev ρ u = v) (i : Nat) (ha : a = (i : Int)) (hi : i < N) (hN : N ≤ 1000000)
  (h : ∀ w', MapAt P k w' m N (zg1 f i (some v)) → Only m w w' → Kw w') : Sk P ρ w ⟨d, .mapUpdate t x y u, ty, pos, af, gd⟩ Kw := by
 subst ha
 obtain ⟨w', hr, h1, h2⟩ := World.ownsMap.store hm (int_keyed hk) ht (by unfold maxLen; omega) (keyOf_int_mk hk (zkP (i := i) (by omega))) (val := v) (d := .held v) (ps := []) rfl
 refine ⟨w', ?_, h w' ?_ (zeR h2)⟩
 ·simp [execOp, hx, hy, hu, hr, Result.andThen]
 ·have e : DataW.put (.map (kvL f 0 N)) (.int .i64 (i : Int)) (.held v) = .map (kvL (zg1 f i (some v)) 0 N) := by
   unfold DataW.put
   simp only [zj0]
   rw [zmL N 0 (if_pos rfl) (Nat.zero_le _) (by omega)]
   congr 1
   exact zgs N 0 fun j _ _ => by unfold zg1; split <;> rfl
  rw [e] at h1
  exact zhX h1 (zhV _ _ _)
theorem ziM {t k e : TypeId} {x y : Operand} {m N : Nat} {f : Nat → Option Value} {a : Int} (ht : P.underlying t = some (.map k e)) (hk : P.underlying k = some (.int .i64))
  (hm : MapAt P k w m N f) (hx : ev ρ x = .map (some m)) (hy : ev ρ y = .int .i64 a) (i : Nat) (ha : a = (i : Int)) (hi : i < N) (hN : N ≤ 1000000)
  (h : ∀ w', MapAt P k w' m N (zg1 f i none) → Only m w w' → K (.tuple #[]) w') : Mk P ρ w ⟨d, .call ⟨.builtin .delete, #[x, y], #[t, k]⟩, ty, pos, af, gd⟩ K := by
 subst ha
 obtain ⟨w', hr, h1, h2⟩ := World.ownsMap.drop hm (int_keyed hk) ht (keyOf_int_mk hk (zkP (i := i) (by omega))) ty
 refine ⟨_, w', ?_, h w' ?_ (zeR h2)⟩
 ·simp [execOp, resolve, invoke, builtin, hx, hy, hr, Result.andThen]
 ·have e : DataW.del (.map (kvL f 0 N)) (.int .i64 (i : Int)) = .map (kvL (zg1 f i none) 0 N) := by
   unfold DataW.del
   simp only [zj0]
  rw [e] at h1
  exact h1
theorem zhY : ∀ m a, kvL (fun _ => none) a m = []
 | 0, a => rfl
 | m + 1, a => by rw [kvL]; exact zhY m (a + 1)
theorem zev {t k : TypeId} (N : Nat) (h : ∀ m w', w.heap.size ≤ m → MapAt P k w' m N (fun _ => none) → Below w.heap.size w w' → K (.map (some m)) w') : Mk P ρ w ⟨d, .makeMap t none, ty, pos, af, gd⟩ K := by
 refine ⟨_, _, ?_, h w.heap.size (w.alloc (.map #[] 0)) (Nat.le_refl _) ?_ (zb6 w _)⟩
 ·simp only [execOp]
  first
   | rfl
   | simp [run_makeMap, Result.andThen]
 ·unfold MapAt
  rw [zhY]
  exact World.ownsMap.mono (World.ownsMap_made w P k RH) (Nat.zero_le _)
end
end Coup
