/- The operations in the small machine, one law each. -/
import Derived.Test.YtpndhildmfmcgaaVm1
namespace Coup
open Go Go.RowKit

def canCall (P : Program) (f : FuncId) : Bool := match P.funcs[f]? with | some fn => !(fn.name == "runtime.NumGoroutine") && fn.body.isSome | none => false
def sizeIs (P : Program) (t : TypeId) (k : Nat) : Bool := match P.info? t with | some i => Nat.beq i.size k | none => false
def sliceOf (P : Program) (t e k : Nat) : Bool := (match P.underlying t with | some (.slice e') => Nat.beq e' e | _ => false) && sizeIs P e k
def arrayOf (P : Program) (t m e k : Nat) : Bool := (match P.underlying t with | some (.array m' e') => Nat.beq e' e && Nat.beq m' m | _ => false) && sizeIs P e k
def isRowT (P : Program) (t : TypeId) : Bool := (P.underlying t).any (·.isRow)
def isOneT (P : Program) (t : TypeId) : Bool := match P.underlying t with | some d => !d.isRow | none => false
def intT (P : Program) (t : TypeId) (k : IntKind) : Bool := match P.underlying t with | some (.int k') => decide (k' = k) | _ => false
def fieldOf (P : Program) (t i off : Nat) : Bool := match P.underlying t with | some (.struct fs) => (match fs[i]? with | some f => Nat.beq f.offset off && (match P.info? f.type with | some ii => Nat.blt 0 ii.size | none => false) | none => false) | _ => false
def fieldT (P : Program) (t i off ft : Nat) : Bool := match P.underlying t with | some (.struct fs) => (match fs[i]? with | some f => Nat.beq f.offset off && Nat.beq f.type ft | none => false) | _ => false

section
variable {P : Program} {ρ : Env} {w : World} {d : Option Nat} {ty : TypeId} {pos : String} {af : Array Edge} {gd : Option (Nat × Bool)}

theorem sizeIs_info {t k : Nat} (h : sizeIs P t k = true) : ∃ i, P.info? t = some i ∧ i.size = k := by
  unfold sizeIs at h
  cases hi : P.info? t with
  | none => simp [hi] at h
  | some i => rw [hi] at h; exact ⟨i, rfl, Nat.eq_of_beq_eq_true h⟩
theorem sizeIs_map {t k : Nat} (h : sizeIs P t k = true) : (P.info? t).map (·.size) = some k := by
  obtain ⟨i, h1, h2⟩ := sizeIs_info h; simp [h1, h2]
theorem sliceOf_split {t e k : Nat} (h : sliceOf P t e k = true) : P.underlying t = some (.slice e) ∧ sizeIs P e k = true := by
  unfold sliceOf at h
  simp only [Bool.and_eq_true] at h
  refine ⟨?_, h.2⟩
  have := h.1
  split at this
  · rename_i e' hu; rw [hu, Nat.eq_of_beq_eq_true this]
  · cases this
theorem arrayOf_split {t m e k : Nat} (h : arrayOf P t m e k = true) : P.underlying t = some (.array m e) ∧ sizeIs P e k = true := by
  unfold arrayOf at h
  simp only [Bool.and_eq_true] at h
  refine ⟨?_, h.2⟩
  have := h.1
  split at this
  · rename_i m' e' hu
    simp only [Bool.and_eq_true] at this
    rw [hu, Nat.eq_of_beq_eq_true this.1, Nat.eq_of_beq_eq_true this.2]
  · cases this
theorem isOneT_agg {t : Nat} (h : isOneT P t = true) (w : World) : (isAgg t).run P w = .ok false w := by
  unfold isOneT at h
  cases hu : P.underlying t with
  | none => simp [hu] at h
  | some dd =>
    rw [hu] at h
    simp only [isAgg, Sem.run_bind, run_underlying hu, Result.andThen_ok]
    cases dd <;> first | rfl | (simp [TypeDesc.isRow] at h)

/-! ### Plain operations -/
theorem rn_move {x : Operand} : (execOp (ev ρ) ⟨d, .move x, ty, pos, af, gd⟩).run P w = .ok (.value (ev ρ x)) w := rfl
theorem rn_assign {x : Operand} : (execOp (ev ρ) ⟨d, .assign x, ty, pos, af, gd⟩).run P w = .ok (.value (ev ρ x)) w := rfl
theorem rn_movev {x : Operand} {v : Value} (h : ev ρ x = v) : (execOp (ev ρ) ⟨d, .move x, ty, pos, af, gd⟩).run P w = .ok (.value v) w := by rw [rn_move, h]
theorem rn_assignv {x : Operand} {v : Value} (h : ev ρ x = v) : (execOp (ev ρ) ⟨d, .assign x, ty, pos, af, gd⟩).run P w = .ok (.value v) w := by rw [rn_assign, h]
theorem rn_pick {c a b : Operand} {t : Bool} (h : ev ρ c = .bool t) : (execOp (ev ρ) ⟨d, .pick c a b, ty, pos, af, gd⟩).run P w = .ok (.value (if t then ev ρ a else ev ρ b)) w := by
  simp [execOp, h, asBool, Result.andThen]
theorem rn_pick_t {c a b : Operand} (h : ev ρ c = .bool true) : (execOp (ev ρ) ⟨d, .pick c a b, ty, pos, af, gd⟩).run P w = .ok (.value (ev ρ a)) w := by rw [rn_pick h]; rfl
theorem rn_pick_f {c a b : Operand} (h : ev ρ c = .bool false) : (execOp (ev ρ) ⟨d, .pick c a b, ty, pos, af, gd⟩).run P w = .ok (.value (ev ρ b)) w := by rw [rn_pick h]; rfl
theorem w64 {c : Int} (h : -9223372036854775808 ≤ c ∧ c ≤ 9223372036854775807) : IntKind.i64.wrap c = c := by rw [IntKind.wrap_i64]; omega
theorem wu64 {c : Int} (h : 0 ≤ c ∧ c ≤ 18446744073709551615) : IntKind.u64.wrap c = c := by rw [IntKind.wrap_u64]; omega
theorem rn_add {k : IntKind} {t t' : TypeId} {x y : Operand} {a b c : Int} (hx : ev ρ x = .int k a) (hy : ev ρ y = .int k b) (hc : k.wrap (a + b) = c) :
    (execOp (ev ρ) ⟨d, .binOp .add t x y t', ty, pos, af, gd⟩).run P w = .ok (.value (.int k c)) w := by
  subst hc; simp [execOp, hx, hy, eqGuard, binOp, Op.intArith, Result.andThen]
theorem rn_sub {k : IntKind} {t t' : TypeId} {x y : Operand} {a b c : Int} (hx : ev ρ x = .int k a) (hy : ev ρ y = .int k b) (hc : k.wrap (a - b) = c) :
    (execOp (ev ρ) ⟨d, .binOp .sub t x y t', ty, pos, af, gd⟩).run P w = .ok (.value (.int k c)) w := by
  subst hc; simp [execOp, hx, hy, eqGuard, binOp, Op.intArith, Result.andThen]
theorem rn_mul {k : IntKind} {t t' : TypeId} {x y : Operand} {a b c : Int} (hx : ev ρ x = .int k a) (hy : ev ρ y = .int k b) (hc : k.wrap (a * b) = c) :
    (execOp (ev ρ) ⟨d, .binOp .mul t x y t', ty, pos, af, gd⟩).run P w = .ok (.value (.int k c)) w := by
  subst hc; simp [execOp, hx, hy, eqGuard, binOp, Op.intArith, Result.andThen]
theorem rn_quo {k : IntKind} {t t' : TypeId} {x y : Operand} {a b c : Int} (hx : ev ρ x = .int k a) (hy : ev ρ y = .int k b) (hb : b ≠ 0) (hc : k.wrap (a.tdiv b) = c) :
    (execOp (ev ρ) ⟨d, .binOp .quo t x y t', ty, pos, af, gd⟩).run P w = .ok (.value (.int k c)) w := by
  subst hc; simp [execOp, hx, hy, eqGuard, binOp, Op.intDiv, Result.andThen, hb]
theorem rn_rem {k : IntKind} {t t' : TypeId} {x y : Operand} {a b c : Int} (hx : ev ρ x = .int k a) (hy : ev ρ y = .int k b) (hb : b ≠ 0) (hc : a.tmod b = c) :
    (execOp (ev ρ) ⟨d, .binOp .rem t x y t', ty, pos, af, gd⟩).run P w = .ok (.value (.int k c)) w := by
  subst hc; simp [execOp, hx, hy, eqGuard, binOp, Op.intDiv, Result.andThen, hb]
theorem qd {a b : Int} (ha : 0 ≤ a) : a.tdiv b = a / b := Int.tdiv_eq_ediv_of_nonneg ha
theorem rm {a b : Int} (ha : 0 ≤ a) : a.tmod b = a % b := Int.tmod_eq_emod_of_nonneg ha
/-- Quotient and remainder of numbers of 0 or more. -/
theorem rn_quo0 {t t' : TypeId} {x y : Operand} {a b : Int} (hx : ev ρ x = .int .i64 a) (hy : ev ρ y = .int .i64 b) (ha : 0 ≤ a ∧ a ≤ 9223372036854775807) (hb : 0 < b) :
    (execOp (ev ρ) ⟨d, .binOp .quo t x y t', ty, pos, af, gd⟩).run P w = .ok (.value (.int .i64 (a / b))) w := by
  refine rn_quo hx hy (by omega) ?_
  rw [qd ha.1, w64]
  have h1 : 0 ≤ a / b := Int.ediv_nonneg ha.1 (by omega)
  have h2 : a / b ≤ a := Int.ediv_le_self _ ha.1
  omega
theorem rn_rem0 {t t' : TypeId} {x y : Operand} {a b : Int} {k : IntKind} (hx : ev ρ x = .int k a) (hy : ev ρ y = .int k b) (ha : 0 ≤ a) (hb : 0 < b) :
    (execOp (ev ρ) ⟨d, .binOp .rem t x y t', ty, pos, af, gd⟩).run P w = .ok (.value (.int k (a % b))) w := rn_rem hx hy (by omega) (rm ha)
theorem rn_quou {t t' : TypeId} {x y : Operand} {a b : Int} (hx : ev ρ x = .int .u64 a) (hy : ev ρ y = .int .u64 b) (ha : 0 ≤ a ∧ a ≤ 18446744073709551615) (hb : 0 < b) :
    (execOp (ev ρ) ⟨d, .binOp .quo t x y t', ty, pos, af, gd⟩).run P w = .ok (.value (.int .u64 (a / b))) w := by
  refine rn_quo hx hy (by omega) ?_
  rw [qd ha.1, wu64]
  have h1 : 0 ≤ a / b := Int.ediv_nonneg ha.1 (by omega)
  have h2 : a / b ≤ a := Int.ediv_le_self _ ha.1
  omega
theorem rn_shl {k k' : IntKind} {t t' : TypeId} {x y : Operand} {a b c : Int} (hx : ev ρ x = .int k a) (hy : ev ρ y = .int k' b) (hb : 0 ≤ b) (hc : k.wrap (a * 2 ^ (min b.toNat k.bits)) = c) :
    (execOp (ev ρ) ⟨d, .binOp .shl t x y t', ty, pos, af, gd⟩).run P w = .ok (.value (.int k c)) w := by
  subst hc; simp [execOp, hx, hy, eqGuard, binOp, Op.shift, Result.andThen, Int.not_lt.2 hb]
theorem rn_shr {k k' : IntKind} {t t' : TypeId} {x y : Operand} {a b c : Int} (hx : ev ρ x = .int k a) (hy : ev ρ y = .int k' b) (hb : 0 ≤ b) (hc : a.fdiv (2 ^ (min b.toNat k.bits)) = c) :
    (execOp (ev ρ) ⟨d, .binOp .shr t x y t', ty, pos, af, gd⟩).run P w = .ok (.value (.int k c)) w := by
  subst hc; simp [execOp, hx, hy, eqGuard, binOp, Op.shift, Result.andThen, Int.not_lt.2 hb]
theorem rn_or {k : IntKind} {t t' : TypeId} {x y : Operand} {a b c : Int} (hx : ev ρ x = .int k a) (hy : ev ρ y = .int k b) (hc : k.wrap ((BitVec.ofInt k.bits a ||| BitVec.ofInt k.bits b).toNat : Int) = c) :
    (execOp (ev ρ) ⟨d, .binOp .or t x y t', ty, pos, af, gd⟩).run P w = .ok (.value (.int k c)) w := by
  subst hc; simp [execOp, hx, hy, eqGuard, binOp, Op.intBits, Result.andThen]
theorem rn_and {k : IntKind} {t t' : TypeId} {x y : Operand} {a b c : Int} (hx : ev ρ x = .int k a) (hy : ev ρ y = .int k b) (hc : k.wrap ((BitVec.ofInt k.bits a &&& BitVec.ofInt k.bits b).toNat : Int) = c) :
    (execOp (ev ρ) ⟨d, .binOp .and t x y t', ty, pos, af, gd⟩).run P w = .ok (.value (.int k c)) w := by
  subst hc; simp [execOp, hx, hy, eqGuard, binOp, Op.intBits, Result.andThen]
theorem rn_xor {k : IntKind} {t t' : TypeId} {x y : Operand} {a b c : Int} (hx : ev ρ x = .int k a) (hy : ev ρ y = .int k b) (hc : k.wrap ((BitVec.ofInt k.bits a ^^^ BitVec.ofInt k.bits b).toNat : Int) = c) :
    (execOp (ev ρ) ⟨d, .binOp .xor t x y t', ty, pos, af, gd⟩).run P w = .ok (.value (.int k c)) w := by
  subst hc; simp [execOp, hx, hy, eqGuard, binOp, Op.intBits, Result.andThen]
theorem rn_lss {k : IntKind} {t t' : TypeId} {x y : Operand} {a b : Int} (hx : ev ρ x = .int k a) (hy : ev ρ y = .int k b) :
    (execOp (ev ρ) ⟨d, .binOp .lss t x y t', ty, pos, af, gd⟩).run P w = .ok (.value (.bool (decide (a < b)))) w := by
  simp [execOp, hx, hy, eqGuard, binOp, Op.intCmp, Result.andThen]
theorem rn_leq {k : IntKind} {t t' : TypeId} {x y : Operand} {a b : Int} (hx : ev ρ x = .int k a) (hy : ev ρ y = .int k b) :
    (execOp (ev ρ) ⟨d, .binOp .leq t x y t', ty, pos, af, gd⟩).run P w = .ok (.value (.bool (decide (a ≤ b)))) w := by
  simp [execOp, hx, hy, eqGuard, binOp, Op.intCmp, Result.andThen]
theorem rn_gtr {k : IntKind} {t t' : TypeId} {x y : Operand} {a b : Int} (hx : ev ρ x = .int k a) (hy : ev ρ y = .int k b) :
    (execOp (ev ρ) ⟨d, .binOp .gtr t x y t', ty, pos, af, gd⟩).run P w = .ok (.value (.bool (decide (b < a)))) w := by
  simp [execOp, hx, hy, eqGuard, binOp, Op.intCmp, Result.andThen]
theorem rn_geq {k : IntKind} {t t' : TypeId} {x y : Operand} {a b : Int} (hx : ev ρ x = .int k a) (hy : ev ρ y = .int k b) :
    (execOp (ev ρ) ⟨d, .binOp .geq t x y t', ty, pos, af, gd⟩).run P w = .ok (.value (.bool (decide (b ≤ a)))) w := by
  simp [execOp, hx, hy, eqGuard, binOp, Op.intCmp, Result.andThen]
theorem rn_eql {k : IntKind} {t t' : TypeId} {x y : Operand} {a b : Int} (hx : ev ρ x = .int k a) (hy : ev ρ y = .int k b) :
    (execOp (ev ρ) ⟨d, .binOp .eql t x y t', ty, pos, af, gd⟩).run P w = .ok (.value (.bool (decide (a = b)))) w := by
  have : (a == b) = decide (a = b) := rfl
  simp [execOp, hx, hy, eqGuard, binOp, Op.intCmp, Result.andThen, this]
theorem rn_neq {k : IntKind} {t t' : TypeId} {x y : Operand} {a b : Int} (hx : ev ρ x = .int k a) (hy : ev ρ y = .int k b) :
    (execOp (ev ρ) ⟨d, .binOp .neq t x y t', ty, pos, af, gd⟩).run P w = .ok (.value (.bool (decide (a ≠ b)))) w := by
  have : (a != b) = decide (a ≠ b) := by by_cases h : a = b <;> simp [bne, h]
  simp only [execOp, hx, hy, eqGuard, binOp, Op.intCmp, this]
  simp [Result.andThen]
theorem rn_not {t : TypeId} {x : Operand} {b : Bool} (hx : ev ρ x = .bool b) : (execOp (ev ρ) ⟨d, .unOp .not t x, ty, pos, af, gd⟩).run P w = .ok (.value (.bool (!b))) w := by
  simp [execOp, hx, Op.unary, Result.andThen]
theorem rn_neg {t : TypeId} {x : Operand} {k : IntKind} {a c : Int} (hx : ev ρ x = .int k a) (hc : k.wrap (0 - a) = c) : (execOp (ev ρ) ⟨d, .unOp .neg t x, ty, pos, af, gd⟩).run P w = .ok (.value (.int k c)) w := by
  subst hc; simp [execOp, hx, Op.unary, Op.intArith, Result.andThen]
theorem rn_conv {s t : TypeId} {x : Operand} {k0 k : IntKind} {a c : Int} (hs : (P.underlying s).isSome = true) (hk : intT P t k = true) (hx : ev ρ x = .int k0 a) (hc : k.wrap a = c) :
    (execOp (ev ρ) ⟨d, .convert s t x, ty, pos, af, gd⟩).run P w = .ok (.value (.int k c)) w := by
  subst hc
  unfold intT at hk
  cases hu : P.underlying t with
  | none => simp [hu] at hk
  | some dd =>
    rw [hu] at hk
    cases dd <;> simp at hk
    subst hk
    obtain ⟨ds, hds⟩ := Option.isSome_iff_exists.1 hs
    simp only [execOp, hx, convert, Sem.run_bind, run_underlying hds, run_underlying hu, Result.andThen_ok]
    cases ds <;> simp [Conv.intToInt, Result.andThen]
theorem rn_extract {x : Operand} {i : Nat} {vs : List Value} (hx : ev ρ x = .tuple vs.toArray) {v : Value} (hv : vs[i]? = some v) : (execOp (ev ρ) ⟨d, .extract x i, ty, pos, af, gd⟩).run P w = .ok (.value v) w := by
  simp [execOp, hx, Instr.extract, hv, Result.andThen]
theorem rn_makeFunc {fn : Fn} {fs cs : List Operand} : (execOp (ev ρ) ⟨d, .makeFunc fn fs.toArray cs.toArray, ty, pos, af, gd⟩).run P w = .ok (.value (.func fn (fs.map (ev ρ)).toArray (cs.map (ev ρ)).toArray)) w := by
  simp [execOp, Instr.makeFunc, Result.andThen]

/-! ### Addresses -/
theorem rn_indexSl {t e sz : Nat} {x i : Operand} {g off len cap : Nat} {k : IntKind} {a : Int} (ht : sliceOf P t e sz = true) (hx : ev ρ x = .slice (some ⟨g, off, none⟩) len cap) (hi : ev ρ i = .int k a) (j : Nat) (hj : a = (j : Int)) (hlt : j < len) :
    (execOp (ev ρ) ⟨d, .indexAddr t x i, ty, pos, af, gd⟩).run P w = .ok (.value (.pointer (some ⟨g, off + j * sz, none⟩))) w := by
  obtain ⟨hu, hs⟩ := sliceOf_split ht
  obtain ⟨ie, h1, h2⟩ := sizeIs_info hs
  subst hj
  have : ¬ ((len : Int) ≤ 1 ∧ False) := by simp
  simp [execOp, hx, hi, Instr.indexAt, asIntOf, run_underlying hu, Go.sizeOf, typeInfo, h1, h2, hlt, Addr.add_lit, Result.andThen]
theorem rn_indexAr {t m e sz : Nat} {x i : Operand} {g off : Nat} {k : IntKind} {a : Int} (ht : arrayOf P t m e sz = true) (hx : ev ρ x = .pointer (some ⟨g, off, none⟩)) (hi : ev ρ i = .int k a) (j : Nat) (hj : a = (j : Int)) (hlt : j < m) :
    (execOp (ev ρ) ⟨d, .indexAddr t x i, ty, pos, af, gd⟩).run P w = .ok (.value (.pointer (some ⟨g, off + j * sz, none⟩))) w := by
  obtain ⟨hu, hs⟩ := arrayOf_split ht
  obtain ⟨ie, h1, h2⟩ := sizeIs_info hs
  subst hj
  simp [execOp, hx, hi, Instr.indexAt, Instr.sureAddr, asIntOf, run_underlying hu, Go.sizeOf, typeInfo, h1, h2, hlt, Addr.add_lit, Result.andThen]
theorem rn_fieldAddr {t i off : Nat} {x : Operand} {g o : Nat} (ht : fieldOf P t i off = true) (hx : ev ρ x = .pointer (some ⟨g, o, none⟩)) :
    (execOp (ev ρ) ⟨d, .fieldAddr t x i, ty, pos, af, gd⟩).run P w = .ok (.value (.pointer (some ⟨g, o + off, none⟩))) w := by
  unfold fieldOf at ht
  cases hu : P.underlying t with
  | none => simp [hu] at ht
  | some dd =>
    rw [hu] at ht
    cases dd <;> try (simp at ht; done)
    rename_i fs
    simp only at ht
    cases hf : fs[i]? with
    | none => simp [hf] at ht
    | some f =>
      rw [hf] at ht
      simp only [Bool.and_eq_true] at ht
      have ho := Nat.eq_of_beq_eq_true ht.1
      have hs := ht.2
      cases hi : P.info? f.type with
      | none => simp [hi] at hs
      | some ii =>
        rw [hi] at hs
        have hz : ii.size ≠ 0 := by intro e; simp [e] at hs
        subst ho
        simp [execOp, hx, Instr.fieldAt, Instr.sureAddr, fieldPlace, run_underlying hu, hf, Go.sizeOf, typeInfo, hi, hz, Addr.add_lit, Result.andThen]
/-- A bound of a slice expression: as it is written, or as it is where none is. -/
def ob (ρ : Env) (o : Option Operand) (dflt v : Nat) : Prop := match o with | none => v = dflt | some x => ∃ k a, ev ρ x = .int k a ∧ a = (v : Int)
theorem rn_sliceSl {t e sz : Nat} {x : Operand} {lo hi mx : Option Operand} {p : Option Addr} {len cap : Nat} (l h m : Nat) (ht : sliceOf P t e sz = true) (hx : ev ρ x = .slice p len cap)
    (hl : ob ρ lo 0 l) (hh : ob ρ hi len h) (hm : ob ρ mx cap m) (hmh : mx.isSome = true → hi.isSome = true) (h1 : l ≤ h) (h2 : h ≤ m) (h3 : m ≤ cap) :
    (execOp (ev ρ) ⟨d, .slice t x lo hi mx, ty, pos, af, gd⟩).run P w = .ok (.value (.slice (if m = l then p else p.map (·.add (l * sz))) (h - l) (m - l))) w := by
  obtain ⟨hu, hs⟩ := sliceOf_split ht
  obtain ⟨ie, h4, h5⟩ := sizeIs_info hs
  have e1 : (h : Int) ≤ m := by omega
  have e2 : (l : Int) ≤ h := by omega
  have e3 : (m : Int) ≤ cap := by omega
  cases mx with
  | none =>
    simp only [ob] at hm
    subst hm
    cases hi with
    | none =>
      simp only [ob] at hh
      subst hh
      cases lo with
      | none => simp only [ob] at hl; subst hl; simp [execOp, hx, Instr.sliceAt, Instr.slice, Instr.sliceBounds, run_underlying hu, Go.sizeOf, typeInfo, h4, h5, Result.andThen]
      | some y => obtain ⟨k, a, hy, rfl⟩ := hl; simp [execOp, hx, hy, Instr.sliceAt, Instr.slice, Instr.sliceBounds, Instr.sliceBound, asIntOf, run_underlying hu, Go.sizeOf, typeInfo, h4, h5, h1, Result.andThen]
    | some z =>
      obtain ⟨kz, az, hz, rfl⟩ := hh
      cases lo with
      | none => simp only [ob] at hl; subst hl; simp [execOp, hx, hz, Instr.sliceAt, Instr.slice, Instr.sliceBounds, Instr.sliceBound, asIntOf, run_underlying hu, Go.sizeOf, typeInfo, h4, h5, h2, Result.andThen]
      | some y => obtain ⟨k, a, hy, rfl⟩ := hl; simp [execOp, hx, hy, hz, Instr.sliceAt, Instr.slice, Instr.sliceBounds, Instr.sliceBound, asIntOf, run_underlying hu, Go.sizeOf, typeInfo, h4, h5, h1, h2, Result.andThen]
  | some u =>
    obtain ⟨ku, au, hu', rfl⟩ := hm
    cases hi with
    | none => simp at hmh
    | some z =>
      obtain ⟨kz, az, hz, rfl⟩ := hh
      cases lo with
      | none => simp only [ob] at hl; subst hl; simp [execOp, hx, hz, hu', Instr.sliceAt, Instr.slice, Instr.sliceBounds, Instr.sliceBound, asIntOf, run_underlying hu, Go.sizeOf, typeInfo, h4, h5, h2, h3, Result.andThen]
      | some y => obtain ⟨k, a, hy, rfl⟩ := hl; simp [execOp, hx, hy, hz, hu', Instr.sliceAt, Instr.slice, Instr.sliceBounds, Instr.sliceBound, asIntOf, run_underlying hu, Go.sizeOf, typeInfo, h4, h5, h1, h2, h3, Result.andThen]
/-- The usual one: it begins ahead of the capacity's end. -/
theorem rn_sliceSl' {t e sz : Nat} {x : Operand} {lo hi mx : Option Operand} {g off : Nat} {len cap : Nat} (l h m k : Nat) (ht : sliceOf P t e sz = true) (hx : ev ρ x = .slice (some ⟨g, off, none⟩) len cap)
    (hl : ob ρ lo 0 l) (hh : ob ρ hi len h) (hm : ob ρ mx cap m) (hmh : mx.isSome = true → hi.isSome = true) (h1 : l ≤ h) (h2 : h ≤ m) (h3 : m ≤ cap) (h4 : l < m) (hk : h - l = k) :
    (execOp (ev ρ) ⟨d, .slice t x lo hi mx, ty, pos, af, gd⟩).run P w = .ok (.value (.slice (some ⟨g, off + l * sz, none⟩) k (m - l))) w := by
  subst hk
  rw [rn_sliceSl l h m ht hx hl hh hm hmh h1 h2 h3, if_neg (by omega)]
  simp [Addr.add_lit]
theorem rn_sliceSl1' {t e : Nat} {x : Operand} {lo hi mx : Option Operand} {g off : Nat} {len cap : Nat} (l h m k : Nat) (ht : sliceOf P t e 1 = true) (hx : ev ρ x = .slice (some ⟨g, off, none⟩) len cap)
    (hl : ob ρ lo 0 l) (hh : ob ρ hi len h) (hm : ob ρ mx cap m) (hmh : mx.isSome = true → hi.isSome = true) (h1 : l ≤ h) (h2 : h ≤ m) (h3 : m ≤ cap) (h4 : l < m) (hk : h - l = k) :
    (execOp (ev ρ) ⟨d, .slice t x lo hi mx, ty, pos, af, gd⟩).run P w = .ok (.value (.slice (some ⟨g, off + l, none⟩) k (m - l))) w := by
  rw [rn_sliceSl' l h m k ht hx hl hh hm hmh h1 h2 h3 h4 hk, Nat.mul_one]
theorem rn_sliceAr {t e sz n : Nat} {x : Operand} {lo hi mx : Option Operand} {g off : Nat} (l h m : Nat) (ht : arrayOf P t n e sz = true) (hx : ev ρ x = .pointer (some ⟨g, off, none⟩))
    (hl : ob ρ lo 0 l) (hh : ob ρ hi n h) (hm : ob ρ mx n m) (hmh : mx.isSome = true → hi.isSome = true) (h1 : l ≤ h) (h2 : h ≤ m) (h3 : m ≤ n) :
    (execOp (ev ρ) ⟨d, .slice t x lo hi mx, ty, pos, af, gd⟩).run P w = .ok (.value (.slice (some (if m = l then ⟨g, off, none⟩ else ⟨g, off + l * sz, none⟩)) (h - l) (m - l))) w := by
  obtain ⟨hu, hs⟩ := arrayOf_split ht
  obtain ⟨ie, h4, h5⟩ := sizeIs_info hs
  have e1 : (h : Int) ≤ m := by omega
  have e2 : (l : Int) ≤ h := by omega
  have e3 : (m : Int) ≤ n := by omega
  cases mx with
  | none =>
    simp only [ob] at hm
    subst hm
    cases hi with
    | none =>
      simp only [ob] at hh
      subst hh
      cases lo with
      | none => simp only [ob] at hl; subst hl; simp [execOp, hx, Instr.sliceAt, Instr.sureAddr, Instr.sliceBounds, run_underlying hu, Go.sizeOf, typeInfo, h4, h5, Addr.add_lit, Result.andThen]
      | some y => obtain ⟨k, a, hy, rfl⟩ := hl; simp [execOp, hx, hy, Instr.sliceAt, Instr.sureAddr, Instr.sliceBounds, Instr.sliceBound, asIntOf, run_underlying hu, Go.sizeOf, typeInfo, h4, h5, h1, Addr.add_lit, Result.andThen]
    | some z =>
      obtain ⟨kz, az, hz, rfl⟩ := hh
      cases lo with
      | none => simp only [ob] at hl; subst hl; simp [execOp, hx, hz, Instr.sliceAt, Instr.sureAddr, Instr.sliceBounds, Instr.sliceBound, asIntOf, run_underlying hu, Go.sizeOf, typeInfo, h4, h5, h2, Addr.add_lit, Result.andThen]
      | some y => obtain ⟨k, a, hy, rfl⟩ := hl; simp [execOp, hx, hy, hz, Instr.sliceAt, Instr.sureAddr, Instr.sliceBounds, Instr.sliceBound, asIntOf, run_underlying hu, Go.sizeOf, typeInfo, h4, h5, h1, h2, Addr.add_lit, Result.andThen]
  | some u =>
    obtain ⟨ku, au, hu', rfl⟩ := hm
    cases hi with
    | none => simp at hmh
    | some z =>
      obtain ⟨kz, az, hz, rfl⟩ := hh
      cases lo with
      | none => simp only [ob] at hl; subst hl; simp [execOp, hx, hz, hu', Instr.sliceAt, Instr.sureAddr, Instr.sliceBounds, Instr.sliceBound, asIntOf, run_underlying hu, Go.sizeOf, typeInfo, h4, h5, h2, h3, Addr.add_lit, Result.andThen]
      | some y => obtain ⟨k, a, hy, rfl⟩ := hl; simp [execOp, hx, hy, hz, hu', Instr.sliceAt, Instr.sureAddr, Instr.sliceBounds, Instr.sliceBound, asIntOf, run_underlying hu, Go.sizeOf, typeInfo, h4, h5, h1, h2, h3, Addr.add_lit, Result.andThen]
theorem rn_sliceAr' {t e sz n : Nat} {x : Operand} {lo hi mx : Option Operand} {g off : Nat} (l h m k : Nat) (ht : arrayOf P t n e sz = true) (hx : ev ρ x = .pointer (some ⟨g, off, none⟩))
    (hl : ob ρ lo 0 l) (hh : ob ρ hi n h) (hm : ob ρ mx n m) (hmh : mx.isSome = true → hi.isSome = true) (h1 : l ≤ h) (h2 : h ≤ m) (h3 : m ≤ n) (h4 : l < m) (hk : h - l = k) :
    (execOp (ev ρ) ⟨d, .slice t x lo hi mx, ty, pos, af, gd⟩).run P w = .ok (.value (.slice (some ⟨g, off + l * sz, none⟩) k (m - l))) w := by
  subst hk
  rw [rn_sliceAr l h m ht hx hl hh hm hmh h1 h2 h3, if_neg (by omega)]
theorem rn_sliceAr1' {t e n : Nat} {x : Operand} {lo hi mx : Option Operand} {g off : Nat} (l h m k : Nat) (ht : arrayOf P t n e 1 = true) (hx : ev ρ x = .pointer (some ⟨g, off, none⟩))
    (hl : ob ρ lo 0 l) (hh : ob ρ hi n h) (hm : ob ρ mx n m) (hmh : mx.isSome = true → hi.isSome = true) (h1 : l ≤ h) (h2 : h ≤ m) (h3 : m ≤ n) (h4 : l < m) (hk : h - l = k) :
    (execOp (ev ρ) ⟨d, .slice t x lo hi mx, ty, pos, af, gd⟩).run P w = .ok (.value (.slice (some ⟨g, off + l, none⟩) k (m - l))) w := by
  rw [rn_sliceAr' l h m k ht hx hl hh hm hmh h1 h2 h3 h4 hk, Nat.mul_one]
theorem rn_indexSl1 {t e : Nat} {x i : Operand} {g off len cap : Nat} {k : IntKind} {a : Int} (ht : sliceOf P t e 1 = true) (hx : ev ρ x = .slice (some ⟨g, off, none⟩) len cap) (hi : ev ρ i = .int k a) (j : Nat) (hj : a = (j : Int)) (hlt : j < len) :
    (execOp (ev ρ) ⟨d, .indexAddr t x i, ty, pos, af, gd⟩).run P w = .ok (.value (.pointer (some ⟨g, off + j, none⟩))) w := by
  have := rn_indexSl (P := P) (w := w) (d := d) (ty := ty) (pos := pos) (af := af) (gd := gd) ht hx hi j hj hlt
  rwa [Nat.mul_one] at this
theorem rn_indexAr1 {t m e : Nat} {x i : Operand} {g off : Nat} {k : IntKind} {a : Int} (ht : arrayOf P t m e 1 = true) (hx : ev ρ x = .pointer (some ⟨g, off, none⟩)) (hi : ev ρ i = .int k a) (j : Nat) (hj : a = (j : Int)) (hlt : j < m) :
    (execOp (ev ρ) ⟨d, .indexAddr t x i, ty, pos, af, gd⟩).run P w = .ok (.value (.pointer (some ⟨g, off + j, none⟩))) w := by
  have := rn_indexAr (P := P) (w := w) (d := d) (ty := ty) (pos := pos) (af := af) (gd := gd) ht hx hi j hj hlt
  rwa [Nat.mul_one] at this
theorem rn_arrayAt {t n e sz : Nat} {x : Operand} {p : Option Addr} {len cap : Nat} (ht : arrayOf P t n e sz = true) (hx : ev ρ x = .slice p len cap) (h : n ≤ len) :
    (execOp (ev ρ) ⟨d, .sliceToArrayPointer t x, ty, pos, af, gd⟩).run P w = .ok (.value (.pointer p)) w := by
  have := run_arrayAt (P := P) t e n (arrayOf_split ht).1 p len cap h w
  simp [execOp, hx, this, Result.andThen]
theorem rn_nilCheckP {x : Operand} {a : Addr} (hx : ev ρ x = .pointer (some a)) : (execOp (ev ρ) ⟨d, .nilCheck x, ty, pos, af, gd⟩).run P w = .ok (.value (.pointer (some a))) w := by
  simp [execOp, hx]
theorem rn_lenSl {t e sz : Nat} {x : Operand} {p : Option Addr} {len cap : Nat} {ats : List Nat} (ht : sliceOf P t e sz = true) (hx : ev ρ x = .slice p len cap) (ha : ats[0]? = some t) :
    (execOp (ev ρ) ⟨d, .call ⟨.builtin .len, #[x], ats.toArray⟩, ty, pos, af, gd⟩).run P w = .ok (.value (.int .i64 len)) w := by
  obtain ⟨hu, _⟩ := sliceOf_split ht
  simp [execOp, resolve, invoke, builtin, Builtin.len_, hx, ha, run_underlying hu, goInt, Result.andThen]
theorem rn_capSl {t e sz : Nat} {x : Operand} {p : Option Addr} {len cap : Nat} {ats : List Nat} (ht : sliceOf P t e sz = true) (hx : ev ρ x = .slice p len cap) (ha : ats[0]? = some t) :
    (execOp (ev ρ) ⟨d, .call ⟨.builtin .cap, #[x], ats.toArray⟩, ty, pos, af, gd⟩).run P w = .ok (.value (.int .i64 cap)) w := by
  obtain ⟨hu, _⟩ := sliceOf_split ht
  simp [execOp, resolve, invoke, builtin, Builtin.cap_, hx, ha, run_underlying hu, goInt, Result.andThen]
theorem rn_min2 {x y : Operand} {k : IntKind} {a b : Int} {ats : Array Nat} (hx : ev ρ x = .int k a) (hy : ev ρ y = .int k b) :
    (execOp (ev ρ) ⟨d, .call ⟨.builtin .min, #[x, y], ats⟩, ty, pos, af, gd⟩).run P w = .ok (.value (.int k (min a b))) w := by
  have : (if b < a then b else a) = min a b := by omega
  simp [execOp, resolve, invoke, builtin, Builtin.min_, Builtin.min2, hx, hy, this, Result.andThen]
theorem rn_max2 {x y : Operand} {k : IntKind} {a b : Int} {ats : Array Nat} (hx : ev ρ x = .int k a) (hy : ev ρ y = .int k b) :
    (execOp (ev ρ) ⟨d, .call ⟨.builtin .max, #[x, y], ats⟩, ty, pos, af, gd⟩).run P w = .ok (.value (.int k (max a b))) w := by
  have : (if a < b then b else a) = max a b := by omega
  simp [execOp, resolve, invoke, builtin, Builtin.max_, Builtin.max2, hx, hy, this, Result.andThen]

/-! ### Memory -/
def Ld (P : Program) (w : World) (t : Nat) (a : Addr) (v : Value) : Prop := (loadVar t a).run P w = .ok v w
theorem Ld.one {t : Nat} {a : Addr} {v : Value} (ht : isOneT P t = true) (hc : w.cell? a = some v) : Ld P w t a v := by
  unfold Ld loadVar
  simp [isOneT_agg ht, load, hc, Sem.run, Result.andThen]
theorem Ld.row1 {t g off tt : Nat} {l : List Value} {v : Value} (hr : row w g l tt) (ht : isOneT P t = true) (hv : l[off]? = some v) : Ld P w t ⟨g, off, none⟩ v := Ld.one ht (hr.cell off hv)
theorem Ld.rng {t g off : Nat} {cs : List Value} (hc : w.rangeAt g off cs) (ht : isRowT P t = true) (hs : sizeIs P t cs.length = true) : Ld P w t ⟨g, off, none⟩ (.agg cs.toArray) := by
  unfold isRowT at ht
  cases hu : P.underlying t with
  | none => simp [hu] at ht
  | some dd =>
    have hr : dd.isRow = true := by simpa [hu] using ht
    exact run_loadVar_mid w g off t cs dd hc hu hr (sizeIs_map hs)
theorem Ld.rowN {t g off tt k : Nat} {l : List Value} (hr : row w g l tt) (ht : isRowT P t = true) (hs : sizeIs P t k = true) (hk : off + k ≤ l.length) : Ld P w t ⟨g, off, none⟩ (.agg ((l.drop off).take k).toArray) := by
  refine Ld.rng (hr.range_drop off k) ht ?_
  rw [List.length_take, List.length_drop, Nat.min_eq_left (by omega)]
  exact hs
theorem Ld.rowA {t g tt k : Nat} {l : List Value} (hr : row w g l tt) (ht : isRowT P t = true) (hs : sizeIs P t k = true) (hk : l.length = k) : Ld P w t ⟨g, 0, none⟩ (.agg l.toArray) := by
  have := Ld.rowN (off := 0) hr ht hs (by omega)
  rwa [List.drop_zero, List.take_of_length_le (by omega)] at this
theorem rn_load {t : Nat} {x : Operand} {a : Addr} {v : Value} (hx : ev ρ x = .pointer (some a)) (hl : Ld P w t a v) : (execOp (ev ρ) ⟨d, .load t x, ty, pos, af, gd⟩).run P w = .ok (.value v) w := by
  unfold Ld at hl
  simp [execOp, hx, Instr.loadAt, Instr.sureAddr, hl, Result.andThen]
/-- What is made: a value, and a world. -/
def Mk (P : Program) (ρ : Env) (w : World) (o : Oper) (K : Value → World → Prop) : Prop := ∃ v w', (execOp (ev ρ) o).run P w = .ok (.value v) w' ∧ K v w'
def Sk (P : Program) (ρ : Env) (w : World) (o : Oper) (K : World → Prop) : Prop := ∃ w', (execOp (ev ρ) o).run P w = .ok .skip w' ∧ K w'
variable {K : Value → World → Prop} {Kw : World → Prop}
abbrev zeroIs (P : Program) (t : TypeId) (zl : List Value) : Prop := (P.info? t).map (fun i => i.zero.map (·.cells)) = some (some zl.toArray)
theorem mk_alloc {t : Nat} (zl : List Value) (hz : (P.info? t).map (fun i => i.zero.map (·.cells)) = some (some zl.toArray)) (h : ∀ g w', w.heap.size ≤ g → row w' g zl t → Below w.heap.size w w' → K (.pointer (some ⟨g, 0, none⟩)) w') : Mk P ρ w ⟨d, .alloc t, ty, pos, af, gd⟩ K :=
  ⟨_, _, run_alloc_row (ev ρ) t rfl zl hz, h _ _ (Nat.le_refl _) (row_alloc w zl t) (below_alloc w _)⟩
theorem mk_box {t : Nat} {x : Operand} (vl : List Value) (hv : (ev ρ x).cells = vl.toArray) (h : ∀ g w', w.heap.size ≤ g → row w' g vl t → Below w.heap.size w w' → K (.pointer (some ⟨g, 0, none⟩)) w') : Mk P ρ w ⟨d, .box t x, ty, pos, af, gd⟩ K :=
  ⟨_, _, run_box_row (ev ρ) t x rfl vl hv, h _ _ (Nat.le_refl _) (row_alloc w vl t) (below_alloc w _)⟩
theorem sk_store {t : Nat} {x y : Operand} {g off : Nat} (vs : List Value) {l : List Value} {tt : Nat} (hx : ev ρ x = .pointer (some ⟨g, off, none⟩)) (hy : (ev ρ y).cells = vs.toArray) (hr : row w g l tt) (hs : sizeIs P t vs.length = true)
    (hfit : off + vs.length ≤ l.length) (h1 : ∀ v ∈ vs, v.oneCell' = true) (h : ∀ w', row w' g (splice l off vs) tt → Only g w w' → Kw w') : Sk P ρ w ⟨d, .store t x y, ty, pos, af, gd⟩ Kw := by
  obtain ⟨i, hq, hsz⟩ := sizeIs_info hs
  have hst := run_storeCells_at P g off tt vs 0 l.toArray w hr (by simpa using hfit) h1
  have hrun : (storeVar t ⟨g, off, none⟩ (ev ρ y)).run P w = .ok () (w.setRow g (splice l off vs).toArray) := by
    simp [storeVar, Go.sizeOf, typeInfo, hq, hy, hsz, hst, splice]
  refine ⟨_, ?_, h _ (setRow_heap w g _ _ tt _ hr) (Only.setRow _)⟩
  unfold execOp
  simp only [hx, Instr.storeAt, Instr.sureAddr, Sem.run_bind, Sem.run_pure, Result.andThen_ok, hrun]
theorem spliceA (vs l : List Value) (h : vs.length = l.length) : splice l 0 vs = vs := by simp [splice, h]
theorem splice_one {l : List Value} {off : Nat} {v : Value} (h : off < l.length) : splice l off [v] = l.set off v := by
  simp [splice, List.set_eq_take_append_cons_drop, h]
theorem sk_store1 {t : Nat} {x y : Operand} {g off : Nat} {v : Value} {l : List Value} {tt : Nat} (hx : ev ρ x = .pointer (some ⟨g, off, none⟩)) (hy : ev ρ y = v) (hv : v.cells = #[v]) (h1 : v.oneCell' = true) (hr : row w g l tt) (hs : sizeIs P t 1 = true)
    (hfit : off < l.length) (h : ∀ w', row w' g (l.set off v) tt → Only g w w' → Kw w') : Sk P ρ w ⟨d, .store t x y, ty, pos, af, gd⟩ Kw := by
  refine sk_store [v] hx (by rw [hy, hv]) hr hs (by simp; omega) (by simpa using h1) ?_
  rw [splice_one hfit]
  exact h
/-- The whole of a variable is written. -/
theorem sk_storeA {t : Nat} {x y : Operand} {g : Nat} (k : Nat) (vs : List Value) {l : List Value} {tt : Nat} (hx : ev ρ x = .pointer (some ⟨g, 0, none⟩)) (hy : (ev ρ y).cells = vs.toArray) (hr : row w g l tt) (hs : sizeIs P t k = true) (hk : vs.length = k)
    (hfit : l.length = k) (h1 : ∀ v ∈ vs, v.oneCell' = true) (h : ∀ w', row w' g vs tt → Only g w w' → Kw w') : Sk P ρ w ⟨d, .store t x y, ty, pos, af, gd⟩ Kw := by
  subst hk
  refine sk_store vs hx hy hr hs (by omega) h1 ?_
  rw [spliceA _ _ hfit.symm]
  exact h
/-! ### Calls -/
theorem rn_call {f : FuncId} {al : List Operand} {vl : List Value} {ats : Array Nat} (hc : canCall P f = true) (hv : al.map (ev ρ) = vl) :
    (execOp (ev ρ) ⟨d, .call ⟨.value (.func f), al.toArray, ats⟩, ty, pos, af, gd⟩).run P w = .ok (.enter f vl.toArray) w := by
  have hm : al.toArray.map (ev ρ) = vl.toArray := by rw [← hv]; simp
  have hf : (callFunc f vl.toArray).run P w = .ok (.enter f vl.toArray) w := by
    unfold canCall at hc
    cases hfn : P.funcs[f]? with
    | none => simp [hfn] at hc
    | some fn =>
      rw [hfn] at hc
      simp only [Bool.and_eq_true, Bool.not_eq_true'] at hc
      cases hb : fn.body with
      | none => simp [hb] at hc
      | some c =>
        have hn : ¬ fn.name = "runtime.NumGoroutine" := by simpa using hc.1
        simp [callFunc, program, Sem.run, hfn, hn, hb, Result.andThen]
  simp [execOp, resolve, hm, ev, Deferred.ofValue, invoke, hf, Result.andThen]
/-- A closure is called. -/
theorem rn_callc {f : FuncId} {x : Operand} {al : List Operand} {vl cl : List Value} {ats : Array Nat} (hc : canCall P f = true) (hx : ev ρ x = .func (.func f) #[] cl.toArray) (hv : al.map (ev ρ) = vl) :
    (execOp (ev ρ) ⟨d, .call ⟨.value x, al.toArray, ats⟩, ty, pos, af, gd⟩).run P w = .ok (.enter f (vl ++ cl).toArray) w := by
  have hm : al.toArray.map (ev ρ) = vl.toArray := by rw [← hv]; simp
  have hf : (callFunc f (vl ++ cl).toArray).run P w = .ok (.enter f (vl ++ cl).toArray) w := by
    unfold canCall at hc
    cases hfn : P.funcs[f]? with
    | none => simp [hfn] at hc
    | some fn =>
      rw [hfn] at hc
      simp only [Bool.and_eq_true, Bool.not_eq_true'] at hc
      cases hb : fn.body with
      | none => simp [hb] at hc
      | some c =>
        have hn : ¬ fn.name = "runtime.NumGoroutine" := by simpa using hc.1
        simp [callFunc, program, Sem.run, hfn, hn, hb, Result.andThen]
  have e : vl.toArray ++ cl.toArray = (vl ++ cl).toArray := by simp
  simp only [execOp, resolve, hm, hx, Deferred.ofValue]
  simp [invoke, hf, Result.andThen]
end

section
variable {md : Option Nat → Prop} {P : Program} {n : Nat} {Q : Post} {ρ : Env} {w : World} {l : List Oper} {S : World → Prop} {done : List Nat}
theorem WR_mk {ops : Array Oper} {rest : List Oper} {o : Oper} (hg : o.guard = none) (h : Mk P ρ w o fun v w' => WR md P n ops rest Q (upo ρ o.dst v) w') : WR md P n ops (o :: rest) Q ρ w :=
  let ⟨_, _, hr, hK⟩ := h; WR_val hg hr hK
theorem WR_sk {ops : Array Oper} {rest : List Oper} {o : Oper} (hg : o.guard = none) (h : Sk P ρ w o fun w' => WR md P n ops rest Q (upo ρ o.dst undef) w') : WR md P n ops (o :: rest) Q ρ w :=
  let ⟨_, hr, hK⟩ := h; WR_skp hg hr hK
theorem WO_mk {i : Nat} (hi : Nat.blt i l.length = true) (hw : Region.wanted (nthO l i) (yl l.toArray ρ) = true) (h : Mk P ρ w (nthO l i) fun v w' => S w' ∧ WA md P n l S Q (i :: done) (upo ρ (nthO l i).dst v) w') : WO md P n l S Q done i ρ w :=
  let ⟨_, _, hr, hS, hK⟩ := h; WO_val hi hw hr hS hK
theorem WO_sk {i : Nat} (hi : Nat.blt i l.length = true) (hw : Region.wanted (nthO l i) (yl l.toArray ρ) = true) (h : Sk P ρ w (nthO l i) fun w' => S w' ∧ WA md P n l S Q (i :: done) (upo ρ (nthO l i).dst undef) w') : WO md P n l S Q done i ρ w :=
  let ⟨_, hr, hS, hK⟩ := h; WO_skp hi hw hr hS hK
end
end Coup
