/- Equality of arrays of bytes, of small structs, of strings of bytes, in the small machine. -/
import Derived.Test.YtpndhildmfmcgaaVm5
import Derived.DeepKeys
import Derived.Laws.BytesArg
namespace Coup
open Go Go.RowKit

section
variable {P : Program} {ρ : Env} {w : World} {d : Option Nat} {ty : TypeId} {pos : String} {af : Array Edge} {gd : Option (Nat × Bool)}

def byteArr (P : Program) (t n : Nat) : Bool :=
  (match P.underlying t with | some (.array m e) => Nat.beq m n && (match P.underlying e with | some (.int .u8) => true | _ => false) && Nat.beq (P.cellsOf e) 1 && (P.info? e).isSome | _ => false) && !P.eqGuardType P.depth t
theorem eqItems_bytes {e : TypeId} (dd : Nat) (he : P.underlying e = some (.int .u8)) : ∀ (is : List Nat) (a b : List UInt8) (w : World), (∀ i, i ∈ is → i < a.length) → a.length = b.length →
    (Op.eqItems (dd + 1) e 1 (bv a).toArray (bv b).toArray is).run P w = .ok (is.all fun i => a[i]? == b[i]?) w
  | [], _, _, w, _, _ => rfl
  | i :: is, a, b, w, h, hl => by
    have hi := h i (by simp)
    have hib : i < b.length := by omega
    have pa : ∀ (l : List UInt8) (w : World), i < l.length → (part e (bv l).toArray (i * 1)).run P w = .ok (byteV (l.getD i 0)) w := by
      intro l w hli
      have hag : (isAgg e).run P w = .ok false w := by simp [isAgg, run_underlying he]
      have hg : (bv l)[i]? = some (byteV (l.getD i 0)) := bv_getD l i hli
      simp [part, hag, hg, Result.andThen]
    simp only [Op.eqItems, Sem.run_bind, pa a w hi, pa b w hib, Result.andThen_ok, byteV, run_equalIn_int w dd e .u8 .u8 _ _ he]
    have e1 : (a[i]? == b[i]?) = (((a.getD i 0).toNat : Int) == ((b.getD i 0).toNat : Int)) := by
      rw [List.getD_eq_getElem?_getD, List.getD_eq_getElem?_getD, List.getElem?_eq_getElem hi, List.getElem?_eq_getElem hib]
      simp only [Option.getD_some]
      rw [Bool.eq_iff_iff]
      simp only [beq_iff_eq, Option.some.injEq]
      exact ⟨fun h => by rw [h], fun h => UInt8.toNat_inj.1 (by omega)⟩
    rw [List.all_cons, e1]
    cases hc : ((((a.getD i 0).toNat : Int) == ((b.getD i 0).toNat : Int)) : Bool)
    · simp
    · simp only [Bool.not_true, Bool.false_eq_true, if_false, Bool.true_and]
      exact eqItems_bytes dd he is a b w (fun j hj => h j (by simp [hj])) hl
theorem all_range_eq (a b : List UInt8) (hl : a.length = b.length) : ((List.range a.length).all fun i => a[i]? == b[i]?) = decide (a = b) := by
  rw [Bool.eq_iff_iff, List.all_eq_true, decide_eq_true_iff]
  constructor
  · intro h
    apply List.ext_getElem? 
    intro i
    by_cases hi : i < a.length
    · have := h i (List.mem_range.2 hi); simpa using this
    · rw [List.getElem?_eq_none (by omega), List.getElem?_eq_none (by omega)]
  · rintro rfl i _; simp
theorem run_equal_bytes {t n : Nat} (ht : byteArr P t n = true) (a b : List UInt8) (ha : a.length = n) (hb : b.length = n) (w : World) : (Op.equalIn 10000 t (.agg (bv a).toArray) (.agg (bv b).toArray)).run P w = .ok (decide (a = b)) w := by
  unfold byteArr at ht
  simp only [Bool.and_eq_true] at ht
  have h1 := ht.1
  split at h1
  · rename_i m e hu
    simp only [Bool.and_eq_true] at h1
    obtain ⟨⟨⟨h2, h3⟩, h4⟩, h5⟩ := h1
    have he : P.underlying e = some (.int .u8) := by
      split at h3
      · assumption
      · cases h3
    obtain ⟨i, hi⟩ := Option.isSome_iff_exists.1 h5
    rw [show 10000 = 9999 + 1 from rfl, run_equalIn_array w 9999 _ _ hu hi, Nat.eq_of_beq_eq_true h4, Nat.eq_of_beq_eq_true h2, show 9999 = 9998 + 1 from rfl, eqItems_bytes 9998 he _ a b w (by intro i hi; simp at hi; omega) (by omega),
      ← ha, all_range_eq a b (by omega)]
  · cases h1
theorem byteArr_guard {t n : Nat} (ht : byteArr P t n = true) : P.eqGuardType P.depth t = false := by
  unfold byteArr at ht
  simp only [Bool.and_eq_true, Bool.not_eq_true'] at ht
  exact ht.2
theorem rn_eqlA {t t' n : Nat} {x y : Operand} {a b : List UInt8} (ht : byteArr P t n = true) (hx : ev ρ x = .agg (bv a).toArray) (hy : ev ρ y = .agg (bv b).toArray) (ha : a.length = n) (hb : b.length = n) :
    (execOp (ev ρ) ⟨d, .binOp .eql t x y t', ty, pos, af, gd⟩).run P w = .ok (.value (.bool (decide (a = b)))) w := by
  have h1 := run_eqGuard_agg (P := P) w .eql t x y (bv a).toArray (bv b).toArray (byteArr_guard ht)
  simp only [execOp, hx, hy, Sem.run_bind, h1, Result.andThen_ok, run_eql_struct, run_equal_bytes ht a b ha hb w]
  rfl
theorem rn_neqA {t t' n : Nat} {x y : Operand} {a b : List UInt8} (ht : byteArr P t n = true) (hx : ev ρ x = .agg (bv a).toArray) (hy : ev ρ y = .agg (bv b).toArray) (ha : a.length = n) (hb : b.length = n) :
    (execOp (ev ρ) ⟨d, .binOp .neq t x y t', ty, pos, af, gd⟩).run P w = .ok (.value (.bool (!decide (a = b)))) w := by
  have h1 := run_eqGuard_agg (P := P) w .neq t x y (bv a).toArray (bv b).toArray (byteArr_guard ht)
  simp only [execOp, hx, hy, Sem.run_bind, h1, Result.andThen_ok, run_neq_struct, run_equal_bytes ht a b ha hb w]
  rfl

/-! A struct of two numbers. -/
def pairT (P : Program) (t : Nat) (k0 k1 : IntKind) : Bool :=
  (match P.underlying t with
   | some (.struct fs) => (match fs.toList with
     | [f0, f1] => (f0.name != "_") && (f1.name != "_") && Nat.beq f0.offset 0 && Nat.beq f1.offset 1 && intT P f0.type k0 && intT P f1.type k1
     | _ => false)
   | _ => false) && !P.eqGuardType P.depth t && !P.stoodInHeld t
theorem intT_under {t : Nat} {k : IntKind} (h : intT P t k = true) : P.underlying t = some (.int k) := by
  unfold intT at h
  split at h
  · rename_i k' hu; rw [hu]; simp at h; rw [h]
  · cases h
theorem run_equal_pair {t : Nat} {k0 k1 : IntKind} (ht : pairT P t k0 k1 = true) (a b a' b' : Int) (w : World) : (Op.equalIn 10000 t (.agg #[.int k0 a, .int k1 b]) (.agg #[.int k0 a', .int k1 b'])).run P w = .ok (decide (a = a' ∧ b = b')) w := by
  unfold pairT at ht
  simp only [Bool.and_eq_true, Bool.not_eq_true'] at ht
  obtain ⟨⟨h1, _⟩, h3⟩ := ht
  split at h1
  · rename_i fs hu
    split at h1
    · rename_i f0 f1 hfs
      simp only [Bool.and_eq_true, bne_iff_ne, ne_eq] at h1
      obtain ⟨⟨⟨⟨⟨n0, n1⟩, o0⟩, o1⟩, i0⟩, i1⟩ := h1
      have u0 := intT_under i0
      have u1 := intT_under i1
      have hf : P.fieldsOf t = fs := by simp [Program.fieldsOf, hu]
      rw [show 10000 = 9999 + 1 from rfl, run_equalIn_struct w 9999 t _ _ (by rw [hf]; exact hu) h3, hf, hfs]
      have g0 : (isAgg f0.type).run P w = .ok false w := by simp [isAgg, run_underlying u0]
      have g1 : (isAgg f1.type).run P w = .ok false w := by simp [isAgg, run_underlying u1]
      have e0 := Nat.eq_of_beq_eq_true o0
      have e1 := Nat.eq_of_beq_eq_true o1
      have p0 : ∀ (x y : Int), (part f0.type #[.int k0 x, .int k1 y] f0.offset).run P w = .ok (.int k0 x) w := fun x y => by simp [part, g0, e0, Result.andThen]
      have p1 : ∀ (x y : Int), (part f1.type #[.int k0 x, .int k1 y] f1.offset).run P w = .ok (.int k1 y) w := fun x y => by simp [part, g1, e1, Result.andThen]
      have s0 := run_equalIn_int w 9998 f0.type k0 k0 a a' u0
      have s1 := run_equalIn_int w 9998 f1.type k1 k1 b b' u1
      simp only [Op.eqFields, n0, n1, ne_eq, not_false_eq_true, if_true, Sem.run_bind, p0, p1, Result.andThen_ok, show 9999 = 9998 + 1 from rfl, s0]
      by_cases h : a = a'
      · subst h
        simp only [beq_self_eq_true, Bool.not_true, Bool.false_eq_true, if_false, Sem.run_bind, p1, Result.andThen_ok, s1]
        by_cases h' : b = b' <;> simp [h']
      · have : (a == a') = false := by simpa using h
        simp [this, h]
    · cases h1
  · cases h1
theorem pairT_guard {t : Nat} {k0 k1 : IntKind} (ht : pairT P t k0 k1 = true) : P.eqGuardType P.depth t = false := by
  unfold pairT at ht
  simp only [Bool.and_eq_true, Bool.not_eq_true'] at ht
  exact ht.1.2
theorem rn_eqlP {t t' : Nat} {k0 k1 : IntKind} {x y : Operand} {a b a' b' : Int} (ht : pairT P t k0 k1 = true) (hx : ev ρ x = .agg #[.int k0 a, .int k1 b]) (hy : ev ρ y = .agg #[.int k0 a', .int k1 b']) :
    (execOp (ev ρ) ⟨d, .binOp .eql t x y t', ty, pos, af, gd⟩).run P w = .ok (.value (.bool (decide (a = a' ∧ b = b')))) w := by
  have h1 := run_eqGuard_agg (P := P) w .eql t x y #[.int k0 a, .int k1 b] #[.int k0 a', .int k1 b'] (pairT_guard ht)
  simp only [execOp, hx, hy, Sem.run_bind, h1, Result.andThen_ok, run_eql_struct, run_equal_pair ht a b a' b' w]
  rfl
theorem rn_neqP {t t' : Nat} {k0 k1 : IntKind} {x y : Operand} {a b a' b' : Int} (ht : pairT P t k0 k1 = true) (hx : ev ρ x = .agg #[.int k0 a, .int k1 b]) (hy : ev ρ y = .agg #[.int k0 a', .int k1 b']) :
    (execOp (ev ρ) ⟨d, .binOp .neq t x y t', ty, pos, af, gd⟩).run P w = .ok (.value (.bool (!decide (a = a' ∧ b = b')))) w := by
  have h1 := run_eqGuard_agg (P := P) w .neq t x y #[.int k0 a, .int k1 b] #[.int k0 a', .int k1 b'] (pairT_guard ht)
  simp only [execOp, hx, hy, Sem.run_bind, h1, Result.andThen_ok, run_neq_struct, run_equal_pair ht a b a' b' w]
  rfl
/-! Strings of bytes. -/
def strOf (l : List UInt8) : Value := .string ⟨l.toArray⟩
theorem rn_str {s t e : Nat} {x : Operand} {p : Option Addr} {m c : Nat} {l : List UInt8} (hs : P.underlying s = some (.slice e)) (he : P.underlying e = some (.int .u8)) (hd : P.underlying t = some .string) (hx : ev ρ x = .slice p m c) (hl : SlAt w p m 1 (bv l)) :
    (execOp (ev ρ) ⟨d, .convert s t x, ty, pos, af, gd⟩).run P w = .ok (.value (strOf l)) w := by
  have hlen : l.length = m := by simpa [bv_length] using hl.len
  have hrun : (convert s t (.slice p m c)).run P w = .ok (strOf l) w := by
    by_cases h0 : m = 0
    · subst h0
      obtain rfl : l = [] := List.eq_nil_of_length_eq_zero hlen
      cases p with
      | none => simp [convert, run_underlying hs, run_underlying he, run_underlying hd, Conv.bytesToString, strOf, Result.andThen]; rfl
      | some a =>
        have := run_convert_bytes_string (P := P) w s t e a 0 c hs he hd
        rw [this]
        simp [Conv.bytesToString, loadCells, loadCellsFrom, strOf, Result.andThen]
        rfl
    · obtain ⟨g, off, rfl, _⟩ := hl.some (by omega)
      have := run_convert_bytes_arg (P := P) w s e hs he g off m c (l.map fun b => (b.toNat : Int)) (by simpa using hlen) (fun i hi => by
        rw [hl.cell i (v := byteV (l.getD i 0)) (bv_getD l i (by omega))]
        have : i < l.length := by omega
        simp [byteV, List.getD, List.getElem?_eq_getElem this]) t hd
      rw [this]
      have hm : (l.map fun b => (b.toNat : Int)).map (fun n => UInt8.ofNat n.toNat) = l := by
        rw [List.map_map]
        have : (fun (n : Int) => UInt8.ofNat n.toNat) ∘ (fun (b : UInt8) => (b.toNat : Int)) = id := by funext b; simp
        rw [this, List.map_id]
      rw [strOfNums, hm]
      rfl
  simp [execOp, hx, hrun, Result.andThen]
theorem rn_eqlS {t t' : Nat} {x y : Operand} {a b : List UInt8} (hx : ev ρ x = strOf a) (hy : ev ρ y = strOf b) :
    (execOp (ev ρ) ⟨d, .binOp .eql t x y t', ty, pos, af, gd⟩).run P w = .ok (.value (.bool (decide (a = b)))) w := by
  have : ((⟨a.toArray⟩ : ByteArray).toList == (⟨b.toArray⟩ : ByteArray).toList) = decide (a = b) := by
    rw [ByteArray.toList_eq, ByteArray.toList_eq]; simp only [List.toList_toArray]; rw [Bool.eq_iff_iff]; simp
  simp only [execOp, hx, hy, strOf, eqGuard, binOp, Op.stringOp, this]
  simp [Result.andThen]
theorem rn_neqS {t t' : Nat} {x y : Operand} {a b : List UInt8} (hx : ev ρ x = strOf a) (hy : ev ρ y = strOf b) :
    (execOp (ev ρ) ⟨d, .binOp .neq t x y t', ty, pos, af, gd⟩).run P w = .ok (.value (.bool (!decide (a = b)))) w := by
  have : ((⟨a.toArray⟩ : ByteArray).toList == (⟨b.toArray⟩ : ByteArray).toList) = decide (a = b) := by
    rw [ByteArray.toList_eq, ByteArray.toList_eq]; simp only [List.toList_toArray]; rw [Bool.eq_iff_iff]; simp
  simp only [execOp, hx, hy, strOf, eqGuard, binOp, Op.stringOp, this]
  simp [Result.andThen]
end
end Coup
