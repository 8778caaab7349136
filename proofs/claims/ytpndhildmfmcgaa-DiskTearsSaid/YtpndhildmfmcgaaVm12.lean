/- Bits with constants, bytes of strings, stores into slices of the walk's own. -/
import Derived.Test.YtpndhildmfmcgaaVm11
namespace Coup
open Go Go.RowKit

theorem ofInt64 {a : Int} (h : 0 ≤ a ∧ a < 18446744073709551616) : (BitVec.ofInt 64 a).toNat = a.toNat := by
  rw [BitVec.toNat_ofInt]
  have : a % ((2 ^ 64 : Nat) : Int) = a := Int.emod_eq_of_lt h.1 (by simpa using h.2)
  rw [this]
theorem and32 {a : Int} (h : 0 ≤ a ∧ a < 18446744073709551616) : IntKind.u64.wrap ((BitVec.ofInt IntKind.u64.bits a &&& BitVec.ofInt IntKind.u64.bits 4294967295).toNat : Int) = a % 4294967296 := by
  show IntKind.u64.wrap ((BitVec.ofInt 64 a &&& BitVec.ofInt 64 4294967295).toNat : Int) = a % 4294967296
  rw [BitVec.toNat_and, ofInt64 h, ofInt64 (by decide), show (4294967295 : Int).toNat = 2 ^ 32 - 1 by decide, Nat.and_two_pow_sub_one_eq_mod, wu64 (by omega)]
  omega
theorem shrN {a b : Int} (s : Nat) (hb : b = (s : Int)) (hs : s ≤ 64) : a.fdiv (2 ^ (min b.toNat IntKind.u64.bits)) = a / 2 ^ s := by
  subst hb
  show a.fdiv (2 ^ (min ((s : Int).toNat) 64)) = a / 2 ^ s
  rw [Int.toNat_natCast, Nat.min_eq_left hs, Int.fdiv_eq_ediv_of_nonneg _ (Int.le_of_lt (Int.pow_pos (by decide)))]
theorem shr32 {a : Int} : a.fdiv (2 ^ (min (32 : Int).toNat IntKind.u64.bits)) = a / 4294967296 := shrN 32 rfl (by omega)
theorem shr16 {a : Int} : a.fdiv (2 ^ (min (16 : Int).toNat IntKind.u64.bits)) = a / 65536 := shrN 16 rfl (by omega)
theorem shr8 {a : Int} : a.fdiv (2 ^ (min (8 : Int).toNat IntKind.u64.bits)) = a / 256 := shrN 8 rfl (by omega)
theorem shlN {a b : Int} (s : Nat) (hb : b = (s : Int)) (hs : s ≤ 64) (ha : 0 ≤ a * 2 ^ s ∧ a * 2 ^ s < 18446744073709551616) : IntKind.u64.wrap (a * 2 ^ (min b.toNat IntKind.u64.bits)) = a * 2 ^ s := by
  subst hb
  show IntKind.u64.wrap (a * 2 ^ (min ((s : Int).toNat) 64)) = a * 2 ^ s
  rw [Int.toNat_natCast, Nat.min_eq_left hs, wu64 (by omega)]
/-- A shift left past the top. -/
theorem shlW {a b : Int} (s : Nat) (hb : b = (s : Int)) (hs : s ≤ 64) : IntKind.u64.wrap (a * 2 ^ (min b.toNat IntKind.u64.bits)) = a * 2 ^ s % 18446744073709551616 := by
  subst hb
  show IntKind.u64.wrap (a * 2 ^ (min ((s : Int).toNat) 64)) = _
  rw [Int.toNat_natCast, Nat.min_eq_left hs, IntKind.wrap_u64]
theorem orU {a b : Int} (s : Nat) (q : Int) (ha : 0 ≤ a ∧ a < 18446744073709551616) (hq : a = q * 2 ^ s) (hb : 0 ≤ b ∧ b < 2 ^ s) (hs : a + b < 18446744073709551616) :
    IntKind.u64.wrap ((BitVec.ofInt IntKind.u64.bits a ||| BitVec.ofInt IntKind.u64.bits b).toNat : Int) = a + b := by
  show IntKind.u64.wrap ((BitVec.ofInt 64 a ||| BitVec.ofInt 64 b).toNat : Int) = a + b
  have hq0 : 0 ≤ q := by
    rcases Int.lt_or_le q 0 with h | h
    · have h5 : (0 : Int) < 2 ^ s := Int.pow_pos (by decide)
      have := Int.mul_neg_of_neg_of_pos h h5; omega
    · exact h
  rw [BitVec.toNat_or, ofInt64 ha, ofInt64 (by omega)]
  have h1 : a.toNat = q.toNat <<< s := by
    rw [Nat.shiftLeft_eq]
    have h2 : (q.toNat : Int) = q := Int.toNat_of_nonneg hq0
    have h3 : ((q.toNat * 2 ^ s : Nat) : Int) = q * 2 ^ s := by rw [Int.natCast_mul, h2, Int.natCast_pow]; rfl
    omega
  have h2 : b.toNat < 2 ^ s := by
    have h3 : ((2 ^ s : Nat) : Int) = 2 ^ s := by rw [Int.natCast_pow]; rfl
    omega
  rw [h1, ← Nat.shiftLeft_add_eq_or_of_lt h2, ← h1, wu64 (by omega)]
  omega
section
variable {P : Program} {ρ : Env} {w : World} {d : Option Nat} {ty : TypeId} {pos : String} {af : Array Edge} {gd : Option (Nat × Bool)}
theorem rn_indexS {t : Nat} {x i : Operand} {s : ByteArray} {k : IntKind} {a : Int} (ht : P.underlying t = some .string) (hx : ev ρ x = .string s) (hi : ev ρ i = .int k a) (j : Nat) (hj : a = (j : Int)) {b : UInt8} (hb : s[j]? = some b) :
    (execOp (ev ρ) ⟨d, .index t x i, ty, pos, af, gd⟩).run P w = .ok (.value (.int .u8 b.toNat)) w := by
  subst hj
  simp [execOp, hx, hi, Instr.index, asIntOf, run_underlying ht, hb, Result.andThen]
end
/-- A table of the lengths of numbers of one byte. -/
def tabOk (s : ByteArray) : Bool := (List.range 255).all fun j => match s[j + 1]? with
  | some b => decide (1 ≤ b.toNat) && decide (b.toNat ≤ 8) && decide (2 ^ (b.toNat - 1) ≤ j + 1) && decide (j + 1 < 2 ^ b.toNat)
  | none => false
theorem tabOk_at {s : ByteArray} (h : tabOk s = true) {j : Nat} (h0 : 0 < j) (h1 : j < 256) : ∃ b : UInt8, s[j]? = some b ∧ 1 ≤ b.toNat ∧ b.toNat ≤ 8 ∧ 2 ^ (b.toNat - 1) ≤ j ∧ j < 2 ^ b.toNat := by
  have := List.all_eq_true.1 h (j - 1) (by simp; omega)
  rw [show j - 1 + 1 = j by omega] at this
  cases hs : s[j]? with
  | none => rw [hs] at this; cases this
  | some b =>
    rw [hs] at this
    simp only [Bool.and_eq_true, decide_eq_true_eq] at this
    exact ⟨b, rfl, this.1.1.1, this.1.1.2, this.1.2, this.2⟩
theorem wu8 {c : Int} (h : 0 ≤ c ∧ c ≤ 255) : IntKind.u8.wrap c = c := by rw [IntKind.wrap_u8]; omega
theorem wu8m (c : Int) : IntKind.u8.wrap c = c % 256 := IntKind.wrap_u8 c
section
variable {P : Program} {ρ : Env} {w : World} {d : Option Nat} {ty : TypeId} {pos : String} {af : Array Edge} {gd : Option (Nat × Bool)} {K : Value → World → Prop}
theorem mk_indexT {t : Nat} {x i : Operand} {s : ByteArray} {k : IntKind} {a : Int} (ht : P.underlying t = some .string) (hx : ev ρ x = .string s) (hok : tabOk s = true) (hi : ev ρ i = .int k a) (j : Nat) (hj : a = (j : Int)) (h0 : 0 < j) (h1 : j < 256)
    (h : ∀ b : Nat, 1 ≤ b → b ≤ 8 → 2 ^ (b - 1) ≤ j → j < 2 ^ b → K (.int .u8 (b : Int)) w) : Mk P ρ w ⟨d, .index t x i, ty, pos, af, gd⟩ K := by
  obtain ⟨b, h2, h3, h4, h5, h6⟩ := tabOk_at hok h0 h1
  exact ⟨_, w, rn_indexS ht hx hi j hj h2, h b.toNat h3 h4 h5 h6⟩
end
/-- A slice of the walk's own, in a known block. -/
def OwnG (w : World) (base e sz g o m c : Nat) (xs : List Value) : Prop := ownsAt w base e sz (.slice (some ⟨g, o, none⟩) m c) m xs
namespace OwnG
variable {w w' : World} {base e sz g o m c : Nat} {xs : List Value}
theorem lt (h : OwnG w base e sz g o m c xs) : g < w.heap.size := (ownsAt.lt h g rfl).2
theorem base_le (h : OwnG w base e sz g o m c xs) : base ≤ g := (ownsAt.lt h g rfl).1
theorem len (h : OwnG w base e sz g o m c xs) : xs.length = m * sz := h.1
theorem new (h : OwnG w base e sz g o m c xs) (hb : Below w.heap.size w w') : OwnG w' base e sz g o m c xs := ownsAt.new h hb
theorem kpd {M : List Nat} (h : OwnG w base e sz g o m c xs) (k : Kp M w w') (hM : g ∉ M) : OwnG w' base e sz g o m c xs := ownsAt.kpd h k fun g' hm e => hM (by
  have : g = g' := by simpa [Value.ownBlock] using e
  rw [this]; exact hm)
theorem only {g' : Nat} (h : OwnG w base e sz g o m c xs) (ho : Only g' w w') (hg : g ≠ g') : OwnG w' base e sz g o m c xs := h.kpd (Kp.of_only ho) (by simpa using hg)
theorem sl (h : OwnG w base e sz g o m c xs) : SlAt w (some ⟨g, o, none⟩) m sz xs := ownsAt.sl h
end OwnG
theorem splice_get {l vs : List Value} {k : Nat} (h : k + vs.length ≤ l.length) (i : Nat) : (splice l k vs)[i]? = if i < k then l[i]? else if i < k + vs.length then vs[i - k]? else l[i]? := by
  unfold splice
  by_cases h1 : i < k
  · rw [if_pos h1, List.getElem?_append_left (by rw [List.length_take]; omega), List.getElem?_take, if_pos h1]
  · rw [if_neg h1, List.getElem?_append_right (by rw [List.length_take]; omega), List.length_take, Nat.min_eq_left (by omega)]
    by_cases h2 : i < k + vs.length
    · rw [if_pos h2, List.getElem?_append_left (by omega)]
    · rw [if_neg h2, List.getElem?_append_right (by omega), List.getElem?_drop]
      congr 1; omega
section
variable {P : Program} {ρ : Env} {w : World} {d : Option Nat} {ty : TypeId} {pos : String} {af : Array Edge} {gd : Option (Nat × Bool)} {Kw : World → Prop}
/-- A store into a slice of the walk's own. -/
theorem sk_storeO {t : Nat} {x y : Operand} {g o : Nat} {base e sz m c : Nat} {xs : List Value} (vs : List Value) (j : Nat) (hown : OwnG w base e sz g o m c xs) (hx : ev ρ x = .pointer (some ⟨g, o + j, none⟩))
    (hy : (ev ρ y).cells = vs.toArray) (hs : sizeIs P t vs.length = true) (hfit : j + vs.length ≤ xs.length) (h1 : ∀ v ∈ vs, v.oneCell' = true)
    (h : ∀ w', OwnG w' base e sz g o m c (splice xs j vs) → Only g w w' → Kw w') : Sk P ρ w ⟨d, .store t x y, ty, pos, af, gd⟩ Kw := by
  have hlen := hown.1
  rcases hown.2 with ⟨hn, _⟩ | ⟨g', off, cap, cur, he, hb, hg, hmc, hmx, hsz, hcur⟩
  · cases hn
  · cases he
    have hrow : row w g cur.toList e := by unfold row; simpa using hg
    have hle : m * sz ≤ c * sz := Nat.mul_le_mul_right _ hmc
    have hcl : cur.toList.length = cur.size := by simp
    refine sk_store vs hx hy hrow hs (by omega) h1 fun w' hr ho => h w' ⟨?_, Or.inr ⟨g, o, c, (splice cur.toList (o + j) vs).toArray, rfl, hb, hr, hmc, hmx, ?_, ?_⟩⟩ ho
    · simp only [splice, List.length_append, List.length_take, List.length_drop]; omega
    · simp only [splice, List.size_toArray, List.length_append, List.length_take, List.length_drop]; omega
    · rw [← hcur]
      have hm2 : ((cur.toList.drop o).take (m * sz)).length = m * sz := by rw [List.length_take, List.length_drop]; omega
      refine List.ext_getElem? fun i => ?_
      rw [List.getElem?_take, List.getElem?_drop, splice_get (by omega), splice_get (by rw [hm2]; omega), List.getElem?_take, List.getElem?_drop]
      by_cases hi : i < m * sz
      · rw [if_pos hi]
        by_cases h2 : i < j
        · rw [if_pos (by omega), if_pos h2, if_pos hi]
        · rw [if_neg (by omega), if_neg h2]
          by_cases h3 : i < j + vs.length
          · rw [if_pos (by omega), if_pos h3]; congr 1; omega
          · rw [if_neg (by omega), if_neg h3, if_pos hi]
      · rw [if_neg hi, if_neg (by omega), if_neg (by omega), if_neg hi]
end
section
variable {P : Program} {ρ : Env} {w : World} {d : Option Nat} {ty : TypeId} {pos : String} {af : Array Edge} {gd : Option (Nat × Bool)} {K : Value → World → Prop}
/-- A field of one cell of a struct's value. -/
def fieldOne (P : Program) (t i off : Nat) : Bool := match P.underlying t with | some (.struct fs) => (match fs[i]? with | some f => Nat.beq f.offset off && isOneT P f.type | none => false) | _ => false
theorem rn_field {t i off : Nat} {x : Operand} {cs : List Value} {v : Value} (ht : fieldOne P t i off = true) (hx : ev ρ x = .agg cs.toArray) (hv : cs[off]? = some v) : (execOp (ev ρ) ⟨d, .field t x i, ty, pos, af, gd⟩).run P w = .ok (.value v) w := by
  unfold fieldOne at ht
  cases hu : P.underlying t with
  | none => simp [hu] at ht
  | some dd =>
    rw [hu] at ht
    cases dd with
    | struct fs =>
      cases hf : fs[i]? with
      | none => simp [hf] at ht
      | some f =>
        simp only [hf, Bool.and_eq_true] at ht
        have ho := Nat.eq_of_beq_eq_true ht.1
        have h1 := isOneT_agg ht.2 w
        simp [execOp, Instr.field, run_underlying hu, hf, hx, asAgg, part, h1, ho, hv, Result.andThen]
    | _ => simp at ht
/-- A slice of nothing. -/
theorem mk_empty {t e sz : Nat} (ht : P.underlying t = some (.slice e)) (hs : sizeIs P e sz = true) (h : ∀ g w', w.heap.size ≤ g → row w' g [] e → Below w.heap.size w w' → K (.slice (some ⟨g, 0, none⟩) 0 0) w') : Mk P ρ w ⟨d, .buildSlice t 0 #[], ty, pos, af, gd⟩ K := by
  obtain ⟨ie, h1, h2⟩ := sizeIs_info hs
  refine ⟨_, _, ?_, h w.heap.size (w.alloc (.cells #[] e)) (Nat.le_refl _) (row_alloc w _ e) (below_alloc w _)⟩
  simp [execOp, Instr.buildSlice, run_underlying ht, Go.sizeOf, typeInfo, h1, Instr.fill, newRow, Result.andThen]
  congr 2
  exact Array.eq_empty_of_size_eq_zero (by simp)
end
section
variable {P : Program} {ρ : Env} {w : World} {d : Option Nat} {ty : TypeId} {pos : String} {af : Array Edge} {gd : Option (Nat × Bool)}
/-- A slice cut at its end. -/
theorem rn_sliceUp {t e sz : Nat} {x hi : Operand} {p : Option Addr} {len cap : Nat} (h : Nat) (ht : sliceOf P t e sz = true) (hx : ev ρ x = .slice p len cap) (hh : ∃ k a, ev ρ hi = .int k a ∧ a = (h : Int)) (h2 : h ≤ cap) :
    (execOp (ev ρ) ⟨d, .slice t x none (some hi) none, ty, pos, af, gd⟩).run P w = .ok (.value (.slice p h cap)) w := by
  have hr := rn_sliceSl (P := P) (w := w) (d := d) (ty := ty) (pos := pos) (af := af) (gd := gd) (lo := none) (hi := some hi) (mx := none) 0 h cap ht hx rfl hh rfl (by simp) (Nat.zero_le _) h2 (Nat.le_refl _)
  rw [hr]
  have : (if cap = 0 then p else p.map (·.add (0 * sz))) = p := by
    split
    · rfl
    · cases p with
      | none => rfl
      | some a => simp [Addr.add]
  rw [this, Nat.sub_zero, Nat.sub_zero]
end
theorem ownsAt.cut {w : World} {base e sz m c : Nat} {p : Option Addr} {xs : List Value} (h : ownsAt w base e sz (.slice p m c) m xs) (k : Nat) (hk : k ≤ m) : ownsAt w base e sz (.slice p k c) k (xs.take (k * sz)) := by
  have hl := h.1
  have hle : k * sz ≤ m * sz := Nat.mul_le_mul_right _ hk
  refine ⟨by rw [List.length_take]; omega, ?_⟩
  rcases h.2 with ⟨hn, h0⟩ | ⟨g, off, cap, cur, he, hb, hg, hmc, hmx, hsz, hcur⟩
  · cases hn
    have : k = 0 := by omega
    subst this
    exact .inl ⟨rfl, rfl⟩
  · cases he
    refine .inr ⟨g, off, c, cur, rfl, hb, hg, by omega, hmx, hsz, ?_⟩
    rw [← hcur, List.take_take, Nat.min_eq_left hle]
theorem Kp.toB {M : List Nat} {B : Nat} {w w' : World} (h : Kp M w w') (hM : ∀ g, g ∈ M → B ≤ g) (hB : B ≤ w.heap.size) : Below B w w' := ⟨h.os, h.tape, h.output, h.size, fun k hk => h.block k (by omega) fun hm => by have := hM k hm; omega⟩
/-- A method of a pointer type: its row, and whether it wants the pointer itself. -/
def methRow (P : Program) (t : Nat) (name : String) (f : FuncId) (byP : Bool) : Bool := match P.info? t with
  | some i => (match i.methods.find? (·.name == name) with | some m => m.path.isEmpty && (match m.func with | some (g, b) => Nat.beq g f && (b == byP) | none => false) | none => false)
  | none => false
theorem methV_of {P : Program} {t e : Nat} {name : String} {f : FuncId} (h : methRow P t name f false = true) (hu : P.underlying t = some (.pointer e)) : methV P t name f e := by
  intro a w
  unfold methRow at h
  cases hi : P.info? t with
  | none => simp [hi] at h
  | some i =>
    simp only [hi] at h
    cases hm : i.methods.find? (·.name == name) with
    | none => simp [hm] at h
    | some m =>
      simp only [hm, Bool.and_eq_true] at h
      cases hf : m.func with
      | none => simp [hf] at h
      | some q =>
        obtain ⟨g, b⟩ := q
        simp only [hf, Bool.and_eq_true, beq_iff_eq] at h
        obtain ⟨hp, hg, rfl⟩ := h
        have hg := Nat.eq_of_beq_eq_true hg
        subst hg
        have hp2 : m.path = #[] := by simpa using hp
        obtain ⟨n, hn⟩ : ∃ n, P.types.size + Made.depth = n + 1 := ⟨P.types.size + (Made.depth - 1), by have : 0 < Made.depth := (by decide); omega⟩
        rw [hn]
        have hw : ∀ nm, Builtin.ssaWrapNilChk_ #[t] t #[.pointer (some a), strVal "", strVal nm] = pure (.pointer (some a)) := fun _ => rfl
        simp [method, typeInfo, hi, hm, hf, hp2, follow, receiverAt, run_underlying hu, Place.get, hw, asAddr]
/-- Below a bound that lies in the heap. -/
structure BelB (B : Nat) (w w' : World) : Prop where
  bel : Below B w w'
  size : B ≤ w'.heap.size
namespace BelB
variable {B : Nat} {w0 w w' : World}
theorem refl (h : B ≤ w.heap.size) : BelB B w w := ⟨Below.refl _ _, h⟩
theorem acc (h : BelB B w0 w) (k : Below w.heap.size w w') : BelB B w0 w' := ⟨h.bel.trans (k.mono h.size), Nat.le_trans h.size k.size⟩
theorem tr (h : BelB B w0 w) (k : Below B w w') : BelB B w0 w' := ⟨h.bel.trans k, Nat.le_trans h.size k.size⟩
theorem onlyB {g : Nat} (h : BelB B w0 w) (ho : Only g w w') (hg : B ≤ g) : BelB B w0 w' := ⟨ho.below h.bel hg, by rw [ho.size]; exact h.size⟩
theorem kpd {M : List Nat} (h : BelB B w0 w) (k : Kp M w w') (hM : ∀ g, g ∈ M → B ≤ g) : BelB B w0 w' := h.tr (k.toB hM h.size)
theorem own {base e sz m : Nat} {v : Value} {xs : List Value} (h : BelB B w0 w) (ho : ownsAt w base e sz v m xs) (hg : w.grownBy w' v.ownBlock) (hk : B ≤ base) : BelB B w0 w' := h.kpd (Kp.of_grown hg) fun g hm => Nat.le_trans hk (ho.lt g (Option.mem_toList.1 hm)).1
end BelB
section
variable {md : Option Nat → Prop} {P : Program} {n : Nat} {Q : Post} {ρ : Env} {w : World}
/-- What waits on an operation that was not done is not done. -/
theorem WR_nou {ops : Array Oper} {rest : List Oper} {d : Option Nat} {op : Op} {ty : TypeId} {pos : String} {af : Array Edge} {j : Nat} {b : Bool} (hy : yl ops ρ j = none) (h : WR md P n ops rest Q (upo ρ d undef) w) :
    WR md P n ops (⟨d, op, ty, pos, af, some (j, b)⟩ :: rest) Q ρ w := by
  intro hl rd a hmd ha
  simp only [List.all_cons, Bool.and_eq_true] at hl
  have hw : Region.wanted ⟨d, op, ty, pos, af, some (j, b)⟩ (yielded ops a.tmps) = false := by
    simp only [Region.wanted, ha.yl, hy]
    simp
  unfold wpListIn
  rw [if_neg (by simp [hw])]
  exact ⟨fun f _ => fr_fn rd f, h hl.2 rd _ hmd (ha.put d (opOk.lt hl.1) undef)⟩
end
end Coup
