/- Strings, pointers, iterators over strings, functions without a Go text. -/
import Derived.Test.YtpndhildmfmcgaaVm12
import Derived.Lib.Builder
import Derived.Lib.OthersKept
import Derived.Laws.Externs
namespace Coup
open Go Go.RowKit
section
variable {P : Program} {ρ : Env} {w : World} {d : Option Nat} {ty : TypeId} {pos : String} {af : Array Edge} {gd : Option (Nat × Bool)} {K : Value → World → Prop}
def ptrT (P : Program) (t : Nat) : Bool := match P.underlying t with | some (.pointer e) => (P.info? e).isSome | _ => false
theorem ptrT_split {t : Nat} (h : ptrT P t = true) : ∃ e j, P.underlying t = some (.pointer e) ∧ P.info? e = some j := by
  unfold ptrT at h
  split at h
  · rename_i e hu
    obtain ⟨j, hj⟩ := Option.isSome_iff_exists.1 h
    exact ⟨e, j, hu, hj⟩
  · cases h
theorem eqIn_ptr0 {t : Nat} (ht : ptrT P t = true) (n : Nat) : (Op.equalIn (n + 1) t (.pointer none) (.pointer none)).run P w = .ok true w := by
  obtain ⟨e, j, h1, h2⟩ := ptrT_split ht
  simp [Op.equalIn, run_underlying h1, Go.sizeOf, typeInfo, h2, Result.andThen]
theorem eqIn_ptr1 {t : Nat} (ht : ptrT P t = true) (n : Nat) (a : Addr) : (Op.equalIn (n + 1) t (.pointer (some a)) (.pointer none)).run P w = .ok false w := by
  obtain ⟨e, j, h1, h2⟩ := ptrT_split ht
  simp [Op.equalIn, run_underlying h1, Go.sizeOf, typeInfo, h2, Result.andThen]
theorem rn_eqlP0 {t t' : Nat} {x y : Operand} (ht : ptrT P t = true) (hx : ev ρ x = .pointer none) (hy : ev ρ y = .pointer none) : (execOp (ev ρ) ⟨d, .binOp .eql t x y t', ty, pos, af, gd⟩).run P w = .ok (.value (.bool true)) w := by
  have := eqIn_ptr0 (w := w) ht 9999
  simp [execOp, hx, hy, eqGuard, binOp, Op.equal, Op.maxDepth, this, Result.andThen]
theorem rn_eqlP1 {t t' : Nat} {x y : Operand} {a : Addr} (ht : ptrT P t = true) (hx : ev ρ x = .pointer (some a)) (hy : ev ρ y = .pointer none) : (execOp (ev ρ) ⟨d, .binOp .eql t x y t', ty, pos, af, gd⟩).run P w = .ok (.value (.bool false)) w := by
  have := eqIn_ptr1 (w := w) ht 9999 a
  simp [execOp, hx, hy, eqGuard, binOp, Op.equal, Op.maxDepth, this, Result.andThen]
theorem rn_neqPs {t t' : Nat} {x y : Operand} {a : Addr} (ht : ptrT P t = true) (hx : ev ρ x = .pointer (some a)) (hy : ev ρ y = .pointer (some a)) : (execOp (ev ρ) ⟨d, .binOp .neq t x y t', ty, pos, af, gd⟩).run P w = .ok (.value (.bool false)) w := by
  obtain ⟨e, j, h1, h2⟩ := ptrT_split ht
  have h3 := Lib.run_neq_ptr_same (P := P) w a h1 h2
  have hg : (eqGuard .neq t x y (.pointer (some a)) (.pointer (some a))).run P w = .ok () w := by simp [eqGuard]
  simp only [execOp, hx, hy, Sem.run_bind, hg, Result.andThen_ok, h3]
  rfl
/-- A pointer to a whole variable, as a raw one, and back. -/
def unsafeOk (P : Program) (src dst e cells : Nat) : Bool := match P.underlying src, P.underlying dst with
  | some (.pointer t), some .unsafePointer => (match P.info? t with | some j => decide (j.size ≠ 0) && liesAt P P.depth e (cells / P.cellsOf e) 0 t 1 | none => false)
  | _, _ => false
theorem row.shape {g t : Nat} {l : List Value} (h : row w g l t) : w.shape? g = some (t, l.length) := by unfold row at h; simp [World.shape?, h]
theorem rn_cvPU {src dst e g : Nat} {x : Operand} {l : List Value} (h : unsafeOk P src dst e l.length = true) (hr : row w g l e) (h0 : 0 < l.length) (hx : ev ρ x = .pointer (some ⟨g, 0, none⟩)) :
    (execOp (ev ρ) ⟨d, .convert src dst x, ty, pos, af, gd⟩).run P w = .ok (.value (.pointer (some ⟨g, 0, none⟩))) w := by
  unfold unsafeOk at h
  split at h
  · rename_i t h1 h2
    cases hj : P.info? t with
    | none => simp [hj] at h
    | some j =>
      simp only [hj, Bool.and_eq_true, decide_eq_true_eq] at h
      have := Lib.run_to_unsafe (P := P) w ⟨g, 0, none⟩ h1 h2 hj h.1 hr.shape h0
      simp only [execOp, hx, Sem.run_bind, this, Result.andThen_ok]
      rfl
  · cases h
theorem rn_cvUP {src dst e g : Nat} {x : Operand} {l : List Value} (h : unsafeOk P src dst e l.length = true) (hr : row w g l e) (hx : ev ρ x = .pointer (some ⟨g, 0, none⟩)) :
    (execOp (ev ρ) ⟨d, .convert dst src x, ty, pos, af, gd⟩).run P w = .ok (.value (.pointer (some ⟨g, 0, none⟩))) w := by
  unfold unsafeOk at h
  split at h
  · rename_i t h1 h2
    cases hj : P.info? t with
    | none => simp [hj] at h
    | some j =>
      simp only [hj, Bool.and_eq_true, decide_eq_true_eq] at h
      have := Lib.run_from_unsafe (P := P) w ⟨g, 0, none⟩ h2 h1 hj hr.shape h.2
      simp only [execOp, hx, Sem.run_bind, this, Result.andThen_ok]
      rfl
  · cases h
theorem rn_noEscape {f : FuncId} {fn : Func} {x : Operand} {v : Value} {ats : Array Nat} (hf : P.funcs[f]? = some fn) (hname : (fn.name == "runtime.NumGoroutine") = false)
    (hb : fn.body.isNone = true) (hn : Extern.findNext fn = none) (he : Extern.find fn = some Extern.AbiNoEscape.same) (hx : ev ρ x = v) :
    (execOp (ev ρ) ⟨d, .call ⟨.value (.func f), #[x], ats⟩, ty, pos, af, gd⟩).run P w = .ok (.value v) w := by
  have h1 := run_callFunc_extern hf hname hb hn he #[v] w
  rw [Lib.run_noEscape, Result.andThen_ok] at h1
  have hm : (#[x] : Array Operand).map (ev ρ) = #[v] := by simp [hx]
  simp [execOp, resolve, hm, ev, Deferred.ofValue, invoke, h1, Result.andThen]

/-! ### Strings -/
theorem strOf_eq (s : ByteArray) : (.string s : Value) = strOf s.data.toList := by simp [strOf]
theorem rn_adds {t t' : Nat} {x y : Operand} {a b : List UInt8} (hx : ev ρ x = strOf a) (hy : ev ρ y = strOf b) (hl : a.length + b.length ≤ 9223372036854775807 := by omega) :
    (execOp (ev ρ) ⟨d, .binOp .add t x y t', ty, pos, af, gd⟩).run P w = .ok (.value (strOf (a ++ b))) w := by
  have h1 : ¬ (((a.length + b.length : Nat) : Int) > IntKind.i64.max) := by
    have : IntKind.i64.max = 9223372036854775807 := by decide
    omega
  have h2 : (⟨a.toArray⟩ : ByteArray) ++ ⟨b.toArray⟩ = ⟨(a ++ b).toArray⟩ := by
    apply ByteArray.ext
    simp [ByteArray.data_append]
  have h3 : (⟨a.toArray⟩ : ByteArray).size = a.length := by simp [ByteArray.size]
  have h4 : (⟨b.toArray⟩ : ByteArray).size = b.length := by simp [ByteArray.size]
  simp only [execOp, hx, hy, strOf, eqGuard, binOp, Op.stringOp, h3, h4]
  simp only [h2]
  rw [if_neg h1]
  simp [Result.andThen]
theorem rn_len_string {x : Operand} {l : List UInt8} {t : Nat} {ats : List Nat} (hs : P.underlying t = some .string) (hx : ev ρ x = strOf l) (ha : ats[0]? = some t) :
    (execOp (ev ρ) ⟨d, .call ⟨.builtin .len, #[x], ats.toArray⟩, ty, pos, af, gd⟩).run P w = .ok (.value (.int .i64 (l.length : Nat))) w := by
  have h3 : (⟨l.toArray⟩ : ByteArray).size = l.length := by simp [ByteArray.size]
  simp [execOp, resolve, hx, strOf, invoke, builtin, Builtin.len_, Builtin.lenOf, ha, run_underlying hs, goInt, h3, Result.andThen]
theorem rn_byteS {t : Nat} {x i : Operand} {l : List UInt8} {k : IntKind} {a : Int} (ht : P.underlying t = some .string) (hx : ev ρ x = strOf l) (hi : ev ρ i = .int k a) (j : Nat) (hj : a = (j : Int)) {b : UInt8} (hb : l[j]? = some b) :
    (execOp (ev ρ) ⟨d, .index t x i, ty, pos, af, gd⟩).run P w = .ok (.value (.int .u8 b.toNat)) w :=
  rn_indexS ht hx hi j hj (by
    have hlt := (List.getElem?_eq_some_iff.1 hb).1
    have h3 : (⟨l.toArray⟩ : ByteArray).size = l.length := by simp [ByteArray.size]
    rw [getElem?_pos _ _ (by rw [h3]; exact hlt)]
    have : (⟨l.toArray⟩ : ByteArray)[j]'(by rw [h3]; exact hlt) = l[j] := rfl
    rw [this]
    rw [List.getElem?_eq_getElem hlt] at hb
    exact hb)
end
section
variable {P : Program} {ρ : Env} {w : World} {d : Option Nat} {ty : TypeId} {pos : String} {af : Array Edge} {gd : Option (Nat × Bool)} {K : Value → World → Prop}
theorem extract_str (l : List UInt8) (a b : Nat) : (.string ((⟨l.toArray⟩ : ByteArray).extract a b) : Value) = strOf ((l.drop a).take (b - a)) := by
  unfold strOf
  congr 1
  apply ByteArray.ext
  rw [ByteArray.data_extract]
  simp [List.extract_eq_take_drop]
theorem rn_sliceStr {t : Nat} {x : Operand} {lo hi : Option Operand} {l : List UInt8} (a b : Nat) (ht : P.underlying t = some .string) (hx : ev ρ x = strOf l) (hl : ob ρ lo 0 a) (hh : ob ρ hi l.length b) (h1 : a ≤ b) (h2 : b ≤ l.length) :
    (execOp (ev ρ) ⟨d, .slice t x lo hi none, ty, pos, af, gd⟩).run P w = .ok (.value (strOf ((l.drop a).take (b - a)))) w := by
  have h3 : (⟨l.toArray⟩ : ByteArray).size = l.length := by simp [ByteArray.size]
  have e1 : (a : Int) ≤ b := by omega
  have e2 : (b : Int) ≤ l.length := by omega
  cases hi with
  | none =>
    simp only [ob] at hh
    subst hh
    cases lo with
    | none =>
      simp only [ob] at hl; subst hl
      rw [List.drop_zero, Nat.sub_zero, List.take_of_length_le (Nat.le_refl _)]
      have h4 : (⟨l.toArray⟩ : ByteArray).extract 0 l.length = ⟨l.toArray⟩ := by
        have := extract_str l 0 l.length
        rw [List.drop_zero, Nat.sub_zero, List.take_of_length_le (Nat.le_refl _)] at this
        exact Value.string.inj this
      simp [execOp, hx, strOf, Instr.sliceAt, Instr.slice, Instr.sliceBounds, run_underlying ht, h3, h4, Result.andThen]
    | some y => rw [← extract_str]; obtain ⟨k, c, hy, rfl⟩ := hl; simp [execOp, hx, strOf, hy, Instr.sliceAt, Instr.slice, Instr.sliceBounds, Instr.sliceBound, asIntOf, run_underlying ht, h3, h1, Result.andThen]
  | some z =>
    obtain ⟨kz, az, hz, rfl⟩ := hh
    rw [← extract_str]
    cases lo with
    | none => simp only [ob] at hl; subst hl; simp [execOp, hx, strOf, hz, Instr.sliceAt, Instr.slice, Instr.sliceBounds, Instr.sliceBound, asIntOf, run_underlying ht, h3, h2, Result.andThen]
    | some y => obtain ⟨k, c, hy, rfl⟩ := hl; simp [execOp, hx, strOf, hy, hz, Instr.sliceAt, Instr.slice, Instr.sliceBounds, Instr.sliceBound, asIntOf, run_underlying ht, h3, h1, h2, Result.andThen]
theorem rn_sliceFrom {t : Nat} {x y : Operand} {l : List UInt8} (a : Nat) (ht : P.underlying t = some .string) (hx : ev ρ x = strOf l) (hl : ∃ k c, ev ρ y = .int k c ∧ c = (a : Int)) (h1 : a ≤ l.length) :
    (execOp (ev ρ) ⟨d, .slice t x (some y) none none, ty, pos, af, gd⟩).run P w = .ok (.value (strOf (l.drop a))) w := by
  have := rn_sliceStr (P := P) (w := w) (d := d) (ty := ty) (pos := pos) (af := af) (gd := gd) (lo := some y) (hi := none) a l.length ht hx hl rfl h1 (Nat.le_refl _)
  rwa [List.take_of_length_le (by simp)] at this
theorem rn_sliceTo {t : Nat} {x y : Operand} {l : List UInt8} (b : Nat) (ht : P.underlying t = some .string) (hx : ev ρ x = strOf l) (hh : ∃ k c, ev ρ y = .int k c ∧ c = (b : Int)) (h1 : b ≤ l.length) :
    (execOp (ev ρ) ⟨d, .slice t x none (some y) none, ty, pos, af, gd⟩).run P w = .ok (.value (strOf (l.take b))) w := by
  have := rn_sliceStr (P := P) (w := w) (d := d) (ty := ty) (pos := pos) (af := af) (gd := gd) (lo := none) (hi := some y) 0 b ht hx rfl hh (Nat.zero_le _) h1
  rwa [List.drop_zero, Nat.sub_zero] at this
/-- An iterator over a string. -/
def ItAt (w : World) (g : Nat) (l : List UInt8) (i : Nat) : Prop := w.heap[g]? = some (.stringIter ⟨l.toArray⟩ i)
namespace ItAt
variable {w w' : World} {g i : Nat} {l : List UInt8}
theorem lt (h : ItAt w g l i) : g < w.heap.size := (Array.getElem?_eq_some_iff.1 h).1
theorem new (h : ItAt w g l i) (hb : Below w.heap.size w w') : ItAt w' g l i := (hb.block g h.lt).trans h
theorem only {g' : Nat} (h : ItAt w g l i) (ho : Only g' w w') (hg : g ≠ g') : ItAt w' g l i := (ho.block g hg).trans h
theorem kpd {M : List Nat} (h : ItAt w g l i) (k : Kp M w w') (hg : g ∉ M) : ItAt w' g l i := (k.block g h.lt hg).trans h
end ItAt
theorem mk_range {t : Nat} {x : Operand} {l : List UInt8} (ht : P.underlying t = some .string) (hx : ev ρ x = strOf l) (h : ∀ g w', w.heap.size ≤ g → ItAt w' g l 0 → Below w.heap.size w w' → K (.pointer (some ⟨g, 0, none⟩)) w') : Mk P ρ w ⟨d, .range t x, ty, pos, af, gd⟩ K := by
  refine ⟨_, w.alloc (.stringIter ⟨l.toArray⟩ 0), ?_, h w.heap.size _ (Nat.le_refl _) (show (w.heap.push (.stringIter ⟨l.toArray⟩ 0))[w.heap.size]? = _ by simp) (below_alloc w _)⟩
  simp [execOp, hx, strOf, Instr.range, run_underlying ht, newObj, Sem.run, Result.andThen]
/-- A next byte that is no part of a longer rune. -/
theorem mk_next {it : Operand} {g i : Nat} {l : List UInt8} {b : UInt8} (hit : ItAt w g l i) (hx : ev ρ it = .pointer (some ⟨g, 0, none⟩)) (hb : l[i]? = some b) (ha : b.toNat < 128)
    (h : ∀ w', ItAt w' g l (i + 1) → Only g w w' → K (.tuple #[.bool true, .int .i64 (i : Nat), .int .i32 (b.toNat : Nat)]) w') : Mk P ρ w ⟨d, .next it true, ty, pos, af, gd⟩ K := by
  have h3 : (⟨l.toArray⟩ : ByteArray).size = l.length := by simp [ByteArray.size]
  obtain ⟨hlt, he⟩ := List.getElem?_eq_some_iff.1 hb
  have hp : i < (⟨l.toArray⟩ : ByteArray).size := by rw [h3]; exact hlt
  have hbb : (⟨l.toArray⟩ : ByteArray)[i]'hp = b := he
  have hn := Lib.run_next_ascii_at (P := P) w g ⟨l.toArray⟩ i ty hit hp (by rw [hbb]; exact ha)
  rw [hbb] at hn
  refine ⟨_, w.iterAt g ⟨l.toArray⟩ (i + 1), ?_, h _ (Lib.iterAt_heap w g _ i _ hit) ⟨rfl, rfl, rfl, Lib.iterAt_size _ _ _ _, fun k hk => Lib.iterAt_other _ _ _ _ _ hk⟩⟩
  simp only [execOp, hx, Sem.run_bind, hn, Result.andThen_ok]
  rfl
theorem decode_big (s : ByteArray) (i : Nat) (h : i < s.size) (ha : 128 ≤ (s[i]'h).toNat) : 128 ≤ (Utf8.decode s i).1 := by
  have e : s.get! i = s[i]'h := by
    cases s with
    | mk bs => exact getElem!_pos bs i h
  unfold Utf8.decode
  simp only [Nat.add_zero, e]
  rw [if_neg (by omega)]
  have hr : 128 ≤ Utf8.runeError := by decide
  split
  · split
    · simp only; omega
    · exact hr
  · split
    · split
      · rename_i hh
        simp only [Bool.and_eq_true, decide_eq_true_eq] at hh
        simp only; omega
      · exact hr
    · split
      · split
        · rename_i hh
          simp only [Bool.and_eq_true, decide_eq_true_eq] at hh
          simp only; omega
        · exact hr
      · exact hr
/-- A next rune that is no ASCII. -/
theorem mk_nextBig {it : Operand} {g i : Nat} {l : List UInt8} {b : UInt8} (hit : ItAt w g l i) (hx : ev ρ it = .pointer (some ⟨g, 0, none⟩)) (hb : l[i]? = some b) (ha : 128 ≤ b.toNat)
    (h : ∀ (c : Nat) w', 128 ≤ c → Only g w w' → K (.tuple #[.bool true, .int .i64 (i : Nat), .int .i32 (c : Nat)]) w') : Mk P ρ w ⟨d, .next it true, ty, pos, af, gd⟩ K := by
  have h3 : (⟨l.toArray⟩ : ByteArray).size = l.length := by simp [ByteArray.size]
  obtain ⟨hlt, he⟩ := List.getElem?_eq_some_iff.1 hb
  have hp : i < (⟨l.toArray⟩ : ByteArray).size := by rw [h3]; exact hlt
  have hbb : (⟨l.toArray⟩ : ByteArray)[i]'hp = b := he
  have hn := Lib.run_next_any_at (P := P) w g ⟨l.toArray⟩ i ty hit hp
  refine ⟨_, w.iterAt g ⟨l.toArray⟩ (i + (Utf8.decode ⟨l.toArray⟩ i).2), ?_, h (Utf8.decode ⟨l.toArray⟩ i).1 _ (decode_big _ _ hp (by rw [hbb]; exact ha)) ⟨rfl, rfl, rfl, Lib.iterAt_size _ _ _ _, fun k hk => Lib.iterAt_other _ _ _ _ _ hk⟩⟩
  simp only [execOp, hx, Sem.run_bind, hn, Result.andThen_ok]
  rfl
theorem rn_nextEnd {it : Operand} {g i : Nat} {l : List UInt8} (hit : ItAt w g l i) (hx : ev ρ it = .pointer (some ⟨g, 0, none⟩)) (hb : l.length ≤ i) :
    (execOp (ev ρ) ⟨d, .next it true, ty, pos, af, gd⟩).run P w = .ok (.value (.tuple #[.bool false])) w := by
  have h3 : (⟨l.toArray⟩ : ByteArray).size = l.length := by simp [ByteArray.size]
  have hn := Lib.run_next_end_at (P := P) w g ⟨l.toArray⟩ i ty hit (by rw [h3]; omega)
  simp only [execOp, hx, Sem.run_bind, hn, Result.andThen_ok]
  rfl
end
section
variable {P : Program} {ρ : Env} {w w' : World} {d : Option Nat} {ty : TypeId} {pos : String} {af : Array Edge} {gd : Option (Nat × Bool)} {K : Value → World → Prop}
theorem ownsRow_only {base e sz m g : Nat} {v : Value} {xs : List Value} (h : w.ownsRow base e sz v m xs) (ho : Only g w w') (hg : v.ownBlock ≠ some g) : w'.ownsRow base e sz v m xs :=
  h.kept (row := some g) ⟨ho.os, ho.tape, ho.output, Nat.le_of_eq ho.size.symm, fun k _ hk => ho.block k fun e => hk (by rw [e])⟩ (Or.inr hg)
theorem ownsRow_new {base e sz m : Nat} {v : Value} {xs : List Value} (h : w.ownsRow base e sz v m xs) (hb : Below w.heap.size w w') : w'.ownsRow base e sz v m xs := by
  refine ⟨h.1, ?_⟩
  rcases h.2 with hn | ⟨g, cap, cur, hv, hbg, hgg, rest⟩
  · exact .inl hn
  · exact .inr ⟨g, cap, cur, hv, hbg, by rw [hb.block g (Array.getElem?_eq_some_iff.1 hgg).1]; exact hgg, rest⟩
/-- append, onto a row of the walk's own that begins at its block's start. -/
theorem mk_appendR {t t' e sz bytes : Nat} {s x : Operand} {base m k c : Nat} {v : Value} {xs news : List Value} {sp : Option Addr} {z : Value} (ht : P.underlying t = some (.slice e)) (ht' : t' = t)
    (hi : (P.info? e).map (fun i => (i.zero, i.size, i.bytes)) = some (some z, sz, bytes)) (hzs : z.cells.size = sz) (hsz : 0 < sz) (hs : ev ρ s = v) (hown : w.ownsRow base e sz v m xs)
    (hx : ev ρ x = .slice sp k c) (hsrc : SlAt w sp k sz news) (h1 : ∀ u ∈ news, u.oneCell' = true) (hk : 0 < k) (h63 : m + k ≤ maxLen) (hbytes : (m + k) * bytes ≤ 140737488355328) (hbase : base ≤ w.heap.size)
    (h : ∀ v' w', w'.ownsRow base e sz v' (m + k) (xs ++ news) → w.grownBy w' v.ownBlock → K v' w') : Mk P ρ w ⟨d, .call ⟨.builtin .append, #[s, x], #[t, t']⟩, ty, pos, af, gd⟩ K := by
  subst ht'
  obtain ⟨i, hq, hzz⟩ := Option.map_eq_some_iff.1 hi
  simp only [Prod.mk.injEq] at hzz
  obtain ⟨hz, hsize, hby⟩ := hzz
  obtain ⟨g0, o0, rfl, _⟩ := hsrc.some (Nat.mul_pos hk hsz)
  obtain ⟨v', w', hr, h2, h3, _⟩ := run_append_own (P := P) w base t' ty e i z sz bytes ht hq hz hsize hby hzs hsz v m xs hown ⟨g0, o0, none⟩ k c news hsrc.len
    (fun j u hu => by rw [Addr.add_lit]; exact hsrc.cell j hu) h1 h63 hbytes hbase
  refine ⟨_, w', ?_, h _ w' h2 h3⟩
  simp [execOp, resolve, invoke, builtin, hs, hx, hr, Result.andThen]
end
section
variable {P : Program} {ρ : Env} {w : World} {d : Option Nat} {ty : TypeId} {pos : String} {af : Array Edge} {gd : Option (Nat × Bool)} {K : Value → World → Prop}
theorem mk_ints3 {t e : Nat} {x y z : Operand} {a b c : Int} (zs : List Value) (ht : P.underlying t = some (.slice e)) (hi : (P.info? e).map (fun i => (i.zero.map (·.cells), i.size)) = some (some zs.toArray, 1)) (hx : ev ρ x = .int .i64 a) (hy : ev ρ y = .int .i64 b) (hz : ev ρ z = .int .i64 c)
    (h : ∀ g w', w.heap.size ≤ g → row w' g (iv [a, b, c]) e → Below w.heap.size w w' → K (.slice (some ⟨g, 0, none⟩) 3 3) w') : Mk P ρ w ⟨d, .buildSlice t 3 #[(0, x), (1, y), (2, z)], ty, pos, af, gd⟩ K := by
  refine mk_buildSlice (parts := [(0, x), (1, y), (2, z)]) [(0, .int .i64 a), (1, .int .i64 b), (2, .int .i64 c)] zs 1 ht hi (by simp [hx, hy, hz]) (by omega) (by omega) ?_ (by simp [Value.cells]) (by simpa [Value.cells, iv] using h)
  intro i hi
  rcases i with _ | _ | _ | i
  · simp [Value.cells]
  · simp [Value.cells]
  · simp [Value.cells]
  · exfalso; simp at hi; omega
end
end Coup
