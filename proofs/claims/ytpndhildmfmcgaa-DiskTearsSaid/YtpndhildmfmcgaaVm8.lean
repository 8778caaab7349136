/- What an argument that came in says of the memory: bytes, arrays of bytes, slices of them, pairs. -/
import Derived.Test.YtpndhildmfmcgaaVm7
import Derived.OpenShut
import Derived.Deep.Slices
namespace Coup
open Go Go.RowKit Go.ChangeShapes Go.WideShapes Go.Deep

theorem byte_of_wf {n : Int} (h : (Lit.int .u8 n).wf = true) : ∃ b : UInt8, n = (b.toNat : Int) := by
  have h' : 0 ≤ n ∧ n < 256 := by
    have h2 : IntKind.u8.min ≤ n ∧ n ≤ IntKind.u8.max := by simpa [Lit.wf] using h
    have e1 : IntKind.u8.min = 0 := by decide
    have e2 : IntKind.u8.max = 255 := by decide
    omega
  refine ⟨UInt8.ofNat n.toNat, ?_⟩
  rw [UInt8.toNat_ofNat']
  omega
theorem bytes_of_cells : ∀ (cs : List Value), (∀ i, i < cs.length → ∃ b, cs[i]? = some (byteV b)) → ∃ l, cs = bv l
  | [], _ => ⟨[], rfl⟩
  | c :: cs, h => by
    obtain ⟨b, hb⟩ := h 0 (by simp)
    obtain ⟨l, hl⟩ := bytes_of_cells cs fun i hi => by
      have := h (i + 1) (by simpa using hi)
      simpa using this
    simp at hb
    exact ⟨b :: l, by rw [hb, hl]; rfl⟩
section
variable {H : Type} {enc : TypeId × Value → H} {P : Program} {W : World} {base : Nat} {spare : Nat → Bool} {held : Bool}
/-- What is read at t are just n bytes. -/
def Flat (enc : TypeId × Value → H) (P : Program) (W : World) (base : Nat) (spare : Nat → Bool) (held : Bool) (t n : Nat) : Prop :=
  ∀ fuel cs x, DataW.trod enc P W base spare held fuel t cs = some x → ∃ l, cs = bv l ∧ l.length = n
theorem flat_byte {e : TypeId} (he : P.underlying e = some (.int .u8)) : Flat enc P W base spare held e 1 := fun fuel cs x h => by
  obtain ⟨n, rfl, _, hw⟩ := DataW.trod_int he h
  obtain ⟨b, rfl⟩ := byte_of_wf hw
  exact ⟨[b], rfl, rfl⟩
theorem flat_array {t e : TypeId} {n : Nat} (ht : P.underlying t = some (.array n e)) (he : P.underlying e = some (.int .u8)) (hc : P.cellsOf e = 1) (hC : P.cellsOf t = n) : Flat enc P W base spare held t n := fun fuel cs x h => by
  obtain ⟨xs, m, rfl, _, hl, hx, hel⟩ := DataW.trod_array ht h
  rw [hC] at hl
  obtain ⟨l, rfl⟩ := bytes_of_cells cs fun i hi => by
    have h1 := hel i (by omega)
    rw [hc, Nat.mul_one, List.getElem?_eq_getElem (by omega)] at h1
    obtain ⟨k, h2, _, hw⟩ := DataW.trod_int he h1
    obtain ⟨b, rfl⟩ := byte_of_wf hw
    refine ⟨b, ?_⟩
    have := congrArg (fun q => q[0]?) h2
    have h9 : cs[i]? = some (Value.int .u8 (b.toNat : Int)) := by simpa [List.getElem?_take, List.getElem?_drop] using this
    exact h9
  exact ⟨l, rfl, by simpa [bv_length] using hl⟩
theorem add_add (a : Addr) (i j : Nat) : (a.add i).add j = a.add (i + j) := by
  unfold Addr.add
  by_cases h1 : i = 0
  · subst h1; simp
  · by_cases h2 : j = 0
    · subst h2; simp [h1]
    · have h3 : i + j ≠ 0 := by omega
      simp [h1, h2, Nat.add_assoc]
/-- A slice of such elements. -/
theorem open_flat {t e n : TypeId} {a : Option Addr} {len cap : Nat} {d : DataW H} {p : List MemPlace} (ht : P.underlying t = some (.slice e)) (hC : P.cellsOf e = n) (hf : Flat enc P W base spare held e n)
    (h : DataW.Trod enc P W base spare held t (.slice a len cap) d p) : (∃ l, SlAt W a len n (bv l)) ∧ len ≤ cap := by
  obtain ⟨fuel, hh⟩ := h
  rcases open_slice ht hh with ⟨hcs, _⟩ | ⟨a', len', cap', m, n', D, Pl, hcs, hb, hl, hm, hmm, hx, hel⟩
  · simp [Value.cells] at hcs
    obtain ⟨rfl, rfl, rfl⟩ := hcs
    exact ⟨⟨[], SlAt.nil _ _ _⟩, Nat.le_refl _⟩
  · simp [Value.cells] at hcs
    obtain ⟨rfl, rfl, rfl⟩ := hcs
    refine ⟨?_, hl⟩
    have hlm : len ≤ m := by rw [hmm]; split <;> omega
    have key : ∀ k, k ≤ len → ∃ l : List UInt8, l.length = k * n ∧ ∀ j, j < k * n → W.cell? (a'.add j) = (bv l)[j]? := by
      intro k
      induction k with
      | zero => intro _; exact ⟨[], by simp, by intro j hj; omega⟩
      | succ k ih =>
        intro hk
        obtain ⟨l, h1, h2⟩ := ih (by omega)
        obtain ⟨cs', h3, h4⟩ := hel k (by omega)
        obtain ⟨l', rfl, h5⟩ := hf _ _ _ h4
        rw [hC] at h3
        obtain ⟨_, h6, h7⟩ := World.cells?_some h3
        refine ⟨l ++ l', by rw [List.length_append, h1, h5, Nat.succ_mul], fun j hj => ?_⟩
        rw [bv_append]
        by_cases hj' : j < k * n
        · rw [List.getElem?_append_left (by rw [bv_length, h1]; exact hj')]; exact h2 j hj'
        · have hj2 : j - k * n < n := by rw [Nat.succ_mul] at hj; omega
          have := h7 (j - k * n) hj2
          rw [add_add, show k * n + (j - k * n) = j by omega] at this
          rw [List.getElem?_append_right (by rw [bv_length, h1]; omega), bv_length, h1]
          exact this
    obtain ⟨l, h1, h2⟩ := key len (Nat.le_refl _)
    refine ⟨l, by rw [bv_length, h1], Nat.le_trans hl hm, fun h0 => ?_⟩
    obtain ⟨b, off, spot⟩ := a'
    have hc0 : W.cell? ⟨b, off, spot⟩ = some ((bv l)[0]'(by rw [bv_length, h1]; exact h0)) := by
      have := h2 0 h0
      rw [List.getElem?_eq_getElem (by rw [bv_length, h1]; exact h0)] at this
      simpa [Addr.add] using this
    have hspot : spot = none := by simpa using World.cell?_spot hc0
    subst hspot
    exact ⟨b, off, rfl, World.block_lt_of_cell? _ _ hc0, fun k hk => by rw [← h2 k hk, Addr.add_lit]⟩
theorem okWide_array {r : Reach} {t e : TypeId} {n : Nat} {v : Value} (ht : P.underlying t = some (.array n e)) (h : Value.okWide P W r base t v) : ∃ cs, v = .agg cs ∧ cs.size = P.cellsOf t := by
  simp only [Value.okWide, ht] at h
  obtain ⟨cs, h1, h2, _⟩ := h
  exact ⟨cs, h1, h2⟩
theorem open_array {r : Reach} {b0 : Nat} {t e : TypeId} {n : Nat} {v : Value} {d : DataW H} {p : List MemPlace} (ht : P.underlying t = some (.array n e)) (he : P.underlying e = some (.int .u8)) (hc : P.cellsOf e = 1) (hC : P.cellsOf t = n)
    (hv : Value.okWide P W r b0 t v) (h : DataW.Trod enc P W base spare held t v d p) : ∃ l : List UInt8, v = .agg (bv l).toArray ∧ l.length = n := by
  obtain ⟨cs, rfl, hsz⟩ := okWide_array ht hv
  obtain ⟨fuel, hh⟩ := h
  obtain ⟨l, h1, h2⟩ := flat_array ht he hc hC _ _ _ hh
  exact ⟨l, by rw [← h1]; simp [Value.cells], h2⟩
theorem open_pairI {r : Reach} {b0 : Nat} {t : TypeId} {f0 f1 : Field} {k0 k1 : IntKind} {v : Value} {d : DataW H} {p : List MemPlace} (hs : P.underlying t = some (.struct #[f0, f1])) (hC : P.cellsOf t = 2)
    (o0 : f0.offset = 0) (o1 : f1.offset = 1) (c0 : P.cellsOf f0.type = 1) (c1 : P.cellsOf f1.type = 1) (t0 : P.underlying f0.type = some (.int k0)) (t1 : P.underlying f1.type = some (.int k1))
    (hv : Value.okWide P W r b0 t v) (h : DataW.Trod enc P W base spare held t v d p) : ∃ a b : Int, v = .agg #[.int k0 a, .int k1 b] ∧ (Lit.int k0 a).wf = true ∧ (Lit.int k1 b).wf = true := by
  obtain ⟨cs, rfl, hsz⟩ := okWide_struct hs hv
  obtain ⟨fuel, hh⟩ := h
  obtain ⟨xs, m, rfl, _, hl, hx, hel⟩ := DataW.trod_struct hs hh
  rw [hC] at hl hsz
  have h0 := hel 0 f0 rfl
  have h1 := hel 1 f1 rfl
  obtain ⟨l⟩ := cs
  match l, hsz with
  | [u, v], _ =>
    have hx2 : xs.length = 2 := hx
    rw [o0, c0, List.getElem?_eq_getElem (by omega)] at h0
    rw [o1, c1, List.getElem?_eq_getElem (by omega)] at h1
    obtain ⟨a, e0, _, w0⟩ := DataW.trod_int t0 h0
    obtain ⟨b, e1, _, w1⟩ := DataW.trod_int t1 h1
    simp [Value.cells] at e0 e1
    exact ⟨a, b, by rw [e0, e1], w0, w1⟩
end
end Coup
