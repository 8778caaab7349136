/- Facts about memory, kept up along a walk; slices that are made, and grown. -/
import Derived.Test.YtpndhildmfmcgaaVm2
namespace Coup
open Go Go.RowKit

section
variable {md : Option Nat → Prop} {P : Program} {n : Nat} {Q : Post} {ρ : Env} {w w0 w1 w' : World} {l : List Oper}
theorem W_draw' {id : Nat} (M : List Nat) (hm : P.follows .mixedOrders = true) (h : ∀ w1, Below w.heap.size w w1 → Kp M w1 w1 → WA md P n l (Kp M w1) Q [] ρ w1) : W md P n (.region id l.toArray true) Q ρ w :=
  W_draw (Kp M w.drew) hm (Kp.refl _ _) (h w.drew (Below.refl _ _).drew (Kp.refl _ _))
theorem calls_ret {f : FuncId} {args : Array Value} {v : Value} {p : World → Prop} (h : Calls P f args w fun e w' => e = .returned v ∧ p w') : Calls P f args w (Ret fun v' w' => v' = v ∧ p w') :=
  h.mono fun _ _ ⟨h1, h2⟩ => ⟨_, h1, rfl, h2⟩
theorem calls_of_ret {f : FuncId} {args : Array Value} {v : Value} {p : World → Prop} (h : Calls P f args w (Ret fun v' w' => v' = v ∧ p w')) : Calls P f args w fun e w' => e = .returned v ∧ p w' :=
  h.mono fun _ _ ⟨_, h1, h2, h3⟩ => ⟨by rw [h1, h2], h3⟩
theorem Ret.mono {R R' : Value → World → Prop} (h : ∀ v w, R v w → R' v w) : ∀ e w, Ret R e w → Ret R' e w := fun _ _ ⟨v, h1, h2⟩ => ⟨v, h1, h _ _ h2⟩
theorem _root_.Go.Calls.to {f : FuncId} {args : Array Value} {R R' : Value → World → Prop} (h : Calls P f args w (Ret R)) (hr : ∀ v w', R v w' → R' v w') : Calls P f args w (Ret R') := h.mono (Ret.mono hr)

theorem _root_.Go.RowKit.Below.kpd {M : List Nat} (h : Below w0.heap.size w0 w) (k : Kp M w w') (hM : ∀ g, g ∈ M → w0.heap.size ≤ g) : Below w0.heap.size w0 w' :=
  ⟨k.os.trans h.os, k.tape.trans h.tape, k.output.trans h.output, Nat.le_trans h.size k.size, fun i hi =>
    (k.block i (Nat.lt_of_lt_of_le hi h.size) fun hm => absurd hi (Nat.not_lt.2 (hM i hm))).trans (h.block i hi)⟩
theorem Kp.of_grown {r : Option Nat} (h : w.grownBy w' r) : Kp r.toList w w' := ⟨h.os, h.tape, h.output, h.size, fun k hk hm => h.block k hk fun e => hm (by simp [← e])⟩

/-! ### Rows -/
theorem row.kpd {M : List Nat} {g t : Nat} {cs : List Value} (h : row w g cs t) (k : Kp M w w') (hg : g ∉ M) : row w' g cs t := h.kp k hg
theorem row.own {base e sz m : Nat} {v : Value} {xs : List Value} {g t : Nat} {cs : List Value} (h : row w g cs t) (ho : ownsAt w base e sz v m xs) (hg : w.grownBy w' v.ownBlock) (hk : g < base) : row w' g cs t :=
  h.kp (Kp.of_grown hg) fun hm => by
    simp only [Option.mem_toList] at hm
    have := (ho.lt g hm).1
    omega
theorem _root_.Go.RowKit.Below.own {base e sz m : Nat} {v : Value} {xs : List Value} (h : Below w0.heap.size w0 w) (ho : ownsAt w base e sz v m xs) (hg : w.grownBy w' v.ownBlock) (hk : w0.heap.size ≤ base) : Below w0.heap.size w0 w' :=
  h.kpd (Kp.of_grown hg) fun g hm => by
    simp only [Option.mem_toList] at hm
    have := (ho.lt g hm).1
    omega
theorem Kp.own {M : List Nat} {base e sz m : Nat} {v : Value} {xs : List Value} (h : Kp M w0 w) (ho : ownsAt w base e sz v m xs) (hg : w.grownBy w' v.ownBlock) (hk : w0.heap.size ≤ base) : Kp M w0 w' :=
  h.add (Kp.of_grown hg) fun g hm => by
    simp only [Option.mem_toList] at hm
    have := (ho.lt g hm).1
    left; omega

/-! ### Slices that are read -/
theorem SlAt.new {p : Option Addr} {m sz : Nat} {cs : List Value} (h : SlAt w p m sz cs) (hb : Below w.heap.size w w') : SlAt w' p m sz cs := h.below hb (Nat.le_refl _)
theorem SlAt.kpd {M : List Nat} {p : Option Addr} {m sz : Nat} {cs : List Value} (h : SlAt w p m sz cs) (k : Kp M w w') (hM : ∀ b o, p = some ⟨b, o, none⟩ → b ∉ M) : SlAt w' p m sz cs := by
  refine ⟨h.len, h.max, fun h0 => ?_⟩
  obtain ⟨b, off, hp, hlt, hc⟩ := h.at_ h0
  refine ⟨b, off, hp, Nat.lt_of_lt_of_le hlt k.size, fun j hj => ?_⟩
  rw [← hc j hj]
  have := k.block b hlt (hM b off hp)
  simp only [World.cell?, this]
theorem SlAt.kp0 {p : Option Addr} {m sz : Nat} {cs : List Value} (h : SlAt w p m sz cs) (k : Kp [] w w') : SlAt w' p m sz cs := h.kpd k (by simp)
theorem SlAt.onlyP {g : Nat} {p : Option Addr} {m sz : Nat} {cs : List Value} (h : SlAt w p m sz cs) (ho : Only g w w') (hg : ∀ b o, p = some ⟨b, o, none⟩ → b ≠ g) : SlAt w' p m sz cs := h.kpd (Kp.of_only ho) (fun b o e => by simpa using hg b o e)
theorem SlAt.blk {g off : Nat} {m sz : Nat} {cs : List Value} (h : SlAt w (Option.some ⟨g, off, none⟩) m sz cs) (he : w'.heap[g]? = w.heap[g]?) (hs : w.heap.size ≤ w'.heap.size) : SlAt w' (Option.some ⟨g, off, none⟩) m sz cs := by
  refine ⟨h.len, h.max, fun h0 => ?_⟩
  obtain ⟨b, o, hp, hlt, hc⟩ := h.at_ h0
  cases hp
  exact ⟨g, off, rfl, Nat.lt_of_lt_of_le hlt hs, fun j hj => by rw [← hc j hj]; simp only [World.cell?, he]⟩
theorem SlAt.only {g g0 off : Nat} {m sz : Nat} {cs : List Value} (h : SlAt w (Option.some ⟨g0, off, none⟩) m sz cs) (ho : Only g w w') (hg : g0 ≠ g) : SlAt w' (Option.some ⟨g0, off, none⟩) m sz cs := h.onlyP ho (by rintro b o e; cases e; exact hg)
theorem SlAt.own {g0 off base e sz' k : Nat} {v : Value} {xs : List Value} {m sz : Nat} {cs : List Value} (h : SlAt w (Option.some ⟨g0, off, none⟩) m sz cs) (ho : ownsAt w base e sz' v k xs) (hg : w.grownBy w' v.ownBlock) (hk : g0 < base) : SlAt w' (Option.some ⟨g0, off, none⟩) m sz cs := h.kpd (Kp.of_grown hg) (by rintro b o e hm; cases e; simp only [Option.mem_toList] at hm; have := (ho.lt g0 hm).1; omega)
theorem SlAt.cell {g off : Nat} {m sz : Nat} {cs : List Value} (h : SlAt w (some ⟨g, off, none⟩) m sz cs) (j : Nat) {v : Value} (hv : cs[j]? = some v) : w.cell? ⟨g, off + j, none⟩ = some v := by
  have hj : j < m * sz := by rw [← h.len]; exact (List.getElem?_eq_some_iff.1 hv).1
  obtain ⟨b, o, he, _, hc⟩ := h.at_ (by omega)
  cases he
  rw [hc j hj, hv]
theorem SlAt.src {g off m : Nat} {l : List UInt8} (h : SlAt w (Option.some ⟨g, off, none⟩) m 1 (bv l)) (o k : Nat) : ∀ j v, (bv ((l.drop o).take k))[j]? = Option.some v → w.cell? ((⟨g, off + o, none⟩ : Addr).add j) = Option.some v := by
  intro j v hv
  rw [bv_take, List.getElem?_take] at hv
  split at hv
  · rw [bv_drop, List.getElem?_drop] at hv
    rw [Addr.add_lit, Nat.add_assoc]; exact h.cell _ hv
  · cases hv
theorem row.src {g t : Nat} {l : List UInt8} (h : row w g (bv l) t) (o k : Nat) : ∀ j v, (bv ((l.drop o).take k))[j]? = Option.some v → w.cell? ((⟨g, o, none⟩ : Addr).add j) = Option.some v := by
  intro j v hv
  rw [bv_take, List.getElem?_take] at hv
  split at hv
  · rw [bv_drop, List.getElem?_drop] at hv
    rw [Addr.add_lit]; exact h.cell _ hv
  · cases hv
theorem SlAt.rng {g off : Nat} {m sz : Nat} {cs : List Value} (h : SlAt w (some ⟨g, off, none⟩) m sz cs) (o k : Nat) : w.rangeAt g (off + o) ((cs.drop o).take k) := fun j v hv => by
  rw [List.getElem?_take] at hv
  split at hv
  · rw [List.getElem?_drop] at hv
    rw [Nat.add_assoc]; exact h.cell _ hv
  · cases hv
/-- A slice that has elements lies somewhere. -/
theorem SlAt.some {p : Option Addr} {m sz : Nat} {cs : List Value} (h : SlAt w p m sz cs) (h0 : 0 < m * sz) : ∃ g off, p = .some ⟨g, off, none⟩ ∧ g < w.heap.size := by
  obtain ⟨b, o, he, hb, _⟩ := h.at_ h0
  exact ⟨b, o, he, hb⟩
theorem SlAt.sub {g off m sz : Nat} {cs : List Value} (h : SlAt w (Option.some ⟨g, off, none⟩) m sz cs) (i k : Nat) (hk : i + k ≤ m) : SlAt w (Option.some ⟨g, off + i * sz, none⟩) k sz ((cs.drop (i * sz)).take (k * sz)) := by
  have hl := h.len
  have hle : i * sz + k * sz ≤ m * sz := by rw [← Nat.add_mul]; exact Nat.mul_le_mul_right _ hk
  refine ⟨by rw [List.length_take, List.length_drop]; omega, Nat.le_trans (by omega) h.max, fun h0 => ?_⟩
  obtain ⟨b, o, he, hb, hc⟩ := h.at_ (by omega)
  cases he
  refine ⟨g, off + i * sz, rfl, hb, fun j hj => ?_⟩
  rw [Nat.add_assoc, hc _ (by omega), List.getElem?_take, if_pos hj, List.getElem?_drop]
theorem SlAt.bytes {p : Option Addr} {m sz : Nat} {cs : List Value} (h : SlAt w p m sz cs) (hm : m * sz ≤ maxLen) : SlAt w p (m * sz) 1 cs :=
  ⟨by rw [Nat.mul_one]; exact h.len, hm, fun h0 => by rw [Nat.mul_one] at h0 ⊢; exact h.at_ h0⟩
theorem Kp.ownS {M : List Nat} {base e sz m : Nat} {v : Value} {xs : List Value} (h : Kp M w0 w) (ho : ownsAt w base e sz v m xs) (hg : w.grownBy w' v.ownBlock) (hk : w0.heap.size ≤ base ∨ ∀ g, g ∈ v.ownBlock.toList → g ∈ M) : Kp M w0 w' :=
  hk.elim (fun hk => h.own ho hg hk) (fun hk => h.add (Kp.of_grown hg) fun g hm => Or.inr (hk g hm))
theorem SlAt.subB {g off m : Nat} {cs : List UInt8} (h : SlAt w (Option.some ⟨g, off, none⟩) m 1 (bv cs)) (i k : Nat) (hk : i + k ≤ m) : SlAt w (Option.some ⟨g, off + i, none⟩) k 1 (bv ((cs.drop i).take k)) := by
  have := h.sub i k hk
  rwa [Nat.mul_one, Nat.mul_one, ← bv_drop, ← bv_take] at this
theorem row.sl {g t m sz : Nat} {cs : List Value} (h : row w g cs t) (o : Nat) (ho : o + m * sz ≤ cs.length) (hm : m ≤ maxLen) : SlAt w (Option.some ⟨g, o, none⟩) m sz ((cs.drop o).take (m * sz)) := h.slAt o m sz ho hm
theorem row.slB {g t : Nat} {cs : List UInt8} (h : row w g (bv cs) t) (o m : Nat) (ho : o + m ≤ cs.length) (hm : m ≤ maxLen) : SlAt w (Option.some ⟨g, o, none⟩) m 1 (bv ((cs.drop o).take m)) := by
  have := h.sl (m := m) (sz := 1) o (by rw [bv_length]; omega) hm
  rwa [Nat.mul_one, ← bv_drop, ← bv_take] at this
theorem row.slA {g t m sz : Nat} {cs : List Value} (h : row w g cs t) (hl : cs.length = m * sz) (hm : m ≤ maxLen) : SlAt w (Option.some ⟨g, 0, none⟩) m sz cs := by
  have := h.sl (m := m) (sz := sz) 0 (by omega) hm
  rwa [List.drop_zero, List.take_of_length_le (by omega)] at this
theorem Ld.sl1 {t g off m sz j : Nat} {cs : List Value} {v : Value} (h : SlAt w (Option.some ⟨g, off, none⟩) m sz cs) (ht : isOneT P t = true) (hv : cs[j]? = Option.some v) : Ld P w t ⟨g, off + j, none⟩ v := Ld.one ht (h.cell j hv)
theorem Ld.slN {t g off m sz j k : Nat} {cs : List Value} (h : SlAt w (Option.some ⟨g, off, none⟩) m sz cs) (ht : isRowT P t = true) (hs : sizeIs P t k = true) (hk : j + k ≤ cs.length) : Ld P w t ⟨g, off + j, none⟩ (.agg ((cs.drop j).take k).toArray) := by
  refine Ld.rng (h.rng j k) ht ?_
  rw [List.length_take, List.length_drop, Nat.min_eq_left (by omega)]
  exact hs
theorem Ld.row1' {t g off tt : Nat} {l : List Value} {v : Value} (hr : row w g l tt) (ht : isOneT P t = true) (j : Nat) (hj : off = j) (hv : l[j]? = Option.some v) : Ld P w t ⟨g, off, none⟩ v := by subst hj; exact Ld.row1 hr ht hv

/-! ### Slices of the walk's own -/
section
variable {base e sz m : Nat} {v : Value} {xs : List Value}
theorem ownsAt.new (h : ownsAt w base e sz v m xs) (hb : Below w.heap.size w w') : ownsAt w' base e sz v m xs := h.below hb fun k hk => (h.lt k hk).2
theorem ownsAt.kpd {M : List Nat} (h : ownsAt w base e sz v m xs) (k : Kp M w w') (hM : ∀ g, g ∈ M → v.ownBlock ≠ some g) : ownsAt w' base e sz v m xs := by
  refine ⟨h.1, ?_⟩
  rcases h.2 with hn | ⟨g, off, cap, cur, rfl, hb, hgg, rest⟩
  · exact .inl hn
  · refine .inr ⟨g, off, cap, cur, rfl, hb, ?_, rest⟩
    rw [k.block g (Array.getElem?_eq_some_iff.1 hgg).1 fun hm => hM g hm rfl]
    exact hgg
theorem ownsAt.only {g : Nat} (h : ownsAt w base e sz v m xs) (ho : Only g w w') (hg : g < base) : ownsAt w' base e sz v m xs :=
  h.kpd (Kp.of_only ho) fun g' hm e => by
    have := (h.lt g' e).1
    simp at hm
    omega
theorem ownsAt.mono (h : ownsAt w base e sz v m xs) {b' : Nat} (hb : b' ≤ base) : ownsAt w b' e sz v m xs := by
  refine ⟨h.1, ?_⟩
  rcases h.2 with hn | ⟨g, off, cap, cur, rfl, hb', rest⟩
  · exact .inl hn
  · exact .inr ⟨g, off, cap, cur, rfl, by omega, rest⟩
theorem ownsAt.sl {p : Option Addr} {c : Nat} (h : ownsAt w base e sz (.slice p m c) m xs) : SlAt w p m sz xs := slAt_own h
theorem row.owns {g t : Nat} {cs : List Value} (h : row w g cs t) (hb : base ≤ g) (hl : cs.length = m * sz) (hm : m ≤ maxLen) : ownsAt w base t sz (.slice (Option.some ⟨g, 0, none⟩) m m) m cs :=
  ⟨hl, .inr ⟨g, 0, m, cs.toArray, rfl, hb, h, Nat.le_refl _, hm, by simp; omega, by simp [← hl]⟩⟩
theorem ownsAt_nil (w : World) (base e sz : Nat) : ownsAt w base e sz (.slice none 0 0) 0 [] := ⟨by simp, .inl ⟨rfl, rfl⟩⟩
end

/-! ### What is made -/
section
variable {d : Option Nat} {ty : TypeId} {pos : String} {af : Array Edge} {gd : Option (Nat × Bool)} {K : Value → World → Prop}
abbrev infoIs (P : Program) (e : TypeId) (zl : List Value) (sz bytes : Nat) : Prop := (P.info? e).map (fun i => (i.zero.map (·.cells), i.size, i.bytes)) = some (some zl.toArray, sz, bytes)
theorem mk_make {t e : Nat} {x y : Operand} (m : Nat) (zl : List Value) (sz bytes : Nat) (v : Value) (ht : P.underlying t = some (.slice e)) (hi : (P.info? e).map (fun i => (i.zero.map (·.cells), i.size, i.bytes)) = some (some zl.toArray, sz, bytes)) (hx : ∃ a, ev ρ x = .int .i64 a ∧ a = (m : Int)) (hy : ∃ a, ev ρ y = .int .i64 a ∧ a = (m : Int))
    (hz : ∀ u ∈ zl, u = v) (h0 : 0 < zl.length) (hb : bytes * m ≤ 281474976710656) (h63 : m ≤ 9223372036854775807)
    (h : ∀ g w', w.heap.size ≤ g → row w' g (List.replicate (m * sz) v) e → Below w.heap.size w w' → K (.slice (some ⟨g, 0, none⟩) m m) w') : Mk P ρ w ⟨d, .makeSlice t x y, ty, pos, af, gd⟩ K := by
  obtain ⟨a, hx1, rfl⟩ := hx
  obtain ⟨b, hy1, rfl⟩ := hy
  have hr := run_make_rows (P := P) (w := w) t e zl sz bytes ht hi m hb h63
  rw [madeCells_alike zl v hz h0] at hr
  refine ⟨_, _, ?_, h w.heap.size (w.alloc (.cells (List.replicate (m * sz) v).toArray e)) (Nat.le_refl _) (row_alloc w _ e) (below_alloc w _)⟩
  simp only [execOp, hx1, hy1, Sem.run_bind, hr, Result.andThen_ok]
  rfl
theorem mk_buildSlice {t e len : Nat} {parts : List (Nat × Operand)} (vs : List (Nat × Value)) (zs : List Value) (sz : Nat) (ht : P.underlying t = some (.slice e)) (hi : (P.info? e).map (fun i => (i.zero.map (·.cells), i.size)) = some (some zs.toArray, sz))
    (hv : (parts.map fun p => (p.1, ev ρ p.2)) = vs) (hlim : len * sz ≤ 16777216) (hpos : 0 < len * sz)
    (hp : ∀ i (hi : i < vs.length), vs[i].1 * sz = (((vs.take i).map fun q => q.2.cells.size).sum) ∧ vs[i].2.cells.size = sz) (hs : len * sz = ((vs.map fun q => q.2.cells.size).sum))
    (h : ∀ g w', w.heap.size ≤ g → row w' g ((vs.map fun q => q.2.cells.toList).flatten) e → Below w.heap.size w w' → K (.slice (some ⟨g, 0, none⟩) len len) w') : Mk P ρ w ⟨d, .buildSlice t len parts.toArray, ty, pos, af, gd⟩ K := by
  have hr := run_buildSlice_seq (P := P) (w := w) t e len vs.toArray ht sz zs.toArray hi hlim hpos (by simpa using hp) (by simpa using hs)
  refine ⟨_, _, ?_, h w.heap.size (w.alloc (.cells ((vs.map fun q => q.2.cells.toList).flatten).toArray e)) (Nat.le_refl _) (row_alloc w _ e) (below_alloc w _)⟩
  have hm : (parts.toArray.map fun (i, x) => (i, ev ρ x)) = vs.toArray := by rw [← hv]; simp
  simp only [execOp, hm, Sem.run_bind, hr, Result.andThen_ok]
  rfl
/-- One element. -/
theorem mk_one {t e : Nat} {x : Operand} (v : Value) (cl : List Value) (zs : List Value) (sz : Nat) (ht : P.underlying t = some (.slice e)) (hi : (P.info? e).map (fun i => (i.zero.map (·.cells), i.size)) = some (some zs.toArray, sz))
    (hx : ev ρ x = v) (hcl : v.cells = cl.toArray) (hsz : cl.length = sz) (hlim : 0 < sz ∧ sz ≤ 16777216)
    (h : ∀ g w', w.heap.size ≤ g → row w' g cl e → Below w.heap.size w w' → K (.slice (some ⟨g, 0, none⟩) 1 1) w') : Mk P ρ w ⟨d, .buildSlice t 1 #[(0, x)], ty, pos, af, gd⟩ K := by
  have hs2 : v.cells.size = sz := by rw [hcl]; simpa using hsz
  refine mk_buildSlice (parts := [(0, x)]) [(0, v)] zs sz ht hi (by simp [hx]) (by omega) (by omega) ?_ (by simp [hs2]) (by simpa [hcl] using h)
  intro i hi
  obtain rfl : i = 0 := by simpa using hi
  simp [hs2]
/-- Two elements. -/
theorem mk_two {t e : Nat} {x y : Operand} (v u : Value) (cl dl : List Value) (zs : List Value) (sz : Nat) (ht : P.underlying t = some (.slice e)) (hi : (P.info? e).map (fun i => (i.zero.map (·.cells), i.size)) = some (some zs.toArray, sz))
    (hx : ev ρ x = v) (hy : ev ρ y = u) (hcl : v.cells = cl.toArray) (hdl : u.cells = dl.toArray) (hsz : cl.length = sz) (hsz' : dl.length = sz) (hlim : 0 < sz ∧ sz ≤ 8388608)
    (h : ∀ g w', w.heap.size ≤ g → row w' g (cl ++ dl) e → Below w.heap.size w w' → K (.slice (some ⟨g, 0, none⟩) 2 2) w') : Mk P ρ w ⟨d, .buildSlice t 2 #[(0, x), (1, y)], ty, pos, af, gd⟩ K := by
  have hs2 : v.cells.size = sz := by rw [hcl]; simpa using hsz
  have hs3 : u.cells.size = sz := by rw [hdl]; simpa using hsz'
  refine mk_buildSlice (parts := [(0, x), (1, y)]) [(0, v), (1, u)] zs sz ht hi (by simp [hx, hy]) (by omega) (by omega) ?_ (by simp [hs2, hs3]; omega) (by simpa [hcl, hdl] using h)
  intro i hi
  rcases i with _ | _ | i
  · simp [hs2]
  · simp [hs2, hs3]
  · exfalso; simp only [List.length_cons, List.length_nil] at hi; omega
theorem below_of_nil (h : w.grownBy w' (Value.ownBlock (.slice none 0 0))) : Below w.heap.size w w' := ⟨h.os, h.tape, h.output, h.size, fun k hk => h.block k hk (by simp [Value.ownBlock])⟩
/-- append, of the elements of a slice, onto a slice of the walk's own. -/
theorem mk_append {t t' e sz bytes : Nat} {s x : Operand} {base m k c : Nat} {v : Value} {xs news : List Value} {sp : Option Addr} {z : Value} (ht : P.underlying t = some (.slice e)) (ht' : t' = t)
    (hi : (P.info? e).map (fun i => (i.zero, i.size, i.bytes)) = some (some z, sz, bytes)) (hzs : z.cells.size = sz) (hsz : 0 < sz) (hs : ev ρ s = v) (hown : ownsAt w base e sz v m xs)
    (hx : ev ρ x = .slice sp k c) (hsrc : SlAt w sp k sz news) (h1 : ∀ u ∈ news, u.oneCell' = true) (h63 : m + k ≤ maxLen) (hbytes : (m + k) * bytes ≤ 140737488355328) (hbase0 : m = 0 → base ≤ w.heap.size)
    (h : ∀ v' w', ownsAt w' base e sz v' (m + k) (xs ++ news) → w.grownBy w' v.ownBlock → (∀ g, v'.ownBlock = some g → v.ownBlock = some g ∨ w.heap.size ≤ g) → K v' w') : Mk P ρ w ⟨d, .call ⟨.builtin .append, #[s, x], #[t, t']⟩, ty, pos, af, gd⟩ K := by
  subst ht'
  obtain ⟨i, hq, hzz⟩ := Option.map_eq_some_iff.1 hi
  simp only [Prod.mk.injEq] at hzz
  obtain ⟨hz, hsize, hby⟩ := hzz
  have hbase : base ≤ w.heap.size := by
    rcases hown.2 with ⟨_, h0⟩ | ⟨g, off, cap, cur, _, hb, hg, _⟩
    · exact hbase0 h0
    · have := (Array.getElem?_eq_some_iff.1 hg).1; omega
  by_cases hk : k = 0
  · subst hk
    obtain rfl : news = [] := List.eq_nil_of_length_eq_zero (by simpa using hsrc.len)
    obtain ⟨p, c0, hv⟩ := hown.form
    have hcap : m ≤ c0 := by
      rcases hown.2 with ⟨hv', h0⟩ | ⟨g, off, cap, cur, hv', _, _, h2, _⟩
      · omega
      · rw [hv] at hv'; cases hv'; exact h2
    have hrun : (Builtin.append_ #[t', t'] ty #[v, .slice sp 0 c]).run P w = .ok v w := by
      subst hv
      cases sp with
      | none => cases p <;> simp [Builtin.append_, run_underlying ht, Go.sizeOf, typeInfo, hq, Builtin.lenOf, hcap, Builtin.firstCells, storeCells, Result.andThen]
      | some a => cases p <;> simp [Builtin.append_, run_underlying ht, Go.sizeOf, typeInfo, hq, Builtin.lenOf, hcap, Builtin.firstCells, loadCells, loadCellsFrom, storeCells, Result.andThen]
    refine ⟨v, w, ?_, h v w (by simpa using hown) ⟨rfl, rfl, rfl, Nat.le_refl _, fun _ _ _ => rfl⟩ fun g hg => .inl hg⟩
    simp [execOp, resolve, invoke, builtin, hs, hx, hrun, Result.andThen]
  · obtain ⟨g0, o0, rfl, _⟩ := hsrc.some (Nat.mul_pos (Nat.pos_of_ne_zero hk) hsz)
    obtain ⟨g, off, cap, w', hr, h2, h3, h4, h5, h6⟩ := run_append_at (P := P) w base t' ty e i z sz bytes ht hq hz hsize hby hzs hsz v m xs hown ⟨g0, o0, none⟩ k c news hsrc.len
      (fun j u hu => by rw [Addr.add_lit]; exact hsrc.cell j hu) h1 (Nat.pos_of_ne_zero hk) h63 hbytes hbase
    refine ⟨_, w', ?_, h _ w' h2 h3 fun g' hg' => ?_⟩
    · simp [execOp, resolve, invoke, builtin, hs, hx, hr, Result.andThen]
    · simp [Value.ownBlock] at hg'
      subst hg'
      exact h4.imp id (fun e => by omega)
/-- copy into a row. -/
theorem mk_copy {dT sT e : Nat} {x y : Operand} {dp sp : Option Addr} {dLen dCap sLen sCap : Nat} (hu : P.underlying dT = some (.slice e)) (hsz : sizeIs P e 1 = true) (hd : ev ρ x = .slice dp dLen dCap) (hs : ev ρ y = .slice sp sLen sCap)
    (g off : Nat) {l : List Value} {t : Nat} (hr : row w g l t) (cs : List Value) (hn : cs.length = Nat.min sLen dLen)
    (hpos : 0 < cs.length → dp = some ⟨g, off, none⟩ ∧ ∃ ad, sp = some ad ∧ ∀ j v, cs[j]? = some v → w.cell? (ad.add j) = some v) (hfit : off + cs.length ≤ l.length) (h1 : ∀ v ∈ cs, v.oneCell' = true)
    (h : ∀ w', row w' g (splice l off cs) t → Only g w w' → K (goInt cs.length) w') : Mk P ρ w ⟨d, .call ⟨.builtin .copy, #[x, y], #[dT, sT]⟩, ty, pos, af, gd⟩ K := by
  by_cases h0 : cs.length = 0
  · obtain rfl : cs = [] := List.eq_nil_of_length_eq_zero h0
    have hrun := run_copy_none (P := P) w dT sT ty e dp sp dLen dCap sLen sCap hu (sizeIs_map hsz) (by simpa using hn.symm)
    refine ⟨_, w, ?_, h w (by simpa [splice] using hr) (Only.refl _ _)⟩
    simp [execOp, resolve, invoke, builtin, hd, hs, hrun, Result.andThen]
  · obtain ⟨rfl, ad, rfl, hsrc⟩ := hpos (by omega)
    have hrun := run_copy_row (P := P) w dT sT ty e g off dLen dCap ad sLen sCap l.toArray t cs hu (sizeIs_map hsz) hr hn hsrc (by simpa using hfit) h1
    refine ⟨_, _, ?_, h _ (by simpa [row, splice] using setRow_heap w g _ _ t _ hr) (Only.setRow _)⟩
    simp [execOp, resolve, invoke, builtin, hd, hs, hrun, Result.andThen]
theorem rn_build {t k : Nat} {parts : List (Nat × Operand)} (vs : List (Nat × Value)) (places : List (Nat × Nat)) (hpl : placesOf P t = some places) (hk : (P.info? t).map (fun i => i.zero.map (·.cells.size)) = some (some k)) (hv : (parts.map fun p => (p.1, ev ρ p.2)) = vs)
    (hp : ∀ i (hi : i < vs.length), places[vs[i].1]? = some (((vs.take i).map fun q => q.2.cells.size).sum, vs[i].2.cells.size)) (hs : k = ((vs.map fun q => q.2.cells.size).sum)) :
    (execOp (ev ρ) ⟨d, .build t parts.toArray, ty, pos, af, gd⟩).run P w = .ok (.value (.agg ((vs.map fun q => q.2.cells.toList).flatten).toArray)) w := by
  have := run_build_struct (P := P) (w := w) t vs.toArray places hpl k hk (by simpa using hp) (by simpa using hs)
  have hm : (parts.toArray.map fun (i, x) => (i, ev ρ x)) = vs.toArray := by rw [← hv]; simp
  simp only [execOp, hm, Sem.run_bind, this, Result.andThen_ok]
  rfl
end
end
end Coup
