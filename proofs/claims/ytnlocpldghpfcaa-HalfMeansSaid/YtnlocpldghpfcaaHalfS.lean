/- Rows that came in, and whether they are few, short, and of unlike tags. -/
import Derived.Test.YtnlocpldghpfcaaHalfO
import Derived.Test.YtnlocpldghpfcaaVm8
namespace Go.Proofs.Ytnlocpldghpfcaa
open Go Go.RowKit Coup

abbrev RowD := Int × Int × List UInt8
/-- A list of rows in memory: a tag and a slice of bytes each. -/
def RowsAt (w : World) (p : Option Addr) (n : Nat) (R : List RowD) : Prop :=
  R.length = n ∧ ∃ cs, SlAt w p n 3 cs ∧ ∀ (i : Nat) (c k : Int) (l : List UInt8), R[i]? = some (c, k, l) → cs[i * 3]? = some (.int .u64 c) ∧ cs[i * 3 + 1]? = some (.int .i64 k) ∧ ∃ q cp, cs[i * 3 + 2]? = some (.slice q l.length cp) ∧ SlAt w q l.length 1 (bv l)
theorem take2 {α : Type} {cs : List α} {j : Nat} {a b : α} (h0 : cs[j]? = some a) (h1 : cs[j + 1]? = some b) : (cs.drop j).take 2 = [a, b] := by
  obtain ⟨i0, e0⟩ := List.getElem?_eq_some_iff.1 h0
  obtain ⟨i1, e1⟩ := List.getElem?_eq_some_iff.1 h1
  rw [List.drop_eq_getElem_cons i0, List.drop_eq_getElem_cons i1, e0, e1]; rfl
namespace RowsAt
variable {w w' : World} {p : Option Addr} {n : Nat} {R : List RowD}
theorem below (h : RowsAt w p n R) (hb : Below w.heap.size w w') : RowsAt w' p n R := by
  obtain ⟨h1, cs, h2, h3⟩ := h
  refine ⟨h1, cs, h2.below hb (Nat.le_refl _), fun i c k l hi => ?_⟩
  obtain ⟨e1, e2, q, cp, e3, e4⟩ := h3 i c k l hi
  exact ⟨e1, e2, q, cp, e3, e4.below hb (Nat.le_refl _)⟩
theorem some (h : RowsAt w p n R) (h0 : 0 < n) : ∃ g o, p = Option.some ⟨g, o, none⟩ ∧ g < w.heap.size := by
  obtain ⟨_, cs, h2, _⟩ := h
  exact h2.some (by omega)
theorem max (h : RowsAt w p n R) : n ≤ maxLen := h.2.choose_spec.1.max
theorem get {i : Nat} (h : RowsAt w p n R) (hi : i < n) : ∃ c k l, R[i]? = Option.some (c, k, l) := by
  obtain ⟨h1, _⟩ := h
  obtain ⟨⟨c, k, l⟩, hx⟩ : ∃ x, R[i]? = Option.some x := ⟨_, List.getElem?_eq_getElem (by omega)⟩
  exact ⟨c, k, l, hx⟩
theorem ldT {g o i : Nat} {c k : Int} {l : List UInt8} (h : RowsAt w (Option.some ⟨g, o, none⟩) n R) (hi : R[i]? = Option.some (c, k, l)) : Ld Try.prog w 24 ⟨g, o + i * 3 + 0, none⟩ (.agg #[.int .u64 c, .int .i64 k]) := by
  obtain ⟨h1, cs, h2, h3⟩ := h
  obtain ⟨e1, e2, q, cp, e3, e4⟩ := h3 i c k l hi
  have hn := (List.getElem?_eq_some_iff.1 e3).1
  have := Ld.slN (P := Try.prog) (t := 24) (j := i * 3) (k := 2) h2 (by kernel_rfl) (by kernel_rfl) (by omega)
  rw [take2 e1 e2] at this
  exact this
theorem ldS {g o i : Nat} {c k : Int} {l : List UInt8} (h : RowsAt w (Option.some ⟨g, o, none⟩) n R) (hi : R[i]? = Option.some (c, k, l)) : ∃ q cp, (∀ w', Below w.heap.size w w' → Ld Try.prog w' 25 ⟨g, o + i * 3 + 2, none⟩ (.slice q l.length cp)) ∧ SlAt w q l.length 1 (bv l) := by
  obtain ⟨h1, cs, h2, h3⟩ := h
  obtain ⟨e1, e2, q, cp, e3, e4⟩ := h3 i c k l hi
  refine ⟨q, cp, fun w' hb => ?_, e4⟩
  have := Ld.sl1 (P := Try.prog) (t := 25) (h2.below hb (Nat.le_refl _)) (by kernel_rfl) e3
  rwa [← Nat.add_assoc] at this
end RowsAt
def okRow (x : RowD) : Prop := mayT x.1 x.2.1 = true ∧ x.2.2.length ≤ 3000
structure Good (R : List RowD) : Prop where
  few : R.length ≤ 5
  ok : ∀ (i : Nat) (x : RowD), R[i]? = some x → okRow x
  un : ∀ (i k : Nat) (x y : RowD), k < i → R[i]? = some x → R[k]? = some y → ¬ (y.1 = x.1 ∧ y.2.1 = x.2.1)

set_option maxHeartbeats 1000000 in
theorem rowsC (p : Option Addr) (n cp : Nat) (R : List RowD) (w : World) (h : RowsAt w p n R) :
    Calls Try.prog 16 [.slice p n cp].toArray w (Ret fun v w' => ∃ B : Bool, v = .bool B ∧ (B = true → Good R) ∧ Below w.heap.size w w') := by
  have hB := Below.refl w.heap.size w
  have hmax := h.max
  have hml : maxLen = 9223372036854775807 := by decide
  refine calls_W (fn := Try.f16) (rs := [.tmp 2]) (n := 46) Try.func16 rfl rfl Try.ntmps16 (by kernel_rfl) rfl ?_
  refine W_seq ?_
  refine W_region ?_
  refine WR_val rfl (rn_assign) ?_
  refine WR_nil ?_
  refine thenN ?_
  refine W_seq ?_
  refine W_seq ?_
  refine W_region ?_
  refine WR_val rfl (rn_assign) ?_
  refine WR_nil ?_
  refine thenN ?_
  refine W_block ?_
  refine W_loop (α := Nat) 0 (fun i => [(3, .int .i64 (i : Nat)), (0, .slice p n cp)]) (fun i w' => i ≤ n ∧ (∀ j x, j < i → R[j]? = some x → okRow x ∧ ∀ k y, k < j → R[k]? = some y → ¬ (y.1 = x.1 ∧ y.2.1 = x.2.1)) ∧ Below w.heap.size w w') (fun i => n - i)
    ⟨rfl, rfl, rfl⟩ ⟨Nat.zero_le _, (by intro j x hj; exact absurd hj (Nat.not_lt_zero _)), hB⟩ ?_
  rintro i f wr ⟨hi, hall, hB⟩
  refine W_seq ?_
  refine W_seq ?_
  refine W_region ?_
  refine WR_val rfl (rn_move) ?_
  refine WR_val rfl (rn_move) ?_
  refine WR_val rfl (rn_lenSl (e := 40) (sz := 3) (by kernel_rfl) rfl rfl) ?_
  refine WR_val rfl (rn_lss rfl rfl) ?_
  refine WR_nil ?_
  refine thenN ?_
  refine W_ifp rfl (fun hlt => ?_) (fun hlt => ?_)
  ·
    refine W_skip ?_
    refine thenN ?_
    refine W_seq ?_
    refine W_block ?_
    refine W_seq ?_
    refine W_seq ?_
    have hobt := h.get (i := i) (by omega)
    obtain ⟨c, k, l, hx⟩ := hobt
    have hobt := h.some (by omega)
    obtain ⟨g, o, rfl, hg⟩ := hobt
    have hobt := h.ldS hx
    obtain ⟨q, qc, hld, hq⟩ := hobt
    refine W_region ?_
    refine WR_val rfl (rn_move) ?_
    refine WR_val rfl (rn_move) ?_
    refine WR_val rfl (rn_indexSl (e := 40) (sz := 3) (by kernel_rfl) rfl rfl (i) (by omega) (by omega)) ?_
    refine WR_val rfl (rn_fieldAddr (off := 0) (by kernel_rfl) rfl) ?_
    refine WR_val rfl (rn_load rfl ((h.below hB).ldT hx)) ?_
    refine WR_ent rfl (rn_call (by kernel_rfl) rfl) (may11r c k wr) ?_
    rintro _ w16 ⟨rfl, hb16⟩
    replace hB := hB.acc hb16
    refine WR_val rfl (rn_not rfl) ?_
    refine WR_val rfl (rn_move) ?_
    refine WR_partnb 18 rfl (fun hm => ?_) (fun hm => ?_)
    ·
      refine WR_no rfl rfl ?_
      refine WR_no rfl rfl ?_
      refine WR_no rfl rfl ?_
      refine WR_no rfl rfl ?_
      refine WR_no rfl rfl ?_
      refine WR_no rfl rfl ?_
      refine WR_no rfl rfl ?_
      refine WR_val rfl (rn_pick_t rfl) ?_
      refine WR_nil ?_
      refine thenN ?_
      refine W_t rfl ?_
      refine W_seq ?_
      refine W_region ?_
      refine WR_val rfl (rn_assign) ?_
      refine WR_nil ?_
      refine thenN ?_
      refine W_ret ?_
      refine thenR ?_
      refine blockR ?_
      refine thenR ?_
      refine loopR ?_
      refine blockR ?_
      refine thenR ?_
      refine ret_ret [_] ⟨rfl, trivial⟩ ?_
      exact ⟨false, rfl, (by intro q; cases q), hB⟩
    ·
      refine WR_yes rfl ?_
      refine WR_val rfl (rn_move) ?_
      refine WR_yes rfl ?_
      refine WR_val rfl (rn_move) ?_
      refine WR_yes rfl ?_
      refine WR_val rfl (rn_indexSl (e := 40) (sz := 3) (by kernel_rfl) rfl rfl (i) (by omega) (by omega)) ?_
      refine WR_yes rfl ?_
      refine WR_val rfl (rn_fieldAddr (off := 2) (by kernel_rfl) rfl) ?_
      refine WR_yes rfl ?_
      refine WR_val rfl (rn_load rfl (hld _ hB)) ?_
      refine WR_yes rfl ?_
      refine WR_val rfl (rn_lenSl (e := 5) (sz := 1) (by kernel_rfl) rfl rfl) ?_
      refine WR_yes rfl ?_
      refine WR_val rfl (rn_gtr rfl rfl) ?_
      refine WR_val rfl (rn_pick_f rfl) ?_
      refine WR_nil ?_
      refine thenN ?_
      refine W_ifp rfl (fun hl => ?_) (fun hl => ?_)
      ·
        refine W_seq ?_
        refine W_region ?_
        refine WR_val rfl (rn_assign) ?_
        refine WR_nil ?_
        refine thenN ?_
        refine W_ret ?_
        refine thenR ?_
        refine blockR ?_
        refine thenR ?_
        refine loopR ?_
        refine blockR ?_
        refine thenR ?_
        refine ret_ret [_] ⟨rfl, trivial⟩ ?_
        exact ⟨false, rfl, (by intro q; cases q), hB⟩
      ·
        refine W_skip ?_
        refine thenN ?_
        refine W_seq ?_
        refine W_region ?_
        refine WR_val rfl (rn_assign) ?_
        refine WR_nil ?_
        refine thenN ?_
        refine W_block ?_
        refine W_loop (α := Nat) 0 (fun j => [(4, .int .i64 (j : Nat)), (3, .int .i64 (i : Nat)), (0, .slice (some ⟨g, o, none⟩) n cp)]) (fun j w' => j ≤ i ∧ (∀ k' y, k' < j → R[k']? = some y → ¬ (y.1 = c ∧ y.2.1 = k)) ∧ Below w.heap.size w w') (fun j => i - j)
          ⟨rfl, rfl, rfl, rfl⟩ ⟨Nat.zero_le _, (by intro j x hj; exact absurd hj (Nat.not_lt_zero _)), hB⟩ ?_
        rintro j f2 wz ⟨hj, hun, hB⟩
        refine W_seq ?_
        refine W_seq ?_
        refine W_region ?_
        refine WR_val rfl (rn_move) ?_
        refine WR_val rfl (rn_move) ?_
        refine WR_val rfl (rn_lss rfl rfl) ?_
        refine WR_nil ?_
        refine thenN ?_
        refine W_ifp rfl (fun hlt2 => ?_) (fun hlt2 => ?_)
        ·
          refine W_skip ?_
          refine thenN ?_
          refine W_seq ?_
          refine W_block ?_
          refine W_seq ?_
          have hobt := h.get (i := j) (by omega)
          obtain ⟨c2, k2, l2, hx2⟩ := hobt
          refine W_draw' [] (by kernel_rfl) ?_
          intro w901 hb901 hS901
          replace hB := hB.acc hb901
          have hB_d901 := hB
          refine WA_take 0 (by kernel_rfl) rfl (fun _ _ => rn_move) ?_
          refine WA_take 1 (by kernel_rfl) rfl (fun _ _ => rn_move) ?_
          refine WA_take 2 (by kernel_rfl) rfl (fun _ _ => rn_indexSl (e := 40) (sz := 3) (by kernel_rfl) rfl rfl (j) (by omega) (by omega)) ?_
          refine WA_take 3 (by kernel_rfl) rfl (fun _ _ => rn_fieldAddr (off := 0) (by kernel_rfl) rfl) ?_
          refine WA_take 4 (by kernel_rfl) rfl (fun w' hS' => rn_load rfl ((h.below (hB_d901.kpd hS' (by first | (simp; done) | (simp; omega)))).ldT hx2)) ?_
          refine WA_take 5 (by kernel_rfl) rfl (fun _ _ => rn_move) ?_
          refine WA_take 6 (by kernel_rfl) rfl (fun _ _ => rn_move) ?_
          refine WA_take 7 (by kernel_rfl) rfl (fun _ _ => rn_indexSl (e := 40) (sz := 3) (by kernel_rfl) rfl rfl (i) (by omega) (by omega)) ?_
          refine WA_take 8 (by kernel_rfl) rfl (fun _ _ => rn_fieldAddr (off := 0) (by kernel_rfl) rfl) ?_
          refine WA_take 9 (by kernel_rfl) rfl (fun w' hS' => rn_load rfl ((h.below (hB_d901.kpd hS' (by first | (simp; done) | (simp; omega)))).ldT hx)) ?_
          refine WA_take 10 (by kernel_rfl) rfl (fun _ _ => rn_eqlP (k0 := .u64) (k1 := .i64) (by kernel_rfl) rfl rfl) ?_
          refine WA_done (by kernel_rfl) ?_
          refine thenN ?_
          refine W_if rfl (fun he => ?_) (fun he => ?_)
          ·
            refine W_seq ?_
            refine W_region ?_
            refine WR_val rfl (rn_assign) ?_
            refine WR_nil ?_
            refine thenN ?_
            refine W_ret ?_
            refine blockR ?_
            refine thenR ?_
            refine loopR ?_
            refine blockR ?_
            refine blockR ?_
            refine thenR ?_
            refine loopR ?_
            refine blockR ?_
            refine thenR ?_
            refine ret_ret [_] ⟨rfl, trivial⟩ ?_
            exact ⟨false, rfl, (by intro q; cases q), hB⟩
          ·
            have he := of_decide_eq_false he
            refine W_skip ?_
            refine blockN ?_
            refine thenN ?_
            refine W_region ?_
            refine WR_val rfl (rn_move) ?_
            refine WR_val rfl (rn_add rfl rfl (Coup.w64 (by omega))) ?_
            refine WR_val rfl (rn_assign) ?_
            refine WR_nil ?_
            refine loopN ⟨j + 1, by omega, ⟨rfl, by go_num, rfl, rfl⟩, by omega, ?_, hB⟩
            intro k' y hk' hy
            rcases Nat.lt_or_ge k' j with hk2 | hk2
            · exact hun k' y hk2 hy
            · obtain rfl : k' = j := by omega
              rw [hx2] at hy; cases hy
              exact he
        ·
          refine W_exit ?_
          refine thenX ?_
          refine loopX ?_
          refine blockX ?_
          refine blockN ?_
          refine thenN ?_
          refine W_region ?_
          refine WR_val rfl (rn_move) ?_
          refine WR_val rfl (rn_add rfl rfl (Coup.w64 (by omega))) ?_
          refine WR_val rfl (rn_assign) ?_
          refine WR_nil ?_
          obtain rfl : j = i := by omega
          refine loopN ⟨j + 1, by omega, ⟨rfl, by go_num, rfl⟩, by omega, ?_, hB⟩
          intro j' x hj' hx'
          rcases Nat.lt_or_ge j' j with hk2 | hk2
          · exact hall j' x hk2 hx'
          · obtain rfl : j' = j := by omega
            rw [hx] at hx'; cases hx'
            exact ⟨⟨hm, by simp only; omega⟩, fun k' y hk' hy => hun k' y hk' hy⟩
  ·
    refine W_exit ?_
    refine thenX ?_
    refine loopX ?_
    refine blockX ?_
    refine thenN ?_
    refine W_seq ?_
    refine W_region ?_
    refine WR_val rfl (rn_move) ?_
    refine WR_val rfl (rn_lenSl (e := 40) (sz := 3) (by kernel_rfl) rfl rfl) ?_
    refine WR_val rfl (rn_leq rfl rfl) ?_
    refine WR_val rfl (rn_assign) ?_
    refine WR_nil ?_
    refine thenN ?_
    refine W_ret ?_
    refine ret_ret [_] ⟨rfl, trivial⟩ ?_
    refine ⟨decide ((n : Int) ≤ 5), rfl, fun q => ?_, hB⟩
    have q' := of_decide_eq_true q
    have hRl := h.1
    have hlt : ∀ (j : Nat) (x : RowD), R[j]? = some x → j < i := fun j x hx => by have := (List.getElem?_eq_some_iff.1 hx).1; omega
    exact ⟨by omega, fun j x hx => (hall j x (hlt j x hx) hx).1, fun j k x y hk hx hy => (hall j x (hlt j x hx) hx).2 k y hk hy⟩
end Go.Proofs.Ytnlocpldghpfcaa
