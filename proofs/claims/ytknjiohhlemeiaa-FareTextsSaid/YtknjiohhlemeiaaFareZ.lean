/- The reference's digits, and its text of an amount. -/
import Derived.Test.YtknjiohhlemeiaaFareY
namespace Go.Proofs.Ytknjiohhlemeiaa
open Go Go.RowKit Coup

/-- The last digits of a number, so many. -/
def dgs : Nat → Nat → List UInt8
  | 0, _ => []
  | j + 1, n => dg (n / 10 ^ j % 10) :: dgs j n
theorem dgs_len : ∀ j n, (dgs j n).length = j
  | 0, _ => rfl
  | j + 1, n => by rw [dgs, List.length_cons, dgs_len j n]
theorem len_le {m : Nat} (h : m ≤ 1000000000000) {least : Nat} (hl : least ≤ 13) : lenF 13 m least ≤ 13 := by
  have h1 := len_is h least
  rcases Nat.lt_or_ge 13 (lenF 13 m least) with h2 | h2
  · exact absurd (small_pow h 0) (h1.2.2 13 hl h2)
  · exact h2
theorem bk_dgs (N : Nat) : ∀ k, (bk (k + 3) N).reverse = dgs (k + 1) (N / 100) ++ [46] ++ dgs 2 (N % 100)
  | 0 => by
    simp only [bk, dgs]
    simp
    congr 1; omega
  | k + 1 => by
    rw [show k + 1 + 3 = (k + 3) + 1 from rfl, bk, if_neg (by omega), List.append_nil, List.reverse_append, bk_dgs N k, dgs]
    have : N / 10 ^ (k + 3) = N / 100 / 10 ^ (k + 1) := by
      rw [Nat.div_div_eq_div_mul]
      congr 1
      rw [show k + 3 = 2 + (k + 1) by omega, Nat.pow_add]
    rw [this]; rfl
theorem textP_dgs {N : Nat} (h : N ≤ 1000000000000) : textP N = dgs (lenF 13 (N / 100) 1) (N / 100) ++ [46] ++ dgs (lenF 13 (N % 100) 2) (N % 100) := by
  have h1 := len_is h 3
  have h2 := len_is (m := N / 100) (by omega) 1
  have h3 := len_is (m := N % 100) (by omega) 2
  have e3 : lenF 13 (N % 100) 2 = 2 := h3.uniq ⟨Nat.le_refl _, by omega, fun i a b => by omega⟩
  have hp : ∀ i, N / 100 / 10 ^ i = N / 10 ^ (i + 2) := fun i => by
    rw [Nat.div_div_eq_div_mul]
    congr 1
    rw [Nat.add_comm, Nat.pow_add]
  obtain ⟨k, hk⟩ : ∃ k, lenF 13 N 3 = k + 3 := ⟨lenF 13 N 3 - 3, by have := h1.1; omega⟩
  rw [hk] at h1
  have e2 : lenF 13 (N / 100) 1 = k + 1 := h2.uniq ⟨by omega, by rw [hp]; exact h1.2.1, fun i a b => by rw [hp]; exact h1.2.2 (i + 2) (by omega) (by omega)⟩
  rw [textP, hk, bk_dgs, e2, e3]
set_option maxHeartbeats 1000000 in
theorem digits37 (N least : Nat) (w : World) (hN : N ≤ 1000000000000) (hl : least ≤ 2) : Calls Try.prog 37 [.int .i64 (N : Int), .int .i64 (least : Int)].toArray w (Ret fun v w' => v = strOf (dgs (lenF 13 N least) N) ∧ Below w.heap.size w w') := by
  have hB := Below.refl w.heap.size w
  have hml : maxLen = 9223372036854775807 := by decide
  refine calls_W (fn := Try.f37) (rs := [.tmp 4]) (n := 25) Try.func37 rfl rfl Try.ntmps37 (by kernel_rfl) rfl ?_
  refine W_seq ?_
  refine W_region ?_
  refine WR_val rfl (rn_assign) ?_
  refine WR_nil ?_
  refine thenN ?_
  refine W_seq ?_
  refine W_region ?_
  refine WR_val rfl (rn_assign) ?_
  refine WR_nil ?_
  refine thenN ?_
  refine W_seq ?_
  refine W_block ?_
  refine W_loop (α := Nat) 0 (fun k => [(5, strOf (dgs k N)), (0, .int .i64 ((N / 10 ^ k : Nat) : Int)), (1, .int .i64 (least : Int))])
    (fun k w' => k ≤ 13 ∧ (∀ j, least ≤ j → j < k → N / 10 ^ j ≠ 0) ∧ Below w.heap.size w w') (fun k => 14 - k)
    ⟨rfl, vi (by simp), rfl, rfl⟩ ⟨Nat.zero_le _, fun j h1 h2 => by omega, hB⟩ ?_
  rintro i f wr ⟨hi, hall, hB⟩
  have hdl := dgs_len i N
  have hXle : N / 10 ^ i ≤ N := Nat.div_le_self _ _
  obtain ⟨X, hX⟩ : ∃ X, X = N / 10 ^ i := ⟨_, rfl⟩
  rw [← hX] at hXle
  have h13 : 13 ≤ i → X = 0 := fun h => by rw [hX, show i = 0 + 13 by omega]; exact small_pow hN 0
  rw [← hX]
  refine W_seq ?_
  refine W_cut (fun b : Bool => [(13, .bool b), (5, strOf (dgs i N)), (0, .int .i64 (X : Int)), (1, .int .i64 (least : Int))]) (fun b w' => (b = true → 0 < X ∨ i < least) ∧ (b = false → X = 0 ∧ least ≤ i) ∧ wr = w') ?_ ?_
  ·
    refine W_region ?_
    refine WR_val rfl (rn_move) ?_
    refine WR_val rfl (rn_gtr rfl rfl) ?_
    refine WR_val rfl (rn_move) ?_
    refine WR_part 8 rfl (fun h3 => ?_) (fun h3 => ?_)
    ·
      refine WR_no rfl rfl ?_
      refine WR_no rfl rfl ?_
      refine WR_no rfl rfl ?_
      refine WR_no rfl rfl ?_
      refine WR_val rfl (rn_pick_t rfl) ?_
      refine WR_nil ?_
      refine loopN ⟨true, ⟨rfl, rfl, rfl, rfl, rfl⟩, fun _ => Or.inl (by omega), fun h => (by cases h), rfl⟩
    ·
      refine WR_yes rfl ?_
      refine WR_val rfl (rn_move) ?_
      refine WR_yes rfl ?_
      refine WR_val rfl (rn_len_string (by kernel_rfl) rfl rfl) ?_
      refine WR_yes rfl ?_
      refine WR_val rfl (rn_move) ?_
      refine WR_yes rfl ?_
      refine WR_val rfl (rn_lss rfl rfl) ?_
      refine WR_val rfl (rn_pick_f rfl) ?_
      refine WR_nil ?_
      refine loopN ⟨_, ⟨rfl, rfl, rfl, rfl, rfl⟩, fun h => Or.inr (by have := of_decide_eq_true h; omega), fun h => ⟨by omega, by have := of_decide_eq_false h; omega⟩, rfl⟩
  ·
    rintro b f2 _ ⟨hyes, hno, rfl⟩
    have hdg : IntKind.u8.wrap (48 + (X : Int) % 10) = ((dg (X % 10)).toNat : Int) := by rw [dg_nat (by omega), wu8 (by omega)]; omega
    refine W_if rfl (fun hb => ?_) (fun hb => ?_)
    ·
      refine W_skip ?_
      refine thenN ?_
      refine W_block ?_
      refine W_seq ?_
      refine W_region ?_
      refine WR_val rfl (rn_move) ?_
      refine WR_val rfl (rn_rem0 rfl rfl (by omega) (by omega)) ?_
      refine WR_val rfl (rn_add rfl rfl (Coup.w64 (by omega))) ?_
      refine WR_val rfl (rn_conv (k := .u8) (by kernel_rfl) (by kernel_rfl) rfl hdg) ?_
      refine WR_mk rfl (mk_one (e := 5) (.int .u8 ((dg (X % 10)).toNat : Int)) ([.int .u8 ((dg (X % 10)).toNat : Int)]) ([Value.int .u8 0]) 1 (by kernel_rfl) (by kernel_rfl) rfl rfl rfl ⟨by decide, by decide⟩ (fun g18 w18 hg18 hr18 hb18 => ?_))
      have ge_hB_g18 := Nat.le_trans hB.size hg18
      replace hB := hB.acc hb18
      have hs18 : SlAt w18 (some ⟨g18, 0, none⟩) 1 1 (bv [dg (X % 10)]) := hr18.slA (m := 1) (sz := 1) rfl (by unfold maxLen; omega)
      refine WR_val rfl (rn_str (e := 5) (by kernel_rfl) (by kernel_rfl) (by kernel_rfl) rfl hs18) ?_
      refine WR_val rfl (rn_move) ?_
      refine WR_val rfl (rn_adds (a := [dg (X % 10)]) (b := dgs i N) rfl rfl (by simp; omega)) ?_
      refine WR_val rfl (rn_assign) ?_
      refine WR_nil ?_
      refine thenN ?_
      refine W_region ?_
      refine WR_val rfl (rn_move) ?_
      refine WR_val rfl (rn_quo0 rfl rfl (by omega) (by omega)) ?_
      refine WR_val rfl (rn_assign) ?_
      refine WR_nil ?_
      refine blockN ?_
      have hi13 : i < 13 := by
        rcases hyes hb with h | h
        · rcases Nat.lt_or_ge i 13 with h2 | h2
          · exact h2
          · have := h13 h2; omega
        · omega
      refine loopN ⟨i + 1, by omega, ⟨?_, vi ?_, rfl, rfl⟩, by omega, ?_, hB⟩
      · rw [dgs, ← hX]; rfl
      · rw [hX, ← div_step]; omega
      · intro j h1 h2
        rcases Nat.lt_or_eq_of_le (Nat.le_of_lt_succ h2) with h3 | h3
        · exact hall j h1 h3
        · rw [h3, ← hX]
          rcases hyes hb with h | h
          · omega
          · omega
    ·
      have hb' : b = false := by simpa using hb
      have hz := hno hb'
      have hK : lenF 13 N least = i := (len_is hN least).uniq ⟨hz.2, by rw [← hX]; exact hz.1, hall⟩
      rw [hK]
      refine W_exit ?_
      refine thenX ?_
      refine loopX ?_
      refine blockX ?_
      refine thenN ?_
      refine W_seq ?_
      refine W_region ?_
      refine WR_val rfl (rn_move) ?_
      refine WR_val rfl (rn_assign) ?_
      refine WR_nil ?_
      refine thenN ?_
      refine W_ret ?_
      refine ret_ret [_] ⟨rfl, trivial⟩ ?_
      exact ⟨rfl, hB⟩
theorem refPos (N : Nat) (w : World) (hN : N ≤ 1000000000000) : Calls Try.prog 22 [.int .i64 (N : Int)].toArray w (Ret fun v w' => v = strOf (textP N) ∧ Below w.heap.size w w') := by
  have hB := Below.refl w.heap.size w
  have h1 := len_le (m := N / 100) (by omega) (least := 1) (by omega)
  have h2 := len_le (m := N % 100) (by omega) (least := 2) (by omega)
  rw [textP_dgs hN]
  have hd1 := dgs_len (lenF 13 (N / 100) 1) (N / 100)
  have hd2 := dgs_len (lenF 13 (N % 100) 2) (N % 100)
  obtain ⟨A, hA⟩ : ∃ A, A = dgs (lenF 13 (N / 100) 1) (N / 100) := ⟨_, rfl⟩
  obtain ⟨C, hC⟩ : ∃ C, C = dgs (lenF 13 (N % 100) 2) (N % 100) := ⟨_, rfl⟩
  have hcA : ∀ w, Calls Try.prog 37 [.int .i64 ((N / 100 : Nat) : Int), .int .i64 1].toArray w (Ret fun v w' => v = strOf A ∧ Below w.heap.size w w') := fun w => by rw [hA]; exact digits37 (N / 100) 1 w (by omega) (by omega)
  have hcC : ∀ w, Calls Try.prog 37 [.int .i64 ((N % 100 : Nat) : Int), .int .i64 2].toArray w (Ret fun v w' => v = strOf C ∧ Below w.heap.size w w') := fun w => by rw [hC]; exact digits37 (N % 100) 2 w (by omega) (by omega)
  rw [← hA] at hd1 ⊢
  rw [← hC] at hd2 ⊢
  refine calls_W (fn := Try.f22) (rs := [.tmp 2]) (n := 17) Try.func22 rfl rfl Try.ntmps22 (by kernel_rfl) rfl ?_
  refine W_seq ?_
  refine W_region ?_
  refine WR_val rfl (rn_assign) ?_
  refine WR_nil ?_
  refine thenN ?_
  refine W_seq ?_
  refine W_seq ?_
  refine W_region ?_
  refine WR_val rfl (rn_move) ?_
  refine WR_val rfl (rn_lss rfl rfl) ?_
  refine WR_nil ?_
  refine thenN ?_
  refine W_fp rfl ((by omega)) ?_
  refine W_skip ?_
  refine thenN ?_
  refine W_seq ?_
  refine W_region ?_
  refine WR_val rfl (rn_move) ?_
  refine WR_val rfl (rn_quo0 rfl rfl (by omega) (by omega)) ?_
  refine WR_ent rfl (rn_call (by kernel_rfl) rfl) (hcA w) ?_
  rintro _ w11 ⟨rfl, hb11⟩
  replace hB := hB.acc hb11
  refine WR_val rfl (rn_adds (a := A) (b := [46]) rfl rfl (by simp; omega)) ?_
  refine WR_val rfl (rn_move) ?_
  refine WR_val rfl (rn_rem0 rfl rfl (by omega) (by omega)) ?_
  refine WR_ent rfl (rn_call (by kernel_rfl) rfl) (hcC w11) ?_
  rintro _ w15 ⟨rfl, hb15⟩
  replace hB := hB.acc hb15
  refine WR_val rfl (rn_adds (a := A ++ [46]) (b := C) rfl rfl (by simp; omega)) ?_
  refine WR_val rfl (rn_assign) ?_
  refine WR_nil ?_
  refine thenN ?_
  refine W_ret ?_
  refine ret_ret [_] ⟨rfl, trivial⟩ ?_
  exact ⟨rfl, hB⟩
theorem refNeg (n : Int) (w : World) (h0 : -1000000000000 ≤ n) (h1 : n < 0) : Calls Try.prog 22 [.int .i64 n].toArray w (Ret fun v w' => v = strOf (45 :: textP (-n).toNat) ∧ Below w.heap.size w w') := by
  have hB := Below.refl w.heap.size w
  obtain ⟨N, hN⟩ : ∃ N : Nat, 0 - n = N := ⟨(0 - n).toNat, by omega⟩
  rw [show (-n).toNat = N by omega]
  have hTl : (textP N).length ≤ 100 := by
    have := len_le (m := N) (by omega) (least := 3) (by omega)
    rw [textP, List.length_reverse, bk_len]; split <;> omega
  refine calls_W (fn := Try.f22) (rs := [.tmp 2]) (n := 17) Try.func22 rfl rfl Try.ntmps22 (by kernel_rfl) rfl ?_
  refine W_seq ?_
  refine W_region ?_
  refine WR_val rfl (rn_assign) ?_
  refine WR_nil ?_
  refine thenN ?_
  refine W_seq ?_
  refine W_seq ?_
  refine W_region ?_
  refine WR_val rfl (rn_move) ?_
  refine WR_val rfl (rn_lss rfl rfl) ?_
  refine WR_nil ?_
  refine thenN ?_
  refine W_tp rfl ((by omega)) ?_
  refine W_seq ?_
  refine W_region ?_
  refine WR_val rfl (rn_move) ?_
  refine WR_val rfl (rn_neg rfl (show IntKind.i64.wrap (0 - n) = (N : Int) by rw [w64 (by omega)]; exact hN)) ?_
  refine WR_ent rfl (rn_call (by kernel_rfl) rfl) (refPos N w (by omega)) ?_
  rintro _ w7 ⟨rfl, hb7⟩
  replace hB := hB.acc hb7
  refine WR_val rfl (rn_adds (a := [45]) (b := textP N) rfl rfl (by simp; omega)) ?_
  refine WR_val rfl (rn_assign) ?_
  refine WR_nil ?_
  refine thenN ?_
  refine W_ret ?_
  refine thenR ?_
  refine ret_ret [_] ⟨rfl, trivial⟩ ?_
  exact ⟨rfl, hB⟩
theorem text22 (n : Int) (w : World) (hn : mayM n = true) : Calls Try.prog 22 [.int .i64 n].toArray w (Ret fun v w' => v = strOf (textS n) ∧ Below w.heap.size w w') := by
  have hb := mayM_iff.1 hn
  rw [textS, if_pos hn, textZ]
  by_cases hneg : n < 0
  · rw [if_pos hneg]
    exact refNeg n w hb.1 hneg
  · rw [if_neg hneg]
    obtain ⟨N, rfl⟩ : ∃ N : Nat, n = N := ⟨n.toNat, by omega⟩
    rw [Int.toNat_natCast]
    exact refPos N w (by omega)
end Go.Proofs.Ytknjiohhlemeiaa
