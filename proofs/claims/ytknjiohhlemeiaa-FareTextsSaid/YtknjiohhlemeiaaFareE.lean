/- A quotient of 128 bits by 64: Go's own way, digit by digit. -/
import Derived.Test.YtknjiohhlemeiaaFareD
namespace Go.Proofs.Ytknjiohhlemeiaa
open Go Go.RowKit Coup

/-- What is known of a digit that is looked for: D = A * B + C, the number u * B + v. -/
structure Dig (u v A C D : Int) : Prop where
  d : D = A * 4294967296 + C
  a : 2147483648 ≤ A ∧ A < 4294967296
  c : 0 ≤ C ∧ C < 4294967296
  u : 0 ≤ u ∧ u < D
  v : 0 ≤ v ∧ v < 4294967296
namespace Dig
variable {u v A C D q r : Int}
theorem dpos (h : Dig u v A C D) : 0 < D := by have := h.d; have := h.a; have := h.c; omega
theorem small (h : Dig u v A C D) : (u * 4294967296 + v) / D < 4294967296 := by
  rw [Int.ediv_lt_iff_lt_mul h.dpos]
  have := h.u; have := h.v; have := h.dpos
  omega
theorem nonneg (h : Dig u v A C D) : 0 ≤ (u * 4294967296 + v) / D := Int.ediv_nonneg (by have := h.u; have := h.v; omega) (Int.le_of_lt h.dpos)
theorem mulD (h : Dig u v A C D) (hq : q * A + r = u) : q * D = (u - r) * 4294967296 + q * C := by
  rw [h.d, Int.mul_add, ← Int.mul_assoc]
  have : q * A = u - r := by omega
  rw [this]
theorem stop (h : Dig u v A C D) (hq : q * A + r = u) (hc : ¬ 4294967296 * r + v < q * C) (hge : (u * 4294967296 + v) / D ≤ q) : q = (u * 4294967296 + v) / D := by
  refine Int.le_antisymm ?_ hge
  rw [Int.le_ediv_iff_mul_le h.dpos, h.mulD hq]
  omega
theorem go1 (h : Dig u v A C D) (hc : 4294967296 ≤ q) : (u * 4294967296 + v) / D ≤ q - 1 := by have := h.small; omega
theorem go2 (h : Dig u v A C D) (hq : q * A + r = u) (hc : 4294967296 * r + v < q * C) : (u * 4294967296 + v) / D ≤ q - 1 := by
  have : (u * 4294967296 + v) / D < q := by
    rw [Int.ediv_lt_iff_lt_mul h.dpos, h.mulD hq]
    omega
  omega
theorem brk (h : Dig u v A C D) (hq : q * A + r = u) (hr : 4294967296 ≤ r + A) (hq1 : 1 ≤ q ∧ q ≤ 4294967297) (hge : (u * 4294967296 + v) / D ≤ q - 1) : q - 1 = (u * 4294967296 + v) / D := by
  refine Int.le_antisymm ?_ hge
  have hq2 : (q - 1) * A + (r + A) = u := by rw [Int.sub_mul]; omega
  rw [Int.le_ediv_iff_mul_le h.dpos, h.mulD hq2]
  have h1 : (q - 1) * C ≤ 4294967296 * C := Int.mul_le_mul_of_nonneg_right (by omega) h.c.1
  have := h.c; have := h.v
  omega
/-- The first guess. -/
theorem guess (h : Dig u v A C D) : (u * 4294967296 + v) / D ≤ u / A ∧ 0 ≤ u / A ∧ u / A ≤ 4294967297 := by
  have h1 := Int.mul_ediv_add_emod u A
  have ha : 0 < A := by have := h.a; omega
  have h2 := Int.emod_nonneg u (Int.ne_of_gt ha)
  have h3 := Int.emod_lt_of_pos u ha
  have hu := h.u
  refine ⟨?_, Int.ediv_nonneg hu.1 (Int.le_of_lt ha), ?_⟩
  · have h4 : (u * 4294967296 + v) / D < u / A + 1 := by
      rw [Int.ediv_lt_iff_lt_mul h.dpos, h.d, Int.mul_add, ← Int.mul_assoc, Int.add_mul]
      have e : u / A * A = A * (u / A) := Int.mul_comm _ _
      have h5 : 0 ≤ (u / A + 1) * C := Int.mul_nonneg (by have := Int.ediv_nonneg hu.1 (Int.le_of_lt ha); omega) h.c.1
      have := h.v
      omega
    omega
  · have h4 : u / A < 4294967298 := by
      rw [Int.ediv_lt_iff_lt_mul ha]
      have := h.d; have := h.a; have := h.c
      omega
    omega
end Dig
/-- The parts put together. -/
theorem div_fin {hi lo y u v Y Q1 R1 Q0 R0 : Int} {s : Nat} (hy : 0 < y) (hs : s ≤ 63) (hu : u = hi * 2 ^ s + lo / 2 ^ (64 - s)) (hv : v = lo * 2 ^ s % 18446744073709551616) (hY : Y = y * 2 ^ s)
    (hQ1 : Q1 = (u * 4294967296 + v / 4294967296) / Y) (hR1 : R1 = (u * 4294967296 + v / 4294967296) % Y) (hQ0 : Q0 = (R1 * 4294967296 + v % 4294967296) / Y) (hR0 : R0 = (R1 * 4294967296 + v % 4294967296) % Y) :
    Q1 * 4294967296 + Q0 = (hi * 18446744073709551616 + lo) / y ∧ R0 / 2 ^ s = (hi * 18446744073709551616 + lo) % y := by
  have hp : (0 : Int) < 2 ^ s := Int.pow_pos (by decide)
  have hp' : (0 : Int) < 2 ^ (64 - s) := Int.pow_pos (by decide)
  have hYp : 0 < Y := by rw [hY]; exact Int.mul_pos hy hp
  have e64 : (2 : Int) ^ (64 - s) * 2 ^ s = 18446744073709551616 := by rw [← Int.pow_add, show 64 - s + s = 64 by omega]; decide
  have hlo : lo * 2 ^ s / 18446744073709551616 = lo / 2 ^ (64 - s) := by rw [← e64, Int.mul_ediv_mul_of_pos_left _ _ hp]
  have hN : (hi * 18446744073709551616 + lo) * 2 ^ s = u * 18446744073709551616 + v := by
    have h1 := Int.mul_ediv_add_emod (lo * 2 ^ s) 18446744073709551616
    rw [hlo, ← hv] at h1
    rw [Int.add_mul, hu, Int.add_mul, Int.mul_assoc, Int.mul_comm 18446744073709551616 (2 ^ s), ← Int.mul_assoc]
    omega
  have h1 := Int.mul_ediv_add_emod (u * 4294967296 + v / 4294967296) Y
  have h2 := Int.mul_ediv_add_emod (R1 * 4294967296 + v % 4294967296) Y
  rw [← hQ1, ← hR1] at h1
  rw [← hQ0, ← hR0] at h2
  have h0 := Int.emod_nonneg (R1 * 4294967296 + v % 4294967296) (Int.ne_of_gt hYp)
  have h3 := Int.emod_lt_of_pos (R1 * 4294967296 + v % 4294967296) hYp
  rw [← hR0] at h0 h3
  have hall : (Q1 * 4294967296 + Q0) * Y + R0 = (hi * 18446744073709551616 + lo) * 2 ^ s := by
    rw [hN, Int.add_mul, Int.mul_assoc, Int.mul_comm 4294967296 Y, ← Int.mul_assoc, Int.mul_comm Q1 Y, Int.mul_comm Q0 Y]
    omega
  obtain ⟨a1, a2⟩ := part_fin hall h0 h3
  rw [hY, Int.mul_ediv_mul_of_pos_left _ _ hp] at a1
  have e9 : ∀ M : Int, M * 2 ^ s % (y * 2 ^ s) = (M % y) * 2 ^ s := fun M => by rw [Int.mul_comm M, Int.mul_comm y, Int.mul_emod_mul_of_pos _ _ hp, Int.mul_comm]
  rw [hY, e9] at a2
  exact ⟨a1, by rw [a2, Int.mul_ediv_cancel _ (Int.ne_of_gt hp)]⟩

theorem div_u {hi lo y Y u : Int} {s : Nat} (hh : 0 ≤ hi ∧ hi < y) (hl : 0 ≤ lo ∧ lo < 18446744073709551616) (hy : y * 2 ^ s < 18446744073709551616) (hs : s ≤ 63) (hY : Y = y * 2 ^ s) (hu : u = hi * 2 ^ s + lo / 2 ^ (64 - s)) :
    (0 ≤ hi * 2 ^ s ∧ hi * 2 ^ s < 18446744073709551616) ∧ (0 ≤ lo / 2 ^ (64 - s) ∧ lo / 2 ^ (64 - s) < 2 ^ s) ∧ 0 ≤ u ∧ u < Y := by
  have hp : (0 : Int) < 2 ^ s := Int.pow_pos (by decide)
  have hp' : (0 : Int) < 2 ^ (64 - s) := Int.pow_pos (by decide)
  have e64 : (2 : Int) ^ s * 2 ^ (64 - s) = 18446744073709551616 := by rw [← Int.pow_add, show s + (64 - s) = 64 by omega]; decide
  have h1 : 0 ≤ hi * 2 ^ s := Int.mul_nonneg hh.1 (Int.le_of_lt hp)
  have h2 : (hi + 1) * 2 ^ s ≤ y * 2 ^ s := Int.mul_le_mul_of_nonneg_right (by omega) (Int.le_of_lt hp)
  rw [Int.add_mul, Int.one_mul] at h2
  have h3 : 0 ≤ lo / 2 ^ (64 - s) := Int.ediv_nonneg hl.1 (Int.le_of_lt hp')
  have h4 : lo / 2 ^ (64 - s) < 2 ^ s := by rw [Int.ediv_lt_iff_lt_mul hp', e64]; exact hl.2
  omega

theorem div64 (hi lo y : Int) (w : World) (hh : 0 ≤ hi ∧ hi < y) (hl : 0 ≤ lo ∧ lo < 18446744073709551616) (hy : y < 18446744073709551616) :
    Calls Try.prog 29 [.int .u64 hi, .int .u64 lo, .int .u64 y].toArray w
      (Ret fun v w' => v = .tuple #[.int .u64 ((hi * 18446744073709551616 + lo) / y), .int .u64 ((hi * 18446744073709551616 + lo) % y)] ∧ Below w.heap.size w w') := by
  have hB := Below.refl w.heap.size w
  refine calls_W (fn := Try.f29) (rs := [.tmp 6, .tmp 7]) (n := 135) Try.func29 rfl rfl Try.ntmps29 (by kernel_rfl) rfl ?_
  refine W_seq ?_
  refine W_region ?_
  refine WR_val rfl (rn_assign) ?_
  refine WR_val rfl (rn_assign) ?_
  refine WR_nil ?_
  refine thenN ?_
  refine W_seq ?_
  refine W_seq ?_
  refine W_region ?_
  refine WR_val rfl (rn_move) ?_
  refine WR_val rfl (rn_eql rfl rfl) ?_
  refine WR_nil ?_
  refine thenN ?_
  refine W_fp rfl ((by omega)) ?_
  refine W_skip ?_
  refine thenN ?_
  refine W_seq ?_
  refine W_seq ?_
  refine W_region ?_
  refine WR_val rfl (rn_move) ?_
  refine WR_val rfl (rn_move) ?_
  refine WR_val rfl (rn_leq rfl rfl) ?_
  refine WR_nil ?_
  refine thenN ?_
  refine W_fp rfl ((by omega)) ?_
  refine W_skip ?_
  refine thenN ?_
  refine W_seq ?_
  refine W_seq ?_
  refine W_region ?_
  refine WR_val rfl (rn_move) ?_
  refine WR_val rfl (rn_eql rfl rfl) ?_
  refine WR_nil ?_
  refine thenN ?_
  refine W_ifp rfl (fun h0 => ?_) (fun h0 => ?_)
  ·
    refine W_seq ?_
    refine W_draw' [] (by kernel_rfl) ?_
    intro w901 hb901 hS901
    replace hB := hB.acc hb901
    have hB_d901 := hB
    refine WA_take 0 (by kernel_rfl) rfl (fun _ _ => rn_move) ?_
    refine WA_take 1 (by kernel_rfl) rfl (fun _ _ => rn_move) ?_
    refine WA_take 2 (by kernel_rfl) rfl (fun _ _ => rn_quou rfl rfl (by omega) (by omega)) ?_
    refine WA_take 3 (by kernel_rfl) rfl (fun _ _ => rn_move) ?_
    refine WA_take 4 (by kernel_rfl) rfl (fun _ _ => rn_move) ?_
    refine WA_take 5 (by kernel_rfl) rfl (fun _ _ => rn_rem0 rfl rfl (by omega) (by omega)) ?_
    refine WA_take 6 (by kernel_rfl) rfl (fun _ _ => rn_assign) ?_
    refine WA_take 7 (by kernel_rfl) rfl (fun _ _ => rn_assign) ?_
    refine WA_done (by kernel_rfl) ?_
    refine thenN ?_
    refine W_ret ?_
    refine thenR ?_
    refine ret_ret [_, _] ⟨rfl, rfl, trivial⟩ ?_
    refine ⟨?_, hB⟩
    subst h0
    rw [Int.zero_mul, Int.zero_add]
    rfl
  ·
    refine W_skip ?_
    refine thenN ?_
    refine W_seq ?_
    refine W_region ?_
    refine WR_val rfl (rn_move) ?_
    refine WR_ent rfl (rn_call (by kernel_rfl) rfl) (lz64 y w (by omega)) ?_
    rintro _ _ ⟨s, rfl, hs, hlo, hhi, rfl⟩
    have hp : (0 : Int) < 2 ^ s := Int.pow_pos (by decide)
    have hp' : (0 : Int) < 2 ^ (64 - s) := Int.pow_pos (by decide)
    have hobt : ∃ Y, Y = y * 2 ^ s := ⟨_, rfl⟩
    obtain ⟨Y, hY⟩ := hobt
    have hobt : ∃ A, A = Y / 4294967296 := ⟨_, rfl⟩
    obtain ⟨A, hA⟩ := hobt
    have hobt : ∃ C, C = Y % 4294967296 := ⟨_, rfl⟩
    obtain ⟨C, hC⟩ := hobt
    have hobt : ∃ u, u = hi * 2 ^ s + lo / 2 ^ (64 - s) := ⟨_, rfl⟩
    obtain ⟨u, hu⟩ := hobt
    have hobt : ∃ v, v = lo * 2 ^ s % 18446744073709551616 := ⟨_, rfl⟩
    obtain ⟨v, hv⟩ := hobt
    have hu2 := div_u hh hl (by omega) hs hY hu
    refine WR_val rfl (rn_conv (k := .u64) (by kernel_rfl) (by kernel_rfl) rfl (wu64 (by omega))) ?_
    refine WR_val rfl (rn_assign) ?_
    refine WR_nil ?_
    refine thenN ?_
    refine W_seq ?_
    refine W_region ?_
    refine WR_val rfl (rn_move) ?_
    refine WR_val rfl (rn_move) ?_
    refine WR_val rfl (rn_shl rfl rfl (by omega) ((shlN s rfl (by omega) (by omega)).trans hY.symm)) ?_
    refine WR_val rfl (rn_assign) ?_
    refine WR_nil ?_
    refine thenN ?_
    refine W_seq ?_
    refine W_region ?_
    refine WR_val rfl (rn_move) ?_
    refine WR_val rfl (rn_shr rfl rfl (by omega) (shr32.trans hA.symm)) ?_
    refine WR_val rfl (rn_assign) ?_
    refine WR_nil ?_
    refine thenN ?_
    refine W_seq ?_
    refine W_region ?_
    refine WR_val rfl (rn_move) ?_
    refine WR_val rfl (rn_and rfl rfl ((and32 (by omega)).trans hC.symm)) ?_
    refine WR_val rfl (rn_assign) ?_
    refine WR_nil ?_
    refine thenN ?_
    refine W_seq ?_
    refine W_region ?_
    refine WR_val rfl (rn_move) ?_
    refine WR_val rfl (rn_move) ?_
    refine WR_val rfl (rn_shl rfl rfl (by omega) (shlN s rfl (by omega) hu2.1)) ?_
    refine WR_val rfl (rn_move) ?_
    refine WR_val rfl (rn_move) ?_
    refine WR_val rfl (rn_sub rfl rfl (wu64 (by omega))) ?_
    refine WR_val rfl (rn_shr rfl rfl (by omega) (shrN (64 - s) (by omega) (by omega))) ?_
    refine WR_val rfl (rn_or rfl rfl ((orU s hi (by omega) rfl hu2.2.1 (by omega)).trans hu.symm)) ?_
    refine WR_val rfl (rn_assign) ?_
    refine WR_nil ?_
    refine thenN ?_
    refine W_seq ?_
    refine W_region ?_
    refine WR_val rfl (rn_move) ?_
    refine WR_val rfl (rn_move) ?_
    refine WR_val rfl (rn_shl rfl rfl (by omega) ((shlW s rfl (by omega)).trans hv.symm)) ?_
    refine WR_val rfl (rn_assign) ?_
    refine WR_nil ?_
    refine thenN ?_
    refine W_seq ?_
    refine W_region ?_
    refine WR_val rfl (rn_move) ?_
    refine WR_val rfl (rn_shr rfl rfl (by omega) shr32) ?_
    refine WR_val rfl (rn_assign) ?_
    refine WR_nil ?_
    refine thenN ?_
    refine W_seq ?_
    refine W_region ?_
    refine WR_val rfl (rn_move) ?_
    refine WR_val rfl (rn_and rfl rfl (and32 (by omega))) ?_
    have hD : Dig u (v / 4294967296) A C Y := ⟨by omega, by omega, by omega, hu2.2.2, by omega⟩
    have hg := hD.guess
    have hqa := Int.ediv_mul_add_emod u A
    have hr0 := Int.emod_nonneg u (show A ≠ 0 by omega)
    have hr1 := Int.emod_lt_of_pos u (show 0 < A by omega)
    have hmul0 : 0 ≤ u / A * A := Int.mul_nonneg hg.2.1 (by omega)
    have hQ1n := hD.nonneg
    have hobt : ∃ Q1, Q1 = (u * 4294967296 + v / 4294967296) / Y := ⟨_, rfl⟩
    obtain ⟨Q1, hQ1⟩ := hobt
    have hobt : ∃ R1, R1 = (u * 4294967296 + v / 4294967296) % Y := ⟨_, rfl⟩
    obtain ⟨R1, hR1⟩ := hobt
    refine WR_val rfl (rn_assign) ?_
    refine WR_nil ?_
    refine thenN ?_
    refine W_seq ?_
    refine W_region ?_
    refine WR_val rfl (rn_move) ?_
    refine WR_val rfl (rn_move) ?_
    refine WR_val rfl (rn_quou rfl rfl (by omega) (by omega)) ?_
    refine WR_val rfl (rn_assign) ?_
    refine WR_nil ?_
    refine thenN ?_
    refine W_seq ?_
    refine W_region ?_
    refine WR_val rfl (rn_move) ?_
    refine WR_val rfl (rn_move) ?_
    refine WR_val rfl (rn_move) ?_
    refine WR_val rfl (rn_mul rfl rfl (wu64 (by omega))) ?_
    refine WR_val rfl (rn_sub rfl rfl (wu64 (by omega))) ?_
    refine WR_val rfl (rn_assign) ?_
    refine WR_nil ?_
    refine thenN ?_
    refine W_cut (fun _ : Unit => [(15, .int .u64 Q1), (11, .int .u64 u), (13, .int .u64 (v / 4294967296)), (2, .int .u64 Y), (8, .int .u64 (s : Nat)), (9, .int .u64 A), (10, .int .u64 C), (14, .int .u64 (v % 4294967296))]) (fun _ w' => w = w') ?_ ?_
    ·
      refine W_block ?_
      refine W_loop (α := Int × Int) (u / A, u - u / A * A) (fun k => [(15, .int .u64 k.1), (16, .int .u64 k.2), (11, .int .u64 u), (13, .int .u64 (v / 4294967296)), (2, .int .u64 Y), (8, .int .u64 (s : Nat)), (9, .int .u64 A), (10, .int .u64 C), (14, .int .u64 (v % 4294967296))])
        (fun k w' => k.1 * A + k.2 = u ∧ 0 ≤ k.2 ∧ k.2 < 4294967296 ∧ Q1 ≤ k.1 ∧ 0 ≤ k.1 ∧ k.1 ≤ 4294967297 ∧ w = w') (fun k => k.1.toNat)
        ⟨rfl, rfl, rfl, rfl, rfl, rfl, rfl, rfl, rfl, rfl⟩ ⟨by simp only; omega, by simp only; omega, by simp only; omega, by simp only; omega, by simp only; omega, by simp only; omega, rfl⟩ ?_
      rintro ⟨q, r⟩ f _ ⟨hq, hq0, hq1, hq2, hq3, hq4, rfl⟩
      simp only at hq hq0 hq1 hq2 hq3 hq4
      dsimp only
      have hqc : q < 4294967296 → 0 ≤ q * C ∧ q * C ≤ 18446744065119617025 := fun h => mulB ⟨hq3, h⟩ hD.c
      refine W_seq ?_
      refine W_cut (fun b : Bool => [(78, .bool b), (15, .int .u64 q), (16, .int .u64 r), (11, .int .u64 u), (13, .int .u64 (v / 4294967296)), (2, .int .u64 Y), (8, .int .u64 (s : Nat)), (9, .int .u64 A), (10, .int .u64 C), (14, .int .u64 (v % 4294967296))]) (fun b w' => (b = true → Q1 ≤ q - 1) ∧ (b = false → q = Q1) ∧ w = w') ?_ ?_
      ·
        refine W_region ?_
        refine WR_val rfl (rn_move) ?_
        refine WR_val rfl (rn_geq rfl rfl) ?_
        refine WR_val rfl (rn_move) ?_
        refine WR_part 69 rfl (fun hbig => ?_) (fun hbig => ?_)
        ·
          refine WR_no rfl rfl ?_
          refine WR_no rfl rfl ?_
          refine WR_no rfl rfl ?_
          refine WR_no rfl rfl ?_
          refine WR_no rfl rfl ?_
          refine WR_no rfl rfl ?_
          refine WR_no rfl rfl ?_
          refine WR_no rfl rfl ?_
          refine WR_val rfl (rn_pick_t rfl) ?_
          refine WR_nil ?_
          refine loopN ⟨true, ⟨rfl, rfl, rfl, rfl, rfl, rfl, rfl, rfl, rfl, rfl, rfl⟩, fun _ => by rw [hQ1]; exact hD.go1 hbig, fun h => (by cases h), rfl⟩
        ·
          have hqc2 := hqc (by omega)
          refine WR_yes rfl ?_
          refine WR_val rfl (rn_move) ?_
          refine WR_yes rfl ?_
          refine WR_val rfl (rn_move) ?_
          refine WR_yes rfl ?_
          refine WR_val rfl (rn_mul rfl rfl (wu64 (by omega))) ?_
          refine WR_yes rfl ?_
          refine WR_val rfl (rn_move) ?_
          refine WR_yes rfl ?_
          refine WR_val rfl (rn_mul rfl rfl (wu64 (by omega))) ?_
          refine WR_yes rfl ?_
          refine WR_val rfl (rn_move) ?_
          refine WR_yes rfl ?_
          refine WR_val rfl (rn_add rfl rfl (wu64 (by omega))) ?_
          refine WR_yes rfl ?_
          refine WR_val rfl (rn_gtr rfl rfl) ?_
          refine WR_val rfl (rn_pick_f rfl) ?_
          refine WR_nil ?_
          refine loopN ⟨_, ⟨rfl, rfl, rfl, rfl, rfl, rfl, rfl, rfl, rfl, rfl, rfl⟩, fun h => ?_, fun h => ?_, rfl⟩
          · rw [hQ1]; exact hD.go2 hq (of_decide_eq_true h)
          · rw [hQ1]; exact hD.stop hq (of_decide_eq_false h) (by rw [← hQ1]; exact hq2)
      ·
        rintro b f2 _ ⟨hyes, hno, rfl⟩
        refine W_if rfl (fun hb => ?_) (fun hb => ?_)
        ·
          refine W_skip ?_
          refine thenN ?_
          refine W_block ?_
          refine W_seq ?_
          have hy2 := hyes hb
          refine W_region ?_
          refine WR_val rfl (rn_move) ?_
          refine WR_val rfl (rn_sub rfl rfl (wu64 (by omega))) ?_
          refine WR_val rfl (rn_assign) ?_
          refine WR_nil ?_
          refine thenN ?_
          refine W_seq ?_
          refine W_region ?_
          refine WR_val rfl (rn_move) ?_
          refine WR_val rfl (rn_move) ?_
          refine WR_val rfl (rn_add rfl rfl (wu64 (by omega))) ?_
          refine WR_val rfl (rn_assign) ?_
          refine WR_nil ?_
          refine thenN ?_
          refine W_seq ?_
          refine W_region ?_
          refine WR_val rfl (rn_move) ?_
          refine WR_val rfl (rn_geq rfl rfl) ?_
          refine WR_nil ?_
          refine thenN ?_
          refine W_ifp rfl (fun hbr => ?_) (fun hbr => ?_)
          ·
            refine W_exit ?_
            refine blockO rfl ?_
            refine loopX ?_
            refine blockX ?_
            refine ⟨(), ⟨vi ?_, rfl, rfl, rfl, rfl, rfl, rfl, rfl, rfl⟩, rfl⟩
            rw [hQ1]; exact hD.brk hq hbr (by omega) (by rw [← hQ1]; exact hy2)
          ·
            refine W_skip ?_
            refine blockN ?_
            refine loopN ⟨(q - 1, r + A), by simp only; omega, ⟨rfl, rfl, rfl, rfl, rfl, rfl, rfl, rfl, rfl, rfl⟩, by simp only; rw [Int.sub_mul]; omega, by simp only; omega, by simp only; omega, hy2, by simp only; omega, by simp only; omega, rfl⟩
        ·
          have hq5 := hno hb
          subst hq5
          refine W_exit ?_
          refine thenX ?_
          refine loopX ?_
          refine blockX ?_
          refine ⟨(), ⟨rfl, rfl, rfl, rfl, rfl, rfl, rfl, rfl, rfl⟩, rfl⟩
    ·
      rintro - f _ rfl
      have hm1 := Int.ediv_mul_add_emod (u * 4294967296 + v / 4294967296) Y
      have hm2 := Int.emod_nonneg (u * 4294967296 + v / 4294967296) (show Y ≠ 0 by omega)
      have hm3 := Int.emod_lt_of_pos (u * 4294967296 + v / 4294967296) (show 0 < Y by omega)
      rw [← hQ1] at hm1
      rw [← hR1] at hm1 hm2 hm3
      have hD2 : Dig R1 (v % 4294967296) A C Y := ⟨by omega, by omega, by omega, ⟨hm2, hm3⟩, by omega⟩
      have hg2 := hD2.guess
      have hqa2 := Int.ediv_mul_add_emod R1 A
      have hr2 := Int.emod_nonneg R1 (show A ≠ 0 by omega)
      have hr3 := Int.emod_lt_of_pos R1 (show 0 < A by omega)
      have hmul2 : 0 ≤ R1 / A * A := Int.mul_nonneg hg2.2.1 (by omega)
      have hQ0n := hD2.nonneg
      have hQ1s := hD.small
      have hQ0s := hD2.small
      rw [← hQ1] at hQ1s hQ1n
      obtain ⟨Q0, hQ0⟩ : ∃ Q0, Q0 = (R1 * 4294967296 + v % 4294967296) / Y := ⟨_, rfl⟩
      obtain ⟨R0, hR0⟩ : ∃ R0, R0 = (R1 * 4294967296 + v % 4294967296) % Y := ⟨_, rfl⟩
      refine W_seq ?_
      refine W_region ?_
      refine WR_val rfl (rn_move) ?_
      refine WR_val rfl (rn_mul rfl rfl (IntKind.wrap_u64 _)) ?_
      refine WR_val rfl (rn_move) ?_
      refine WR_val rfl (rn_add rfl rfl (IntKind.wrap_u64 _)) ?_
      refine WR_val rfl (rn_move) ?_
      refine WR_val rfl (rn_move) ?_
      refine WR_val rfl (rn_mul rfl rfl (IntKind.wrap_u64 _)) ?_
      refine WR_val rfl (rn_sub rfl rfl ((IntKind.wrap_u64 _).trans (show _ = R1 by omega))) ?_
      refine WR_val rfl (rn_assign) ?_
      refine WR_nil ?_
      refine thenN ?_
      refine W_seq ?_
      refine W_region ?_
      refine WR_val rfl (rn_move) ?_
      refine WR_val rfl (rn_move) ?_
      refine WR_val rfl (rn_quou rfl rfl (by omega) (by omega)) ?_
      refine WR_val rfl (rn_assign) ?_
      refine WR_nil ?_
      refine thenN ?_
      refine W_seq ?_
      refine W_region ?_
      refine WR_val rfl (rn_move) ?_
      refine WR_val rfl (rn_move) ?_
      refine WR_val rfl (rn_move) ?_
      refine WR_val rfl (rn_mul rfl rfl (wu64 (by omega))) ?_
      refine WR_val rfl (rn_sub rfl rfl (wu64 (by omega))) ?_
      refine WR_val rfl (rn_assign) ?_
      refine WR_nil ?_
      refine thenN ?_
      refine W_cut (fun _ : Unit => [(18, .int .u64 Q0), (17, .int .u64 R1), (15, .int .u64 Q1), (2, .int .u64 Y), (8, .int .u64 (s : Nat)), (9, .int .u64 A), (10, .int .u64 C), (14, .int .u64 (v % 4294967296))]) (fun _ w' => w = w') ?_ ?_
      ·
        refine W_block ?_
        refine W_loop (α := Int × Int) (R1 / A, R1 - R1 / A * A) (fun k => [(18, .int .u64 k.1), (16, .int .u64 k.2), (17, .int .u64 R1), (15, .int .u64 Q1), (2, .int .u64 Y), (8, .int .u64 (s : Nat)), (9, .int .u64 A), (10, .int .u64 C), (14, .int .u64 (v % 4294967296))])
          (fun k w' => k.1 * A + k.2 = R1 ∧ 0 ≤ k.2 ∧ k.2 < 4294967296 ∧ Q0 ≤ k.1 ∧ 0 ≤ k.1 ∧ k.1 ≤ 4294967297 ∧ w = w') (fun k => k.1.toNat)
          ⟨rfl, rfl, rfl, rfl, rfl, rfl, rfl, rfl, rfl, rfl⟩ ⟨by simp only; omega, by simp only; omega, by simp only; omega, by simp only; omega, by simp only; omega, by simp only; omega, rfl⟩ ?_
        rintro ⟨q, r⟩ f _ ⟨hq, hq0, hq1, hq2, hq3, hq4, rfl⟩
        simp only at hq hq0 hq1 hq2 hq3 hq4
        dsimp only
        have hqc : q < 4294967296 → 0 ≤ q * C ∧ q * C ≤ 18446744065119617025 := fun h => mulB ⟨hq3, h⟩ hD2.c
        refine W_seq ?_
        refine W_cut (fun b : Bool => [(113, .bool b), (18, .int .u64 q), (16, .int .u64 r), (17, .int .u64 R1), (15, .int .u64 Q1), (2, .int .u64 Y), (8, .int .u64 (s : Nat)), (9, .int .u64 A), (10, .int .u64 C), (14, .int .u64 (v % 4294967296))]) (fun b w' => (b = true → Q0 ≤ q - 1) ∧ (b = false → q = Q0) ∧ w = w') ?_ ?_
        ·
          refine W_region ?_
          refine WR_val rfl (rn_move) ?_
          refine WR_val rfl (rn_geq rfl rfl) ?_
          refine WR_val rfl (rn_move) ?_
          refine WR_part 104 rfl (fun hbig => ?_) (fun hbig => ?_)
          ·
            refine WR_no rfl rfl ?_
            refine WR_no rfl rfl ?_
            refine WR_no rfl rfl ?_
            refine WR_no rfl rfl ?_
            refine WR_no rfl rfl ?_
            refine WR_no rfl rfl ?_
            refine WR_no rfl rfl ?_
            refine WR_no rfl rfl ?_
            refine WR_val rfl (rn_pick_t rfl) ?_
            refine WR_nil ?_
            refine loopN ⟨true, ⟨rfl, rfl, rfl, rfl, rfl, rfl, rfl, rfl, rfl, rfl, rfl⟩, fun _ => by rw [hQ0]; exact hD2.go1 hbig, fun h => (by cases h), rfl⟩
          ·
            have hqc2 := hqc (by omega)
            refine WR_yes rfl ?_
            refine WR_val rfl (rn_move) ?_
            refine WR_yes rfl ?_
            refine WR_val rfl (rn_move) ?_
            refine WR_yes rfl ?_
            refine WR_val rfl (rn_mul rfl rfl (wu64 (by omega))) ?_
            refine WR_yes rfl ?_
            refine WR_val rfl (rn_move) ?_
            refine WR_yes rfl ?_
            refine WR_val rfl (rn_mul rfl rfl (wu64 (by omega))) ?_
            refine WR_yes rfl ?_
            refine WR_val rfl (rn_move) ?_
            refine WR_yes rfl ?_
            refine WR_val rfl (rn_add rfl rfl (wu64 (by omega))) ?_
            refine WR_yes rfl ?_
            refine WR_val rfl (rn_gtr rfl rfl) ?_
            refine WR_val rfl (rn_pick_f rfl) ?_
            refine WR_nil ?_
            refine loopN ⟨_, ⟨rfl, rfl, rfl, rfl, rfl, rfl, rfl, rfl, rfl, rfl, rfl⟩, fun h => ?_, fun h => ?_, rfl⟩
            · rw [hQ0]; exact hD2.go2 hq (of_decide_eq_true h)
            · rw [hQ0]; exact hD2.stop hq (of_decide_eq_false h) (by rw [← hQ0]; exact hq2)
        ·
          rintro b f2 _ ⟨hyes, hno, rfl⟩
          refine W_if rfl (fun hb => ?_) (fun hb => ?_)
          ·
            refine W_skip ?_
            refine thenN ?_
            refine W_block ?_
            refine W_seq ?_
            have hy2 := hyes hb
            refine W_region ?_
            refine WR_val rfl (rn_move) ?_
            refine WR_val rfl (rn_sub rfl rfl (wu64 (by omega))) ?_
            refine WR_val rfl (rn_assign) ?_
            refine WR_nil ?_
            refine thenN ?_
            refine W_seq ?_
            refine W_region ?_
            refine WR_val rfl (rn_move) ?_
            refine WR_val rfl (rn_move) ?_
            refine WR_val rfl (rn_add rfl rfl (wu64 (by omega))) ?_
            refine WR_val rfl (rn_assign) ?_
            refine WR_nil ?_
            refine thenN ?_
            refine W_seq ?_
            refine W_region ?_
            refine WR_val rfl (rn_move) ?_
            refine WR_val rfl (rn_geq rfl rfl) ?_
            refine WR_nil ?_
            refine thenN ?_
            refine W_ifp rfl (fun hbr => ?_) (fun hbr => ?_)
            ·
              refine W_exit ?_
              refine blockO rfl ?_
              refine loopX ?_
              refine blockX ?_
              refine ⟨(), ⟨vi ?_, rfl, rfl, rfl, rfl, rfl, rfl, rfl, rfl⟩, rfl⟩
              rw [hQ0]; exact hD2.brk hq hbr (by omega) (by rw [← hQ0]; exact hy2)
            ·
              refine W_skip ?_
              refine blockN ?_
              refine loopN ⟨(q - 1, r + A), by simp only; omega, ⟨rfl, rfl, rfl, rfl, rfl, rfl, rfl, rfl, rfl, rfl⟩, by simp only; rw [Int.sub_mul]; omega, by simp only; omega, by simp only; omega, hy2, by simp only; omega, by simp only; omega, rfl⟩
          ·
            have hq5 := hno hb
            subst hq5
            refine W_exit ?_
            refine thenX ?_
            refine loopX ?_
            refine blockX ?_
            refine ⟨(), ⟨rfl, rfl, rfl, rfl, rfl, rfl, rfl, rfl, rfl⟩, rfl⟩
      ·
        rintro - f _ rfl
        have hm4 := Int.ediv_mul_add_emod (R1 * 4294967296 + v % 4294967296) Y
        have hm5 := Int.emod_nonneg (R1 * 4294967296 + v % 4294967296) (show Y ≠ 0 by omega)
        have hm6 := Int.emod_lt_of_pos (R1 * 4294967296 + v % 4294967296) (show 0 < Y by omega)
        rw [← hQ0] at hm4 hQ0s hQ0n
        rw [← hR0] at hm4 hm5 hm6
        have hfin := div_fin (by omega) hs hu hv hY hQ1 hR1 hQ0 hR0
        refine W_seq ?_
        refine W_region ?_
        refine WR_val rfl (rn_move) ?_
        refine WR_val rfl (rn_mul rfl rfl (wu64 (by omega))) ?_
        refine WR_val rfl (rn_move) ?_
        refine WR_val rfl (rn_add rfl rfl (wu64 (by omega))) ?_
        refine WR_val rfl (rn_move) ?_
        refine WR_val rfl (rn_mul rfl rfl (IntKind.wrap_u64 _)) ?_
        refine WR_val rfl (rn_move) ?_
        refine WR_val rfl (rn_add rfl rfl (IntKind.wrap_u64 _)) ?_
        refine WR_val rfl (rn_move) ?_
        refine WR_val rfl (rn_move) ?_
        refine WR_val rfl (rn_mul rfl rfl (IntKind.wrap_u64 _)) ?_
        refine WR_val rfl (rn_sub rfl rfl ((IntKind.wrap_u64 _).trans (show _ = R0 by omega))) ?_
        refine WR_val rfl (rn_move) ?_
        refine WR_val rfl (rn_shr rfl rfl (by omega) (shrN s rfl (by omega))) ?_
        refine WR_val rfl (rn_assign) ?_
        refine WR_val rfl (rn_assign) ?_
        refine WR_nil ?_
        refine thenN ?_
        refine W_ret ?_
        refine ret_ret [_, _] ⟨rfl, rfl, trivial⟩ ?_
        refine ⟨?_, hB⟩
        rw [← hfin.1, ← hfin.2]
        rfl
end Go.Proofs.Ytknjiohhlemeiaa
