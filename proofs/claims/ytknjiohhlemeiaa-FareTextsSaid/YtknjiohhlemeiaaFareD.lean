/- Products of 128 bits, lengths of numbers: what Go's library computes. -/
import Derived.Test.YtknjiohhlemeiaaFareC
import Derived.Test.YtknjiohhlemeiaaVm12
namespace Go.Proofs.Ytknjiohhlemeiaa
open Go Go.RowKit Coup

theorem mulB {a b : Int} (ha : 0 ≤ a ∧ a < 4294967296) (hb : 0 ≤ b ∧ b < 4294967296) : 0 ≤ a * b ∧ a * b ≤ 18446744065119617025 := by
  refine ⟨Int.mul_nonneg ha.1 hb.1, ?_⟩
  have h1 : a * b ≤ 4294967295 * b := Int.mul_le_mul_of_nonneg_right (by omega) hb.1
  omega
theorem mul_split (x y : Int) : x * y = (x / 4294967296) * (y / 4294967296) * 18446744073709551616 + ((x / 4294967296) * (y % 4294967296) + (x % 4294967296) * (y / 4294967296)) * 4294967296 + (x % 4294967296) * (y % 4294967296) := by
  have h1 := Int.mul_ediv_add_emod x 4294967296
  have h2 := Int.mul_ediv_add_emod y 4294967296
  generalize x / 4294967296 = a at *
  generalize x % 4294967296 = b at *
  generalize y / 4294967296 = c at *
  generalize y % 4294967296 = d at *
  subst h1; subst h2
  grind
theorem mul64 (x y : Int) (w : World) (hx : 0 ≤ x ∧ x < 18446744073709551616) (hy : 0 ≤ y ∧ y < 18446744073709551616) :
    Calls Try.prog 28 [.int .u64 x, .int .u64 y].toArray w (Ret fun v w' => v = .tuple #[.int .u64 (x * y / 18446744073709551616), .int .u64 (x * y % 18446744073709551616)] ∧ w = w') := by
  have hs := mul_split x y
  have x0 : 0 ≤ x % 4294967296 ∧ x % 4294967296 < 4294967296 := by omega
  have x1 : 0 ≤ x / 4294967296 ∧ x / 4294967296 < 4294967296 := by omega
  have y0 : 0 ≤ y % 4294967296 ∧ y % 4294967296 < 4294967296 := by omega
  have y1 : 0 ≤ y / 4294967296 ∧ y / 4294967296 < 4294967296 := by omega
  have p00 := mulB x0 y0
  have p10 := mulB x1 y0
  have p01 := mulB x0 y1
  have p11 := mulB x1 y1
  refine calls_W (fn := Try.f28) (rs := [.tmp 4, .tmp 5]) (n := 51) Try.func28 rfl rfl Try.ntmps28 (by kernel_rfl) rfl ?_
  refine W_seq ?_
  refine W_region ?_
  refine WR_val rfl (rn_assign) ?_
  refine WR_val rfl (rn_assign) ?_
  refine WR_nil ?_
  refine thenN ?_
  refine W_seq ?_
  refine W_region ?_
  refine WR_val rfl (rn_move) ?_
  refine WR_val rfl (rn_and rfl rfl (and32 (by omega))) ?_
  refine WR_val rfl (rn_assign) ?_
  refine WR_nil ?_
  refine thenN ?_
  refine W_seq ?_
  refine W_region ?_
  refine WR_val rfl (rn_move) ?_
  refine WR_val rfl (rn_shr rfl rfl (by omega) shr32) ?_
  refine WR_val rfl (rn_assign) ?_
  refine WR_nil ?_
  refine thenN ?_
  refine W_seq ?_
  refine W_region ?_
  refine WR_val rfl (rn_move) ?_
  refine WR_val rfl (rn_and rfl rfl (and32 (by omega))) ?_
  refine WR_val rfl (rn_assign) ?_
  refine WR_nil ?_
  refine thenN ?_
  refine W_seq ?_
  refine W_region ?_
  refine WR_val rfl (rn_move) ?_
  refine WR_val rfl (rn_shr rfl rfl (by omega) shr32) ?_
  refine WR_val rfl (rn_assign) ?_
  refine WR_nil ?_
  refine thenN ?_
  refine W_seq ?_
  refine W_region ?_
  refine WR_val rfl (rn_move) ?_
  refine WR_val rfl (rn_move) ?_
  refine WR_val rfl (rn_mul rfl rfl (wu64 (by omega))) ?_
  refine WR_val rfl (rn_assign) ?_
  refine WR_nil ?_
  refine thenN ?_
  refine W_seq ?_
  refine W_region ?_
  refine WR_val rfl (rn_move) ?_
  refine WR_val rfl (rn_move) ?_
  refine WR_val rfl (rn_mul rfl rfl (wu64 (by omega))) ?_
  refine WR_val rfl (rn_move) ?_
  refine WR_val rfl (rn_shr rfl rfl (by omega) shr32) ?_
  refine WR_val rfl (rn_add rfl rfl (wu64 (by omega))) ?_
  refine WR_val rfl (rn_assign) ?_
  refine WR_nil ?_
  refine thenN ?_
  refine W_seq ?_
  refine W_region ?_
  refine WR_val rfl (rn_move) ?_
  refine WR_val rfl (rn_and rfl rfl (and32 (by omega))) ?_
  refine WR_val rfl (rn_assign) ?_
  refine WR_nil ?_
  refine thenN ?_
  refine W_seq ?_
  refine W_region ?_
  refine WR_val rfl (rn_move) ?_
  refine WR_val rfl (rn_shr rfl rfl (by omega) shr32) ?_
  refine WR_val rfl (rn_assign) ?_
  refine WR_nil ?_
  refine thenN ?_
  refine W_seq ?_
  refine W_region ?_
  refine WR_val rfl (rn_move) ?_
  refine WR_val rfl (rn_move) ?_
  refine WR_val rfl (rn_move) ?_
  refine WR_val rfl (rn_mul rfl rfl (wu64 (by omega))) ?_
  refine WR_val rfl (rn_add rfl rfl (wu64 (by omega))) ?_
  refine WR_val rfl (rn_assign) ?_
  refine WR_nil ?_
  refine thenN ?_
  refine W_seq ?_
  refine W_region ?_
  refine WR_val rfl (rn_move) ?_
  refine WR_val rfl (rn_move) ?_
  refine WR_val rfl (rn_mul rfl rfl (wu64 (by omega))) ?_
  refine WR_val rfl (rn_move) ?_
  refine WR_val rfl (rn_add rfl rfl (wu64 (by omega))) ?_
  refine WR_val rfl (rn_move) ?_
  refine WR_val rfl (rn_shr rfl rfl (by omega) shr32) ?_
  refine WR_val rfl (rn_add rfl rfl (wu64 (by omega))) ?_
  refine WR_val rfl (rn_assign) ?_
  refine WR_nil ?_
  refine thenN ?_
  refine W_seq ?_
  refine W_region ?_
  refine WR_val rfl (rn_move) ?_
  refine WR_val rfl (rn_move) ?_
  refine WR_val rfl (rn_mul rfl rfl (IntKind.wrap_u64 _)) ?_
  refine WR_val rfl (rn_assign) ?_
  refine WR_nil ?_
  refine thenN ?_
  refine W_ret ?_
  refine ret_ret [_, _] ⟨rfl, rfl, trivial⟩ ?_
  refine ⟨?_, rfl⟩
  refine congrArg Value.tuple (congrArg (fun q => #[Value.int .u64 q, Value.int .u64 (x * y % 18446744073709551616)]) ?_)
  generalize (x / 4294967296) * (y / 4294967296) = a at *
  generalize (x / 4294967296) * (y % 4294967296) = b at *
  generalize (x % 4294967296) * (y / 4294967296) = c at *
  generalize (x % 4294967296) * (y % 4294967296) = d at *
  rw [hs]
  omega
theorem len64 (x : Int) (w : World) (hx : 0 < x ∧ x < 18446744073709551616) :
    Calls Try.prog 45 [.int .u64 x].toArray w (Ret fun v w' => ∃ n : Nat, v = .int .i64 (n : Int) ∧ 1 ≤ n ∧ n ≤ 64 ∧ 2 ^ (n - 1) ≤ x ∧ x < 2 ^ n ∧ w = w') := by
  refine calls_W (fn := Try.f45) (rs := [.tmp 2]) (n := 25) Try.func45 rfl rfl Try.ntmps45 (by kernel_rfl) rfl ?_
  refine W_seq ?_
  refine W_region ?_
  refine WR_val rfl (rn_assign) ?_
  refine WR_nil ?_
  refine thenN ?_
  refine W_cut (fun q : Int × Nat => [(0, .int .u64 q.1), (2, .int .i64 (q.2 : Nat))]) (fun q w' => q.1 = x / 2 ^ q.2 ∧ 0 < q.1 ∧ q.1 < 4294967296 ∧ q.2 ≤ 32 ∧ w = w') ?_ ?_
  ·
    refine W_seq ?_
    refine W_region ?_
    refine WR_val rfl (rn_move) ?_
    refine WR_val rfl (rn_geq rfl rfl) ?_
    refine WR_nil ?_
    refine thenN ?_
    refine W_ifp rfl (fun h1 => ?_) (fun h1 => ?_)
    ·
      refine W_seq ?_
      refine W_region ?_
      refine WR_val rfl (rn_move) ?_
      refine WR_val rfl (rn_shr rfl rfl (by omega) shr32) ?_
      refine WR_val rfl (rn_assign) ?_
      refine WR_nil ?_
      refine thenN ?_
      refine W_region ?_
      refine WR_val rfl (rn_assign) ?_
      refine WR_nil ?_
      refine loopN ⟨(x / 4294967296, 32), ⟨rfl, rfl, rfl⟩, rfl, by simp only; omega, by simp only; omega, Nat.le_refl _, rfl⟩
    ·
      refine W_skip ?_
      refine loopN ⟨(x, 0), ⟨rfl, rfl, rfl⟩, by simp, hx.1, by simp only; omega, Nat.zero_le _, rfl⟩
  ·
    rintro ⟨x1, n1⟩ f _ ⟨hx1, hp1, hl1, hn1, rfl⟩
    simp only at hx1 hp1 hl1 hn1
    refine W_cut (fun q : Int × Nat => [(0, .int .u64 q.1), (2, .int .i64 (q.2 : Nat))]) (fun q w' => q.1 = x / 2 ^ q.2 ∧ 0 < q.1 ∧ q.1 < 65536 ∧ q.2 ≤ 48 ∧ w = w') ?_ ?_
    ·
      refine W_seq ?_
      refine W_region ?_
      refine WR_val rfl (rn_move) ?_
      refine WR_val rfl (rn_geq rfl rfl) ?_
      refine WR_nil ?_
      refine thenN ?_
      refine W_ifp rfl (fun h2 => ?_) (fun h2 => ?_)
      ·
        refine W_seq ?_
        refine W_region ?_
        refine WR_val rfl (rn_move) ?_
        refine WR_val rfl (rn_shr rfl rfl (by omega) shr16) ?_
        refine WR_val rfl (rn_assign) ?_
        refine WR_nil ?_
        refine thenN ?_
        refine W_region ?_
        refine WR_val rfl (rn_move) ?_
        refine WR_val rfl (rn_add rfl rfl (Coup.w64 (by omega))) ?_
        refine WR_val rfl (rn_assign) ?_
        refine WR_nil ?_
        refine loopN ⟨(x1 / 65536, n1 + 16), ⟨rfl, rfl, rfl⟩, by simp only; rw [hx1, Int.ediv_ediv_of_nonneg (Int.le_of_lt (Int.pow_pos (by decide))), Int.pow_add]; rfl, by simp only; omega, by simp only; omega, by simp only; omega, rfl⟩
      ·
        refine W_skip ?_
        refine loopN ⟨(x1, n1), ⟨rfl, rfl, rfl⟩, hx1, hp1, by simp only; omega, by simp only; omega, rfl⟩
    ·
      rintro ⟨x2, n2⟩ f2 _ ⟨hx2, hp2, hl2, hn2, rfl⟩
      simp only at hx2 hp2 hl2 hn2
      refine W_cut (fun q : Int × Nat => [(0, .int .u64 q.1), (2, .int .i64 (q.2 : Nat))]) (fun q w' => q.1 = x / 2 ^ q.2 ∧ 0 < q.1 ∧ q.1 < 256 ∧ q.2 ≤ 56 ∧ w = w') ?_ ?_
      ·
        refine W_seq ?_
        refine W_region ?_
        refine WR_val rfl (rn_move) ?_
        refine WR_val rfl (rn_geq rfl rfl) ?_
        refine WR_nil ?_
        refine thenN ?_
        refine W_ifp rfl (fun h3 => ?_) (fun h3 => ?_)
        ·
          refine W_seq ?_
          refine W_region ?_
          refine WR_val rfl (rn_move) ?_
          refine WR_val rfl (rn_shr rfl rfl (by omega) shr8) ?_
          refine WR_val rfl (rn_assign) ?_
          refine WR_nil ?_
          refine thenN ?_
          refine W_region ?_
          refine WR_val rfl (rn_move) ?_
          refine WR_val rfl (rn_add rfl rfl (Coup.w64 (by omega))) ?_
          refine WR_val rfl (rn_assign) ?_
          refine WR_nil ?_
          refine loopN ⟨(x2 / 256, n2 + 8), ⟨rfl, rfl, rfl⟩, by simp only; rw [hx2, Int.ediv_ediv_of_nonneg (Int.le_of_lt (Int.pow_pos (by decide))), Int.pow_add]; rfl, by simp only; omega, by simp only; omega, by simp only; omega, rfl⟩
        ·
          refine W_skip ?_
          refine loopN ⟨(x2, n2), ⟨rfl, rfl, rfl⟩, hx2, hp2, by simp only; omega, by simp only; omega, rfl⟩
      ·
        rintro ⟨x3, n3⟩ f3 _ ⟨hx3, hp3, hl3, hn3, rfl⟩
        simp only at hx3 hp3 hl3 hn3
        obtain ⟨m, rfl⟩ : ∃ m : Nat, x3 = m := ⟨x3.toNat, by omega⟩
        refine W_seq ?_
        refine W_region ?_
        refine WR_val rfl (rn_move) ?_
        refine WR_val rfl (rn_move) ?_
        refine WR_val rfl (rn_conv (k := .u8) (by kernel_rfl) (by kernel_rfl) rfl (wu8 (by omega))) ?_
        refine WR_mk rfl (mk_indexT (by kernel_rfl) rfl (by kernel_rfl) rfl m rfl (by omega) (by omega) (fun b hb1 hb8 hbl hbh => ?_))
        refine WR_val rfl (rn_conv (k := .i64) (by kernel_rfl) (by kernel_rfl) rfl (Coup.w64 (by omega))) ?_
        refine WR_val rfl (rn_add rfl rfl (Coup.w64 (by omega))) ?_
        refine WR_val rfl (rn_assign) ?_
        refine WR_nil ?_
        refine thenN ?_
        refine W_ret ?_
        refine ret_ret [_] ⟨rfl, trivial⟩ ?_
        have hp : (0 : Int) < 2 ^ n3 := Int.pow_pos (by decide)
        have e1 : n3 + b - 1 = n3 + (b - 1) := by omega
        have q1 : (2 : Int) ^ (b - 1) ≤ m := by
          have : ((2 ^ (b - 1) : Nat) : Int) ≤ m := by omega
          rwa [Int.natCast_pow] at this
        have q2 : (m : Int) + 1 ≤ 2 ^ b := by
          have : (m : Int) + 1 ≤ ((2 ^ b : Nat) : Int) := by omega
          rwa [Int.natCast_pow] at this
        have hd := Int.mul_ediv_add_emod x (2 ^ n3)
        have hr0 := Int.emod_nonneg x (Int.ne_of_gt hp)
        have hr1 := Int.emod_lt_of_pos x hp
        rw [← hx3] at hd
        refine ⟨n3 + b, rfl, by omega, by omega, ?_, ?_, rfl⟩
        · rw [e1, Int.pow_add]
          have := Int.mul_le_mul_of_nonneg_left q1 (Int.le_of_lt hp)
          omega
        · rw [Int.pow_add]
          have := Int.mul_le_mul_of_nonneg_left q2 (Int.le_of_lt hp)
          rw [Int.mul_add, Int.mul_one] at this
          omega
theorem lz64 (x : Int) (w : World) (hx : 0 < x ∧ x < 18446744073709551616) :
    Calls Try.prog 39 [.int .u64 x].toArray w (Ret fun v w' => ∃ s : Nat, v = .int .i64 (s : Int) ∧ s ≤ 63 ∧ 9223372036854775808 ≤ x * 2 ^ s ∧ x * 2 ^ s < 18446744073709551616 ∧ w = w') := by
  refine calls_W (fn := Try.f39) (rs := [.tmp 2]) (n := 6) Try.func39 rfl rfl Try.ntmps39 (by kernel_rfl) rfl ?_
  refine W_seq ?_
  refine W_region ?_
  refine WR_val rfl (rn_assign) ?_
  refine WR_nil ?_
  refine thenN ?_
  refine W_seq ?_
  refine W_region ?_
  refine WR_val rfl (rn_move) ?_
  refine WR_ent rfl (rn_call (by kernel_rfl) rfl) (len64 x w hx) ?_
  rintro _ _ ⟨n, rfl, hn1, hn64, hlo, hhi, rfl⟩
  refine WR_val rfl (rn_sub rfl rfl (Coup.w64 (by omega))) ?_
  refine WR_val rfl (rn_assign) ?_
  refine WR_nil ?_
  refine thenN ?_
  refine W_ret ?_
  refine ret_ret [_] ⟨rfl, trivial⟩ ?_
  have hp : (0 : Int) < 2 ^ (64 - n) := Int.pow_pos (by decide)
  have q1 := Int.mul_le_mul_of_nonneg_right hlo (Int.le_of_lt hp)
  have q2 := Int.mul_lt_mul_of_pos_right hhi hp
  rw [← Int.pow_add, show n - 1 + (64 - n) = 63 by omega] at q1
  rw [← Int.pow_add, show n + (64 - n) = 64 by omega] at q2
  have e63 : (2 : Int) ^ 63 = 9223372036854775808 := by decide
  have e64 : (2 : Int) ^ 64 = 18446744073709551616 := by decide
  exact ⟨64 - n, vi (by omega), by omega, by omega, by omega, rfl⟩
end Go.Proofs.Ytknjiohhlemeiaa
