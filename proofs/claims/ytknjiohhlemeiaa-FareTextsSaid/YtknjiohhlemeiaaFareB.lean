/- Parts of amounts, rates, sums, weights together; lists that are the same. -/
import Derived.Test.YtknjiohhlemeiaaFareA
namespace Go.Proofs.Ytknjiohhlemeiaa
open Go Go.RowKit Coup

theorem part_fin {a s q r : Int} (h : q * s + r = a) (h0 : 0 ≤ r) (h1 : r < s) : q = a / s ∧ r = a % s := by
  have hs : 0 < s := by omega
  subst h
  constructor
  · rw [Int.add_comm, Int.add_mul_ediv_right _ _ (by omega), Int.ediv_eq_zero_of_lt h0 h1]; omega
  · rw [Int.add_comm, Int.add_mul_emod_self_right, Int.emod_eq_of_lt h0 h1]
def bitK (k : Nat) : Int := 1099511627776 / 2 ^ k
def preK (a : Int) (k : Nat) : Int := a / 2 ^ (41 - k)
theorem bitK_succ (k : Nat) : bitK (k + 1) = bitK k / 2 := by
  unfold bitK
  rw [Int.ediv_ediv_of_nonneg (Int.le_of_lt (Int.pow_pos (by decide))), Int.pow_succ]
theorem bitK_pow {k : Nat} (h : k ≤ 40) : bitK k = 2 ^ (40 - k) := by
  unfold bitK
  rw [show (1099511627776 : Int) = 2 ^ (40 - k) * 2 ^ k by rw [← Int.pow_add, show 40 - k + k = 40 by omega]; decide, Int.mul_ediv_cancel _ (Int.ne_of_gt (Int.pow_pos (by decide)))]
theorem bitK_pos {k : Nat} (h : k ≤ 40) : 0 < bitK k := by rw [bitK_pow h]; exact Int.pow_pos (by decide)
theorem bitK_end : bitK 41 = 0 := by decide
theorem bitK_le (k : Nat) : 0 ≤ bitK k ∧ bitK k ≤ 1099511627776 := by
  unfold bitK
  exact ⟨Int.ediv_nonneg (by decide) (Int.le_of_lt (Int.pow_pos (by decide))), Int.ediv_le_self _ (by decide)⟩
theorem preK_succ (a : Int) {k : Nat} (h : k ≤ 40) : preK a (k + 1) = a / bitK k := by rw [bitK_pow h, preK, show 41 - (k + 1) = 40 - k by omega]
theorem preK_half (a : Int) {k : Nat} (h : k ≤ 40) : preK a k = preK a (k + 1) / 2 := by
  unfold preK
  rw [Int.ediv_ediv_of_nonneg (Int.le_of_lt (Int.pow_pos (by decide))), show (2 : Int) ^ (41 - (k + 1)) * 2 = 2 ^ (41 - k) by rw [show 41 - k = (41 - (k + 1)) + 1 by omega, Int.pow_succ]]
theorem preK_zero {a : Int} (h : 0 ≤ a) (h1 : a < 2199023255552) : preK a 0 = 0 := Int.ediv_eq_zero_of_lt h (by simpa using h1)
theorem preK_end (a : Int) : preK a 41 = a := by simp [preK]
theorem preK_le {a : Int} (h : 0 ≤ a) (k : Nat) : 0 ≤ preK a k ∧ preK a k ≤ a := ⟨Int.ediv_nonneg h (Int.le_of_lt (Int.pow_pos (by decide))), Int.ediv_le_self _ h⟩
/-- One round. -/
theorem part_step {pk u we s q r : Int} (hu : u % 2 = 0 ∨ u % 2 = 1) (hp : pk = u / 2) (hs : 0 < s) (h : q * s + r = pk * we) (h0 : 0 ≤ r) (x : Int) (hx : x = 2 * r + (u % 2) * we) (hx0 : 0 ≤ x) :
    (2 * q + x / s) * s + x % s = u * we ∧ 0 ≤ x % s ∧ x % s < s := by
  refine ⟨?_, Int.emod_nonneg _ (by omega), Int.emod_lt_of_pos _ hs⟩
  have h1 := Int.mul_ediv_add_emod x s
  have h2 : u = 2 * pk + u % 2 := by omega
  have h3 : u * we = 2 * (pk * we) + (u % 2) * we := by
    rw [show u * we = (2 * pk + u % 2) * we by rw [← h2], Int.add_mul, Int.mul_assoc]
  have h4 : (2 * q + x / s) * s = 2 * (q * s) + s * (x / s) := by rw [Int.add_mul, Int.mul_assoc, Int.mul_comm (x / s)]
  rw [h4, h3]; omega
theorem part_bound {pk we s q r a : Int} (h : q * s + r = pk * we) (h0 : 0 ≤ r) (hpk : 0 ≤ pk ∧ pk ≤ a) (hw : 0 ≤ we ∧ we ≤ s) (hs : 0 < s) : q ≤ a := by
  have h1 : pk * we ≤ a * s := Int.le_trans (Int.mul_le_mul_of_nonneg_right hpk.2 hw.1) (Int.mul_le_mul_of_nonneg_left hw.2 (by omega))
  have h2 : q * s ≤ a * s := by omega
  exact Int.le_of_mul_le_mul_right h2 hs
theorem part_low {pk we s q r : Int} (h : q * s + r = pk * we) (h1 : r < s) (hpk : 0 ≤ pk) (hw : 0 ≤ we) (hs : 0 < s) : 0 ≤ q := by
  have h2 : 0 ≤ pk * we := Int.mul_nonneg hpk hw
  rcases Int.lt_or_le q 0 with hq | hq
  · exfalso
    have : q * s ≤ -1 * s := Int.mul_le_mul_of_nonneg_right (by omega) (Int.le_of_lt hs)
    omega
  · exact hq

theorem part17 (a we s : Int) (w : World) (ha : 0 ≤ a ∧ a ≤ 1000000000000) (hw : 0 ≤ we ∧ we ≤ s) (hs : 0 < s ∧ s ≤ 1000000000000000000) :
    Calls Try.prog 17 [.int .i64 a, .int .i64 we, .int .i64 s].toArray w (Ret fun v w' => v = .tuple #[.int .i64 (a * we / s), .int .i64 (a * we % s)] ∧ Below w.heap.size w w') := by
  have hB := Below.refl w.heap.size w
  refine calls_W (fn := Try.f17) (rs := [.tmp 6, .tmp 7]) (n := 37) Try.func17 rfl rfl Try.ntmps17 (by kernel_rfl) rfl ?_
  refine W_seq ?_
  refine W_region ?_
  refine WR_val rfl (rn_assign) ?_
  refine WR_val rfl (rn_assign) ?_
  refine WR_nil ?_
  refine thenN ?_
  refine W_seq ?_
  refine W_region ?_
  refine WR_val rfl (rn_assign) ?_
  refine WR_val rfl (rn_assign) ?_
  refine WR_nil ?_
  refine thenN ?_
  refine W_seq ?_
  refine W_seq ?_
  refine W_region ?_
  refine WR_val rfl (rn_assign) ?_
  refine WR_nil ?_
  refine thenN ?_
  refine W_block ?_
  refine W_loop (α := Nat × Int × Int) (0, 0, 0) (fun k => [(10, .int .i64 (bitK k.1)), (8, .int .i64 k.2.1), (9, .int .i64 k.2.2), (0, .int .i64 a), (1, .int .i64 we), (2, .int .i64 s)])
    (fun k w' => k.1 ≤ 41 ∧ k.2.1 * s + k.2.2 = preK a k.1 * we ∧ 0 ≤ k.2.2 ∧ k.2.2 < s ∧ Below w.heap.size w w') (fun k => 41 - k.1)
    ⟨rfl, rfl, rfl, rfl, rfl, rfl, rfl⟩ ⟨Nat.zero_le _, by simp only; rw [preK_zero ha.1 (by omega)]; omega, by decide, hs.1, hB⟩ ?_
  rintro ⟨k, q, r⟩ f wr ⟨hk, hq, hr0, hr1, hB⟩
  simp only at hk hq hr0 hr1
  dsimp only
  have hbl := bitK_le k
  have hpl := preK_le ha.1 k
  have hqa := part_bound hq hr0 hpl hw hs.1
  have hq0 := part_low hq hr1 hpl.1 hw.1 hs.1
  refine W_seq ?_
  refine W_seq ?_
  refine W_region ?_
  refine WR_val rfl (rn_move) ?_
  refine WR_val rfl (rn_gtr rfl rfl) ?_
  refine WR_nil ?_
  refine thenN ?_
  refine W_ifp rfl (fun hlt => ?_) (fun hlt => ?_)
  ·
    refine W_skip ?_
    refine thenN ?_
    refine W_seq ?_
    refine W_block ?_
    refine W_seq ?_
    have hk40 : k ≤ 40 := by rcases Nat.lt_or_ge k 41 with h | h; omega; (obtain rfl : k = 41 := by omega); rw [bitK_end] at hlt; omega
    have hps := preK_succ a hk40
    have hph := preK_half a hk40
    have hp0 := preK_le ha.1 (k + 1)
    have hu2 : preK a (k + 1) % 2 = 0 ∨ preK a (k + 1) % 2 = 1 := by omega
    refine W_region ?_
    refine WR_val rfl (rn_move) ?_
    refine WR_val rfl (rn_mul rfl rfl (Coup.w64 (by omega))) ?_
    refine WR_val rfl (rn_move) ?_
    refine WR_val rfl (rn_mul rfl rfl (Coup.w64 (by omega))) ?_
    refine WR_val rfl (rn_assign) ?_
    refine WR_val rfl (rn_assign) ?_
    refine WR_nil ?_
    refine thenN ?_
    refine W_seq ?_
    refine W_seq ?_
    refine W_region ?_
    refine WR_val rfl (rn_move) ?_
    refine WR_val rfl (rn_move) ?_
    refine WR_val rfl (rn_quo0 rfl rfl (by omega) (by omega)) ?_
    refine WR_val rfl (rn_rem0 rfl rfl (by omega) (by omega)) ?_
    refine WR_val rfl (rn_eql rfl rfl) ?_
    refine WR_nil ?_
    refine thenN ?_
    refine W_ifp rfl (fun hodd => ?_) (fun hodd => ?_)
    ·
      have hst := part_step (s := s) (q := q) (r := r) (we := we) hu2 hph hs.1 hq hr0 (2 * r + we) (by rw [show preK a (k + 1) % 2 = 1 by omega]; omega) (by omega)
      have hqs := part_bound hst.1 hst.2.1 ⟨hp0.1, hp0.2⟩ hw hs.1
      have hql := part_low hst.1 hst.2.2 hp0.1 hw.1 hs.1
      refine W_region ?_
      refine WR_val rfl (rn_move) ?_
      refine WR_val rfl (rn_move) ?_
      refine WR_val rfl (rn_add rfl rfl (Coup.w64 (by omega))) ?_
      refine WR_val rfl (rn_assign) ?_
      refine WR_nil ?_
      refine thenN ?_
      refine W_draw' [] (by kernel_rfl) ?_
      intro w901 hb901 hS901
      replace hB := hB.acc hb901
      have hB_d901 := hB
      refine WA_take 0 (by kernel_rfl) rfl (fun _ _ => rn_move) ?_
      refine WA_take 1 (by kernel_rfl) rfl (fun _ _ => rn_move) ?_
      refine WA_take 2 (by kernel_rfl) rfl (fun _ _ => rn_move) ?_
      refine WA_take 3 (by kernel_rfl) rfl (fun _ _ => rn_quo0 rfl rfl (by omega) (by omega)) ?_
      refine WA_take 4 (by kernel_rfl) rfl (fun _ _ => rn_add rfl rfl (Coup.w64 (by omega))) ?_
      refine WA_take 5 (by kernel_rfl) rfl (fun _ _ => rn_move) ?_
      refine WA_take 6 (by kernel_rfl) rfl (fun _ _ => rn_move) ?_
      refine WA_take 7 (by kernel_rfl) rfl (fun _ _ => rn_rem0 rfl rfl (by omega) (by omega)) ?_
      refine WA_take 8 (by kernel_rfl) rfl (fun _ _ => rn_assign) ?_
      refine WA_take 9 (by kernel_rfl) rfl (fun _ _ => rn_assign) ?_
      refine WA_done (by kernel_rfl) ?_
      refine blockN ?_
      refine thenN ?_
      refine W_region ?_
      refine WR_val rfl (rn_move) ?_
      refine WR_val rfl (rn_quo0 rfl rfl (by omega) (by omega)) ?_
      refine WR_val rfl (rn_assign) ?_
      refine WR_nil ?_
      refine loopN ⟨(k + 1, 2 * q + (2 * r + we) / s, (2 * r + we) % s), by simp only; omega, ⟨vi (bitK_succ k).symm, rfl, rfl, rfl, rfl, rfl, rfl⟩, by simp only; omega, hst.1, hst.2.1, hst.2.2, hB⟩
    ·
      have hst := part_step (s := s) (q := q) (r := r) (we := we) hu2 hph hs.1 hq hr0 (2 * r) (by rw [show preK a (k + 1) % 2 = 0 by omega]; omega) (by omega)
      have hqs := part_bound hst.1 hst.2.1 ⟨hp0.1, hp0.2⟩ hw hs.1
      have hql := part_low hst.1 hst.2.2 hp0.1 hw.1 hs.1
      refine W_skip ?_
      refine thenN ?_
      refine W_draw' [] (by kernel_rfl) ?_
      intro w902 hb902 hS902
      replace hB := hB.acc hb902
      have hB_d902 := hB
      refine WA_take 0 (by kernel_rfl) rfl (fun _ _ => rn_move) ?_
      refine WA_take 1 (by kernel_rfl) rfl (fun _ _ => rn_move) ?_
      refine WA_take 2 (by kernel_rfl) rfl (fun _ _ => rn_move) ?_
      refine WA_take 3 (by kernel_rfl) rfl (fun _ _ => rn_quo0 rfl rfl (by omega) (by omega)) ?_
      refine WA_take 4 (by kernel_rfl) rfl (fun _ _ => rn_add rfl rfl (Coup.w64 (by omega))) ?_
      refine WA_take 5 (by kernel_rfl) rfl (fun _ _ => rn_move) ?_
      refine WA_take 6 (by kernel_rfl) rfl (fun _ _ => rn_move) ?_
      refine WA_take 7 (by kernel_rfl) rfl (fun _ _ => rn_rem0 rfl rfl (by omega) (by omega)) ?_
      refine WA_take 8 (by kernel_rfl) rfl (fun _ _ => rn_assign) ?_
      refine WA_take 9 (by kernel_rfl) rfl (fun _ _ => rn_assign) ?_
      refine WA_done (by kernel_rfl) ?_
      refine blockN ?_
      refine thenN ?_
      refine W_region ?_
      refine WR_val rfl (rn_move) ?_
      refine WR_val rfl (rn_quo0 rfl rfl (by omega) (by omega)) ?_
      refine WR_val rfl (rn_assign) ?_
      refine WR_nil ?_
      refine loopN ⟨(k + 1, 2 * q + (2 * r) / s, (2 * r) % s), by simp only; omega, ⟨vi (bitK_succ k).symm, rfl, rfl, rfl, rfl, rfl, rfl⟩, by simp only; omega, hst.1, hst.2.1, hst.2.2, hB⟩
  ·
    have hk41 : k = 41 := by
      rcases Nat.lt_or_ge k 41 with h | h
      · have := bitK_pos (k := k) (by omega); omega
      · omega
    subst hk41
    rw [preK_end] at hq
    have hf := part_fin hq hr0 hr1
    refine W_exit ?_
    refine thenX ?_
    refine loopX ?_
    refine blockX ?_
    refine thenN ?_
    refine W_seq ?_
    refine W_region ?_
    refine WR_val rfl (rn_move) ?_
    refine WR_val rfl (rn_move) ?_
    refine WR_val rfl (rn_assign) ?_
    refine WR_val rfl (rn_assign) ?_
    refine WR_nil ?_
    refine thenN ?_
    refine W_ret ?_
    refine ret_ret [_, _] ⟨rfl, rfl, trivial⟩ ?_
    refine ⟨?_, hB⟩
    rw [← hf.1, ← hf.2]
    rfl
theorem rate18 (a r : Int) (w : World) : Calls Try.prog 18 [.int .i64 a, .int .i64 r].toArray w
    (Ret fun v w' => v = (if someM a = true then if 0 ≤ r ∧ r ≤ 10000 then .tuple #[.int .i64 (a * r / 10000), .int .i64 0] else .tuple #[.int .i64 0, .int .i64 5] else .tuple #[.int .i64 0, .int .i64 14]) ∧ w = w') := by
  refine calls_W (fn := Try.f18) (rs := [.tmp 4, .tmp 5]) (n := 21) Try.func18 rfl rfl Try.ntmps18 (by kernel_rfl) rfl ?_
  refine W_seq ?_
  refine W_region ?_
  refine WR_val rfl (rn_assign) ?_
  refine WR_val rfl (rn_assign) ?_
  refine WR_nil ?_
  refine thenN ?_
  refine W_seq ?_
  refine W_block ?_
  refine W_seq ?_
  refine W_region ?_
  refine WR_val rfl (rn_move) ?_
  refine WR_ent rfl (rn_call (by kernel_rfl) rfl) (some27 a w) ?_
  rintro _ _ ⟨rfl, rfl⟩
  refine WR_val rfl (rn_not rfl) ?_
  refine WR_val rfl (rn_assign) ?_
  refine WR_nil ?_
  refine thenN ?_
  refine W_ifnb rfl (fun hs => ?_) (fun hs => ?_)
  ·
    refine W_seq ?_
    refine W_region ?_
    refine WR_val rfl (rn_assign) ?_
    refine WR_val rfl (rn_assign) ?_
    refine WR_nil ?_
    refine thenN ?_
    refine W_ret ?_
    refine blockR ?_
    refine thenR ?_
    refine ret_ret [_, _] ⟨rfl, rfl, trivial⟩ ?_
    exact ⟨by rw [if_neg (by simp [hs])]; rfl, rfl⟩
  ·
    rw [if_pos hs]
    have hb := someM_iff.1 hs
    refine W_seq ?_
    refine W_region ?_
    refine WR_val rfl (rn_move) ?_
    refine WR_val rfl (rn_lss rfl rfl) ?_
    refine WR_val rfl (rn_move) ?_
    refine WR_part 13 rfl (fun hneg => ?_) (fun hneg => ?_)
    ·
      refine WR_no rfl rfl ?_
      refine WR_no rfl rfl ?_
      refine WR_val rfl (rn_pick_t rfl) ?_
      refine WR_val rfl (rn_assign) ?_
      refine WR_nil ?_
      refine thenN ?_
      refine W_t rfl ?_
      refine W_seq ?_
      refine W_region ?_
      refine WR_val rfl (rn_assign) ?_
      refine WR_val rfl (rn_assign) ?_
      refine WR_nil ?_
      refine thenN ?_
      refine W_ret ?_
      refine blockR ?_
      refine thenR ?_
      refine ret_ret [_, _] ⟨rfl, rfl, trivial⟩ ?_
      exact ⟨by rw [if_neg (by omega)]; rfl, rfl⟩
    ·
      refine WR_yes rfl ?_
      refine WR_val rfl (rn_move) ?_
      refine WR_yes rfl ?_
      refine WR_val rfl (rn_gtr rfl rfl) ?_
      refine WR_val rfl (rn_pick_f rfl) ?_
      refine WR_val rfl (rn_assign) ?_
      refine WR_nil ?_
      refine thenN ?_
      refine W_ifp rfl (fun hbig => ?_) (fun hbig => ?_)
      ·
        refine W_seq ?_
        refine W_region ?_
        refine WR_val rfl (rn_assign) ?_
        refine WR_val rfl (rn_assign) ?_
        refine WR_nil ?_
        refine thenN ?_
        refine W_ret ?_
        refine blockR ?_
        refine thenR ?_
        refine ret_ret [_, _] ⟨rfl, rfl, trivial⟩ ?_
        exact ⟨by rw [if_neg (by omega)]; rfl, rfl⟩
      ·
        rw [if_pos (by omega)]
        have h1 : 0 ≤ a * r := Int.mul_nonneg hb.1 (by omega)
        have h2 : a * r ≤ 1000000000000 * 10000 := Int.le_trans (Int.mul_le_mul_of_nonneg_right hb.2 (by omega)) (Int.mul_le_mul_of_nonneg_left (by omega) (by decide))
        refine W_skip ?_
        refine blockN ?_
        refine thenN ?_
        refine W_seq ?_
        refine W_region ?_
        refine WR_val rfl (rn_move) ?_
        refine WR_val rfl (rn_move) ?_
        refine WR_val rfl (rn_mul rfl rfl (Coup.w64 (by omega))) ?_
        refine WR_val rfl (rn_quo0 rfl rfl (by omega) (by omega)) ?_
        refine WR_val rfl (rn_assign) ?_
        refine WR_val rfl (rn_assign) ?_
        refine WR_nil ?_
        refine thenN ?_
        refine W_ret ?_
        refine ret_ret [_, _] ⟨rfl, rfl, trivial⟩ ?_
        exact ⟨rfl, rfl⟩
theorem take19 (a b : Int) (w : World) : Calls Try.prog 19 [.int .i64 a, .int .i64 b].toArray w
    (Ret fun v w' => v = (if someM a = true ∧ someM b = true then .tuple #[.int .i64 (min a b), .int .i64 (a - min a b), .int .i64 0] else .tuple #[.int .i64 0, .int .i64 0, .int .i64 14]) ∧ w = w') := by
  refine calls_W (fn := Try.f19) (rs := [.tmp 4, .tmp 5, .tmp 6]) (n := 23) Try.func19 rfl rfl Try.ntmps19 (by kernel_rfl) rfl ?_
  refine W_seq ?_
  refine W_region ?_
  refine WR_val rfl (rn_assign) ?_
  refine WR_val rfl (rn_assign) ?_
  refine WR_val rfl (rn_assign) ?_
  refine WR_nil ?_
  refine thenN ?_
  refine W_seq ?_
  refine W_seq ?_
  refine W_region ?_
  refine WR_val rfl (rn_move) ?_
  refine WR_ent rfl (rn_call (by kernel_rfl) rfl) (some27 a w) ?_
  rintro _ _ ⟨rfl, rfl⟩
  refine WR_val rfl (rn_not rfl) ?_
  refine WR_val rfl (rn_move) ?_
  refine WR_partnb 11 rfl (fun hs => ?_) (fun hs => ?_)
  ·
    refine WR_no rfl rfl ?_
    refine WR_no rfl rfl ?_
    refine WR_no rfl rfl ?_
    refine WR_val rfl (rn_pick_t rfl) ?_
    refine WR_nil ?_
    refine thenN ?_
    refine W_t rfl ?_
    refine W_seq ?_
    refine W_region ?_
    refine WR_val rfl (rn_assign) ?_
    refine WR_val rfl (rn_assign) ?_
    refine WR_val rfl (rn_assign) ?_
    refine WR_nil ?_
    refine thenN ?_
    refine W_ret ?_
    refine thenR ?_
    refine ret_ret [_, _, _] ⟨rfl, rfl, rfl, trivial⟩ ?_
    exact ⟨by rw [if_neg (by simp [hs])]; rfl, rfl⟩
  ·
    refine WR_yes rfl ?_
    refine WR_val rfl (rn_move) ?_
    refine WR_yes rfl ?_
    refine WR_ent rfl (rn_call (by kernel_rfl) rfl) (some27 b w) ?_
    rintro _ _ ⟨rfl, rfl⟩
    refine WR_yes rfl ?_
    refine WR_val rfl (rn_not rfl) ?_
    refine WR_val rfl (rn_pick_f rfl) ?_
    refine WR_nil ?_
    refine thenN ?_
    refine W_ifnb rfl (fun hs2 => ?_) (fun hs2 => ?_)
    ·
      refine W_seq ?_
      refine W_region ?_
      refine WR_val rfl (rn_assign) ?_
      refine WR_val rfl (rn_assign) ?_
      refine WR_val rfl (rn_assign) ?_
      refine WR_nil ?_
      refine thenN ?_
      refine W_ret ?_
      refine thenR ?_
      refine ret_ret [_, _, _] ⟨rfl, rfl, rfl, trivial⟩ ?_
      exact ⟨by rw [if_neg (by simp [hs2])]; rfl, rfl⟩
    ·
      rw [if_pos ⟨hs, hs2⟩]
      have hb := someM_iff.1 hs
      have hb2 := someM_iff.1 hs2
      refine W_skip ?_
      refine thenN ?_
      refine W_seq ?_
      refine W_region ?_
      refine WR_val rfl (rn_move) ?_
      refine WR_val rfl (rn_move) ?_
      refine WR_val rfl (rn_min2 rfl rfl) ?_
      refine WR_val rfl (rn_assign) ?_
      refine WR_nil ?_
      refine thenN ?_
      refine W_seq ?_
      refine W_region ?_
      refine WR_val rfl (rn_move) ?_
      refine WR_val rfl (rn_move) ?_
      refine WR_val rfl (rn_move) ?_
      refine WR_val rfl (rn_sub rfl rfl (Coup.w64 (by omega))) ?_
      refine WR_val rfl (rn_assign) ?_
      refine WR_val rfl (rn_assign) ?_
      refine WR_val rfl (rn_assign) ?_
      refine WR_nil ?_
      refine thenN ?_
      refine W_ret ?_
      refine ret_ret [_, _, _] ⟨rfl, rfl, rfl, trivial⟩ ?_
      exact ⟨rfl, rfl⟩
end Go.Proofs.Ytknjiohhlemeiaa
