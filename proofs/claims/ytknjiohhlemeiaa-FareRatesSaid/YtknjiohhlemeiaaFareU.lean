/- Rates, and what is taken: the law FareRates. -/
import Derived.Test.YtknjiohhlemeiaaFareR
namespace Go.Proofs.Ytknjiohhlemeiaa
open Go Go.RowKit Coup

theorem rateIf (a r : Int) (v : Value) (x e : Int) (w : World) (h : (if someM a = true then if 0 ≤ r ∧ r ≤ 10000 then Value.tuple #[.int .i64 (a * r / 10000), .int .i64 0] else .tuple #[.int .i64 0, .int .i64 5] else .tuple #[.int .i64 0, .int .i64 14]) = .tuple #[.int .i64 x, .int .i64 e]) :
    Calls Try.prog 18 [.int .i64 a, .int .i64 r].toArray w (Ret fun v w' => v = .tuple #[.int .i64 x, .int .i64 e] ∧ w = w') := by
  have := rate18 a r w
  rwa [h] at this
theorem takeIf (a b x y e : Int) (w : World) (h : (if someM a = true ∧ someM b = true then Value.tuple #[.int .i64 (min a b), .int .i64 (a - min a b), .int .i64 0] else .tuple #[.int .i64 0, .int .i64 0, .int .i64 14]) = .tuple #[.int .i64 x, .int .i64 y, .int .i64 e]) :
    Calls Try.prog 19 [.int .i64 a, .int .i64 b].toArray w (Ret fun v w' => v = .tuple #[.int .i64 x, .int .i64 y, .int .i64 e] ∧ w = w') := by
  have := take19 a b w
  rwa [h] at this
set_option maxHeartbeats 1000000 in
theorem ratesC (a r b : Int) (w : World) :
    Calls Try.prog 6 [.int .i64 a, .int .i64 r, .int .i64 b].toArray w (Ret fun v w' => v = .bool true ∧ Below w.heap.size w w') := by
  have hB := Below.refl w.heap.size w
  -- the rate
  have hrate : ∃ x e, (if someM a = true then if 0 ≤ r ∧ r ≤ 10000 then Value.tuple #[.int .i64 (a * r / 10000), .int .i64 0] else .tuple #[.int .i64 0, .int .i64 5] else .tuple #[.int .i64 0, .int .i64 14]) = .tuple #[.int .i64 x, .int .i64 e] ∧
      ((¬ (0 ≤ a ∧ a ≤ 1000000000000) ∧ x = 0 ∧ e = 14) ∨ ((0 ≤ a ∧ a ≤ 1000000000000) ∧ ¬ (0 ≤ r ∧ r ≤ 10000) ∧ x = 0 ∧ e = 5) ∨ ((0 ≤ a ∧ a ≤ 1000000000000) ∧ (0 ≤ r ∧ r ≤ 10000) ∧ x = a * r / 10000 ∧ e = 0)) := by
    by_cases h1 : someM a = true
    · have h2 := someM_iff.1 h1
      by_cases h3 : 0 ≤ r ∧ r ≤ 10000
      · exact ⟨_, _, by rw [if_pos h1, if_pos h3], Or.inr (Or.inr ⟨h2, h3, rfl, rfl⟩)⟩
      · exact ⟨_, _, by rw [if_pos h1, if_neg h3], Or.inr (Or.inl ⟨h2, h3, rfl, rfl⟩)⟩
    · exact ⟨_, _, by rw [if_neg h1], Or.inl ⟨fun q => h1 (someM_iff.2 q), rfl, rfl⟩⟩
  obtain ⟨x, e, hv, hx⟩ := hrate
  have htake : ∃ y z u, (if someM a = true ∧ someM b = true then Value.tuple #[.int .i64 (min a b), .int .i64 (a - min a b), .int .i64 0] else .tuple #[.int .i64 0, .int .i64 0, .int .i64 14]) = .tuple #[.int .i64 y, .int .i64 z, .int .i64 u] ∧
      ((¬ ((0 ≤ a ∧ a ≤ 1000000000000) ∧ 0 ≤ b ∧ b ≤ 1000000000000) ∧ y = 0 ∧ z = 0 ∧ u = 14) ∨ (((0 ≤ a ∧ a ≤ 1000000000000) ∧ 0 ≤ b ∧ b ≤ 1000000000000) ∧ y = min a b ∧ z = a - min a b ∧ u = 0)) := by
    by_cases h1 : someM a = true ∧ someM b = true
    · exact ⟨_, _, _, by rw [if_pos h1], Or.inr ⟨⟨someM_iff.1 h1.1, someM_iff.1 h1.2⟩, rfl, rfl, rfl⟩⟩
    · exact ⟨_, _, _, by rw [if_neg h1], Or.inl ⟨fun q => h1 ⟨someM_iff.2 q.1, someM_iff.2 q.2⟩, rfl, rfl, rfl⟩⟩
  obtain ⟨y, z, u, hv2, hy⟩ := htake
  refine calls_W (fn := Try.f6) (rs := [.tmp 6]) (n := 127) Try.func6 rfl rfl Try.ntmps6 (by kernel_rfl) rfl ?_
  refine W_seq ?_
  refine W_region ?_
  refine WR_val rfl (rn_assign) ?_
  refine WR_nil ?_
  refine thenN ?_
  refine W_seq ?_
  refine W_region ?_
  refine WR_val rfl (rn_move) ?_
  refine WR_val rfl (rn_move) ?_
  refine WR_ent rfl (rn_call (by kernel_rfl) rfl) (rateIf a r .nilIface x e w hv) ?_
  rintro _ _ ⟨rfl, rfl⟩
  refine WR_val rfl (rn_move) ?_
  refine WR_val rfl (rn_extract rfl rfl) ?_
  refine WR_val rfl (rn_extract rfl rfl) ?_
  refine WR_val rfl (rn_assign) ?_
  refine WR_val rfl (rn_assign) ?_
  refine WR_nil ?_
  refine thenN ?_
  refine W_cut (fun _ : Unit => [(0, .int .i64 a), (2, .int .i64 b)]) (fun _ w' => Below w.heap.size w w') ?_ ?_
  ·
    refine W_block ?_
    refine W_cut (fun _ : Unit => [(33, .bool (decide (¬ (0 ≤ a ∧ a ≤ 1000000000000)))), (0, .int .i64 a), (1, .int .i64 r), (2, .int .i64 b), (7, .int .i64 x), (8, .int .i64 e)]) (fun _ w' => w = w') ?_ ?_
    ·
      refine W_region ?_
      refine WR_val rfl (rn_move) ?_
      refine WR_val rfl (rn_lss rfl rfl) ?_
      refine WR_val rfl (rn_move) ?_
      refine WR_part 36 rfl (fun h1 => ?_) (fun h1 => ?_)
      ·
        refine WR_no rfl rfl ?_
        refine WR_no rfl rfl ?_
        refine WR_val rfl (rn_pick_t rfl) ?_
        refine WR_val rfl (rn_assign) ?_
        refine WR_nil ?_
        refine loopN ⟨(), ⟨vb (by rw [decide_eq_true]; omega), rfl, rfl, rfl, rfl, rfl, rfl⟩, rfl⟩
      ·
        refine WR_yes rfl ?_
        refine WR_val rfl (rn_move) ?_
        refine WR_yes rfl ?_
        refine WR_val rfl (rn_gtr rfl rfl) ?_
        refine WR_val rfl (rn_pick_f rfl) ?_
        refine WR_val rfl (rn_assign) ?_
        refine WR_nil ?_
        refine loopN ⟨(), ⟨vb (by rw [decide_eq_decide]; omega), rfl, rfl, rfl, rfl, rfl, rfl⟩, rfl⟩
    ·
      rintro - f _ rfl
      refine W_if rfl (fun hbad => ?_) (fun hbad => ?_)
      ·
        refine W_seq ?_
        have hbad := of_decide_eq_true hbad
        refine W_region ?_
        refine WR_val rfl (rn_move) ?_
        refine WR_val rfl (rn_neq rfl rfl) ?_
        refine WR_val rfl (rn_move) ?_
        refine WR_fp 42 rfl ((by omega)) ?_
        refine WR_yes rfl ?_
        refine WR_val rfl (rn_move) ?_
        refine WR_yes rfl ?_
        refine WR_val rfl (rn_neq rfl rfl) ?_
        refine WR_val rfl (rn_pick_f rfl) ?_
        refine WR_nil ?_
        refine thenN ?_
        refine W_fp rfl ((by omega)) ?_
        refine W_skip ?_
        refine blockN ?_
        refine loopN ⟨(), ⟨rfl, rfl, rfl⟩, hB⟩
      ·
        have hbad := of_decide_eq_false hbad
        refine W_cut (fun _ : Unit => [(46, .bool (decide (¬ (0 ≤ r ∧ r ≤ 10000)))), (0, .int .i64 a), (1, .int .i64 r), (2, .int .i64 b), (7, .int .i64 x), (8, .int .i64 e)]) (fun _ w' => w = w') ?_ ?_
        ·
          refine W_region ?_
          refine WR_val rfl (rn_move) ?_
          refine WR_val rfl (rn_lss rfl rfl) ?_
          refine WR_val rfl (rn_move) ?_
          refine WR_part 49 rfl (fun h1 => ?_) (fun h1 => ?_)
          ·
            refine WR_no rfl rfl ?_
            refine WR_no rfl rfl ?_
            refine WR_val rfl (rn_pick_t rfl) ?_
            refine WR_val rfl (rn_assign) ?_
            refine WR_nil ?_
            refine loopN ⟨(), ⟨vb (by rw [decide_eq_true]; omega), rfl, rfl, rfl, rfl, rfl, rfl⟩, rfl⟩
          ·
            refine WR_yes rfl ?_
            refine WR_val rfl (rn_move) ?_
            refine WR_yes rfl ?_
            refine WR_val rfl (rn_gtr rfl rfl) ?_
            refine WR_val rfl (rn_pick_f rfl) ?_
            refine WR_val rfl (rn_assign) ?_
            refine WR_nil ?_
            refine loopN ⟨(), ⟨vb (by rw [decide_eq_decide]; omega), rfl, rfl, rfl, rfl, rfl, rfl⟩, rfl⟩
        ·
          rintro - f _ rfl
          refine W_if rfl (fun hbad2 => ?_) (fun hbad2 => ?_)
          ·
            refine W_seq ?_
            have hbad2 := of_decide_eq_true hbad2
            refine W_region ?_
            refine WR_val rfl (rn_move) ?_
            refine WR_val rfl (rn_neq rfl rfl) ?_
            refine WR_val rfl (rn_move) ?_
            refine WR_fp 55 rfl ((by omega)) ?_
            refine WR_yes rfl ?_
            refine WR_val rfl (rn_move) ?_
            refine WR_yes rfl ?_
            refine WR_val rfl (rn_neq rfl rfl) ?_
            refine WR_val rfl (rn_pick_f rfl) ?_
            refine WR_nil ?_
            refine thenN ?_
            refine W_fp rfl ((by omega)) ?_
            refine W_skip ?_
            refine blockN ?_
            refine loopN ⟨(), ⟨rfl, rfl, rfl⟩, hB⟩
          ·
            have hbad2 := of_decide_eq_false hbad2
            have hx2 : x = a * r / 10000 ∧ e = 0 := by
              rcases hx with h | h | h
              · exact absurd h.1 (by simpa using hbad)
              · exact absurd h.2.1 (by simpa using hbad2)
              · exact h.2.2
            have hbad' : 0 ≤ a ∧ a ≤ 1000000000000 := by simpa using hbad
            have hbad2' : 0 ≤ r ∧ r ≤ 10000 := by simpa using hbad2
            obtain ⟨rfl, rfl⟩ := hx2
            refine W_seq ?_
            refine W_region ?_
            refine WR_val rfl (rn_move) ?_
            refine WR_val rfl (rn_move) ?_
            refine WR_ent rfl (rn_call (by kernel_rfl) rfl) (part17 a r 10000 w hbad' hbad2' (by omega)) ?_
            rintro _ w23 ⟨rfl, hb23⟩
            replace hB := hB.acc hb23
            refine WR_val rfl (rn_move) ?_
            refine WR_val rfl (rn_extract rfl rfl) ?_
            refine WR_val rfl (rn_extract rfl rfl) ?_
            refine WR_val rfl (rn_assign) ?_
            refine WR_val rfl (rn_assign) ?_
            refine WR_nil ?_
            refine thenN ?_
            refine W_seq ?_
            refine W_region ?_
            refine WR_val rfl (rn_move) ?_
            refine WR_val rfl (rn_neq rfl rfl) ?_
            refine WR_val rfl (rn_move) ?_
            refine WR_fp 28 rfl ((by decide)) ?_
            refine WR_yes rfl ?_
            refine WR_val rfl (rn_move) ?_
            refine WR_yes rfl ?_
            refine WR_val rfl (rn_move) ?_
            refine WR_yes rfl ?_
            refine WR_val rfl (rn_neq rfl rfl) ?_
            refine WR_val rfl (rn_pick_f rfl) ?_
            refine WR_nil ?_
            refine thenN ?_
            refine W_fp rfl ((by simp)) ?_
            refine W_skip ?_
            refine blockN ?_
            refine loopN ⟨(), ⟨rfl, rfl, rfl⟩, hB⟩
  ·
    rintro - f wr hB
    refine W_seq ?_
    refine W_region ?_
    refine WR_val rfl (rn_move) ?_
    refine WR_val rfl (rn_move) ?_
    refine WR_ent rfl (rn_call (by kernel_rfl) rfl) (takeIf a b y z u wr hv2) ?_
    rintro _ _ ⟨rfl, rfl⟩
    refine WR_val rfl (rn_move) ?_
    refine WR_val rfl (rn_extract rfl rfl) ?_
    refine WR_val rfl (rn_extract rfl rfl) ?_
    refine WR_val rfl (rn_extract rfl rfl) ?_
    refine WR_val rfl (rn_assign) ?_
    refine WR_val rfl (rn_assign) ?_
    refine WR_val rfl (rn_assign) ?_
    refine WR_nil ?_
    refine thenN ?_
    refine W_seq ?_
    refine W_cut (fun _ : Unit => [(79, .bool (decide (¬ ((0 ≤ a ∧ a ≤ 1000000000000) ∧ 0 ≤ b ∧ b ≤ 1000000000000)))), (0, .int .i64 a), (2, .int .i64 b), (11, .int .i64 y), (12, .int .i64 z), (13, .int .i64 u)]) (fun _ w' => wr = w') ?_ ?_
    ·
      refine W_region ?_
      refine WR_val rfl (rn_move) ?_
      refine WR_val rfl (rn_lss rfl rfl) ?_
      refine WR_val rfl (rn_move) ?_
      refine WR_part 68 rfl (fun h1 => ?_) (fun h1 => ?_)
      ·
        refine WR_no rfl rfl ?_
        refine WR_no rfl rfl ?_
        refine WR_val rfl (rn_pick_t rfl) ?_
        refine WR_val rfl (rn_move) ?_
        refine WR_no rfl rfl ?_
        refine WR_no rfl rfl ?_
        refine WR_val rfl (rn_pick_t rfl) ?_
        refine WR_val rfl (rn_move) ?_
        refine WR_no rfl rfl ?_
        refine WR_no rfl rfl ?_
        refine WR_val rfl (rn_pick_t rfl) ?_
        refine WR_nil ?_
        refine loopN ⟨(), ⟨vb (by rw [decide_eq_true]; omega), rfl, rfl, rfl, rfl, rfl, rfl⟩, rfl⟩
      ·
        refine WR_yes rfl ?_
        refine WR_val rfl (rn_move) ?_
        refine WR_yes rfl ?_
        refine WR_val rfl (rn_gtr rfl rfl) ?_
        refine WR_val rfl (rn_pick_f rfl) ?_
        refine WR_val rfl (rn_move) ?_
        refine WR_part 72 rfl (fun h2 => ?_) (fun h2 => ?_)
        ·
          refine WR_no rfl rfl ?_
          refine WR_no rfl rfl ?_
          refine WR_val rfl (rn_pick_t rfl) ?_
          refine WR_val rfl (rn_move) ?_
          refine WR_no rfl rfl ?_
          refine WR_no rfl rfl ?_
          refine WR_val rfl (rn_pick_t rfl) ?_
          refine WR_nil ?_
          refine loopN ⟨(), ⟨vb (by rw [decide_eq_true]; omega), rfl, rfl, rfl, rfl, rfl, rfl⟩, rfl⟩
        ·
          refine WR_yes rfl ?_
          refine WR_val rfl (rn_move) ?_
          refine WR_yes rfl ?_
          refine WR_val rfl (rn_lss rfl rfl) ?_
          refine WR_val rfl (rn_pick_f rfl) ?_
          refine WR_val rfl (rn_move) ?_
          refine WR_part 76 rfl (fun h3 => ?_) (fun h3 => ?_)
          ·
            refine WR_no rfl rfl ?_
            refine WR_no rfl rfl ?_
            refine WR_val rfl (rn_pick_t rfl) ?_
            refine WR_nil ?_
            refine loopN ⟨(), ⟨vb (by rw [decide_eq_true]; omega), rfl, rfl, rfl, rfl, rfl, rfl⟩, rfl⟩
          ·
            refine WR_yes rfl ?_
            refine WR_val rfl (rn_move) ?_
            refine WR_yes rfl ?_
            refine WR_val rfl (rn_gtr rfl rfl) ?_
            refine WR_val rfl (rn_pick_f rfl) ?_
            refine WR_nil ?_
            refine loopN ⟨(), ⟨vb (by rw [decide_eq_decide]; omega), rfl, rfl, rfl, rfl, rfl, rfl⟩, rfl⟩
    ·
      rintro - f _ rfl
      refine W_if rfl (fun hbad => ?_) (fun hbad => ?_)
      ·
        refine W_seq ?_
        have hbad := of_decide_eq_true hbad
        have hobt : y = 0 ∧ z = 0 ∧ u = 14 := by omega
        obtain ⟨hy1, hy2, hy3⟩ := hobt
        subst hy1 hy2 hy3
        refine W_region ?_
        refine WR_val rfl (rn_move) ?_
        refine WR_val rfl (rn_eql rfl rfl) ?_
        refine WR_val rfl (rn_move) ?_
        refine WR_tp 82 rfl ((rfl)) ?_
        refine WR_yes rfl ?_
        refine WR_val rfl (rn_move) ?_
        refine WR_yes rfl ?_
        refine WR_val rfl (rn_eql rfl rfl) ?_
        refine WR_val rfl (rn_pick_t rfl) ?_
        refine WR_val rfl (rn_move) ?_
        refine WR_tp 86 rfl ((rfl)) ?_
        refine WR_yes rfl ?_
        refine WR_val rfl (rn_move) ?_
        refine WR_yes rfl ?_
        refine WR_val rfl (rn_eql rfl rfl) ?_
        refine WR_val rfl (rn_pick_t rfl) ?_
        refine WR_val rfl (rn_move) ?_
        refine WR_tp 90 rfl ((rfl)) ?_
        refine WR_yes rfl ?_
        refine WR_ent rfl (rn_call (by kernel_rfl) rfl) (known10 wr) ?_
        rintro _ w91 ⟨rfl, hb91⟩
        replace hB := hB.acc hb91
        refine WR_val rfl (rn_pick_t rfl) ?_
        refine WR_val rfl (rn_assign) ?_
        refine WR_nil ?_
        refine thenN ?_
        refine W_ret ?_
        refine thenR ?_
        refine ret_ret [_] ⟨rfl, trivial⟩ ?_
        exact ⟨rfl, hB⟩
      ·
        have hbad := of_decide_eq_false hbad
        have hgood : (0 ≤ a ∧ a ≤ 1000000000000) ∧ 0 ≤ b ∧ b ≤ 1000000000000 := by omega
        obtain ⟨hy1, hy2, hy3⟩ : y = min a b ∧ z = a - min a b ∧ u = 0 := by omega
        subst hy3
        refine W_skip ?_
        refine thenN ?_
        refine W_seq ?_
        refine W_region ?_
        refine WR_val rfl (rn_move) ?_
        refine WR_val rfl (rn_eql rfl rfl) ?_
        refine WR_val rfl (rn_move) ?_
        refine WR_tp 95 rfl ((rfl)) ?_
        refine WR_yes rfl ?_
        refine WR_val rfl (rn_move) ?_
        refine WR_yes rfl ?_
        refine WR_val rfl (rn_geq rfl rfl) ?_
        refine WR_val rfl (rn_pick_t rfl) ?_
        refine WR_val rfl (rn_move) ?_
        refine WR_tp 99 rfl ((by omega)) ?_
        refine WR_yes rfl ?_
        refine WR_val rfl (rn_move) ?_
        refine WR_yes rfl ?_
        refine WR_val rfl (rn_geq rfl rfl) ?_
        refine WR_val rfl (rn_pick_t rfl) ?_
        refine WR_val rfl (rn_move) ?_
        refine WR_tp 103 rfl ((by omega)) ?_
        refine WR_yes rfl ?_
        refine WR_val rfl (rn_move) ?_
        refine WR_yes rfl ?_
        refine WR_val rfl (rn_move) ?_
        refine WR_yes rfl ?_
        refine WR_val rfl (rn_add rfl rfl (Coup.w64 (by omega))) ?_
        refine WR_yes rfl ?_
        refine WR_val rfl (rn_move) ?_
        refine WR_yes rfl ?_
        refine WR_val rfl (rn_eql rfl rfl) ?_
        refine WR_val rfl (rn_pick_t rfl) ?_
        refine WR_val rfl (rn_move) ?_
        refine WR_tp 110 rfl ((by omega)) ?_
        refine WR_yes rfl ?_
        refine WR_val rfl (rn_move) ?_
        refine WR_yes rfl ?_
        refine WR_val rfl (rn_move) ?_
        refine WR_yes rfl ?_
        refine WR_val rfl (rn_leq rfl rfl) ?_
        refine WR_val rfl (rn_pick_t rfl) ?_
        refine WR_val rfl (rn_move) ?_
        refine WR_tp 115 rfl ((by omega)) ?_
        refine WR_yes rfl ?_
        refine WR_val rfl (rn_move) ?_
        refine WR_yes rfl ?_
        refine WR_val rfl (rn_move) ?_
        refine WR_yes rfl ?_
        refine WR_val rfl (rn_eql rfl rfl) ?_
        refine WR_yes rfl ?_
        refine WR_val rfl (rn_move) ?_
        refine WR_part 119 rfl (fun hyb => ?_) (fun hyb => ?_)
        ·
          refine WR_no rfl rfl ?_
          refine WR_no rfl rfl ?_
          refine WR_yes rfl ?_
          refine WR_val rfl (rn_pick_t rfl) ?_
          refine WR_val rfl (rn_pick_t rfl) ?_
          refine WR_val rfl (rn_move) ?_
          refine WR_yes rfl ?_
          refine WR_ent rfl (rn_call (by kernel_rfl) rfl) (known10 wr) ?_
          rintro _ w125 ⟨rfl, hb125⟩
          replace hB := hB.acc hb125
          refine WR_val rfl (rn_pick_t rfl) ?_
          refine WR_val rfl (rn_assign) ?_
          refine WR_nil ?_
          refine thenN ?_
          refine W_ret ?_
          refine ret_ret [_] ⟨rfl, trivial⟩ ?_
          exact ⟨rfl, hB⟩
        ·
          refine WR_yes rfl ?_
          refine WR_val rfl (rn_move) ?_
          refine WR_yes rfl ?_
          refine WR_val rfl (rn_eql rfl rfl) ?_
          refine WR_yes rfl ?_
          refine WR_val rfl (rn_pick_f rfl) ?_
          refine WR_val rfl (rn_pick_t rfl) ?_
          refine WR_val rfl (rn_move) ?_
          refine WR_tp 124 rfl ((by omega)) ?_
          refine WR_yes rfl ?_
          refine WR_ent rfl (rn_call (by kernel_rfl) rfl) (known10 wr) ?_
          rintro _ w125 ⟨rfl, hb125⟩
          replace hB := hB.acc hb125
          refine WR_val rfl (rn_pick_t rfl) ?_
          refine WR_val rfl (rn_assign) ?_
          refine WR_nil ?_
          refine thenN ?_
          refine W_ret ?_
          refine ret_ret [_] ⟨rfl, trivial⟩ ?_
          exact ⟨rfl, hB⟩
end Go.Proofs.Ytknjiohhlemeiaa
