/- The law FareDeals. -/
import Derived.Test.YtknjiohhlemeiaaFareR
namespace Go.Proofs.Ytknjiohhlemeiaa
open Go Go.RowKit Coup

theorem someW_sum : ∀ {l : List Int}, okW l = true → (someW l = true ↔ sumI l ≠ 0)
  | [], _ => by simp [someW, sumI]
  | x :: l, h => by
    have h0 := okW_iff.1 h
    have hx := h0 x (by simp)
    have hl : okW l = true := okW_iff.2 fun y hy => h0 y (by simp [hy])
    have ih := someW_sum hl
    have hs := sumI_ge l 0 fun y hy => (okW_iff.1 hl y hy).1
    have e : someW (x :: l) = (decide (0 < x) || someW l) := rfl
    rw [e, Bool.or_eq_true, decide_eq_true_iff, ih]
    simp only [sumI]
    omega
theorem mayW_iff {l : List Int} : mayW l = true ↔ okW l = true ∧ sumI l ≠ 0 := by
  unfold mayW
  rw [Bool.and_eq_true]
  constructor
  · rintro ⟨h1, h2⟩; exact ⟨h1, (someW_sum h1).1 h2⟩
  · rintro ⟨h1, h2⟩; exact ⟨h1, (someW_sum h1).2 h2⟩
theorem dealE_cases (a : Int) (ws : List Int) : (64 < ws.length ∧ dealE a ws = 3) ∨ (ws.length ≤ 64 ∧ mayW ws = false ∧ dealE a ws = 2) ∨ (ws.length ≤ 64 ∧ mayW ws = true ∧ ¬ (0 ≤ a ∧ a ≤ 1000000000000) ∧ dealE a ws = 14) ∨ (ws.length ≤ 64 ∧ mayW ws = true ∧ (0 ≤ a ∧ a ≤ 1000000000000) ∧ dealE a ws = 0) := by
  unfold dealE
  by_cases h1 : 64 < ws.length
  · exact .inl ⟨h1, if_pos h1⟩
  · rw [if_neg h1]
    by_cases h2 : mayW ws = true
    · rw [if_pos (mayW_iff.1 h2)]
      by_cases h3 : someM a = true
      · exact .inr (.inr (.inr ⟨by omega, h2, someM_iff.1 h3, if_pos h3⟩))
      · exact .inr (.inr (.inl ⟨by omega, h2, fun q => h3 (someM_iff.2 q), if_neg h3⟩))
    · rw [if_neg fun q => h2 (mayW_iff.2 q)]
      exact .inr (.inl ⟨by omega, by simpa using h2, rfl⟩)
theorem dealAny (a : Int) (p : Option Addr) (n c : Nat) (ws : List Int) (w : World) (h : SlAt w p n 1 (iv ws)) (hok : okI ws) (hai : -9223372036854775808 ≤ a ∧ a ≤ 9223372036854775807) :
    Calls Try.prog 11 [.int .i64 a, .slice p n c].toArray w (Ret fun v w' => ∃ p' n', v = .tuple #[.slice p' n' n', .int .i64 (dealE a ws)] ∧ (dealE a ws ≠ 0 → n' = 0) ∧ (dealE a ws = 0 → n' = n ∧ SlAt w' p' n' 1 (iv (dealS a ws))) ∧ Below w.heap.size w w') :=
  (deal11 a p n c ws w h hok hai).to fun v w' ⟨hb, hv⟩ => by
    rcases hv with ⟨h1, h2⟩ | ⟨h1, g, h2, h3, h4⟩
    · exact ⟨none, 0, h2, fun _ => rfl, fun q => absurd q h1, hb⟩
    · have hl : ws.length = n := by simpa [iv_length] using h.len
      have hm := h.max
      exact ⟨some ⟨g, 0, none⟩, n, by rw [h1]; exact h2, fun q => absurd h1 q, fun _ => ⟨rfl, h4.slA (m := n) (sz := 1) (by rw [iv_length, dealS, bumps_len, sharesOf_len]; omega) hm⟩, hb⟩
set_option maxHeartbeats 1000000 in
theorem dealsC (a : Int) (p : Option Addr) (n cp : Nat) (l : List Int) (w : World) (h : SlAt w p n 1 (iv l)) (hok : okI l) (hai : -9223372036854775808 ≤ a ∧ a ≤ 9223372036854775807) :
    Calls Try.prog 3 [.int .i64 a, .slice p n cp].toArray w (Ret fun v w' => v = .bool true ∧ Below w.heap.size w w') := by
  have hB := Below.refl w.heap.size w
  have hl : l.length = n := by simpa [iv_length] using h.len
  have hmax := h.max
  have hml : maxLen = 9223372036854775807 := by decide
  have hE := dealE_cases a l
  have hmy : mayW l = true → okW l = true ∧ sumI l ≠ 0 := mayW_iff.1
  obtain ⟨E, hEe⟩ : ∃ E, E = dealE a l := ⟨_, rfl⟩
  refine calls_W (fn := Try.f3) (rs := [.tmp 4]) (n := 59) Try.func3 rfl rfl Try.ntmps3 (by kernel_rfl) rfl ?_
  refine W_seq ?_
  refine W_region ?_
  refine WR_val rfl (rn_assign) ?_
  refine WR_nil ?_
  refine thenN ?_
  refine W_seq ?_
  refine W_seq ?_
  refine W_region ?_
  refine WR_val rfl (rn_move) ?_
  refine WR_val rfl (rn_lenSl (e := 2) (sz := 1) (by kernel_rfl) rfl rfl) ?_
  refine WR_val rfl (rn_gtr rfl rfl) ?_
  refine WR_nil ?_
  refine thenN ?_
  refine W_ifp rfl (fun hbig => ?_) (fun hbig => ?_)
  ·
    refine W_seq ?_
    refine W_region ?_
    refine WR_ent rfl (rn_call (by kernel_rfl) rfl) (known10 w) ?_
    rintro _ w11 ⟨rfl, hb11⟩
    replace hB := hB.acc hb11
    refine WR_val rfl (rn_assign) ?_
    refine WR_nil ?_
    refine thenN ?_
    refine W_ret ?_
    refine thenR ?_
    refine ret_ret [_] ⟨rfl, trivial⟩ ?_
    exact ⟨rfl, hB⟩
  ·
    refine W_skip ?_
    refine thenN ?_
    refine W_seq ?_
    refine W_region ?_
    refine WR_val rfl (rn_move) ?_
    refine WR_val rfl (rn_move) ?_
    refine WR_ent rfl (rn_call (by kernel_rfl) rfl) (dealAny a p n cp l w h hok hai) ?_
    rintro _ w15 ⟨p5, n5, rfl, h5a, h5b, hb15⟩
    replace hB := hB.acc hb15
    refine WR_val rfl (rn_move) ?_
    refine WR_val rfl (rn_extract rfl rfl) ?_
    refine WR_val rfl (rn_extract rfl rfl) ?_
    refine WR_val rfl (rn_assign) ?_
    refine WR_val rfl (rn_assign) ?_
    refine WR_nil ?_
    refine thenN ?_
    refine W_seq ?_
    refine W_region ?_
    refine WR_val rfl (rn_assign) ?_
    refine WR_nil ?_
    refine thenN ?_
    refine W_cut (fun _ : Unit => [(7, .int .i64 E), (0, .int .i64 a), (1, .slice p n cp), (5, .slice p5 n5 n5), (6, .int .i64 (dealE a l))]) (fun _ w' => w15 = w') ?_ ?_
    ·
      refine W_block ?_
      refine W_seq ?_
      refine W_region ?_
      refine WR_val rfl (rn_move) ?_
      refine WR_val rfl (rn_lenSl (e := 2) (sz := 1) (by kernel_rfl) rfl rfl) ?_
      refine WR_val rfl (rn_gtr rfl rfl) ?_
      refine WR_val rfl (rn_assign) ?_
      refine WR_nil ?_
      refine thenN ?_
      refine W_ifp rfl (fun h64 => ?_) (fun h64 => ?_)
      ·
        refine W_region ?_
        refine WR_val rfl (rn_assign) ?_
        refine WR_nil ?_
        refine blockN ?_
        refine loopN ⟨(), ⟨vi (by omega), rfl, rfl, rfl, rfl, rfl⟩, rfl⟩
      ·
        have e2 : mayW l = false → (2 : Int) = E := fun q => by
          rcases hE with h1 | h1 | h1 | h1
          · omega
          · omega
          · rw [q] at h1; exact absurd h1.2.1 (by decide)
          · rw [q] at h1; exact absurd h1.2.1 (by decide)
        have e14 : mayW l = true → ¬ (0 ≤ a ∧ a ≤ 1000000000000) → (14 : Int) = E := fun q q2 => by
          rcases hE with h1 | h1 | h1 | h1
          · omega
          · rw [q] at h1; exact absurd h1.2.1 (by decide)
          · omega
          · omega
        have e0 : mayW l = true → ¬ ¬ (0 ≤ a ∧ a ≤ 1000000000000) → (0 : Int) = E := fun q q2 => by
          rcases hE with h1 | h1 | h1 | h1
          · omega
          · rw [q] at h1; exact absurd h1.2.1 (by decide)
          · omega
          · omega
        refine W_seq ?_
        refine W_region ?_
        refine WR_val rfl (rn_move) ?_
        refine WR_ent rfl (rn_call (by kernel_rfl) rfl) (mayW12 p n cp l w15 (h.below hB (Nat.le_refl _))) ?_
        rintro _ _ ⟨rfl, rfl⟩
        refine WR_val rfl (rn_not rfl) ?_
        refine WR_val rfl (rn_assign) ?_
        refine WR_nil ?_
        refine thenN ?_
        refine W_ifnb rfl (fun hmw => ?_) (fun hmw => ?_)
        ·
          refine W_region ?_
          refine WR_val rfl (rn_assign) ?_
          refine WR_nil ?_
          refine blockN ?_
          refine loopN ⟨(), ⟨vi (e2 (by first | exact hmw | simpa using hmw)), rfl, rfl, rfl, rfl, rfl⟩, rfl⟩
        ·
          refine W_cut (fun _ : Unit => [(26, .bool (decide (¬ (0 ≤ a ∧ a ≤ 1000000000000)))), (0, .int .i64 a), (1, .slice p n cp), (5, .slice p5 n5 n5), (6, .int .i64 (dealE a l)), (7, .int .i64 0)]) (fun _ w' => w15 = w') ?_ ?_
          ·
            refine W_region ?_
            refine WR_val rfl (rn_move) ?_
            refine WR_val rfl (rn_lss rfl rfl) ?_
            refine WR_val rfl (rn_move) ?_
            refine WR_part 29 rfl (fun h1 => ?_) (fun h1 => ?_)
            ·
              refine WR_no rfl rfl ?_
              refine WR_no rfl rfl ?_
              refine WR_no rfl rfl ?_
              refine WR_val rfl (rn_pick_t rfl) ?_
              refine WR_val rfl (rn_assign) ?_
              refine WR_nil ?_
              refine loopN ⟨(), ⟨vb (by rw [decide_eq_true]; omega), rfl, rfl, rfl, rfl, rfl, rfl⟩, rfl⟩
            ·
              refine WR_yes rfl ?_
              refine WR_val rfl (rn_move) ?_
              refine WR_yes rfl ?_
              refine WR_ent rfl (rn_call (by kernel_rfl) rfl) (may13 a w15) ?_
              rintro _ _ ⟨rfl, rfl⟩
              refine WR_yes rfl ?_
              refine WR_val rfl (rn_not rfl) ?_
              refine WR_val rfl (rn_pick_f rfl) ?_
              refine WR_val rfl (rn_assign) ?_
              refine WR_nil ?_
              refine loopN ⟨(), ⟨vb (by rw [mayM, ← Bool.decide_and, ← decide_not, decide_eq_decide]; omega), rfl, rfl, rfl, rfl, rfl, rfl⟩, rfl⟩
          ·
            rintro - f _ rfl
            refine W_if rfl (fun hbad => ?_) (fun hbad => ?_)
            ·
              refine W_region ?_
              refine WR_val rfl (rn_assign) ?_
              refine WR_nil ?_
              refine blockN ?_
              refine loopN ⟨(), ⟨vi (e14 (by first | exact hmw | simpa using hmw) (of_decide_eq_true hbad)), rfl, rfl, rfl, rfl, rfl⟩, rfl⟩
            ·
              refine W_skip ?_
              refine blockN ?_
              refine loopN ⟨(), ⟨vi (e0 (by first | exact hmw | simpa using hmw) (of_decide_eq_false hbad)), rfl, rfl, rfl, rfl, rfl⟩, rfl⟩
    ·
      rintro - f _ rfl
      refine W_seq ?_
      refine W_seq ?_
      refine W_region ?_
      refine WR_val rfl (rn_move) ?_
      refine WR_val rfl (rn_neq rfl rfl) ?_
      refine WR_nil ?_
      refine thenN ?_
      refine W_ifp rfl (fun hz => ?_) (fun hz => ?_)
      ·
        refine W_seq ?_
        have hz2 : dealE a l ≠ 0 := by rw [← hEe]; exact hz
        obtain rfl := h5a hz2
        refine W_region ?_
        refine WR_val rfl (rn_move) ?_
        refine WR_val rfl (rn_move) ?_
        refine WR_val rfl (rn_eql rfl rfl) ?_
        refine WR_val rfl (rn_move) ?_
        refine WR_tp 39 rfl ((hEe.symm)) ?_
        refine WR_yes rfl ?_
        refine WR_val rfl (rn_move) ?_
        refine WR_yes rfl ?_
        refine WR_val rfl (rn_lenSl (e := 2) (sz := 1) (by kernel_rfl) rfl rfl) ?_
        refine WR_yes rfl ?_
        refine WR_val rfl (rn_eql rfl rfl) ?_
        refine WR_val rfl (rn_pick_t rfl) ?_
        refine WR_val rfl (rn_move) ?_
        refine WR_tp 44 rfl ((rfl)) ?_
        refine WR_yes rfl ?_
        refine WR_ent rfl (rn_call (by kernel_rfl) rfl) (known10 w15) ?_
        rintro _ w45 ⟨rfl, hb45⟩
        replace hB := hB.acc hb45
        refine WR_val rfl (rn_pick_t rfl) ?_
        refine WR_val rfl (rn_assign) ?_
        refine WR_nil ?_
        refine thenN ?_
        refine W_ret ?_
        refine thenR ?_
        refine ret_ret [_] ⟨rfl, trivial⟩ ?_
        exact ⟨rfl, hB⟩
      ·
        have hz2 : dealE a l = 0 := by omega
        obtain ⟨hn5, h5⟩ := h5b hz2
        subst hn5
        have hok2 : okW l = true ∧ sumI l ≠ 0 := by
          rcases hE with h1 | h1 | h1 | h1
          · omega
          · omega
          · omega
          · exact hmy h1.2.1
        have ha0 : 0 ≤ a ∧ a ≤ 1000000000000 := by omega
        have hs0 := sumI_ge l 0 fun y hy => (okW_iff.1 hok2.1 y hy).1
        have hBi := Below.refl w15.heap.size w15
        refine W_skip ?_
        refine thenN ?_
        refine W_seq ?_
        refine W_region ?_
        refine WR_val rfl (rn_move) ?_
        refine WR_val rfl (rn_eql rfl rfl) ?_
        refine WR_val rfl (rn_move) ?_
        refine WR_tp 49 rfl ((hz2)) ?_
        refine WR_yes rfl ?_
        refine WR_val rfl (rn_move) ?_
        refine WR_yes rfl ?_
        refine WR_val rfl (rn_move) ?_
        refine WR_yes rfl ?_
        refine WR_val rfl (rn_move) ?_
        refine WR_yes rfl ?_
        refine WR_ent rfl (rn_call (by kernel_rfl) rfl) (deal15 a p n5 cp l w15 (h.below hB (Nat.le_refl _)) (by omega) hok2.1 (by omega) ha0) ?_
        rintro _ w53 ⟨hb53, g, o, c', rfl, hD⟩
        replace hB := hB.acc hb53
        replace hBi := hBi.acc hb53
        refine WR_yes rfl ?_
        refine WR_ent rfl (rn_call (by kernel_rfl) rfl) (same14 p5 n5 n5 (dealS a l) (some ⟨g, o, none⟩) n5 c' (dealS a l) w53 (h5.below hBi (Nat.le_refl _)) hD) ?_
        rintro _ w54 ⟨rfl, hb54⟩
        replace hB := hB.acc hb54
        replace hBi := hBi.acc hb54
        refine WR_val rfl (rn_pick_t rfl) ?_
        refine WR_val rfl (rn_move) ?_
        refine WR_tb 56 rfl ((by simp)) ?_
        refine WR_yes rfl ?_
        refine WR_ent rfl (rn_call (by kernel_rfl) rfl) (known10 w54) ?_
        rintro _ w57 ⟨rfl, hb57⟩
        replace hB := hB.acc hb57
        replace hBi := hBi.acc hb57
        refine WR_val rfl (rn_pick_t rfl) ?_
        refine WR_val rfl (rn_assign) ?_
        refine WR_nil ?_
        refine thenN ?_
        refine W_ret ?_
        refine ret_ret [_] ⟨rfl, trivial⟩ ?_
        exact ⟨rfl, hB⟩
end Go.Proofs.Ytknjiohhlemeiaa
