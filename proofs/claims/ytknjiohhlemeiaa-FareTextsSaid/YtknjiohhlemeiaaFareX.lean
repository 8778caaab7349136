/- The law FareWhole. -/
import Derived.Test.YtknjiohhlemeiaaFareV
import Derived.Test.YtknjiohhlemeiaaFareW
namespace Go.Proofs.Ytknjiohhlemeiaa
open Go Go.RowKit Coup

theorem iv_gi {l : List Int} {i : Nat} (h : i < l.length) : (iv l)[i]? = some (.int .i64 (gi l i)) := iv_some (gi_get h)
theorem partA (a x s q r : Int) (w : World) (ha : 0 ≤ a ∧ a ≤ 1000000000000) (hw : 0 ≤ x ∧ x ≤ s) (hs : 0 < s ∧ s ≤ 1000000000000000000) (hq : a * x / s = q) (hr : a * x % s = r) :
    Calls Try.prog 17 [.int .i64 a, .int .i64 x, .int .i64 s].toArray w (Ret fun v w' => v = .tuple #[.int .i64 q, .int .i64 r] ∧ Below w.heap.size w w') := by
  have := part17 a x s w ha hw hs
  rwa [hq, hr] at this
theorem partial_sum {l : List Int} {a : Int} (h : ∀ x ∈ l, 0 ≤ x ∧ x ≤ a) (i : Nat) (hi : i ≤ l.length) : 0 ≤ sumI (l.take i) ∧ sumI (l.take i) ≤ i * a := by
  have h1 := sumI_ge (l.take i) 0 fun x hx => (h x (List.mem_of_mem_take hx)).1
  have h2 := sumI_le (l.take i) a fun x hx => (h x (List.mem_of_mem_take hx)).2
  rw [List.length_take, Nat.min_eq_left hi] at h1 h2
  exact ⟨by omega, h2⟩
set_option maxHeartbeats 1000000 in
theorem wholeC (a : Int) (p : Option Addr) (n cp : Nat) (l : List Int) (w : World) (h : SlAt w p n 1 (iv l)) (hok : okI l) (hai : -9223372036854775808 ≤ a ∧ a ≤ 9223372036854775807) :
    Calls Try.prog 4 [.int .i64 a, .slice p n cp].toArray w (Ret fun v w' => v = .bool true ∧ Below w.heap.size w w') := by
  have hB := Below.refl w.heap.size w
  have hl : l.length = n := by simpa [iv_length] using h.len
  have hmax := h.max
  have hml : maxLen = 9223372036854775807 := by decide
  have hE := dealE_cases a l
  have hmy : mayW l = true → okW l = true ∧ sumI l ≠ 0 := mayW_iff.1
  refine calls_W (fn := Try.f4) (rs := [.tmp 4]) (n := 120) Try.func4 rfl rfl Try.ntmps4 (by kernel_rfl) rfl ?_
  refine W_seq ?_
  refine W_region ?_
  refine WR_val rfl (rn_assign) ?_
  refine WR_nil ?_
  refine thenN ?_
  refine W_seq ?_
  refine W_cut (fun _ : Unit => [(28, .bool (decide (¬ (n ≤ 64 ∧ mayW l = true ∧ 0 ≤ a ∧ a ≤ 1000000000000)))), (0, .int .i64 a), (1, .slice p n cp)]) (fun _ w' => w = w') ?_ ?_
  ·
    refine W_region ?_
    refine WR_val rfl (rn_move) ?_
    refine WR_val rfl (rn_lenSl (e := 2) (sz := 1) (by kernel_rfl) rfl rfl) ?_
    refine WR_val rfl (rn_gtr rfl rfl) ?_
    refine WR_val rfl (rn_move) ?_
    refine WR_part 16 rfl (fun h1 => ?_) (fun h1 => ?_)
    ·
      refine WR_no rfl rfl ?_
      refine WR_no rfl rfl ?_
      refine WR_no rfl rfl ?_
      refine WR_val rfl (rn_pick_t rfl) ?_
      refine WR_val rfl (rn_move) ?_
      refine WR_no rfl rfl ?_
      refine WR_no rfl rfl ?_
      refine WR_val rfl (rn_pick_t rfl) ?_
      refine WR_val rfl (rn_move) ?_
      refine WR_no rfl rfl ?_
      refine WR_no rfl rfl ?_
      refine WR_val rfl (rn_pick_t rfl) ?_
      refine WR_nil ?_
      refine loopN ⟨(), ⟨vb (by rw [decide_eq_true]; omega), rfl, rfl, rfl⟩, rfl⟩
    ·
      refine WR_yes rfl ?_
      refine WR_val rfl (rn_move) ?_
      refine WR_yes rfl ?_
      refine WR_ent rfl (rn_call (by kernel_rfl) rfl) (mayW12 p n cp l w h) ?_
      rintro _ _ ⟨rfl, rfl⟩
      refine WR_yes rfl ?_
      refine WR_val rfl (rn_not rfl) ?_
      refine WR_val rfl (rn_pick_f rfl) ?_
      refine WR_val rfl (rn_move) ?_
      refine WR_partnb 21 rfl (fun h2 => ?_) (fun h2 => ?_)
      ·
        refine WR_no rfl rfl ?_
        refine WR_no rfl rfl ?_
        refine WR_val rfl (rn_pick_t rfl) ?_
        refine WR_val rfl (rn_move) ?_
        refine WR_no rfl rfl ?_
        refine WR_no rfl rfl ?_
        refine WR_val rfl (rn_pick_t rfl) ?_
        refine WR_nil ?_
        refine loopN ⟨(), ⟨vb (by rw [decide_eq_true]; intro q; simp [q.2.1] at h2), rfl, rfl, rfl⟩, rfl⟩
      ·
        refine WR_yes rfl ?_
        refine WR_val rfl (rn_move) ?_
        refine WR_yes rfl ?_
        refine WR_val rfl (rn_lss rfl rfl) ?_
        refine WR_val rfl (rn_pick_f rfl) ?_
        refine WR_val rfl (rn_move) ?_
        refine WR_part 25 rfl (fun h3 => ?_) (fun h3 => ?_)
        ·
          refine WR_no rfl rfl ?_
          refine WR_no rfl rfl ?_
          refine WR_val rfl (rn_pick_t rfl) ?_
          refine WR_nil ?_
          refine loopN ⟨(), ⟨vb (by rw [decide_eq_true]; omega), rfl, rfl, rfl⟩, rfl⟩
        ·
          refine WR_yes rfl ?_
          refine WR_val rfl (rn_move) ?_
          refine WR_yes rfl ?_
          refine WR_val rfl (rn_gtr rfl rfl) ?_
          refine WR_val rfl (rn_pick_f rfl) ?_
          refine WR_nil ?_
          refine loopN ⟨(), ⟨vb (by rw [decide_eq_decide]; have h2' : mayW l = true := (by first | exact h2 | simpa using h2); simp only [h2', true_and]; omega), rfl, rfl, rfl⟩, rfl⟩
  ·
    rintro - f _ rfl
    refine W_if rfl (fun hno => ?_) (fun hno => ?_)
    ·
      refine W_seq ?_
      refine W_region ?_
      refine WR_ent rfl (rn_call (by kernel_rfl) rfl) (known10 w) ?_
      rintro _ w29 ⟨rfl, hb29⟩
      replace hB := hB.acc hb29
      refine WR_val rfl (rn_assign) ?_
      refine WR_nil ?_
      refine thenN ?_
      refine W_ret ?_
      refine thenR ?_
      refine ret_ret [_] ⟨rfl, trivial⟩ ?_
      exact ⟨rfl, hB⟩
    ·
      have hno := of_decide_eq_false hno
      obtain ⟨hn64, hmw, ha⟩ := Decidable.not_not.1 hno
      have hw := hmy hmw
      have hE0 : dealE a l = 0 := by
        rcases hE with h1 | h1 | h1 | h1
        · omega
        · rw [hmw] at h1; exact absurd h1.2.1 (by decide)
        · exact absurd ha h1.2.2.1
        · exact h1.2.2.2
      have hwa := okW_iff.1 hw.1
      have hs0 := sumI_ge l 0 fun y hy => (hwa y hy).1
      have hs1 := sumI_le l _ fun y hy => (hwa y hy).2
      have hs : 0 < sumI l := by omega
      have hsb : sumI l ≤ 1000000000000000000 := by
        have : (l.length : Int) * 1000000000000 ≤ 64 * 1000000000000 := Int.mul_le_mul_of_nonneg_right (by omega) (by decide)
        omega
      have hwl : ∀ i, i < n → 0 ≤ gi l i ∧ gi l i ≤ sumI l := fun i hi => ⟨(hwa _ (gi_mem (by omega))).1, mem_le_sumI (fun y hy => (hwa y hy).1) _ (gi_mem (by omega))⟩
      have hDl : (dealS a l).length = n := by rw [dealS_len, hl]
      have hDb := dealS_bound (a := a) (ws := l) ha.1 hs fun x hx => (hwa x hx).1
      have hDsum := dealS_sum (a := a) hs
      have hnear := fun i hi => dealS_near (a := a) (ws := l) hs (i := i) hi
      have hord := fun i k hi hk => dealS_order (a := a) (ws := l) ha.1 hs (i := i) (k := k) hi hk
      obtain ⟨D, hD⟩ : ∃ D, dealS a l = D := ⟨_, rfl⟩
      rw [hD] at hDl hDb hDsum hnear hord
      have hDs := partial_sum hDb
      refine W_skip ?_
      refine thenN ?_
      refine W_seq ?_
      refine W_region ?_
      refine WR_val rfl (rn_move) ?_
      refine WR_val rfl (rn_move) ?_
      refine WR_ent rfl (rn_call (by kernel_rfl) rfl) (dealYes a p n cp l D w h hok hai hE0 hD) ?_
      rintro _ w33 ⟨g, rfl, hg, hr5, hb33⟩
      replace hB := hB.acc hb33
      have hD5 : SlAt w33 (some ⟨g, 0, none⟩) n 1 (iv D) := hr5.slA (m := n) (sz := 1) (by rw [iv_length]; omega) hmax
      have hBi := Below.refl (w33).heap.size w33
      refine WR_val rfl (rn_move) ?_
      refine WR_val rfl (rn_extract rfl rfl) ?_
      refine WR_val rfl (rn_extract rfl rfl) ?_
      refine WR_val rfl (rn_assign) ?_
      refine WR_val rfl (rn_assign) ?_
      refine WR_nil ?_
      refine thenN ?_
      refine W_seq ?_
      refine W_seq ?_
      refine W_region ?_
      refine WR_val rfl (rn_move) ?_
      refine WR_val rfl (rn_neq rfl rfl) ?_
      refine WR_val rfl (rn_move) ?_
      refine WR_fp 38 rfl ((by simp)) ?_
      refine WR_yes rfl ?_
      refine WR_val rfl (rn_move) ?_
      refine WR_yes rfl ?_
      refine WR_val rfl (rn_lenSl (e := 2) (sz := 1) (by kernel_rfl) rfl rfl) ?_
      refine WR_yes rfl ?_
      refine WR_val rfl (rn_move) ?_
      refine WR_yes rfl ?_
      refine WR_val rfl (rn_lenSl (e := 2) (sz := 1) (by kernel_rfl) rfl rfl) ?_
      refine WR_yes rfl ?_
      refine WR_val rfl (rn_neq rfl rfl) ?_
      refine WR_val rfl (rn_pick_f rfl) ?_
      refine WR_nil ?_
      refine thenN ?_
      refine W_fp rfl ((by simp)) ?_
      refine W_skip ?_
      refine thenN ?_
      refine W_seq ?_
      refine W_region ?_
      refine WR_val rfl (rn_move) ?_
      refine WR_ent rfl (rn_call (by kernel_rfl) rfl) (together16 p n cp l w33 (h.below hB (Nat.le_refl _)) hw.1 (by omega)) ?_
      rintro _ _ ⟨rfl, rfl⟩
      refine WR_val rfl (rn_assign) ?_
      refine WR_nil ?_
      refine thenN ?_
      refine W_seq ?_
      refine W_region ?_
      refine WR_val rfl (rn_assign) ?_
      refine WR_nil ?_
      refine thenN ?_
      refine W_seq ?_
      refine W_seq ?_
      refine W_region ?_
      refine WR_val rfl (rn_assign) ?_
      refine WR_nil ?_
      refine thenN ?_
      refine W_block ?_
      refine W_loop (α := Nat) 0 (fun i => [(9, .int .i64 (i : Nat)), (8, .int .i64 (sumI (D.take i))), (7, .int .i64 (sumI l)), (5, .slice (some ⟨g, 0, none⟩) n n), (1, .slice p n cp), (0, .int .i64 a)])
        (fun i w' => i ≤ n ∧ Below w.heap.size w w' ∧ Below w33.heap.size w33 w') (fun i => n - i) ⟨rfl, rfl, rfl, rfl, rfl, rfl, rfl⟩ ⟨Nat.zero_le _, hB, hBi⟩ ?_
      clear hB hBi
      rintro i f wr ⟨hi, hB, hBi⟩
      refine W_seq ?_
      refine W_seq ?_
      refine W_region ?_
      refine WR_val rfl (rn_move) ?_
      refine WR_val rfl (rn_move) ?_
      refine WR_val rfl (rn_lenSl (e := 2) (sz := 1) (by kernel_rfl) rfl rfl) ?_
      refine WR_val rfl (rn_lss rfl rfl) ?_
      refine WR_nil ?_
      refine thenN ?_
      refine W_ifp rfl (fun hlt => ?_) (fun hlt => ?_)
      ·
        refine W_skip ?_
        refine thenN ?_
        refine W_seq ?_
        refine W_block ?_
        refine W_seq ?_
        have hobt := h.some (by omega)
        obtain ⟨g1, o1, rfl, hg1⟩ := hobt
        have hwi := hwl i (by omega)
        have hobt : ∃ q, a * gi l i / sumI l = q := ⟨_, rfl⟩
        obtain ⟨q, hq⟩ := hobt
        have hobt : ∃ r, a * gi l i % sumI l = r := ⟨_, rfl⟩
        obtain ⟨r, hr⟩ := hobt
        have hqb : 0 ≤ q ∧ q ≤ a := by rw [← hq]; exact share_bounds (ws := l) ha.1 hs (fun x hx => ⟨(hwa x hx).1, mem_le_sumI (fun y hy => (hwa y hy).1) x hx⟩) _ (List.mem_map.2 ⟨_, gi_mem (by omega), rfl⟩)
        have hni := hnear i (by omega)
        rw [hq, hr] at hni
        refine W_region ?_
        refine WR_val rfl (rn_move) ?_
        refine WR_val rfl (rn_move) ?_
        refine WR_val rfl (rn_move) ?_
        refine WR_val rfl (rn_indexSl1 (e := 2) (by kernel_rfl) rfl rfl (i) (by omega) (by omega)) ?_
        refine WR_val rfl (rn_load rfl (Ld.sl1 (h.below hB (Nat.le_refl _)) (by kernel_rfl) (iv_gi (l := l) (i := i) (by omega)))) ?_
        refine WR_val rfl (rn_move) ?_
        refine WR_ent rfl (rn_call (by kernel_rfl) rfl) (partA a (gi l i) (sumI l) q r wr ha hwi ⟨hs, hsb⟩ hq hr) ?_
        rintro _ w60 ⟨rfl, hb60⟩
        replace hB := hB.acc hb60
        replace hBi := hBi.acc hb60
        refine WR_val rfl (rn_move) ?_
        refine WR_val rfl (rn_extract rfl rfl) ?_
        refine WR_val rfl (rn_extract rfl rfl) ?_
        refine WR_val rfl (rn_assign) ?_
        refine WR_val rfl (rn_assign) ?_
        refine WR_nil ?_
        refine thenN ?_
        refine W_seq ?_
        refine W_cut (fun _ : Unit => [(81, .bool false), (11, .int .i64 r), (10, .int .i64 q), (9, .int .i64 (i : Nat)), (8, .int .i64 (sumI (D.take i))), (7, .int .i64 (sumI l)), (5, .slice (some ⟨g, 0, none⟩) n n), (1, .slice (some ⟨g1, o1, none⟩) n cp), (0, .int .i64 a)]) (fun _ w' => w60 = w') ?_ ?_
        ·
          refine W_region ?_
          refine WR_val rfl (rn_move) ?_
          refine WR_val rfl (rn_move) ?_
          refine WR_val rfl (rn_indexSl1 (e := 2) (by kernel_rfl) rfl rfl (i) (by omega) (by omega)) ?_
          refine WR_val rfl (rn_load rfl (Ld.sl1 (hD5.below hBi (Nat.le_refl _)) (by kernel_rfl) (iv_gi (l := D) (i := i) (by omega)))) ?_
          refine WR_val rfl (rn_move) ?_
          refine WR_val rfl (rn_neq rfl rfl) ?_
          refine WR_val rfl (rn_move) ?_
          refine WR_part 69 rfl (fun hneq => ?_) (fun hneq => ?_)
          ·
            refine WR_yes rfl ?_
            refine WR_val rfl (rn_move) ?_
            refine WR_yes rfl ?_
            refine WR_val rfl (rn_move) ?_
            refine WR_yes rfl ?_
            refine WR_val rfl (rn_indexSl1 (e := 2) (by kernel_rfl) rfl rfl (i) (by omega) (by omega)) ?_
            refine WR_yes rfl ?_
            refine WR_val rfl (rn_load rfl (Ld.sl1 (hD5.below hBi (Nat.le_refl _)) (by kernel_rfl) (iv_gi (l := D) (i := i) (by omega)))) ?_
            refine WR_yes rfl ?_
            refine WR_val rfl (rn_move) ?_
            refine WR_yes rfl ?_
            refine WR_val rfl (rn_add rfl rfl (Coup.w64 (by omega))) ?_
            refine WR_yes rfl ?_
            refine WR_val rfl (rn_neq rfl rfl) ?_
            refine WR_yes rfl ?_
            refine WR_val rfl (rn_move) ?_
            refine WR_fp 77 rfl ((by omega)) ?_
            refine WR_yes rfl ?_
            refine WR_val rfl (rn_move) ?_
            refine WR_yes rfl ?_
            refine WR_val rfl (rn_eql rfl rfl) ?_
            refine WR_yes rfl ?_
            refine WR_val rfl (rn_pick_f rfl) ?_
            refine WR_val rfl (rn_pick_t rfl) ?_
            refine WR_nil ?_
            refine loopN ⟨(), ⟨vb (by rw [decide_eq_false]; omega), rfl, rfl, rfl, rfl, rfl, rfl, rfl, rfl, rfl⟩, rfl⟩
          ·
            refine WR_no rfl rfl ?_
            refine WR_no rfl rfl ?_
            refine WR_no rfl rfl ?_
            refine WR_no rfl rfl ?_
            refine WR_no rfl rfl ?_
            refine WR_no rfl rfl ?_
            refine WR_no rfl rfl ?_
            refine WR_no rfl rfl ?_
            refine WR_nou rfl ?_
            refine WR_nou rfl ?_
            refine WR_no rfl rfl ?_
            refine WR_val rfl (rn_pick_f rfl) ?_
            refine WR_nil ?_
            refine loopN ⟨(), ⟨rfl, rfl, rfl, rfl, rfl, rfl, rfl, rfl, rfl, rfl⟩, rfl⟩
        ·
          rintro - f _ rfl
          refine W_fb rfl ((by simp)) ?_
          refine W_skip ?_
          refine thenN ?_
          refine W_seq ?_
          refine W_seq ?_
          refine W_region ?_
          refine WR_val rfl (rn_assign) ?_
          refine WR_nil ?_
          refine thenN ?_
          refine W_block ?_
          refine W_loop (α := Nat) 0 (fun k => [(12, .int .i64 (k : Nat)), (9, .int .i64 (i : Nat)), (8, .int .i64 (sumI (D.take i))), (7, .int .i64 (sumI l)), (5, .slice (some ⟨g, 0, none⟩) n n), (1, .slice (some ⟨g1, o1, none⟩) n cp), (0, .int .i64 a)])
            (fun k w' => k ≤ n ∧ Below w.heap.size w w' ∧ Below w33.heap.size w33 w') (fun k => n - k) ⟨rfl, rfl, rfl, rfl, rfl, rfl, rfl, rfl⟩ ⟨Nat.zero_le _, hB, hBi⟩ ?_
          clear hB hBi
          rintro k f wk ⟨hk, hB, hBi⟩
          refine W_seq ?_
          refine W_seq ?_
          refine W_region ?_
          refine WR_val rfl (rn_move) ?_
          refine WR_val rfl (rn_move) ?_
          refine WR_val rfl (rn_lenSl (e := 2) (sz := 1) (by kernel_rfl) rfl rfl) ?_
          refine WR_val rfl (rn_lss rfl rfl) ?_
          refine WR_nil ?_
          refine thenN ?_
          refine W_ifp rfl (fun hltk => ?_) (fun hltk => ?_)
          ·
            refine W_skip ?_
            refine thenN ?_
            refine W_seq ?_
            refine W_block ?_
            refine W_seq ?_
            refine W_draw' [] (by kernel_rfl) ?_
            intro w901 hb901 hS901
            replace hB := hB.acc hb901
            replace hBi := hBi.acc hb901
            have hB_d901 := hB
            have hBi_d901 := hBi
            refine WA_take 0 (by kernel_rfl) rfl (fun _ _ => rn_move) ?_
            refine WA_take 1 (by kernel_rfl) rfl (fun _ _ => rn_move) ?_
            refine WA_take 2 (by kernel_rfl) rfl (fun _ _ => rn_indexSl1 (e := 2) (by kernel_rfl) rfl rfl (k) (by omega) (by omega)) ?_
            refine WA_take 3 (by kernel_rfl) rfl (fun w' hS' => rn_load rfl (Ld.sl1 (h.below (hB_d901.kpd hS' (by first | (simp; done) | (simp; omega))) (Nat.le_refl _)) (by kernel_rfl) (iv_gi (l := l) (i := k) (by omega)))) ?_
            refine WA_take 4 (by kernel_rfl) rfl (fun _ _ => rn_move) ?_
            refine WA_take 5 (by kernel_rfl) rfl (fun _ _ => rn_move) ?_
            refine WA_take 6 (by kernel_rfl) rfl (fun _ _ => rn_indexSl1 (e := 2) (by kernel_rfl) rfl rfl (i) (by omega) (by omega)) ?_
            refine WA_take 7 (by kernel_rfl) rfl (fun w' hS' => rn_load rfl (Ld.sl1 (h.below (hB_d901.kpd hS' (by first | (simp; done) | (simp; omega))) (Nat.le_refl _)) (by kernel_rfl) (iv_gi (l := l) (i := i) (by omega)))) ?_
            refine WA_take 8 (by kernel_rfl) rfl (fun _ _ => rn_lss rfl rfl) ?_
            refine WA_take 9 (by kernel_rfl) rfl (fun _ _ => rn_move) ?_
            refine WA_part 97 rfl (fun hlow => ?_) (fun hlow => ?_)
            ·
              refine WA_take 10 (by kernel_rfl) rfl (fun _ _ => rn_move) ?_
              refine WA_take 11 (by kernel_rfl) rfl (fun _ _ => rn_move) ?_
              refine WA_take 12 (by kernel_rfl) rfl (fun _ _ => rn_indexSl1 (e := 2) (by kernel_rfl) rfl rfl (k) (by omega) (by omega)) ?_
              refine WA_take 13 (by kernel_rfl) rfl (fun w' hS' => rn_load rfl (Ld.sl1 (hD5.below (hBi_d901.kpd hS' (by first | (simp; done) | (simp; omega))) (Nat.le_refl _)) (by kernel_rfl) (iv_gi (l := D) (i := k) (by omega)))) ?_
              refine WA_take 14 (by kernel_rfl) rfl (fun _ _ => rn_move) ?_
              refine WA_take 15 (by kernel_rfl) rfl (fun _ _ => rn_move) ?_
              refine WA_take 16 (by kernel_rfl) rfl (fun _ _ => rn_indexSl1 (e := 2) (by kernel_rfl) rfl rfl (i) (by omega) (by omega)) ?_
              refine WA_take 17 (by kernel_rfl) rfl (fun w' hS' => rn_load rfl (Ld.sl1 (hD5.below (hBi_d901.kpd hS' (by first | (simp; done) | (simp; omega))) (Nat.le_refl _)) (by kernel_rfl) (iv_gi (l := D) (i := i) (by omega)))) ?_
              refine WA_take 18 (by kernel_rfl) rfl (fun _ _ => rn_gtr rfl rfl) ?_
              refine WA_take 19 (by kernel_rfl) rfl (fun _ _ => rn_pick_t rfl) ?_
              refine WA_done (by kernel_rfl) ?_
              refine thenN ?_
              refine W_fp rfl ((by have := hord i k (by omega) (by omega) hlow; omega)) ?_
              refine W_skip ?_
              refine blockN ?_
              refine thenN ?_
              refine W_region ?_
              refine WR_val rfl (rn_move) ?_
              refine WR_val rfl (rn_add rfl rfl (Coup.w64 (by omega))) ?_
              refine WR_val rfl (rn_assign) ?_
              refine WR_nil ?_
              refine loopN ⟨k + 1, by omega, ⟨rfl, rfl, rfl, rfl, rfl, rfl, rfl, rfl⟩, by omega, hB, hBi⟩
            ·
              refine WA_skip 10 (by kernel_rfl) rfl ?_
              refine WA_skip 11 (by kernel_rfl) rfl ?_
              refine WA_skip 12 (by kernel_rfl) rfl ?_
              refine WA_skip 13 (by kernel_rfl) rfl ?_
              refine WA_skip 14 (by kernel_rfl) rfl ?_
              refine WA_skip 15 (by kernel_rfl) rfl ?_
              refine WA_skip 16 (by kernel_rfl) rfl ?_
              refine WA_skip 17 (by kernel_rfl) rfl ?_
              refine WA_skip 18 (by kernel_rfl) rfl ?_
              refine WA_take 19 (by kernel_rfl) rfl (fun _ _ => rn_pick_f rfl) ?_
              refine WA_done (by kernel_rfl) ?_
              refine thenN ?_
              refine W_fb rfl ((by simp)) ?_
              refine W_skip ?_
              refine blockN ?_
              refine thenN ?_
              refine W_region ?_
              refine WR_val rfl (rn_move) ?_
              refine WR_val rfl (rn_add rfl rfl (Coup.w64 (by omega))) ?_
              refine WR_val rfl (rn_assign) ?_
              refine WR_nil ?_
              refine loopN ⟨k + 1, by omega, ⟨rfl, rfl, rfl, rfl, rfl, rfl, rfl, rfl⟩, by omega, hB, hBi⟩
          ·
            have hsi := hDs i (by omega)
            have hsi2 : (i : Int) * (a + 1) ≤ 64 * 1000000000001 := Int.le_trans (Int.mul_le_mul_of_nonneg_left (by omega) (by omega)) (Int.mul_le_mul_of_nonneg_right (by omega) (by decide))
            have hdi := hDb _ (gi_mem (l := D) (i := i) (by omega))
            have htk := take_snoc (gi_get (l := D) (i := i) (by omega))
            refine W_exit ?_
            refine thenX ?_
            refine loopX ?_
            refine blockX ?_
            refine thenN ?_
            refine W_region ?_
            refine WR_val rfl (rn_move) ?_
            refine WR_val rfl (rn_move) ?_
            refine WR_val rfl (rn_move) ?_
            refine WR_val rfl (rn_indexSl1 (e := 2) (by kernel_rfl) rfl rfl (i) (by omega) (by omega)) ?_
            refine WR_val rfl (rn_load rfl (Ld.sl1 (hD5.below hBi (Nat.le_refl _)) (by kernel_rfl) (iv_gi (l := D) (i := i) (by omega)))) ?_
            refine WR_val rfl (rn_add rfl rfl (Coup.w64 (by omega))) ?_
            refine WR_val rfl (rn_assign) ?_
            refine WR_nil ?_
            refine blockN ?_
            refine thenN ?_
            refine W_region ?_
            refine WR_val rfl (rn_move) ?_
            refine WR_val rfl (rn_add rfl rfl (Coup.w64 (by omega))) ?_
            refine WR_val rfl (rn_assign) ?_
            refine WR_nil ?_
            refine loopN ⟨i + 1, by omega, ⟨rfl, vi (by rw [htk, sumI_snoc]), rfl, rfl, rfl, rfl, rfl⟩, by omega, hB, hBi⟩
      ·
        obtain rfl : i = n := by omega
        rw [List.take_of_length_le (by omega), hDsum]
        refine W_exit ?_
        refine thenX ?_
        refine loopX ?_
        refine blockX ?_
        refine thenN ?_
        refine W_seq ?_
        refine W_region ?_
        refine WR_val rfl (rn_move) ?_
        refine WR_val rfl (rn_move) ?_
        refine WR_val rfl (rn_eql rfl rfl) ?_
        refine WR_val rfl (rn_move) ?_
        refine WR_tp 117 rfl ((rfl)) ?_
        refine WR_yes rfl ?_
        refine WR_ent rfl (rn_call (by kernel_rfl) rfl) (known10 wr) ?_
        rintro _ w118 ⟨rfl, hb118⟩
        replace hB := hB.acc hb118
        replace hBi := hBi.acc hb118
        refine WR_val rfl (rn_pick_t rfl) ?_
        refine WR_val rfl (rn_assign) ?_
        refine WR_nil ?_
        refine thenN ?_
        refine W_ret ?_
        refine ret_ret [_] ⟨rfl, trivial⟩ ?_
        exact ⟨rfl, hB⟩
end Go.Proofs.Ytknjiohhlemeiaa
