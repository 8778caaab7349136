/- Sums: the laws FareSums and FareMany. -/
import Derived.Test.YtknjiohhlemeiaaFareR
namespace Go.Proofs.Ytknjiohhlemeiaa
open Go Go.RowKit Coup

theorem allM_snocB (l : List Int) (x : Int) : allM (l ++ [x]) = (allM l && mayM x) := by simp [allM]
set_option maxHeartbeats 1000000 in
theorem sumsC (p : Option Addr) (n cp : Nat) (l : List Int) (w : World) (h : SlAt w p n 1 (iv l)) (hok : okI l) :
    Calls Try.prog 8 [.slice p n cp].toArray w (Ret fun v w' => v = .bool true ∧ Below w.heap.size w w') := by
  have hB := Below.refl w.heap.size w
  have hl : l.length = n := by simpa [iv_length] using h.len
  have hmax := h.max
  have hml : maxLen = 9223372036854775807 := by decide
  refine calls_W (fn := Try.f8) (rs := [.tmp 2]) (n := 89) Try.func8 rfl rfl Try.ntmps8 (by kernel_rfl) rfl ?_
  refine W_seq ?_
  refine W_region ?_
  refine WR_val rfl (rn_assign) ?_
  refine WR_nil ?_
  refine thenN ?_
  refine W_seq ?_
  refine W_seq ?_
  refine W_region ?_
  refine WR_val rfl (rn_move) ?_
  refine WR_val rfl (rn_lenSl (e := 2) (sz := 1) (by kernel_rfl) rfl rfl) ?_
  refine WR_val rfl (rn_gtr rfl rfl) ?_
  refine WR_nil ?_
  refine thenN ?_
  refine W_ifp rfl (fun hbig => ?_) (fun hbig => ?_)
  ·
    refine W_seq ?_
    refine W_region ?_
    refine WR_ent rfl (rn_call (by kernel_rfl) rfl) (known10 w) ?_
    rintro _ w11 ⟨rfl, hb11⟩
    replace hB := hB.acc hb11
    refine WR_val rfl (rn_assign) ?_
    refine WR_nil ?_
    refine thenN ?_
    refine W_ret ?_
    refine thenR ?_
    refine ret_ret [_] ⟨rfl, trivial⟩ ?_
    exact ⟨rfl, hB⟩
  ·
    refine W_skip ?_
    refine thenN ?_
    refine W_seq ?_
    refine W_region ?_
    refine WR_val rfl (rn_move) ?_
    refine WR_ent rfl (rn_call (by kernel_rfl) rfl) (sum24 p n cp l w h) ?_
    rintro _ _ ⟨rfl, rfl⟩
    refine WR_val rfl (rn_move) ?_
    refine WR_val rfl (rn_extract rfl rfl) ?_
    refine WR_val rfl (rn_extract rfl rfl) ?_
    refine WR_val rfl (rn_assign) ?_
    refine WR_val rfl (rn_assign) ?_
    refine WR_nil ?_
    refine thenN ?_
    refine W_seq ?_
    refine W_region ?_
    refine WR_val rfl (rn_assign) ?_
    refine WR_val rfl (rn_assign) ?_
    refine WR_nil ?_
    refine thenN ?_
    refine W_seq ?_
    refine W_seq ?_
    refine W_region ?_
    refine WR_val rfl (rn_assign) ?_
    refine WR_nil ?_
    refine thenN ?_
    refine W_block ?_
    refine W_loop (α := Nat × Int) (0, 0) (fun k => [(7, .int .i64 (k.1 : Nat)), (6, .bool (allM (l.take k.1))), (5, .int .i64 k.2), (4, .int .i64 (sumV l).2), (3, .int .i64 (sumV l).1), (0, .slice p n cp)])
      (fun k w' => k.1 ≤ n ∧ (allM (l.take k.1) = true → k.2 = sumI (l.take k.1)) ∧ -((k.1 : Int) * 1000000000000) ≤ k.2 ∧ k.2 ≤ (k.1 : Int) * 1000000000000 ∧ Below w.heap.size w w') (fun k => n - k.1)
      ⟨rfl, rfl, rfl, rfl, rfl, rfl, rfl⟩ ⟨Nat.zero_le _, fun _ => rfl, by simp, by simp, hB⟩ ?_
    rintro ⟨i, S⟩ f wr ⟨hi, hS, hS1, hS2, hB⟩
    simp only at hi hS hS1 hS2
    dsimp only
    refine W_seq ?_
    refine W_seq ?_
    refine W_region ?_
    refine WR_val rfl (rn_move) ?_
    refine WR_val rfl (rn_move) ?_
    refine WR_val rfl (rn_lenSl (e := 2) (sz := 1) (by kernel_rfl) rfl rfl) ?_
    refine WR_val rfl (rn_lss rfl rfl) ?_
    refine WR_nil ?_
    refine thenN ?_
    refine W_ifp rfl (fun hlt => ?_) (fun hlt => ?_)
    ·
      refine W_skip ?_
      refine thenN ?_
      refine W_seq ?_
      refine W_block ?_
      refine W_cut (fun _ : Unit => [(6, .bool (allM (l.take (i + 1)))), (7, .int .i64 (i : Nat)), (5, .int .i64 S), (4, .int .i64 (sumV l).2), (3, .int .i64 (sumV l).1), (0, .slice p n cp)]) (fun _ w' => wr = w') ?_ ?_
      ·
        have hobt := slAt_getI h (i := i) (by omega)
        obtain ⟨x, hx⟩ := hobt
        have hobt := h.some (by omega)
        obtain ⟨g, o, rfl, hg⟩ := hobt
        refine W_region ?_
        refine WR_val rfl (rn_move) ?_
        refine WR_val rfl (rn_move) ?_
        refine WR_partb 24 rfl (fun hm => ?_) (fun hm => ?_)
        ·
          refine WR_yes rfl ?_
          refine WR_val rfl (rn_move) ?_
          refine WR_yes rfl ?_
          refine WR_val rfl (rn_move) ?_
          refine WR_yes rfl ?_
          refine WR_val rfl (rn_indexSl1 (e := 2) (by kernel_rfl) rfl rfl (i) (by omega) (by omega)) ?_
          refine WR_yes rfl ?_
          refine WR_val rfl (rn_load rfl (Ld.sl1 (h.below hB (Nat.le_refl _)) (by kernel_rfl) (iv_some hx))) ?_
          refine WR_yes rfl ?_
          refine WR_ent rfl (rn_call (by kernel_rfl) rfl) (may13 x wr) ?_
          rintro _ _ ⟨rfl, rfl⟩
          refine WR_val rfl (rn_pick_t rfl) ?_
          refine WR_val rfl (rn_assign) ?_
          refine WR_nil ?_
          refine loopN ⟨(), ⟨vb (by rw [take_snoc hx, allM_snocB, hm]; rfl), rfl, rfl, rfl, rfl, rfl, rfl⟩, rfl⟩
        ·
          refine WR_no rfl rfl ?_
          refine WR_no rfl rfl ?_
          refine WR_no rfl rfl ?_
          refine WR_no rfl rfl ?_
          refine WR_no rfl rfl ?_
          refine WR_val rfl (rn_pick_f rfl) ?_
          refine WR_val rfl (rn_assign) ?_
          refine WR_nil ?_
          refine loopN ⟨(), ⟨vb (by rw [take_snoc hx, allM_snocB, hm]; rfl), rfl, rfl, rfl, rfl, rfl, rfl⟩, rfl⟩
      ·
        rintro - f2 _ rfl
        have hobt := slAt_getI h (i := i) (by omega)
        obtain ⟨x, hx⟩ := hobt
        have hobt := h.some (by omega)
        obtain ⟨g, o, rfl, hg⟩ := hobt
        have hb := hok.at_ hx
        have htk := take_snoc hx
        refine W_seq ?_
        refine W_seq ?_
        refine W_region ?_
        refine WR_val rfl (rn_move) ?_
        refine WR_nil ?_
        refine thenN ?_
        refine W_if rfl (fun hm => ?_) (fun hm => ?_)
        ·
          have hm2 : (allM (l.take i) && mayM x) = true := by rw [← allM_snocB, ← htk]; exact hm
          simp only [Bool.and_eq_true] at hm2
          have hxb := mayM_iff.1 hm2.2
          refine W_region ?_
          refine WR_val rfl (rn_move) ?_
          refine WR_val rfl (rn_move) ?_
          refine WR_val rfl (rn_move) ?_
          refine WR_val rfl (rn_indexSl1 (e := 2) (by kernel_rfl) rfl rfl (i) (by omega) (by omega)) ?_
          refine WR_val rfl (rn_load rfl (Ld.sl1 (h.below hB (Nat.le_refl _)) (by kernel_rfl) (iv_some hx))) ?_
          refine WR_val rfl (rn_add rfl rfl (Coup.w64 (by omega))) ?_
          refine WR_val rfl (rn_assign) ?_
          refine WR_nil ?_
          refine thenN ?_
          refine W_seq ?_
          refine W_draw' [] (by kernel_rfl) ?_
          intro w901 hb901 hS901
          replace hB := hB.acc hb901
          have hB_d901 := hB
          refine WA_take 0 (by kernel_rfl) rfl (fun _ _ => rn_move) ?_
          refine WA_take 1 (by kernel_rfl) rfl (fun _ _ => rn_move) ?_
          refine WA_take 2 (by kernel_rfl) rfl (fun _ _ => rn_indexSl1 (e := 2) (by kernel_rfl) rfl rfl (i) (by omega) (by omega)) ?_
          refine WA_take 3 (by kernel_rfl) rfl (fun w' hS' => rn_load rfl (Ld.sl1 (h.below (hB_d901.kpd hS' (by first | (simp; done) | (simp; omega))) (Nat.le_refl _)) (by kernel_rfl) (iv_some hx))) ?_
          refine WA_call 4 (by kernel_rfl) rfl (fun _ => rn_call (by kernel_rfl) rfl) (fun w' hS' => may25 x w') ?_
          refine WA_take 5 (by kernel_rfl) rfl (fun _ _ => rn_move) ?_
          refine WA_take 6 (by kernel_rfl) rfl (fun _ _ => rn_move) ?_
          refine WA_take 7 (by kernel_rfl) rfl (fun _ _ => rn_indexSl1 (e := 2) (by kernel_rfl) rfl rfl (i) (by omega) (by omega)) ?_
          refine WA_take 8 (by kernel_rfl) rfl (fun w' hS' => rn_load rfl (Ld.sl1 (h.below (hB_d901.kpd hS' (by first | (simp; done) | (simp; omega))) (Nat.le_refl _)) (by kernel_rfl) (iv_some hx))) ?_
          refine WA_call 9 (by kernel_rfl) rfl (fun _ => rn_call (by kernel_rfl) rfl) (fun w' hS' => may13 x w') ?_
          refine WA_take 10 (by kernel_rfl) rfl (fun _ _ => rn_neqb (by kernel_rfl) rfl rfl) ?_
          refine WA_done (by kernel_rfl) ?_
          refine thenN ?_
          refine W_fn rfl ((by simp)) ?_
          refine W_skip ?_
          refine blockN ?_
          refine thenN ?_
          refine W_region ?_
          refine WR_val rfl (rn_move) ?_
          refine WR_val rfl (rn_add rfl rfl (Coup.w64 (by omega))) ?_
          refine WR_val rfl (rn_assign) ?_
          refine WR_nil ?_
          refine loopN ⟨(i + 1, S + x), by simp only; omega, ⟨rfl, rfl, rfl, rfl, rfl, rfl, rfl⟩, by simp only; omega, fun _ => ?_, by simp only; omega, by simp only; omega, hB⟩
          simp only
          rw [htk, sumI_snoc, hS hm2.1]
        ·
          refine W_skip ?_
          refine thenN ?_
          refine W_seq ?_
          refine W_draw' [] (by kernel_rfl) ?_
          intro w902 hb902 hS902
          replace hB := hB.acc hb902
          have hB_d902 := hB
          refine WA_take 0 (by kernel_rfl) rfl (fun _ _ => rn_move) ?_
          refine WA_take 1 (by kernel_rfl) rfl (fun _ _ => rn_move) ?_
          refine WA_take 2 (by kernel_rfl) rfl (fun _ _ => rn_indexSl1 (e := 2) (by kernel_rfl) rfl rfl (i) (by omega) (by omega)) ?_
          refine WA_take 3 (by kernel_rfl) rfl (fun w' hS' => rn_load rfl (Ld.sl1 (h.below (hB_d902.kpd hS' (by first | (simp; done) | (simp; omega))) (Nat.le_refl _)) (by kernel_rfl) (iv_some hx))) ?_
          refine WA_call 4 (by kernel_rfl) rfl (fun _ => rn_call (by kernel_rfl) rfl) (fun w' hS' => may25 x w') ?_
          refine WA_take 5 (by kernel_rfl) rfl (fun _ _ => rn_move) ?_
          refine WA_take 6 (by kernel_rfl) rfl (fun _ _ => rn_move) ?_
          refine WA_take 7 (by kernel_rfl) rfl (fun _ _ => rn_indexSl1 (e := 2) (by kernel_rfl) rfl rfl (i) (by omega) (by omega)) ?_
          refine WA_take 8 (by kernel_rfl) rfl (fun w' hS' => rn_load rfl (Ld.sl1 (h.below (hB_d902.kpd hS' (by first | (simp; done) | (simp; omega))) (Nat.le_refl _)) (by kernel_rfl) (iv_some hx))) ?_
          refine WA_call 9 (by kernel_rfl) rfl (fun _ => rn_call (by kernel_rfl) rfl) (fun w' hS' => may13 x w') ?_
          refine WA_take 10 (by kernel_rfl) rfl (fun _ _ => rn_neqb (by kernel_rfl) rfl rfl) ?_
          refine WA_done (by kernel_rfl) ?_
          refine thenN ?_
          refine W_fn rfl ((by simp)) ?_
          refine W_skip ?_
          refine blockN ?_
          refine thenN ?_
          refine W_region ?_
          refine WR_val rfl (rn_move) ?_
          refine WR_val rfl (rn_add rfl rfl (Coup.w64 (by omega))) ?_
          refine WR_val rfl (rn_assign) ?_
          refine WR_nil ?_
          refine loopN ⟨(i + 1, S), by simp only; omega, ⟨rfl, rfl, rfl, rfl, rfl, rfl, rfl⟩, by simp only; omega, fun q => ?_, by simp only; omega, by simp only; omega, hB⟩
          simp only at q
          rw [hm] at q; cases q
    ·
      obtain rfl : i = n := by omega
      rw [List.take_of_length_le (by omega)] at *
      refine W_exit ?_
      refine thenX ?_
      refine loopX ?_
      refine blockX ?_
      refine thenN ?_
      refine W_seq ?_
      refine W_block ?_
      refine W_seq ?_
      refine W_region ?_
      refine WR_val rfl (rn_move) ?_
      refine WR_val rfl (rn_lenSl (e := 2) (sz := 1) (by kernel_rfl) rfl rfl) ?_
      refine WR_val rfl (rn_gtr rfl rfl) ?_
      refine WR_val rfl (rn_assign) ?_
      refine WR_nil ?_
      refine thenN ?_
      refine W_ifp rfl (fun hbig2 => ?_) (fun hbig2 => ?_)
      ·
        refine W_seq ?_
        have hV : sumV l = (0, 3) := by rw [sumV, if_pos (by omega)]
        refine W_region ?_
        refine WR_val rfl (rn_move) ?_
        refine WR_val rfl (rn_eql rfl rfl) ?_
        refine WR_val rfl (rn_move) ?_
        refine WR_tp 55 rfl ((by rw [hV])) ?_
        refine WR_yes rfl ?_
        refine WR_val rfl (rn_move) ?_
        refine WR_yes rfl ?_
        refine WR_val rfl (rn_eql rfl rfl) ?_
        refine WR_val rfl (rn_pick_t rfl) ?_
        refine WR_val rfl (rn_move) ?_
        refine WR_tp 59 rfl ((by rw [hV])) ?_
        refine WR_yes rfl ?_
        refine WR_ent rfl (rn_call (by kernel_rfl) rfl) (known10 wr) ?_
        rintro _ w60 ⟨rfl, hb60⟩
        replace hB := hB.acc hb60
        refine WR_val rfl (rn_pick_t rfl) ?_
        refine WR_val rfl (rn_assign) ?_
        refine WR_nil ?_
        refine thenN ?_
        refine W_ret ?_
        refine blockR ?_
        refine thenR ?_
        refine ret_ret [_] ⟨rfl, trivial⟩ ?_
        exact ⟨rfl, hB⟩
      ·
        have hV : sumV l = if allM l = true ∧ mayM (sumI l) = true then (sumI l, 0) else (0, 14) := by rw [sumV, if_neg (by omega)]
        refine W_cut (fun _ : Unit => [(62, .bool (!(allM l && mayM S))), (5, .int .i64 S), (4, .int .i64 (sumV l).2), (3, .int .i64 (sumV l).1)]) (fun _ w' => wr = w') ?_ ?_
        ·
          refine W_region ?_
          refine WR_val rfl (rn_move) ?_
          refine WR_val rfl (rn_not rfl) ?_
          refine WR_val rfl (rn_move) ?_
          refine WR_partnb 65 rfl (fun ha => ?_) (fun ha => ?_)
          ·
            refine WR_no rfl rfl ?_
            refine WR_no rfl rfl ?_
            refine WR_no rfl rfl ?_
            refine WR_val rfl (rn_pick_t rfl) ?_
            refine WR_val rfl (rn_assign) ?_
            refine WR_nil ?_
            refine loopN ⟨(), ⟨vb (by rw [ha]; rfl), rfl, rfl, rfl, rfl⟩, rfl⟩
          ·
            refine WR_yes rfl ?_
            refine WR_val rfl (rn_move) ?_
            refine WR_yes rfl ?_
            refine WR_ent rfl (rn_call (by kernel_rfl) rfl) (may13 S wr) ?_
            rintro _ _ ⟨rfl, rfl⟩
            refine WR_yes rfl ?_
            refine WR_val rfl (rn_not rfl) ?_
            refine WR_val rfl (rn_pick_f rfl) ?_
            refine WR_val rfl (rn_assign) ?_
            refine WR_nil ?_
            refine loopN ⟨(), ⟨vb (by rw [ha]; rfl), rfl, rfl, rfl, rfl⟩, rfl⟩
        ·
          rintro - f2 _ rfl
          refine W_if rfl (fun hbad => ?_) (fun hbad => ?_)
          ·
            refine W_seq ?_
            have hV : sumV l = (0, 14) := by rw [hV, if_neg]; rintro ⟨q1, q2⟩; rw [q1, hS q1, q2] at hbad; cases hbad
            refine W_region ?_
            refine WR_val rfl (rn_move) ?_
            refine WR_val rfl (rn_eql rfl rfl) ?_
            refine WR_val rfl (rn_move) ?_
            refine WR_tp 72 rfl ((by rw [hV])) ?_
            refine WR_yes rfl ?_
            refine WR_val rfl (rn_move) ?_
            refine WR_yes rfl ?_
            refine WR_val rfl (rn_eql rfl rfl) ?_
            refine WR_val rfl (rn_pick_t rfl) ?_
            refine WR_val rfl (rn_move) ?_
            refine WR_tp 76 rfl ((by rw [hV])) ?_
            refine WR_yes rfl ?_
            refine WR_ent rfl (rn_call (by kernel_rfl) rfl) (known10 wr) ?_
            rintro _ w77 ⟨rfl, hb77⟩
            replace hB := hB.acc hb77
            refine WR_val rfl (rn_pick_t rfl) ?_
            refine WR_val rfl (rn_assign) ?_
            refine WR_nil ?_
            refine thenN ?_
            refine W_ret ?_
            refine blockR ?_
            refine thenR ?_
            refine ret_ret [_] ⟨rfl, trivial⟩ ?_
            exact ⟨rfl, hB⟩
          ·
            have hbad : (allM l && mayM S) = true := by simpa using hbad
            simp only [Bool.and_eq_true] at hbad
            have hSS := hS hbad.1
            have hV : sumV l = (sumI l, 0) := by rw [hV, if_pos ⟨hbad.1, by rw [← hSS]; exact hbad.2⟩]
            refine W_skip ?_
            refine blockN ?_
            refine thenN ?_
            refine W_seq ?_
            refine W_region ?_
            refine WR_val rfl (rn_move) ?_
            refine WR_val rfl (rn_eql rfl rfl) ?_
            refine WR_val rfl (rn_move) ?_
            refine WR_tp 81 rfl ((by rw [hV])) ?_
            refine WR_yes rfl ?_
            refine WR_val rfl (rn_move) ?_
            refine WR_yes rfl ?_
            refine WR_val rfl (rn_move) ?_
            refine WR_yes rfl ?_
            refine WR_val rfl (rn_eql rfl rfl) ?_
            refine WR_val rfl (rn_pick_t rfl) ?_
            refine WR_val rfl (rn_move) ?_
            refine WR_tp 86 rfl ((by rw [hV]; exact hSS.symm)) ?_
            refine WR_yes rfl ?_
            refine WR_ent rfl (rn_call (by kernel_rfl) rfl) (known10 wr) ?_
            rintro _ w87 ⟨rfl, hb87⟩
            replace hB := hB.acc hb87
            refine WR_val rfl (rn_pick_t rfl) ?_
            refine WR_val rfl (rn_assign) ?_
            refine WR_nil ?_
            refine thenN ?_
            refine W_ret ?_
            refine ret_ret [_] ⟨rfl, trivial⟩ ?_
            exact ⟨rfl, hB⟩
theorem manyC (x : Int) (m : Int) (w : World) (hx : -9223372036854775808 ≤ x ∧ x ≤ 9223372036854775807) :
    Calls Try.prog 9 [.int .i64 x, .int .i64 m].toArray w (Ret fun v w' => v = .bool true ∧ Below w.heap.size w w') := by
  have hB := Below.refl w.heap.size w
  have hml : maxLen = 9223372036854775807 := by decide
  refine calls_W (fn := Try.f9) (rs := [.tmp 4]) (n := 27) Try.func9 rfl rfl Try.ntmps9 (by kernel_rfl) rfl ?_
  refine W_seq ?_
  refine W_region ?_
  refine WR_val rfl (rn_assign) ?_
  refine WR_nil ?_
  refine thenN ?_
  refine W_seq ?_
  refine W_seq ?_
  refine W_region ?_
  refine WR_val rfl (rn_move) ?_
  refine WR_val rfl (rn_lss rfl rfl) ?_
  refine WR_val rfl (rn_move) ?_
  refine WR_part 9 rfl (fun hneg => ?_) (fun hneg => ?_)
  ·
    refine WR_no rfl rfl ?_
    refine WR_no rfl rfl ?_
    refine WR_val rfl (rn_pick_t rfl) ?_
    refine WR_nil ?_
    refine thenN ?_
    refine W_t rfl ?_
    refine W_seq ?_
    refine W_region ?_
    refine WR_ent rfl (rn_call (by kernel_rfl) rfl) (known10 w) ?_
    rintro _ w13 ⟨rfl, hb13⟩
    replace hB := hB.acc hb13
    refine WR_val rfl (rn_assign) ?_
    refine WR_nil ?_
    refine thenN ?_
    refine W_ret ?_
    refine thenR ?_
    refine ret_ret [_] ⟨rfl, trivial⟩ ?_
    exact ⟨rfl, hB⟩
  ·
    refine WR_yes rfl ?_
    refine WR_val rfl (rn_move) ?_
    refine WR_yes rfl ?_
    refine WR_val rfl (rn_gtr rfl rfl) ?_
    refine WR_val rfl (rn_pick_f rfl) ?_
    refine WR_nil ?_
    refine thenN ?_
    refine W_ifp rfl (fun hbig => ?_) (fun hbig => ?_)
    ·
      refine W_seq ?_
      refine W_region ?_
      refine WR_ent rfl (rn_call (by kernel_rfl) rfl) (known10 w) ?_
      rintro _ w13 ⟨rfl, hb13⟩
      replace hB := hB.acc hb13
      refine WR_val rfl (rn_assign) ?_
      refine WR_nil ?_
      refine thenN ?_
      refine W_ret ?_
      refine thenR ?_
      refine ret_ret [_] ⟨rfl, trivial⟩ ?_
      exact ⟨rfl, hB⟩
    ·
      obtain ⟨n, rfl⟩ : ∃ n : Nat, m = n := ⟨m.toNat, by omega⟩
      refine W_skip ?_
      refine thenN ?_
      refine W_seq ?_
      refine W_region ?_
      refine WR_val rfl (rn_move) ?_
      refine WR_mk rfl (mk_make (e := 2) n [.int .i64 0] 1 8 (.int .i64 0) (by kernel_rfl) (by kernel_rfl) ⟨_, rfl, rfl⟩ ⟨_, rfl, rfl⟩ (by simp) (by simp) (by omega) (by omega) (fun g15 w15 hg15 hr15 hb15 => ?_))
      have ge_hB_g15 := Nat.le_trans hB.size hg15
      replace hB := hB.acc hb15
      refine WR_val rfl (rn_assign) ?_
      refine WR_nil ?_
      refine thenN ?_
      refine W_seq ?_
      refine W_seq ?_
      refine W_region ?_
      refine WR_val rfl (rn_assign) ?_
      refine WR_nil ?_
      refine thenN ?_
      refine W_block ?_
      have hr15 : row w15 g15 (iv (List.replicate 0 x ++ List.replicate (n - 0) 0)) 2 := by
        rw [Nat.mul_one] at hr15
        simpa [iv] using hr15
      refine W_loop (α := Nat) 0 (fun k => [(6, .int .i64 (k : Nat)), (5, .slice (some ⟨g15, 0, none⟩) n n), (1, .int .i64 (n : Nat)), (0, .int .i64 x)])
        (fun k w' => k ≤ n ∧ row w' g15 (iv (List.replicate k x ++ List.replicate (n - k) 0)) 2 ∧ Below w.heap.size w w') (fun k => n - k) ⟨rfl, rfl, rfl, rfl, rfl⟩ ⟨Nat.zero_le _, hr15, hB⟩ ?_
      clear hr15
      rintro k f wr ⟨hk, hr15, hB⟩
      have hw15 : w.heap.size ≤ g15 := by omega
      have hlen : (List.replicate k x ++ List.replicate (n - k) (0 : Int)).length = n := by simp; omega
      refine W_seq ?_
      refine W_seq ?_
      refine W_region ?_
      refine WR_val rfl (rn_move) ?_
      refine WR_val rfl (rn_move) ?_
      refine WR_val rfl (rn_lss rfl rfl) ?_
      refine WR_nil ?_
      refine thenN ?_
      refine W_ifp rfl (fun hlt => ?_) (fun hlt => ?_)
      ·
        refine W_skip ?_
        refine thenN ?_
        refine W_seq ?_
        refine W_block ?_
        refine W_region ?_
        refine WR_val rfl (rn_move) ?_
        refine WR_val rfl (rn_move) ?_
        refine WR_val rfl (rn_move) ?_
        refine WR_val rfl (rn_indexSl1 (e := 2) (by kernel_rfl) rfl rfl (k) (by omega) (by omega)) ?_
        refine WR_sk rfl (sk_store1 rfl rfl rfl rfl hr15 (by kernel_rfl) (by first | (simp only [List.length_replicate]; omega) | (simp only [iv_length]; omega) | simp) (fun w901 hr15 ho901 => ?_))
        replace hB := ho901.below hB ge_hB_g15
        replace hr15 : row w901 g15 ((iv (List.replicate k x ++ List.replicate (n - k) 0)).set (0 + k) (.int .i64 x)) 2 := hr15
        refine WR_nil ?_
        refine blockN ?_
        refine thenN ?_
        refine W_region ?_
        refine WR_val rfl (rn_move) ?_
        refine WR_val rfl (rn_add rfl rfl (Coup.w64 (by omega))) ?_
        refine WR_val rfl (rn_assign) ?_
        refine WR_nil ?_
        refine loopN ⟨k + 1, by omega, ⟨rfl, rfl, rfl, rfl, rfl⟩, by omega, ?_, hB⟩
        rw [Nat.zero_add, iv_set] at hr15
        have e : (List.replicate k x ++ List.replicate (n - k) 0).set k x = List.replicate (k + 1) x ++ List.replicate (n - (k + 1)) 0 := by
          obtain ⟨m, hm⟩ : ∃ m, n - k = m + 1 := ⟨n - k - 1, by omega⟩
          rw [hm, show n - (k + 1) = m by omega, List.set_append_right _ _ (by simp), List.length_replicate, Nat.sub_self, List.replicate_succ, List.set_cons_zero, List.replicate_succ']
          simp
        rw [e] at hr15
        exact hr15
      ·
        obtain rfl : k = n := by omega
        rw [Nat.sub_self, List.replicate_zero, List.append_nil] at hr15
        have hokr : okI (List.replicate k x) := fun y hy => by rw [(List.mem_replicate.1 hy).2]; exact hx
        refine W_exit ?_
        refine thenX ?_
        refine loopX ?_
        refine blockX ?_
        refine thenN ?_
        refine W_seq ?_
        refine W_region ?_
        refine WR_val rfl (rn_move) ?_
        refine WR_ent rfl (rn_call (by kernel_rfl) rfl) (sumsC (some ⟨g15, 0, none⟩) k k (List.replicate k x) wr (hr15.slA (m := k) (sz := 1) (by rw [iv_length]; simp) (by omega)) hokr) ?_
        rintro _ w26 ⟨rfl, hb26⟩
        replace hr15 := hr15.new hb26
        replace hB := hB.acc hb26
        refine WR_val rfl (rn_assign) ?_
        refine WR_nil ?_
        refine thenN ?_
        refine W_ret ?_
        refine ret_ret [_] ⟨rfl, trivial⟩ ?_
        exact ⟨rfl, hB⟩
end Go.Proofs.Ytknjiohhlemeiaa
