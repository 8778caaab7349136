/- What a row is, how many sectors it needs, which tags may be: the law HalfSplits. -/
import Derived.Test.YtnlocpldghpfcaaHalfP
namespace Go.Proofs.Ytnlocpldghpfcaa
open Go Go.RowKit Coup

theorem splits_many (c nn m : Int) (p : Option Addr) (n cp : Nat) (w : World) (hn : 40000 < n) :
    Calls Try.prog 3 [.agg #[.int .u64 c, .int .i64 nn], .slice p n cp, .int .i64 m].toArray w (Ret fun v w' => v = .bool true ∧ Below w.heap.size w w') := by
  have hB := Below.refl w.heap.size w
  refine calls_W (fn := Try.f3) (rs := [.tmp 6]) (n := 98) Try.func3 rfl rfl Try.ntmps3 (by kernel_rfl) rfl ?_
  refine W_seq ?_
  refine W_region ?_
  refine WR_mk rfl (mk_box ([.int .u64 c, .int .i64 nn]) rfl (fun g3 w3 hg3 hr3 hb3 => ?_))
  have ge_hB_g3 := Nat.le_trans hB.size hg3
  replace hB := hB.acc hb3
  refine WR_val rfl (rn_assign) ?_
  refine WR_nil ?_
  refine thenN ?_
  refine W_seq ?_
  refine W_seq ?_
  refine W_region ?_
  refine WR_val rfl (rn_move) ?_
  refine WR_val rfl (rn_lenSl (e := 5) (sz := 1) (by kernel_rfl) rfl rfl) ?_
  refine WR_val rfl (rn_gtr rfl rfl) ?_
  refine WR_nil ?_
  refine thenN ?_
  refine W_tp rfl ((by omega)) ?_
  refine W_seq ?_
  refine W_region ?_
  refine WR_ent rfl (rn_call (by kernel_rfl) rfl) (knownC w3) ?_
  rintro _ w13 ⟨rfl, hb13⟩
  replace hr3 := hr3.new hb13
  replace hB := hB.acc hb13
  refine WR_val rfl (rn_assign) ?_
  refine WR_nil ?_
  refine thenN ?_
  refine W_ret ?_
  refine thenR ?_
  refine ret_ret [_] ⟨rfl, trivial⟩ ?_
  exact ⟨rfl, hB⟩
theorem splits_no (c nn m : Int) (hm : mayT c nn = false) (b : List UInt8) (p : Option Addr) (n cp : Nat) (w : World) (h : SlAt w p n 1 (bv b)) (hn : n ≤ 40000) :
    Calls Try.prog 3 [.agg #[.int .u64 c, .int .i64 nn], .slice p n cp, .int .i64 m].toArray w (Ret fun v w' => v = .bool true ∧ Below w.heap.size w w') := by
  have hB := Below.refl w.heap.size w
  have hBi := Below.refl w.heap.size w
  refine calls_W (fn := Try.f3) (rs := [.tmp 6]) (n := 98) Try.func3 rfl rfl Try.ntmps3 (by kernel_rfl) rfl ?_
  refine W_seq ?_
  refine W_region ?_
  refine WR_mk rfl (mk_box ([.int .u64 c, .int .i64 nn]) rfl (fun g3 w3 hg3 hr3 hb3 => ?_))
  have ge_hB_g3 := Nat.le_trans hB.size hg3
  have ge_hBi_g3 := Nat.le_trans hBi.size hg3
  replace hB := hB.acc hb3
  replace hBi := hBi.acc hb3
  refine WR_val rfl (rn_assign) ?_
  refine WR_nil ?_
  refine thenN ?_
  refine W_seq ?_
  refine W_seq ?_
  refine W_region ?_
  refine WR_val rfl (rn_move) ?_
  refine WR_val rfl (rn_lenSl (e := 5) (sz := 1) (by kernel_rfl) rfl rfl) ?_
  refine WR_val rfl (rn_gtr rfl rfl) ?_
  refine WR_nil ?_
  refine thenN ?_
  refine W_fp rfl ((by omega)) ?_
  refine W_skip ?_
  refine thenN ?_
  refine W_seq ?_
  refine W_region ?_
  refine WR_val rfl (rn_move) ?_
  refine WR_mk rfl (mk_append (e := 5) (sz := 1) (bytes := 1) (z := Value.int .u8 0) (by kernel_rfl) rfl (by kernel_rfl) rfl (by decide) rfl (ownsAt_nil w3 w3.heap.size 5 1) rfl (h.below hBi (Nat.le_refl _)) (bv_one _) (by unfold maxLen; omega) (by omega) (fun _ => Nat.le_refl _) (fun v15 w15 hv15 hgr15 hfr15 => ?_))
  have hb15 := below_of_nil hgr15
  replace hr3 := hr3.new hb15
  replace hB := hB.acc hb15
  replace hBi := hBi.acc hb15
  rw [Nat.zero_add, List.nil_append] at hv15
  obtain ⟨q7, c7, rfl⟩ := hv15.form
  have hx7 := hv15.sl
  have hBj := Below.refl w15.heap.size w15
  refine WR_val rfl (rn_assign) ?_
  refine WR_nil ?_
  refine thenN ?_
  refine W_seq ?_
  refine W_region ?_
  refine WR_val rfl (rn_load rfl (Ld.rowA (k := 2) hr3 (by kernel_rfl) (by kernel_rfl) rfl)) ?_
  refine WR_val rfl (rn_move) ?_
  refine WR_ent rfl (rn_call (by kernel_rfl) rfl) (split_no c nn hm q7 n c7 w15) ?_
  rintro _ w19 ⟨rfl, hb19⟩
  replace hr3 := hr3.new hb19
  replace hB := hB.acc hb19
  replace hBi := hBi.acc hb19
  replace hBj := hBj.acc hb19
  refine WR_val rfl (rn_move) ?_
  refine WR_val rfl (rn_extract rfl rfl) ?_
  refine WR_val rfl (rn_extract rfl rfl) ?_
  refine WR_val rfl (rn_assign) ?_
  refine WR_val rfl (rn_assign) ?_
  refine WR_nil ?_
  refine thenN ?_
  refine W_seq ?_
  refine W_seq ?_
  refine W_draw' [] (by kernel_rfl) ?_
  intro w901 hb901 hS901
  replace hr3 := hr3.new hb901
  replace hB := hB.acc hb901
  replace hBi := hBi.acc hb901
  replace hBj := hBj.acc hb901
  have hr3_d901 := hr3
  have hB_d901 := hB
  have hBi_d901 := hBi
  have hBj_d901 := hBj
  refine WA_take 0 (by kernel_rfl) rfl (fun w' hS' => rn_load rfl (Ld.rowA (k := 2) (hr3_d901.kpd hS' (by first | (simp; done) | (simp; omega))) (by kernel_rfl) (by kernel_rfl) rfl)) ?_
  refine WA_take 2 (by kernel_rfl) rfl (fun w' hS' => rn_load rfl (Ld.rowA (k := 2) (hr3_d901.kpd hS' (by first | (simp; done) | (simp; omega))) (by kernel_rfl) (by kernel_rfl) rfl)) ?_
  refine WA_one 1 (by kernel_rfl) ?_
  refine WO_ent rfl rfl (rn_call (by kernel_rfl) rfl) (may10r c nn w901) ?_
  rintro _ w23 ⟨rfl, hb23⟩
  have hS902 := hS901.add0 hb23
  refine ⟨hS902, ?_⟩
  replace hr3 := hr3.new hb23
  replace hB := hB.acc hb23
  replace hBi := hBi.acc hb23
  replace hBj := hBj.acc hb23
  refine WA_one 3 (by kernel_rfl) ?_
  refine WO_ent rfl rfl (rn_call (by kernel_rfl) rfl) (may11r c nn w23) ?_
  rintro _ w25 ⟨rfl, hb25⟩
  have hS903 := hS902.add0 hb25
  refine ⟨hS903, ?_⟩
  replace hr3 := hr3.new hb25
  replace hB := hB.acc hb25
  replace hBi := hBi.acc hb25
  replace hBj := hBj.acc hb25
  refine WA_take 4 (by kernel_rfl) rfl (fun _ _ => rn_neqb (by kernel_rfl) rfl rfl) ?_
  refine WA_take 5 (by kernel_rfl) rfl (fun _ _ => rn_move) ?_
  refine WA_fn 27 rfl ((by simp)) ?_
  refine WA_take 6 (by kernel_rfl) rfl (fun _ _ => rn_move) ?_
  refine WA_call 7 (by kernel_rfl) rfl (fun _ => rn_call (by kernel_rfl) rfl) (fun w' hS' => need12r m w') ?_
  refine WA_take 8 (by kernel_rfl) rfl (fun _ _ => rn_move) ?_
  refine WA_call 9 (by kernel_rfl) rfl (fun _ => rn_call (by kernel_rfl) rfl) (fun w' hS' => need13r m w') ?_
  refine WA_take 10 (by kernel_rfl) rfl (fun _ _ => rn_neq rfl rfl) ?_
  refine WA_take 11 (by kernel_rfl) rfl (fun _ _ => rn_pick_f rfl) ?_
  refine WA_take 12 (by kernel_rfl) rfl (fun _ _ => rn_move) ?_
  refine WA_fp 34 rfl ((by simp)) ?_
  refine WA_take 13 (by kernel_rfl) rfl (fun _ _ => rn_move) ?_
  refine WA_take 14 (by kernel_rfl) rfl (fun _ _ => rn_lenSl (e := 5) (sz := 1) (by kernel_rfl) rfl rfl) ?_
  refine WA_call 15 (by kernel_rfl) rfl (fun _ => rn_call (by kernel_rfl) rfl) (fun w' hS' => need12r n w') ?_
  refine WA_take 16 (by kernel_rfl) rfl (fun _ _ => rn_move) ?_
  refine WA_take 17 (by kernel_rfl) rfl (fun _ _ => rn_lenSl (e := 5) (sz := 1) (by kernel_rfl) rfl rfl) ?_
  refine WA_call 18 (by kernel_rfl) rfl (fun _ => rn_call (by kernel_rfl) rfl) (fun w' hS' => need13r n w') ?_
  refine WA_take 19 (by kernel_rfl) rfl (fun _ _ => rn_neq rfl rfl) ?_
  refine WA_take 20 (by kernel_rfl) rfl (fun _ _ => rn_pick_f rfl) ?_
  refine WA_take 21 (by kernel_rfl) rfl (fun _ _ => rn_move) ?_
  refine WA_fp 43 rfl ((by simp)) ?_
  refine WA_take 22 (by kernel_rfl) rfl (fun _ _ => rn_move) ?_
  refine WA_take 23 (by kernel_rfl) rfl (fun w' hS' => rn_str (e := 5) (l := b) (by kernel_rfl) (by kernel_rfl) (by kernel_rfl) rfl (hx7.below (hBj_d901.kpd hS' (by first | (simp; done) | (simp; omega))) (Nat.le_refl _))) ?_
  refine WA_take 24 (by kernel_rfl) rfl (fun _ _ => rn_move) ?_
  refine WA_take 25 (by kernel_rfl) rfl (fun w' hS' => rn_str (e := 5) (l := b) (by kernel_rfl) (by kernel_rfl) (by kernel_rfl) rfl (h.below (hBi_d901.kpd hS' (by first | (simp; done) | (simp; omega))) (Nat.le_refl _))) ?_
  refine WA_take 26 (by kernel_rfl) rfl (fun _ _ => rn_neqS rfl rfl) ?_
  refine WA_take 27 (by kernel_rfl) rfl (fun _ _ => rn_pick_f rfl) ?_
  refine WA_done (by kernel_rfl) ?_
  refine thenN ?_
  refine W_fb rfl ((by simp)) ?_
  refine W_skip ?_
  refine thenN ?_
  refine W_seq ?_
  refine W_block ?_
  refine W_seq ?_
  refine W_region ?_
  refine WR_val rfl (rn_load rfl (Ld.rowA (k := 2) hr3 (by kernel_rfl) (by kernel_rfl) rfl)) ?_
  refine WR_ent rfl (rn_call (by kernel_rfl) rfl) (may11r c nn w25) ?_
  rintro _ w52 ⟨rfl, hb52⟩
  replace hr3 := hr3.new hb52
  replace hB := hB.acc hb52
  replace hBi := hBi.acc hb52
  replace hBj := hBj.acc hb52
  refine WR_val rfl (rn_not rfl) ?_
  refine WR_val rfl (rn_assign) ?_
  refine WR_nil ?_
  refine thenN ?_
  refine W_tnb rfl (hm) ?_
  refine W_seq ?_
  refine W_region ?_
  refine WR_val rfl (rn_move) ?_
  refine WR_val rfl (rn_lenSl (e := 48) (sz := 128) (by kernel_rfl) rfl rfl) ?_
  refine WR_val rfl (rn_eql rfl rfl) ?_
  refine WR_val rfl (rn_move) ?_
  refine WR_tp 57 rfl ((by decide)) ?_
  refine WR_yes rfl ?_
  refine WR_val rfl (rn_move) ?_
  refine WR_yes rfl ?_
  refine WR_val rfl (rn_eql rfl rfl) ?_
  refine WR_val rfl (rn_pick_t rfl) ?_
  refine WR_val rfl (rn_move) ?_
  refine WR_tp 61 rfl ((by decide)) ?_
  refine WR_yes rfl ?_
  refine WR_ent rfl (rn_call (by kernel_rfl) rfl) (knownC w52) ?_
  rintro _ w62 ⟨rfl, hb62⟩
  replace hr3 := hr3.new hb62
  replace hB := hB.acc hb62
  replace hBi := hBi.acc hb62
  replace hBj := hBj.acc hb62
  refine WR_val rfl (rn_pick_t rfl) ?_
  refine WR_val rfl (rn_assign) ?_
  refine WR_nil ?_
  refine thenN ?_
  refine W_ret ?_
  refine blockR ?_
  refine thenR ?_
  refine ret_ret [_] ⟨rfl, trivial⟩ ?_
  exact ⟨rfl, hB⟩
theorem splits_long (c nn m : Int) (hm : mayT c nn = true) (b : List UInt8) (p : Option Addr) (n cp : Nat) (w : World) (h : SlAt w p n 1 (bv b)) (hn : n ≤ 40000) (hn2 : 32768 < n) :
    Calls Try.prog 3 [.agg #[.int .u64 c, .int .i64 nn], .slice p n cp, .int .i64 m].toArray w (Ret fun v w' => v = .bool true ∧ Below w.heap.size w w') := by
  have hB := Below.refl w.heap.size w
  have hBi := Below.refl w.heap.size w
  refine calls_W (fn := Try.f3) (rs := [.tmp 6]) (n := 98) Try.func3 rfl rfl Try.ntmps3 (by kernel_rfl) rfl ?_
  refine W_seq ?_
  refine W_region ?_
  refine WR_mk rfl (mk_box ([.int .u64 c, .int .i64 nn]) rfl (fun g3 w3 hg3 hr3 hb3 => ?_))
  have ge_hB_g3 := Nat.le_trans hB.size hg3
  have ge_hBi_g3 := Nat.le_trans hBi.size hg3
  replace hB := hB.acc hb3
  replace hBi := hBi.acc hb3
  refine WR_val rfl (rn_assign) ?_
  refine WR_nil ?_
  refine thenN ?_
  refine W_seq ?_
  refine W_seq ?_
  refine W_region ?_
  refine WR_val rfl (rn_move) ?_
  refine WR_val rfl (rn_lenSl (e := 5) (sz := 1) (by kernel_rfl) rfl rfl) ?_
  refine WR_val rfl (rn_gtr rfl rfl) ?_
  refine WR_nil ?_
  refine thenN ?_
  refine W_fp rfl ((by omega)) ?_
  refine W_skip ?_
  refine thenN ?_
  refine W_seq ?_
  refine W_region ?_
  refine WR_val rfl (rn_move) ?_
  refine WR_mk rfl (mk_append (e := 5) (sz := 1) (bytes := 1) (z := Value.int .u8 0) (by kernel_rfl) rfl (by kernel_rfl) rfl (by decide) rfl (ownsAt_nil w3 w3.heap.size 5 1) rfl (h.below hBi (Nat.le_refl _)) (bv_one _) (by unfold maxLen; omega) (by omega) (fun _ => Nat.le_refl _) (fun v15 w15 hv15 hgr15 hfr15 => ?_))
  have hb15 := below_of_nil hgr15
  replace hr3 := hr3.new hb15
  replace hB := hB.acc hb15
  replace hBi := hBi.acc hb15
  rw [Nat.zero_add, List.nil_append] at hv15
  obtain ⟨q7, c7, rfl⟩ := hv15.form
  have hx7 := hv15.sl
  have hBj := Below.refl w15.heap.size w15
  refine WR_val rfl (rn_assign) ?_
  refine WR_nil ?_
  refine thenN ?_
  refine W_seq ?_
  refine W_region ?_
  refine WR_val rfl (rn_load rfl (Ld.rowA (k := 2) hr3 (by kernel_rfl) (by kernel_rfl) rfl)) ?_
  refine WR_val rfl (rn_move) ?_
  refine WR_ent rfl (rn_call (by kernel_rfl) rfl) (split_long c nn hm q7 n c7 (by omega) w15) ?_
  rintro _ w19 ⟨rfl, hb19⟩
  replace hr3 := hr3.new hb19
  replace hB := hB.acc hb19
  replace hBi := hBi.acc hb19
  replace hBj := hBj.acc hb19
  refine WR_val rfl (rn_move) ?_
  refine WR_val rfl (rn_extract rfl rfl) ?_
  refine WR_val rfl (rn_extract rfl rfl) ?_
  refine WR_val rfl (rn_assign) ?_
  refine WR_val rfl (rn_assign) ?_
  refine WR_nil ?_
  refine thenN ?_
  refine W_seq ?_
  refine W_seq ?_
  refine W_draw' [] (by kernel_rfl) ?_
  intro w901 hb901 hS901
  replace hr3 := hr3.new hb901
  replace hB := hB.acc hb901
  replace hBi := hBi.acc hb901
  replace hBj := hBj.acc hb901
  have hr3_d901 := hr3
  have hB_d901 := hB
  have hBi_d901 := hBi
  have hBj_d901 := hBj
  refine WA_take 0 (by kernel_rfl) rfl (fun w' hS' => rn_load rfl (Ld.rowA (k := 2) (hr3_d901.kpd hS' (by first | (simp; done) | (simp; omega))) (by kernel_rfl) (by kernel_rfl) rfl)) ?_
  refine WA_take 2 (by kernel_rfl) rfl (fun w' hS' => rn_load rfl (Ld.rowA (k := 2) (hr3_d901.kpd hS' (by first | (simp; done) | (simp; omega))) (by kernel_rfl) (by kernel_rfl) rfl)) ?_
  refine WA_one 1 (by kernel_rfl) ?_
  refine WO_ent rfl rfl (rn_call (by kernel_rfl) rfl) (may10r c nn w901) ?_
  rintro _ w23 ⟨rfl, hb23⟩
  have hS902 := hS901.add0 hb23
  refine ⟨hS902, ?_⟩
  replace hr3 := hr3.new hb23
  replace hB := hB.acc hb23
  replace hBi := hBi.acc hb23
  replace hBj := hBj.acc hb23
  refine WA_one 3 (by kernel_rfl) ?_
  refine WO_ent rfl rfl (rn_call (by kernel_rfl) rfl) (may11r c nn w23) ?_
  rintro _ w25 ⟨rfl, hb25⟩
  have hS903 := hS902.add0 hb25
  refine ⟨hS903, ?_⟩
  replace hr3 := hr3.new hb25
  replace hB := hB.acc hb25
  replace hBi := hBi.acc hb25
  replace hBj := hBj.acc hb25
  refine WA_take 4 (by kernel_rfl) rfl (fun _ _ => rn_neqb (by kernel_rfl) rfl rfl) ?_
  refine WA_take 5 (by kernel_rfl) rfl (fun _ _ => rn_move) ?_
  refine WA_fn 27 rfl ((by simp)) ?_
  refine WA_take 6 (by kernel_rfl) rfl (fun _ _ => rn_move) ?_
  refine WA_call 7 (by kernel_rfl) rfl (fun _ => rn_call (by kernel_rfl) rfl) (fun w' hS' => need12r m w') ?_
  refine WA_take 8 (by kernel_rfl) rfl (fun _ _ => rn_move) ?_
  refine WA_call 9 (by kernel_rfl) rfl (fun _ => rn_call (by kernel_rfl) rfl) (fun w' hS' => need13r m w') ?_
  refine WA_take 10 (by kernel_rfl) rfl (fun _ _ => rn_neq rfl rfl) ?_
  refine WA_take 11 (by kernel_rfl) rfl (fun _ _ => rn_pick_f rfl) ?_
  refine WA_take 12 (by kernel_rfl) rfl (fun _ _ => rn_move) ?_
  refine WA_fp 34 rfl ((by simp)) ?_
  refine WA_take 13 (by kernel_rfl) rfl (fun _ _ => rn_move) ?_
  refine WA_take 14 (by kernel_rfl) rfl (fun _ _ => rn_lenSl (e := 5) (sz := 1) (by kernel_rfl) rfl rfl) ?_
  refine WA_call 15 (by kernel_rfl) rfl (fun _ => rn_call (by kernel_rfl) rfl) (fun w' hS' => need12r n w') ?_
  refine WA_take 16 (by kernel_rfl) rfl (fun _ _ => rn_move) ?_
  refine WA_take 17 (by kernel_rfl) rfl (fun _ _ => rn_lenSl (e := 5) (sz := 1) (by kernel_rfl) rfl rfl) ?_
  refine WA_call 18 (by kernel_rfl) rfl (fun _ => rn_call (by kernel_rfl) rfl) (fun w' hS' => need13r n w') ?_
  refine WA_take 19 (by kernel_rfl) rfl (fun _ _ => rn_neq rfl rfl) ?_
  refine WA_take 20 (by kernel_rfl) rfl (fun _ _ => rn_pick_f rfl) ?_
  refine WA_take 21 (by kernel_rfl) rfl (fun _ _ => rn_move) ?_
  refine WA_fp 43 rfl ((by simp)) ?_
  refine WA_take 22 (by kernel_rfl) rfl (fun _ _ => rn_move) ?_
  refine WA_take 23 (by kernel_rfl) rfl (fun w' hS' => rn_str (e := 5) (l := b) (by kernel_rfl) (by kernel_rfl) (by kernel_rfl) rfl (hx7.below (hBj_d901.kpd hS' (by first | (simp; done) | (simp; omega))) (Nat.le_refl _))) ?_
  refine WA_take 24 (by kernel_rfl) rfl (fun _ _ => rn_move) ?_
  refine WA_take 25 (by kernel_rfl) rfl (fun w' hS' => rn_str (e := 5) (l := b) (by kernel_rfl) (by kernel_rfl) (by kernel_rfl) rfl (h.below (hBi_d901.kpd hS' (by first | (simp; done) | (simp; omega))) (Nat.le_refl _))) ?_
  refine WA_take 26 (by kernel_rfl) rfl (fun _ _ => rn_neqS rfl rfl) ?_
  refine WA_take 27 (by kernel_rfl) rfl (fun _ _ => rn_pick_f rfl) ?_
  refine WA_done (by kernel_rfl) ?_
  refine thenN ?_
  refine W_fb rfl ((by simp)) ?_
  refine W_skip ?_
  refine thenN ?_
  refine W_seq ?_
  refine W_block ?_
  refine W_seq ?_
  refine W_region ?_
  refine WR_val rfl (rn_load rfl (Ld.rowA (k := 2) hr3 (by kernel_rfl) (by kernel_rfl) rfl)) ?_
  refine WR_ent rfl (rn_call (by kernel_rfl) rfl) (may11r c nn w25) ?_
  rintro _ w52 ⟨rfl, hb52⟩
  replace hr3 := hr3.new hb52
  replace hB := hB.acc hb52
  replace hBi := hBi.acc hb52
  replace hBj := hBj.acc hb52
  refine WR_val rfl (rn_not rfl) ?_
  refine WR_val rfl (rn_assign) ?_
  refine WR_nil ?_
  refine thenN ?_
  refine W_fnb rfl (hm) ?_
  refine W_seq ?_
  refine W_region ?_
  refine WR_val rfl (rn_move) ?_
  refine WR_val rfl (rn_lenSl (e := 5) (sz := 1) (by kernel_rfl) rfl rfl) ?_
  refine WR_val rfl (rn_gtr rfl rfl) ?_
  refine WR_val rfl (rn_assign) ?_
  refine WR_nil ?_
  refine thenN ?_
  refine W_tp rfl ((by omega)) ?_
  refine W_seq ?_
  refine W_region ?_
  refine WR_val rfl (rn_move) ?_
  refine WR_val rfl (rn_lenSl (e := 48) (sz := 128) (by kernel_rfl) rfl rfl) ?_
  refine WR_val rfl (rn_eql rfl rfl) ?_
  refine WR_val rfl (rn_move) ?_
  refine WR_tp 71 rfl ((by decide)) ?_
  refine WR_yes rfl ?_
  refine WR_val rfl (rn_move) ?_
  refine WR_yes rfl ?_
  refine WR_val rfl (rn_eql rfl rfl) ?_
  refine WR_val rfl (rn_pick_t rfl) ?_
  refine WR_val rfl (rn_move) ?_
  refine WR_tp 75 rfl ((by decide)) ?_
  refine WR_yes rfl ?_
  refine WR_ent rfl (rn_call (by kernel_rfl) rfl) (knownC w52) ?_
  rintro _ w76 ⟨rfl, hb76⟩
  replace hr3 := hr3.new hb76
  replace hB := hB.acc hb76
  replace hBi := hBi.acc hb76
  replace hBj := hBj.acc hb76
  refine WR_val rfl (rn_pick_t rfl) ?_
  refine WR_val rfl (rn_assign) ?_
  refine WR_nil ?_
  refine thenN ?_
  refine W_ret ?_
  refine blockR ?_
  refine thenR ?_
  refine ret_ret [_] ⟨rfl, trivial⟩ ?_
  exact ⟨rfl, hB⟩
theorem splits_yes (c nn : Nat) (m : Int) (hm : mayT c nn = true) (b : List UInt8) (p : Option Addr) (n cp : Nat) (w : World) (h : SlAt w p n 1 (bv b)) (hn : n ≤ 32768) :
    Calls Try.prog 3 [.agg #[.int .u64 c, .int .i64 nn], .slice p n cp, .int .i64 m].toArray w (Ret fun v w' => v = .bool true ∧ Below w.heap.size w w') := by
  have hB := Below.refl w.heap.size w
  have hBi := Below.refl w.heap.size w
  have hmb := may_bounds hm
  have hl : b.length = n := by simpa [bv_length] using h.len
  have hnz : needZ n = (needN n : Nat) := needZ_nat hn
  have hrl := rowB_len c nn b
  rw [hl] at hrl
  have hnb : needN n ≤ 1000 := by unfold needN manyN; omega
  refine calls_W (fn := Try.f3) (rs := [.tmp 6]) (n := 98) Try.func3 rfl rfl Try.ntmps3 (by kernel_rfl) rfl ?_
  refine W_seq ?_
  refine W_region ?_
  refine WR_mk rfl (mk_box ([.int .u64 c, .int .i64 nn]) rfl (fun g3 w3 hg3 hr3 hb3 => ?_))
  have ge_hB_g3 := Nat.le_trans hB.size hg3
  have ge_hBi_g3 := Nat.le_trans hBi.size hg3
  replace hB := hB.acc hb3
  replace hBi := hBi.acc hb3
  refine WR_val rfl (rn_assign) ?_
  refine WR_nil ?_
  refine thenN ?_
  refine W_seq ?_
  refine W_seq ?_
  refine W_region ?_
  refine WR_val rfl (rn_move) ?_
  refine WR_val rfl (rn_lenSl (e := 5) (sz := 1) (by kernel_rfl) rfl rfl) ?_
  refine WR_val rfl (rn_gtr rfl rfl) ?_
  refine WR_nil ?_
  refine thenN ?_
  refine W_fp rfl ((by omega)) ?_
  refine W_skip ?_
  refine thenN ?_
  refine W_seq ?_
  refine W_region ?_
  refine WR_val rfl (rn_move) ?_
  refine WR_mk rfl (mk_append (e := 5) (sz := 1) (bytes := 1) (z := Value.int .u8 0) (by kernel_rfl) rfl (by kernel_rfl) rfl (by decide) rfl (ownsAt_nil w3 w3.heap.size 5 1) rfl (h.below hBi (Nat.le_refl _)) (bv_one _) (by unfold maxLen; omega) (by omega) (fun _ => Nat.le_refl _) (fun v15 w15 hv15 hgr15 hfr15 => ?_))
  have hb15 := below_of_nil hgr15
  replace hr3 := hr3.new hb15
  replace hB := hB.acc hb15
  replace hBi := hBi.acc hb15
  rw [Nat.zero_add, List.nil_append] at hv15
  obtain ⟨q7, c7, rfl⟩ := hv15.form
  have hx7 := hv15.sl
  have hBj := Below.refl w15.heap.size w15
  refine WR_val rfl (rn_assign) ?_
  refine WR_nil ?_
  refine thenN ?_
  refine W_seq ?_
  refine W_region ?_
  refine WR_val rfl (rn_load rfl (Ld.rowA (k := 2) hr3 (by kernel_rfl) (by kernel_rfl) rfl)) ?_
  refine WR_val rfl (rn_move) ?_
  refine WR_ent rfl (rn_call (by kernel_rfl) rfl) (split_yes c nn hm b q7 n c7 w15 (hx7.below hBj (Nat.le_refl _)) hn) ?_
  rintro _ w19 ⟨gr, rfl, hgr, hrr, hb19⟩
  have ge_hB_gr := Nat.le_trans hB.size hgr
  have ge_hBi_gr := Nat.le_trans hBi.size hgr
  have ge_hBj_gr := Nat.le_trans hBj.size hgr
  have lt_g3_gr : g3 < gr := Nat.lt_of_lt_of_le hr3.lt hgr
  replace hr3 := hr3.new hb19
  replace hB := hB.acc hb19
  replace hBi := hBi.acc hb19
  replace hBj := hBj.acc hb19
  refine WR_val rfl (rn_move) ?_
  refine WR_val rfl (rn_extract rfl rfl) ?_
  refine WR_val rfl (rn_extract rfl rfl) ?_
  refine WR_val rfl (rn_assign) ?_
  refine WR_val rfl (rn_assign) ?_
  refine WR_nil ?_
  refine thenN ?_
  refine W_seq ?_
  refine W_seq ?_
  refine W_draw' [] (by kernel_rfl) ?_
  intro w901 hb901 hS901
  replace hr3 := hr3.new hb901
  replace hrr := hrr.new hb901
  replace hB := hB.acc hb901
  replace hBi := hBi.acc hb901
  replace hBj := hBj.acc hb901
  have hr3_d901 := hr3
  have hrr_d901 := hrr
  have hB_d901 := hB
  have hBi_d901 := hBi
  have hBj_d901 := hBj
  refine WA_take 0 (by kernel_rfl) rfl (fun w' hS' => rn_load rfl (Ld.rowA (k := 2) (hr3_d901.kpd hS' (by first | (simp; done) | (simp; omega))) (by kernel_rfl) (by kernel_rfl) rfl)) ?_
  refine WA_take 2 (by kernel_rfl) rfl (fun w' hS' => rn_load rfl (Ld.rowA (k := 2) (hr3_d901.kpd hS' (by first | (simp; done) | (simp; omega))) (by kernel_rfl) (by kernel_rfl) rfl)) ?_
  refine WA_one 1 (by kernel_rfl) ?_
  refine WO_ent rfl rfl (rn_call (by kernel_rfl) rfl) (may10r c nn w901) ?_
  rintro _ w23 ⟨rfl, hb23⟩
  have hS902 := hS901.add0 hb23
  refine ⟨hS902, ?_⟩
  replace hr3 := hr3.new hb23
  replace hrr := hrr.new hb23
  replace hB := hB.acc hb23
  replace hBi := hBi.acc hb23
  replace hBj := hBj.acc hb23
  refine WA_one 3 (by kernel_rfl) ?_
  refine WO_ent rfl rfl (rn_call (by kernel_rfl) rfl) (may11r c nn w23) ?_
  rintro _ w25 ⟨rfl, hb25⟩
  have hS903 := hS902.add0 hb25
  refine ⟨hS903, ?_⟩
  replace hr3 := hr3.new hb25
  replace hrr := hrr.new hb25
  replace hB := hB.acc hb25
  replace hBi := hBi.acc hb25
  replace hBj := hBj.acc hb25
  refine WA_take 4 (by kernel_rfl) rfl (fun _ _ => rn_neqb (by kernel_rfl) rfl rfl) ?_
  refine WA_take 5 (by kernel_rfl) rfl (fun _ _ => rn_move) ?_
  refine WA_fn 27 rfl ((by simp)) ?_
  refine WA_take 6 (by kernel_rfl) rfl (fun _ _ => rn_move) ?_
  refine WA_call 7 (by kernel_rfl) rfl (fun _ => rn_call (by kernel_rfl) rfl) (fun w' hS' => need12r m w') ?_
  refine WA_take 8 (by kernel_rfl) rfl (fun _ _ => rn_move) ?_
  refine WA_call 9 (by kernel_rfl) rfl (fun _ => rn_call (by kernel_rfl) rfl) (fun w' hS' => need13r m w') ?_
  refine WA_take 10 (by kernel_rfl) rfl (fun _ _ => rn_neq rfl rfl) ?_
  refine WA_take 11 (by kernel_rfl) rfl (fun _ _ => rn_pick_f rfl) ?_
  refine WA_take 12 (by kernel_rfl) rfl (fun _ _ => rn_move) ?_
  refine WA_fp 34 rfl ((by simp)) ?_
  refine WA_take 13 (by kernel_rfl) rfl (fun _ _ => rn_move) ?_
  refine WA_take 14 (by kernel_rfl) rfl (fun _ _ => rn_lenSl (e := 5) (sz := 1) (by kernel_rfl) rfl rfl) ?_
  refine WA_call 15 (by kernel_rfl) rfl (fun _ => rn_call (by kernel_rfl) rfl) (fun w' hS' => need12r n w') ?_
  refine WA_take 16 (by kernel_rfl) rfl (fun _ _ => rn_move) ?_
  refine WA_take 17 (by kernel_rfl) rfl (fun _ _ => rn_lenSl (e := 5) (sz := 1) (by kernel_rfl) rfl rfl) ?_
  refine WA_call 18 (by kernel_rfl) rfl (fun _ => rn_call (by kernel_rfl) rfl) (fun w' hS' => need13r n w') ?_
  refine WA_take 19 (by kernel_rfl) rfl (fun _ _ => rn_neq rfl rfl) ?_
  refine WA_take 20 (by kernel_rfl) rfl (fun _ _ => rn_pick_f rfl) ?_
  refine WA_take 21 (by kernel_rfl) rfl (fun _ _ => rn_move) ?_
  refine WA_fp 43 rfl ((by simp)) ?_
  refine WA_take 22 (by kernel_rfl) rfl (fun _ _ => rn_move) ?_
  refine WA_take 23 (by kernel_rfl) rfl (fun w' hS' => rn_str (e := 5) (l := b) (by kernel_rfl) (by kernel_rfl) (by kernel_rfl) rfl (hx7.below (hBj_d901.kpd hS' (by first | (simp; done) | (simp; omega))) (Nat.le_refl _))) ?_
  refine WA_take 24 (by kernel_rfl) rfl (fun _ _ => rn_move) ?_
  refine WA_take 25 (by kernel_rfl) rfl (fun w' hS' => rn_str (e := 5) (l := b) (by kernel_rfl) (by kernel_rfl) (by kernel_rfl) rfl (h.below (hBi_d901.kpd hS' (by first | (simp; done) | (simp; omega))) (Nat.le_refl _))) ?_
  refine WA_take 26 (by kernel_rfl) rfl (fun _ _ => rn_neqS rfl rfl) ?_
  refine WA_take 27 (by kernel_rfl) rfl (fun _ _ => rn_pick_f rfl) ?_
  refine WA_done (by kernel_rfl) ?_
  refine thenN ?_
  refine W_fb rfl ((by simp)) ?_
  refine W_skip ?_
  refine thenN ?_
  refine W_seq ?_
  refine W_block ?_
  refine W_seq ?_
  refine W_region ?_
  refine WR_val rfl (rn_load rfl (Ld.rowA (k := 2) hr3 (by kernel_rfl) (by kernel_rfl) rfl)) ?_
  refine WR_ent rfl (rn_call (by kernel_rfl) rfl) (may11r c nn w25) ?_
  rintro _ w52 ⟨rfl, hb52⟩
  replace hr3 := hr3.new hb52
  replace hrr := hrr.new hb52
  replace hB := hB.acc hb52
  replace hBi := hBi.acc hb52
  replace hBj := hBj.acc hb52
  refine WR_val rfl (rn_not rfl) ?_
  refine WR_val rfl (rn_assign) ?_
  refine WR_nil ?_
  refine thenN ?_
  refine W_fnb rfl (hm) ?_
  refine W_seq ?_
  refine W_region ?_
  refine WR_val rfl (rn_move) ?_
  refine WR_val rfl (rn_lenSl (e := 5) (sz := 1) (by kernel_rfl) rfl rfl) ?_
  refine WR_val rfl (rn_gtr rfl rfl) ?_
  refine WR_val rfl (rn_assign) ?_
  refine WR_nil ?_
  refine thenN ?_
  refine W_fp rfl ((by omega)) ?_
  refine W_skip ?_
  refine blockN ?_
  refine thenN ?_
  refine W_seq ?_
  refine W_region ?_
  refine WR_val rfl (rn_move) ?_
  refine WR_val rfl (rn_eql rfl rfl) ?_
  refine WR_val rfl (rn_move) ?_
  refine WR_tp 80 rfl ((by decide)) ?_
  refine WR_yes rfl ?_
  refine WR_val rfl (rn_move) ?_
  refine WR_yes rfl ?_
  refine WR_val rfl (rn_lenSl (e := 48) (sz := 128) (by kernel_rfl) rfl rfl) ?_
  refine WR_yes rfl ?_
  refine WR_val rfl (rn_move) ?_
  refine WR_yes rfl ?_
  refine WR_val rfl (rn_lenSl (e := 5) (sz := 1) (by kernel_rfl) rfl rfl) ?_
  refine WR_yes rfl ?_
  refine WR_ent rfl (rn_call (by kernel_rfl) rfl) (need13r n w52) ?_
  rintro _ _ ⟨rfl, rfl⟩
  refine WR_yes rfl ?_
  refine WR_val rfl (rn_eql rfl rfl) ?_
  refine WR_val rfl (rn_pick_t rfl) ?_
  refine WR_val rfl (rn_move) ?_
  refine WR_tp 88 rfl (hnz.symm) ?_
  refine WR_yes rfl ?_
  refine WR_val rfl (rn_move) ?_
  refine WR_yes rfl ?_
  refine WR_val rfl (rn_load rfl (Ld.rowA (k := 2) hr3 (by kernel_rfl) (by kernel_rfl) rfl)) ?_
  refine WR_yes rfl ?_
  refine WR_val rfl (rn_move) ?_
  refine WR_yes rfl ?_
  refine WR_ent rfl (rn_call (by kernel_rfl) rfl) (row15 c nn b _ n _ w52 (h.below hBi (Nat.le_refl _)) (by omega) (by omega) (by omega)) ?_
  rintro _ w92 ⟨q2, cq2, rfl, hq2, hb92⟩
  replace hr3 := hr3.new hb92
  replace hrr := hrr.new hb92
  replace hB := hB.acc hb92
  replace hBi := hBi.acc hb92
  replace hBj := hBj.acc hb92
  refine WR_yes rfl ?_
  have hsr := hrr.slA (m := needN n) (sz := 128) (by rw [bv_length, hrl]; omega) (by unfold maxLen; omega)
  refine WR_ent rfl (rn_call (by kernel_rfl) rfl) (sameC _ _ (needN n) _ _ (rowB c nn b) w92 hsr hq2 (by omega)) ?_
  rintro _ w93 ⟨rfl, hb93⟩
  replace hr3 := hr3.new hb93
  replace hrr := hrr.new hb93
  replace hB := hB.acc hb93
  replace hBi := hBi.acc hb93
  replace hBj := hBj.acc hb93
  refine WR_val rfl (rn_pick_t rfl) ?_
  refine WR_val rfl (rn_move) ?_
  refine WR_tb 95 rfl (rfl) ?_
  refine WR_yes rfl ?_
  refine WR_ent rfl (rn_call (by kernel_rfl) rfl) (knownC w93) ?_
  rintro _ w96 ⟨rfl, hb96⟩
  replace hr3 := hr3.new hb96
  replace hrr := hrr.new hb96
  replace hB := hB.acc hb96
  replace hBi := hBi.acc hb96
  replace hBj := hBj.acc hb96
  refine WR_val rfl (rn_pick_t rfl) ?_
  refine WR_val rfl (rn_assign) ?_
  refine WR_nil ?_
  refine thenN ?_
  refine W_ret ?_
  refine ret_ret [_] ⟨rfl, trivial⟩ ?_
  exact ⟨rfl, hB⟩
theorem splitsC (c nn m : Int) (b : List UInt8) (p : Option Addr) (n cp : Nat) (w : World) (h : SlAt w p n 1 (bv b)) :
    Calls Try.prog 3 [.agg #[.int .u64 c, .int .i64 nn], .slice p n cp, .int .i64 m].toArray w (Ret fun v w' => v = .bool true ∧ Below w.heap.size w w') := by
  by_cases hn : 40000 < n
  · exact splits_many c nn m p n cp w hn
  · cases hm : mayT c nn with
    | false => exact splits_no c nn m hm b p n cp w h (by omega)
    | true =>
      by_cases hn2 : 32768 < n
      · exact splits_long c nn m hm b p n cp w h (by omega) hn2
      · have hmb := may_bounds hm
        obtain ⟨c', rfl⟩ : ∃ k : Nat, c = k := ⟨c.toNat, by omega⟩
        obtain ⟨n', rfl⟩ : ∃ k : Nat, nn = k := ⟨nn.toNat, by omega⟩
        exact splits_yes c' n' m hm b p n cp w h (by omega)
end Go.Proofs.Ytnlocpldghpfcaa
