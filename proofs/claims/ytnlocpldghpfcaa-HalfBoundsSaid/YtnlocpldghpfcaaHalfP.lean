/- Any sectors are told as the reference tells them: the law HalfJoins. -/
import Derived.Test.YtnlocpldghpfcaaHalfO
namespace Go.Proofs.Ytnlocpldghpfcaa
open Go Go.RowKit Coup

theorem refR (p : Option Addr) (n cp : Nat) (l : List UInt8) (w : World) (h : SlAt w p n 128 (bv l)) (hn : n ≤ 100000) : Calls Try.prog 20 [.slice p n cp].toArray w (Ret fun v w' => RR l n w v w') := by
  by_cases h0 : 0 < n
  · exact refJoin p n cp l w h hn h0
  · obtain rfl : n = 0 := by omega
    exact refJoin0 p cp l w h
theorem joinIs_may {l : List UInt8} {n : Nat} (h : joinIs l n = true) : mayT (hCount (halfAt l 0)) (hNum (halfAt l 0)) = true := by
  unfold joinIs joinMay at h
  simp only [Bool.and_eq_true] at h
  exact h.1.2.1.1.1
theorem refNot (p : Option Addr) (n cp : Nat) (l : List UInt8) (w : World) (h : SlAt w p n 128 (bv l)) (hn : n ≤ 100000) (hj : joinIs l n = false) : Calls Try.prog 20 [.slice p n cp].toArray w (Ret fun v w' => v = noneR ∧ Below w.heap.size w w') :=
  (refR p n cp l w h hn).to fun v w' ⟨h1, h2⟩ => by
    have hl : l.length = n * 128 := by simpa [bv_length] using h.len
    rcases h2 with ⟨_, h2⟩ | ⟨h3, _⟩
    · exact ⟨h2, h1⟩
    · rw [refIs_eq l n hl, hj] at h3; cases h3
theorem refYes (p : Option Addr) (n cp c nn : Nat) (b l : List UInt8) (w : World) (h : SlAt w p n 128 (bv l)) (hn : n ≤ 100000) (hj : Told l n c nn b) : Calls Try.prog 20 [.slice p n cp].toArray w
    (Ret fun v w' => ∃ sp cq, v = .tuple #[.agg #[.int .u64 c, .int .i64 nn], .slice sp b.length cq, .int .i64 (needN b.length : Nat), .bool true] ∧ SlAt w' sp b.length 1 (bv b) ∧ Below w.heap.size w w') :=
  (refR p n cp l w h hn).to fun v w' ⟨h1, h2⟩ => by
    have hl : l.length = n * 128 := by simpa [bv_length] using h.len
    obtain ⟨e1, e2⟩ := tag_yes (joinIs_may hj.is)
    rcases h2 with ⟨h3, _⟩ | ⟨_, sp, cq, h2, h4⟩
    · rw [refIs_eq l n hl, hj.is] at h3; cases h3
    · rw [e1, e2, hj.c, hj.n, hj.b] at h2
      rw [hj.b] at h4
      exact ⟨sp, cq, h2, h4, h1⟩

theorem joins_many (p : Option Addr) (n cp : Nat) (l a b : List UInt8) (w : World) (h : SlAt w p n 128 (bv l)) (ha : a.length = 128) (hb : b.length = 128) (hn : 700 < n) :
    Calls Try.prog 6 [.slice p n cp, .agg (bv a).toArray, .agg (bv b).toArray].toArray w (Ret fun v w' => v = .bool true ∧ Below w.heap.size w w') := by
  have hB := Below.refl w.heap.size w
  have hBi := Below.refl w.heap.size w
  have hba : (bv a).length = 128 := by rw [bv_length, ha]
  have hbb : (bv b).length = 128 := by rw [bv_length, hb]
  have hat : (a.take 64).length = 64 := by rw [List.length_take, ha]; rfl
  have htl : (tornB a b).length = 128 := tornB_length _ _ ha hb
  refine calls_W (fn := Try.f6) (rs := [.tmp 6]) (n := 88) Try.func6 rfl rfl Try.ntmps6 (by kernel_rfl) rfl ?_
  refine W_seq ?_
  refine W_region ?_
  refine WR_mk rfl (mk_box (bv a) rfl (fun g4 w4 hg4 hr4 hb4 => ?_))
  have ge_hB_g4 := Nat.le_trans hB.size hg4
  replace hB := hB.acc hb4
  refine WR_mk rfl (mk_box (bv b) rfl (fun g5 w5 hg5 hr5 hb5 => ?_))
  have ge_hB_g5 := Nat.le_trans hB.size hg5
  have lt_g4_g5 : g4 < g5 := Nat.lt_of_lt_of_le hr4.lt hg5
  replace hr4 := hr4.new hb5
  replace hB := hB.acc hb5
  refine WR_val rfl (rn_assign) ?_
  refine WR_nil ?_
  refine thenN ?_
  refine W_seq ?_
  refine W_seq ?_
  refine W_region ?_
  refine WR_val rfl (rn_move) ?_
  refine WR_val rfl (rn_lenSl (e := 48) (sz := 128) (by kernel_rfl) rfl rfl) ?_
  refine WR_val rfl (rn_gtr rfl rfl) ?_
  refine WR_nil ?_
  refine thenN ?_
  refine W_tp rfl ((by omega)) ?_
  refine W_seq ?_
  refine W_region ?_
  refine WR_ent rfl (rn_call (by kernel_rfl) rfl) (knownC w5) ?_
  rintro _ w19 ⟨rfl, hb19⟩
  replace hr4 := hr4.new hb19
  replace hr5 := hr5.new hb19
  replace hB := hB.acc hb19
  refine WR_val rfl (rn_assign) ?_
  refine WR_nil ?_
  refine thenN ?_
  refine W_ret ?_
  refine thenR ?_
  refine ret_ret [_] ⟨rfl, trivial⟩ ?_
  exact ⟨rfl, hB⟩
theorem joins_no (p : Option Addr) (n cp : Nat) (l a b : List UInt8) (w : World) (h : SlAt w p n 128 (bv l)) (ha : a.length = 128) (hb : b.length = 128) (hn : n ≤ 700) (hj : joinIs l n = false) :
    Calls Try.prog 6 [.slice p n cp, .agg (bv a).toArray, .agg (bv b).toArray].toArray w (Ret fun v w' => v = .bool true ∧ Below w.heap.size w w') := by
  have hB := Below.refl w.heap.size w
  have hBi := Below.refl w.heap.size w
  have hba : (bv a).length = 128 := by rw [bv_length, ha]
  have hbb : (bv b).length = 128 := by rw [bv_length, hb]
  have hat : (a.take 64).length = 64 := by rw [List.length_take, ha]; rfl
  have htl : (tornB a b).length = 128 := tornB_length _ _ ha hb
  refine calls_W (fn := Try.f6) (rs := [.tmp 6]) (n := 88) Try.func6 rfl rfl Try.ntmps6 (by kernel_rfl) rfl ?_
  refine W_seq ?_
  refine W_region ?_
  refine WR_mk rfl (mk_box (bv a) rfl (fun g4 w4 hg4 hr4 hb4 => ?_))
  have ge_hB_g4 := Nat.le_trans hB.size hg4
  have ge_hBi_g4 := Nat.le_trans hBi.size hg4
  replace hB := hB.acc hb4
  replace hBi := hBi.acc hb4
  refine WR_mk rfl (mk_box (bv b) rfl (fun g5 w5 hg5 hr5 hb5 => ?_))
  have ge_hB_g5 := Nat.le_trans hB.size hg5
  have ge_hBi_g5 := Nat.le_trans hBi.size hg5
  have lt_g4_g5 : g4 < g5 := Nat.lt_of_lt_of_le hr4.lt hg5
  replace hr4 := hr4.new hb5
  replace hB := hB.acc hb5
  replace hBi := hBi.acc hb5
  refine WR_val rfl (rn_assign) ?_
  refine WR_nil ?_
  refine thenN ?_
  refine W_seq ?_
  refine W_seq ?_
  refine W_region ?_
  refine WR_val rfl (rn_move) ?_
  refine WR_val rfl (rn_lenSl (e := 48) (sz := 128) (by kernel_rfl) rfl rfl) ?_
  refine WR_val rfl (rn_gtr rfl rfl) ?_
  refine WR_nil ?_
  refine thenN ?_
  refine W_fp rfl ((by omega)) ?_
  refine W_skip ?_
  refine thenN ?_
  refine W_seq ?_
  refine W_region ?_
  refine WR_val rfl (rn_move) ?_
  refine WR_mk rfl (mk_append (e := 48) (sz := 128) (bytes := 128) (z := .agg (List.replicate 128 (Value.int .u8 0)).toArray) (by kernel_rfl) rfl (by kernel_rfl) rfl (by decide) rfl (ownsAt_nil w5 w5.heap.size 48 128) rfl (h.below hBi (Nat.le_refl _)) (bv_one _) (by unfold maxLen; omega) (by omega) (fun _ => Nat.le_refl _) (fun v21 w21 hv21 hgr21 hfr21 => ?_))
  have hb21 := below_of_nil hgr21
  replace hr4 := hr4.new hb21
  replace hr5 := hr5.new hb21
  replace hB := hB.acc hb21
  replace hBi := hBi.acc hb21
  rw [Nat.zero_add, List.nil_append] at hv21
  obtain ⟨q7, c7, rfl⟩ := hv21.form
  have hx7 := hv21.sl
  have hBj := Below.refl w21.heap.size w21
  refine WR_val rfl (rn_assign) ?_
  refine WR_nil ?_
  refine thenN ?_
  refine W_seq ?_
  refine W_region ?_
  refine WR_val rfl (rn_move) ?_
  refine WR_ent rfl (rn_call (by kernel_rfl) rfl) (joinNot _ n _ l w21 (hx7.below hBj (Nat.le_refl _)) (by omega) hj) ?_
  rintro _ w24 ⟨rfl, hb24⟩
  replace hr4 := hr4.new hb24
  replace hr5 := hr5.new hb24
  replace hB := hB.acc hb24
  replace hBi := hBi.acc hb24
  replace hBj := hBj.acc hb24
  refine WR_val rfl (rn_move) ?_
  refine WR_val rfl (rn_extract rfl rfl) ?_
  refine WR_val rfl (rn_extract rfl rfl) ?_
  refine WR_val rfl (rn_extract rfl rfl) ?_
  refine WR_val rfl (rn_extract rfl rfl) ?_
  refine WR_mk rfl (mk_alloc ([.int .u64 0, .int .i64 0]) (by kernel_rfl) (fun g8 w8 hg8 hr8 hb8 => ?_))
  have ge_hB_g8 := Nat.le_trans hB.size hg8
  have ge_hBi_g8 := Nat.le_trans hBi.size hg8
  have ge_hBj_g8 := Nat.le_trans hBj.size hg8
  have lt_g4_g8 : g4 < g8 := Nat.lt_of_lt_of_le hr4.lt hg8
  have lt_g5_g8 : g5 < g8 := Nat.lt_of_lt_of_le hr5.lt hg8
  replace hr4 := hr4.new hb8
  replace hr5 := hr5.new hb8
  replace hB := hB.acc hb8
  replace hBi := hBi.acc hb8
  replace hBj := hBj.acc hb8
  refine WR_sk rfl (sk_storeA 2 ([.int .u64 0, .int .i64 0]) rfl rfl hr8 (by kernel_rfl) (by first | assumption | (simp; done) | (simp [bv_length, *]; done)) (by first | (simp; done) | (simp [bv_length, *]; done) | rfl) (by first | exact bv_one _ | assumption | (simp [Value.oneCell']; done)) (fun w901 hr8 ho901 => ?_))
  replace hr4 := hr4.only ho901 (Nat.ne_of_lt lt_g4_g8)
  replace hr5 := hr5.only ho901 (Nat.ne_of_lt lt_g5_g8)
  replace hB := ho901.below hB ge_hB_g8
  replace hBi := ho901.below hBi ge_hBi_g8
  replace hBj := ho901.below hBj ge_hBj_g8
  refine WR_val rfl (rn_assign) ?_
  refine WR_val rfl (rn_assign) ?_
  refine WR_val rfl (rn_assign) ?_
  refine WR_nil ?_
  refine thenN ?_
  refine W_seq ?_
  refine W_region ?_
  refine WR_val rfl (rn_move) ?_
  refine WR_ent rfl (rn_call (by kernel_rfl) rfl) (refNot _ n _ l w901 (h.below hBi (Nat.le_refl _)) (by omega) hj) ?_
  rintro _ w31 ⟨rfl, hb31⟩
  replace hr4 := hr4.new hb31
  replace hr5 := hr5.new hb31
  replace hr8 := hr8.new hb31
  replace hB := hB.acc hb31
  replace hBi := hBi.acc hb31
  replace hBj := hBj.acc hb31
  refine WR_val rfl (rn_move) ?_
  refine WR_val rfl (rn_extract rfl rfl) ?_
  refine WR_val rfl (rn_extract rfl rfl) ?_
  refine WR_val rfl (rn_extract rfl rfl) ?_
  refine WR_val rfl (rn_extract rfl rfl) ?_
  refine WR_mk rfl (mk_alloc ([.int .u64 0, .int .i64 0]) (by kernel_rfl) (fun g12 w12 hg12 hr12 hb12 => ?_))
  have ge_hB_g12 := Nat.le_trans hB.size hg12
  have ge_hBi_g12 := Nat.le_trans hBi.size hg12
  have ge_hBj_g12 := Nat.le_trans hBj.size hg12
  have lt_g4_g12 : g4 < g12 := Nat.lt_of_lt_of_le hr4.lt hg12
  have lt_g5_g12 : g5 < g12 := Nat.lt_of_lt_of_le hr5.lt hg12
  have lt_g8_g12 : g8 < g12 := Nat.lt_of_lt_of_le hr8.lt hg12
  replace hr4 := hr4.new hb12
  replace hr5 := hr5.new hb12
  replace hr8 := hr8.new hb12
  replace hB := hB.acc hb12
  replace hBi := hBi.acc hb12
  replace hBj := hBj.acc hb12
  refine WR_sk rfl (sk_storeA 2 ([.int .u64 0, .int .i64 0]) rfl rfl hr12 (by kernel_rfl) (by first | assumption | (simp; done) | (simp [bv_length, *]; done)) (by first | (simp; done) | (simp [bv_length, *]; done) | rfl) (by first | exact bv_one _ | assumption | (simp [Value.oneCell']; done)) (fun w902 hr12 ho902 => ?_))
  replace hr4 := hr4.only ho902 (Nat.ne_of_lt lt_g4_g12)
  replace hr5 := hr5.only ho902 (Nat.ne_of_lt lt_g5_g12)
  replace hr8 := hr8.only ho902 (Nat.ne_of_lt lt_g8_g12)
  replace hB := ho902.below hB ge_hB_g12
  replace hBi := ho902.below hBi ge_hBi_g12
  replace hBj := ho902.below hBj ge_hBj_g12
  refine WR_val rfl (rn_assign) ?_
  refine WR_val rfl (rn_assign) ?_
  refine WR_val rfl (rn_assign) ?_
  refine WR_nil ?_
  refine thenN ?_
  refine W_seq ?_
  refine W_seq ?_
  refine W_region ?_
  refine WR_val rfl (rn_load rfl (Ld.rowA (k := 2) hr8 (by kernel_rfl) (by kernel_rfl) (by first | (simp; done) | (simp [bv_length, *]; done)))) ?_
  refine WR_val rfl (rn_load rfl (Ld.rowA (k := 2) hr12 (by kernel_rfl) (by kernel_rfl) (by first | (simp; done) | (simp [bv_length, *]; done)))) ?_
  refine WR_val rfl (rn_neqP (k0 := .u64) (k1 := .i64) (by kernel_rfl) rfl rfl) ?_
  refine WR_val rfl (rn_move) ?_
  refine WR_fb 39 rfl ((by simp)) ?_
  refine WR_yes rfl ?_
  refine WR_val rfl (rn_move) ?_
  refine WR_yes rfl ?_
  refine WR_val rfl (rn_str (e := 5) (l := []) (by kernel_rfl) (by kernel_rfl) (by kernel_rfl) rfl (SlAt.nil _ _ _)) ?_
  refine WR_yes rfl ?_
  refine WR_val rfl (rn_move) ?_
  refine WR_yes rfl ?_
  refine WR_val rfl (rn_str (e := 5) (l := []) (by kernel_rfl) (by kernel_rfl) (by kernel_rfl) rfl (SlAt.nil _ _ _)) ?_
  refine WR_yes rfl ?_
  refine WR_val rfl (rn_neqS rfl rfl) ?_
  refine WR_val rfl (rn_pick_f rfl) ?_
  refine WR_val rfl (rn_move) ?_
  refine WR_fb 46 rfl ((by simp)) ?_
  refine WR_yes rfl ?_
  refine WR_val rfl (rn_move) ?_
  refine WR_yes rfl ?_
  refine WR_val rfl (rn_move) ?_
  refine WR_yes rfl ?_
  refine WR_val rfl (rn_neq rfl rfl) ?_
  refine WR_val rfl (rn_pick_f rfl) ?_
  refine WR_val rfl (rn_move) ?_
  refine WR_fp 51 rfl ((by simp)) ?_
  refine WR_yes rfl ?_
  refine WR_val rfl (rn_move) ?_
  refine WR_yes rfl ?_
  refine WR_val rfl (rn_eql rfl rfl) ?_
  refine WR_yes rfl ?_
  refine WR_val rfl (rn_move) ?_
  refine WR_yes rfl ?_
  refine WR_val rfl (rn_neqb (by kernel_rfl) rfl rfl) ?_
  refine WR_val rfl (rn_pick_f rfl) ?_
  refine WR_val rfl (rn_move) ?_
  refine WR_fn 57 rfl ((by decide)) ?_
  refine WR_yes rfl ?_
  refine WR_val rfl (rn_move) ?_
  refine WR_yes rfl ?_
  refine WR_val rfl (rn_not rfl) ?_
  refine WR_yes rfl ?_
  refine WR_val rfl (rn_move) ?_
  refine WR_tnb 60 rfl (rfl) ?_
  refine WR_yes rfl ?_
  refine WR_val rfl (rn_move) ?_
  refine WR_yes rfl ?_
  refine WR_val rfl (rn_neq rfl rfl) ?_
  refine WR_yes rfl ?_
  refine WR_val rfl (rn_pick_t rfl) ?_
  refine WR_val rfl (rn_pick_f rfl) ?_
  refine WR_val rfl (rn_move) ?_
  refine WR_fp 65 rfl ((by decide)) ?_
  refine WR_yes rfl ?_
  refine WR_val rfl (rn_move) ?_
  refine WR_yes rfl ?_
  refine WR_val rfl (rn_move) ?_
  refine WR_yes rfl ?_
  refine WR_ent rfl (rn_call (by kernel_rfl) rfl) (sameC _ _ n _ _ l w902 (hx7.below hBj (Nat.le_refl _)) (h.below hBi (Nat.le_refl _)) (by omega)) ?_
  rintro _ w68 ⟨rfl, hb68⟩
  replace hr4 := hr4.new hb68
  replace hr5 := hr5.new hb68
  replace hr8 := hr8.new hb68
  replace hr12 := hr12.new hb68
  replace hB := hB.acc hb68
  replace hBi := hBi.acc hb68
  replace hBj := hBj.acc hb68
  refine WR_yes rfl ?_
  refine WR_val rfl (rn_not rfl) ?_
  refine WR_val rfl (rn_pick_f rfl) ?_
  refine WR_nil ?_
  refine thenN ?_
  refine W_fnb rfl (rfl) ?_
  refine W_skip ?_
  refine thenN ?_
  refine W_seq ?_
  refine W_draw' [] (by kernel_rfl) ?_
  intro w903 hb903 hS903
  replace hr4 := hr4.new hb903
  replace hr5 := hr5.new hb903
  replace hr8 := hr8.new hb903
  replace hr12 := hr12.new hb903
  replace hB := hB.acc hb903
  replace hBi := hBi.acc hb903
  replace hBj := hBj.acc hb903
  have hr4_d903 := hr4
  have hr5_d903 := hr5
  have hr8_d903 := hr8
  have hr12_d903 := hr12
  have hB_d903 := hB
  have hBi_d903 := hBi
  have hBj_d903 := hBj
  refine WA_take 0 (by kernel_rfl) rfl (fun w' hS' => rn_load rfl (Ld.rowA (k := 128) (hr4_d903.kpd hS' (by first | (simp; done) | (simp; omega))) (by kernel_rfl) (by kernel_rfl) hba)) ?_
  refine WA_take 2 (by kernel_rfl) rfl (fun _ _ => rn_sliceAr1' (e := 5) (0) (64) (128) (64) (by kernel_rfl) rfl rfl ⟨_, _, rfl, rfl⟩ rfl (by simp) (by omega) (by omega) (by omega) (by omega) (by omega)) ?_
  refine WA_one 1 (by kernel_rfl) ?_
  refine WO_ent rfl rfl (rn_call (by kernel_rfl) rfl) (tag21r a ha w903) ?_
  rintro _ w72 ⟨rfl, hb72⟩
  have hS904 := hS903.add0 hb72
  refine ⟨hS904, ?_⟩
  replace hr4 := hr4.new hb72
  replace hr5 := hr5.new hb72
  replace hr8 := hr8.new hb72
  replace hr12 := hr12.new hb72
  replace hB := hB.acc hb72
  replace hBi := hBi.acc hb72
  replace hBj := hBj.acc hb72
  refine WA_one 3 (by kernel_rfl) ?_
  have hs64 := hr4.slB 0 64 (by omega) (by unfold maxLen; omega)
  rw [List.drop_zero] at hs64
  refine WO_ent rfl rfl (rn_call (by kernel_rfl) rfl) (tag25 (a.take 64) hat _ _ _ w72 hs64 (by omega)) ?_
  rintro _ w74 ⟨rfl, hb74⟩
  have hS905 := hS904.add0 hb74
  refine ⟨hS905, ?_⟩
  replace hr4 := hr4.new hb74
  replace hr5 := hr5.new hb74
  replace hr8 := hr8.new hb74
  replace hr12 := hr12.new hb74
  replace hB := hB.acc hb74
  replace hBi := hBi.acc hb74
  replace hBj := hBj.acc hb74
  refine WA_take 4 (by kernel_rfl) rfl (fun _ _ => rn_eqlP (k0 := .u64) (k1 := .i64) (by kernel_rfl) rfl rfl) ?_
  refine WA_take 5 (by kernel_rfl) rfl (fun _ _ => rn_move) ?_
  refine WA_tb 76 rfl ((by simp)) ?_
  refine WA_take 6 (by kernel_rfl) rfl (fun w' hS' => rn_load rfl (Ld.rowA (k := 128) (hr4_d903.kpd hS' (by first | (simp; done) | (simp; omega))) (by kernel_rfl) (by kernel_rfl) hba)) ?_
  refine WA_take 7 (by kernel_rfl) rfl (fun w' hS' => rn_load rfl (Ld.rowA (k := 128) (hr5_d903.kpd hS' (by first | (simp; done) | (simp; omega))) (by kernel_rfl) (by kernel_rfl) hbb)) ?_
  refine WA_take 9 (by kernel_rfl) rfl (fun w' hS' => rn_load rfl (Ld.rowA (k := 128) (hr4_d903.kpd hS' (by first | (simp; done) | (simp; omega))) (by kernel_rfl) (by kernel_rfl) hba)) ?_
  refine WA_take 10 (by kernel_rfl) rfl (fun w' hS' => rn_load rfl (Ld.rowA (k := 128) (hr5_d903.kpd hS' (by first | (simp; done) | (simp; omega))) (by kernel_rfl) (by kernel_rfl) hbb)) ?_
  refine WA_one 8 (by kernel_rfl) ?_
  refine WO_ent rfl rfl (rn_call (by kernel_rfl) rfl) (torn23r a b ha hb w74) ?_
  rintro _ w79 ⟨rfl, hb79⟩
  have hS906 := hS905.add0 hb79
  refine ⟨hS906, ?_⟩
  replace hr4 := hr4.new hb79
  replace hr5 := hr5.new hb79
  replace hr8 := hr8.new hb79
  replace hr12 := hr12.new hb79
  replace hB := hB.acc hb79
  replace hBi := hBi.acc hb79
  replace hBj := hBj.acc hb79
  refine WA_one 11 (by kernel_rfl) ?_
  refine WO_ent rfl rfl (rn_call (by kernel_rfl) rfl) (torn35 a b ha hb w79) ?_
  rintro _ w82 ⟨rfl, hb82⟩
  have hS907 := hS906.add0 hb82
  refine ⟨hS907, ?_⟩
  replace hr4 := hr4.new hb82
  replace hr5 := hr5.new hb82
  replace hr8 := hr8.new hb82
  replace hr12 := hr12.new hb82
  replace hB := hB.acc hb82
  replace hBi := hBi.acc hb82
  replace hBj := hBj.acc hb82
  refine WA_take 12 (by kernel_rfl) rfl (fun _ _ => rn_eqlA (n := 128) (by kernel_rfl) rfl rfl htl htl) ?_
  refine WA_take 13 (by kernel_rfl) rfl (fun _ _ => rn_pick_t rfl) ?_
  refine WA_take 14 (by kernel_rfl) rfl (fun _ _ => rn_move) ?_
  refine WA_tp 85 rfl ((by simp [tornB])) ?_
  refine WA_one 15 (by kernel_rfl) ?_
  refine WO_ent rfl rfl (rn_call (by kernel_rfl) rfl) (knownC w82) ?_
  rintro _ w86 ⟨rfl, hb86⟩
  have hS908 := hS907.add0 hb86
  refine ⟨hS908, ?_⟩
  replace hr4 := hr4.new hb86
  replace hr5 := hr5.new hb86
  replace hr8 := hr8.new hb86
  replace hr12 := hr12.new hb86
  replace hB := hB.acc hb86
  replace hBi := hBi.acc hb86
  replace hBj := hBj.acc hb86
  refine WA_take 16 (by kernel_rfl) rfl (fun _ _ => rn_pick_t rfl) ?_
  refine WA_take 17 (by kernel_rfl) rfl (fun _ _ => rn_assign) ?_
  refine WA_done (by kernel_rfl) ?_
  refine thenN ?_
  refine W_ret ?_
  refine ret_ret [_] ⟨rfl, trivial⟩ ?_
  exact ⟨rfl, hB⟩
theorem joins_yes (p : Option Addr) (n cp : Nat) (l a b : List UInt8) (w : World) (h : SlAt w p n 128 (bv l)) (ha : a.length = 128) (hb : b.length = 128) (hn : n ≤ 700) (c nn : Nat) (B : List UInt8) (hj : Told l n c nn B) :
    Calls Try.prog 6 [.slice p n cp, .agg (bv a).toArray, .agg (bv b).toArray].toArray w (Ret fun v w' => v = .bool true ∧ Below w.heap.size w w') := by
  have hB := Below.refl w.heap.size w
  have hBi := Below.refl w.heap.size w
  have hba : (bv a).length = 128 := by rw [bv_length, ha]
  have hbb : (bv b).length = 128 := by rw [bv_length, hb]
  have hat : (a.take 64).length = 64 := by rw [List.length_take, ha]; rfl
  have htl : (tornB a b).length = 128 := tornB_length _ _ ha hb
  refine calls_W (fn := Try.f6) (rs := [.tmp 6]) (n := 88) Try.func6 rfl rfl Try.ntmps6 (by kernel_rfl) rfl ?_
  refine W_seq ?_
  refine W_region ?_
  refine WR_mk rfl (mk_box (bv a) rfl (fun g4 w4 hg4 hr4 hb4 => ?_))
  have ge_hB_g4 := Nat.le_trans hB.size hg4
  have ge_hBi_g4 := Nat.le_trans hBi.size hg4
  replace hB := hB.acc hb4
  replace hBi := hBi.acc hb4
  refine WR_mk rfl (mk_box (bv b) rfl (fun g5 w5 hg5 hr5 hb5 => ?_))
  have ge_hB_g5 := Nat.le_trans hB.size hg5
  have ge_hBi_g5 := Nat.le_trans hBi.size hg5
  have lt_g4_g5 : g4 < g5 := Nat.lt_of_lt_of_le hr4.lt hg5
  replace hr4 := hr4.new hb5
  replace hB := hB.acc hb5
  replace hBi := hBi.acc hb5
  refine WR_val rfl (rn_assign) ?_
  refine WR_nil ?_
  refine thenN ?_
  refine W_seq ?_
  refine W_seq ?_
  refine W_region ?_
  refine WR_val rfl (rn_move) ?_
  refine WR_val rfl (rn_lenSl (e := 48) (sz := 128) (by kernel_rfl) rfl rfl) ?_
  refine WR_val rfl (rn_gtr rfl rfl) ?_
  refine WR_nil ?_
  refine thenN ?_
  refine W_fp rfl ((by omega)) ?_
  refine W_skip ?_
  refine thenN ?_
  refine W_seq ?_
  refine W_region ?_
  refine WR_val rfl (rn_move) ?_
  refine WR_mk rfl (mk_append (e := 48) (sz := 128) (bytes := 128) (z := .agg (List.replicate 128 (Value.int .u8 0)).toArray) (by kernel_rfl) rfl (by kernel_rfl) rfl (by decide) rfl (ownsAt_nil w5 w5.heap.size 48 128) rfl (h.below hBi (Nat.le_refl _)) (bv_one _) (by unfold maxLen; omega) (by omega) (fun _ => Nat.le_refl _) (fun v21 w21 hv21 hgr21 hfr21 => ?_))
  have hb21 := below_of_nil hgr21
  replace hr4 := hr4.new hb21
  replace hr5 := hr5.new hb21
  replace hB := hB.acc hb21
  replace hBi := hBi.acc hb21
  rw [Nat.zero_add, List.nil_append] at hv21
  obtain ⟨q7, c7, rfl⟩ := hv21.form
  have hx7 := hv21.sl
  have hBj := Below.refl w21.heap.size w21
  refine WR_val rfl (rn_assign) ?_
  refine WR_nil ?_
  refine thenN ?_
  refine W_seq ?_
  refine W_region ?_
  refine WR_val rfl (rn_move) ?_
  refine WR_ent rfl (rn_call (by kernel_rfl) rfl) (joinYes _ n _ c nn B l w21 (hx7.below hBj (Nat.le_refl _)) (by omega) hj) ?_
  rintro _ w24 ⟨sp, rfl, hsp, hb24⟩
  replace hr4 := hr4.new hb24
  replace hr5 := hr5.new hb24
  replace hB := hB.acc hb24
  replace hBi := hBi.acc hb24
  replace hBj := hBj.acc hb24
  have hBk := Below.refl w24.heap.size w24
  refine WR_val rfl (rn_move) ?_
  refine WR_val rfl (rn_extract rfl rfl) ?_
  refine WR_val rfl (rn_extract rfl rfl) ?_
  refine WR_val rfl (rn_extract rfl rfl) ?_
  refine WR_val rfl (rn_extract rfl rfl) ?_
  refine WR_mk rfl (mk_alloc ([.int .u64 0, .int .i64 0]) (by kernel_rfl) (fun g8 w8 hg8 hr8 hb8 => ?_))
  have ge_hB_g8 := Nat.le_trans hB.size hg8
  have ge_hBi_g8 := Nat.le_trans hBi.size hg8
  have ge_hBj_g8 := Nat.le_trans hBj.size hg8
  have ge_hBk_g8 := Nat.le_trans hBk.size hg8
  have lt_g4_g8 : g4 < g8 := Nat.lt_of_lt_of_le hr4.lt hg8
  have lt_g5_g8 : g5 < g8 := Nat.lt_of_lt_of_le hr5.lt hg8
  replace hr4 := hr4.new hb8
  replace hr5 := hr5.new hb8
  replace hB := hB.acc hb8
  replace hBi := hBi.acc hb8
  replace hBj := hBj.acc hb8
  replace hBk := hBk.acc hb8
  refine WR_sk rfl (sk_storeA 2 ([.int .u64 c, .int .i64 nn]) rfl rfl hr8 (by kernel_rfl) (by first | assumption | (simp; done) | (simp [bv_length, *]; done)) (by first | (simp; done) | (simp [bv_length, *]; done) | rfl) (by first | exact bv_one _ | assumption | (simp [Value.oneCell']; done)) (fun w901 hr8 ho901 => ?_))
  replace hr4 := hr4.only ho901 (Nat.ne_of_lt lt_g4_g8)
  replace hr5 := hr5.only ho901 (Nat.ne_of_lt lt_g5_g8)
  replace hB := ho901.below hB ge_hB_g8
  replace hBi := ho901.below hBi ge_hBi_g8
  replace hBj := ho901.below hBj ge_hBj_g8
  replace hBk := ho901.below hBk ge_hBk_g8
  refine WR_val rfl (rn_assign) ?_
  refine WR_val rfl (rn_assign) ?_
  refine WR_val rfl (rn_assign) ?_
  refine WR_nil ?_
  refine thenN ?_
  refine W_seq ?_
  refine W_region ?_
  refine WR_val rfl (rn_move) ?_
  refine WR_ent rfl (rn_call (by kernel_rfl) rfl) (refYes _ n _ c nn B l w901 (h.below hBi (Nat.le_refl _)) (by omega) hj) ?_
  rintro _ w31 ⟨sp2, cq2, rfl, hsp2, hb31⟩
  replace hr4 := hr4.new hb31
  replace hr5 := hr5.new hb31
  replace hr8 := hr8.new hb31
  replace hB := hB.acc hb31
  replace hBi := hBi.acc hb31
  replace hBj := hBj.acc hb31
  replace hBk := hBk.acc hb31
  have hBl := Below.refl w31.heap.size w31
  refine WR_val rfl (rn_move) ?_
  refine WR_val rfl (rn_extract rfl rfl) ?_
  refine WR_val rfl (rn_extract rfl rfl) ?_
  refine WR_val rfl (rn_extract rfl rfl) ?_
  refine WR_val rfl (rn_extract rfl rfl) ?_
  refine WR_mk rfl (mk_alloc ([.int .u64 0, .int .i64 0]) (by kernel_rfl) (fun g12 w12 hg12 hr12 hb12 => ?_))
  have ge_hB_g12 := Nat.le_trans hB.size hg12
  have ge_hBi_g12 := Nat.le_trans hBi.size hg12
  have ge_hBj_g12 := Nat.le_trans hBj.size hg12
  have ge_hBk_g12 := Nat.le_trans hBk.size hg12
  have ge_hBl_g12 := Nat.le_trans hBl.size hg12
  have lt_g4_g12 : g4 < g12 := Nat.lt_of_lt_of_le hr4.lt hg12
  have lt_g5_g12 : g5 < g12 := Nat.lt_of_lt_of_le hr5.lt hg12
  have lt_g8_g12 : g8 < g12 := Nat.lt_of_lt_of_le hr8.lt hg12
  replace hr4 := hr4.new hb12
  replace hr5 := hr5.new hb12
  replace hr8 := hr8.new hb12
  replace hB := hB.acc hb12
  replace hBi := hBi.acc hb12
  replace hBj := hBj.acc hb12
  replace hBk := hBk.acc hb12
  replace hBl := hBl.acc hb12
  refine WR_sk rfl (sk_storeA 2 ([.int .u64 c, .int .i64 nn]) rfl rfl hr12 (by kernel_rfl) (by first | assumption | (simp; done) | (simp [bv_length, *]; done)) (by first | (simp; done) | (simp [bv_length, *]; done) | rfl) (by first | exact bv_one _ | assumption | (simp [Value.oneCell']; done)) (fun w902 hr12 ho902 => ?_))
  replace hr4 := hr4.only ho902 (Nat.ne_of_lt lt_g4_g12)
  replace hr5 := hr5.only ho902 (Nat.ne_of_lt lt_g5_g12)
  replace hr8 := hr8.only ho902 (Nat.ne_of_lt lt_g8_g12)
  replace hB := ho902.below hB ge_hB_g12
  replace hBi := ho902.below hBi ge_hBi_g12
  replace hBj := ho902.below hBj ge_hBj_g12
  replace hBk := ho902.below hBk ge_hBk_g12
  replace hBl := ho902.below hBl ge_hBl_g12
  refine WR_val rfl (rn_assign) ?_
  refine WR_val rfl (rn_assign) ?_
  refine WR_val rfl (rn_assign) ?_
  refine WR_nil ?_
  refine thenN ?_
  refine W_seq ?_
  refine W_seq ?_
  refine W_region ?_
  refine WR_val rfl (rn_load rfl (Ld.rowA (k := 2) hr8 (by kernel_rfl) (by kernel_rfl) (by first | (simp; done) | (simp [bv_length, *]; done)))) ?_
  refine WR_val rfl (rn_load rfl (Ld.rowA (k := 2) hr12 (by kernel_rfl) (by kernel_rfl) (by first | (simp; done) | (simp [bv_length, *]; done)))) ?_
  refine WR_val rfl (rn_neqP (k0 := .u64) (k1 := .i64) (by kernel_rfl) rfl rfl) ?_
  refine WR_val rfl (rn_move) ?_
  refine WR_fb 39 rfl ((by simp)) ?_
  refine WR_yes rfl ?_
  refine WR_val rfl (rn_move) ?_
  refine WR_yes rfl ?_
  refine WR_val rfl (rn_str (e := 5) (l := B) (by kernel_rfl) (by kernel_rfl) (by kernel_rfl) rfl (hsp.below hBk (Nat.le_refl _))) ?_
  refine WR_yes rfl ?_
  refine WR_val rfl (rn_move) ?_
  refine WR_yes rfl ?_
  refine WR_val rfl (rn_str (e := 5) (l := B) (by kernel_rfl) (by kernel_rfl) (by kernel_rfl) rfl (hsp2.below hBl (Nat.le_refl _))) ?_
  refine WR_yes rfl ?_
  refine WR_val rfl (rn_neqS rfl rfl) ?_
  refine WR_val rfl (rn_pick_f rfl) ?_
  refine WR_val rfl (rn_move) ?_
  refine WR_fb 46 rfl ((by simp)) ?_
  refine WR_yes rfl ?_
  refine WR_val rfl (rn_move) ?_
  refine WR_yes rfl ?_
  refine WR_val rfl (rn_move) ?_
  refine WR_yes rfl ?_
  refine WR_val rfl (rn_neq rfl rfl) ?_
  refine WR_val rfl (rn_pick_f rfl) ?_
  refine WR_val rfl (rn_move) ?_
  refine WR_fp 51 rfl ((by simp)) ?_
  refine WR_yes rfl ?_
  refine WR_val rfl (rn_move) ?_
  refine WR_yes rfl ?_
  refine WR_val rfl (rn_eql rfl rfl) ?_
  refine WR_yes rfl ?_
  refine WR_val rfl (rn_move) ?_
  refine WR_yes rfl ?_
  refine WR_val rfl (rn_neqb (by kernel_rfl) rfl rfl) ?_
  refine WR_val rfl (rn_pick_f rfl) ?_
  refine WR_val rfl (rn_move) ?_
  refine WR_fn 57 rfl ((by decide)) ?_
  refine WR_yes rfl ?_
  refine WR_val rfl (rn_move) ?_
  refine WR_yes rfl ?_
  refine WR_val rfl (rn_not rfl) ?_
  refine WR_yes rfl ?_
  refine WR_val rfl (rn_move) ?_
  refine WR_fnb 60 rfl (rfl) ?_
  refine WR_no rfl rfl ?_
  refine WR_no rfl rfl ?_
  refine WR_yes rfl ?_
  refine WR_val rfl (rn_pick_f rfl) ?_
  refine WR_val rfl (rn_pick_f rfl) ?_
  refine WR_val rfl (rn_move) ?_
  refine WR_yes rfl ?_
  refine WR_val rfl (rn_move) ?_
  refine WR_yes rfl ?_
  refine WR_val rfl (rn_move) ?_
  refine WR_yes rfl ?_
  refine WR_ent rfl (rn_call (by kernel_rfl) rfl) (sameC _ _ n _ _ l w902 (hx7.below hBj (Nat.le_refl _)) (h.below hBi (Nat.le_refl _)) (by omega)) ?_
  rintro _ w68 ⟨rfl, hb68⟩
  replace hr4 := hr4.new hb68
  replace hr5 := hr5.new hb68
  replace hr8 := hr8.new hb68
  replace hr12 := hr12.new hb68
  replace hB := hB.acc hb68
  replace hBi := hBi.acc hb68
  replace hBj := hBj.acc hb68
  replace hBk := hBk.acc hb68
  replace hBl := hBl.acc hb68
  refine WR_yes rfl ?_
  refine WR_val rfl (rn_not rfl) ?_
  refine WR_val rfl (rn_pick_f rfl) ?_
  refine WR_nil ?_
  refine thenN ?_
  refine W_fnb rfl (rfl) ?_
  refine W_skip ?_
  refine thenN ?_
  refine W_seq ?_
  refine W_draw' [] (by kernel_rfl) ?_
  intro w903 hb903 hS903
  replace hr4 := hr4.new hb903
  replace hr5 := hr5.new hb903
  replace hr8 := hr8.new hb903
  replace hr12 := hr12.new hb903
  replace hB := hB.acc hb903
  replace hBi := hBi.acc hb903
  replace hBj := hBj.acc hb903
  replace hBk := hBk.acc hb903
  replace hBl := hBl.acc hb903
  have hr4_d903 := hr4
  have hr5_d903 := hr5
  have hr8_d903 := hr8
  have hr12_d903 := hr12
  have hB_d903 := hB
  have hBi_d903 := hBi
  have hBj_d903 := hBj
  have hBk_d903 := hBk
  have hBl_d903 := hBl
  refine WA_take 0 (by kernel_rfl) rfl (fun w' hS' => rn_load rfl (Ld.rowA (k := 128) (hr4_d903.kpd hS' (by first | (simp; done) | (simp; omega))) (by kernel_rfl) (by kernel_rfl) hba)) ?_
  refine WA_take 2 (by kernel_rfl) rfl (fun _ _ => rn_sliceAr1' (e := 5) (0) (64) (128) (64) (by kernel_rfl) rfl rfl ⟨_, _, rfl, rfl⟩ rfl (by simp) (by omega) (by omega) (by omega) (by omega) (by omega)) ?_
  refine WA_one 1 (by kernel_rfl) ?_
  refine WO_ent rfl rfl (rn_call (by kernel_rfl) rfl) (tag21r a ha w903) ?_
  rintro _ w72 ⟨rfl, hb72⟩
  have hS904 := hS903.add0 hb72
  refine ⟨hS904, ?_⟩
  replace hr4 := hr4.new hb72
  replace hr5 := hr5.new hb72
  replace hr8 := hr8.new hb72
  replace hr12 := hr12.new hb72
  replace hB := hB.acc hb72
  replace hBi := hBi.acc hb72
  replace hBj := hBj.acc hb72
  replace hBk := hBk.acc hb72
  replace hBl := hBl.acc hb72
  refine WA_one 3 (by kernel_rfl) ?_
  have hs64 := hr4.slB 0 64 (by omega) (by unfold maxLen; omega)
  rw [List.drop_zero] at hs64
  refine WO_ent rfl rfl (rn_call (by kernel_rfl) rfl) (tag25 (a.take 64) hat _ _ _ w72 hs64 (by omega)) ?_
  rintro _ w74 ⟨rfl, hb74⟩
  have hS905 := hS904.add0 hb74
  refine ⟨hS905, ?_⟩
  replace hr4 := hr4.new hb74
  replace hr5 := hr5.new hb74
  replace hr8 := hr8.new hb74
  replace hr12 := hr12.new hb74
  replace hB := hB.acc hb74
  replace hBi := hBi.acc hb74
  replace hBj := hBj.acc hb74
  replace hBk := hBk.acc hb74
  replace hBl := hBl.acc hb74
  refine WA_take 4 (by kernel_rfl) rfl (fun _ _ => rn_eqlP (k0 := .u64) (k1 := .i64) (by kernel_rfl) rfl rfl) ?_
  refine WA_take 5 (by kernel_rfl) rfl (fun _ _ => rn_move) ?_
  refine WA_tb 76 rfl ((by simp)) ?_
  refine WA_take 6 (by kernel_rfl) rfl (fun w' hS' => rn_load rfl (Ld.rowA (k := 128) (hr4_d903.kpd hS' (by first | (simp; done) | (simp; omega))) (by kernel_rfl) (by kernel_rfl) hba)) ?_
  refine WA_take 7 (by kernel_rfl) rfl (fun w' hS' => rn_load rfl (Ld.rowA (k := 128) (hr5_d903.kpd hS' (by first | (simp; done) | (simp; omega))) (by kernel_rfl) (by kernel_rfl) hbb)) ?_
  refine WA_take 9 (by kernel_rfl) rfl (fun w' hS' => rn_load rfl (Ld.rowA (k := 128) (hr4_d903.kpd hS' (by first | (simp; done) | (simp; omega))) (by kernel_rfl) (by kernel_rfl) hba)) ?_
  refine WA_take 10 (by kernel_rfl) rfl (fun w' hS' => rn_load rfl (Ld.rowA (k := 128) (hr5_d903.kpd hS' (by first | (simp; done) | (simp; omega))) (by kernel_rfl) (by kernel_rfl) hbb)) ?_
  refine WA_one 8 (by kernel_rfl) ?_
  refine WO_ent rfl rfl (rn_call (by kernel_rfl) rfl) (torn23r a b ha hb w74) ?_
  rintro _ w79 ⟨rfl, hb79⟩
  have hS906 := hS905.add0 hb79
  refine ⟨hS906, ?_⟩
  replace hr4 := hr4.new hb79
  replace hr5 := hr5.new hb79
  replace hr8 := hr8.new hb79
  replace hr12 := hr12.new hb79
  replace hB := hB.acc hb79
  replace hBi := hBi.acc hb79
  replace hBj := hBj.acc hb79
  replace hBk := hBk.acc hb79
  replace hBl := hBl.acc hb79
  refine WA_one 11 (by kernel_rfl) ?_
  refine WO_ent rfl rfl (rn_call (by kernel_rfl) rfl) (torn35 a b ha hb w79) ?_
  rintro _ w82 ⟨rfl, hb82⟩
  have hS907 := hS906.add0 hb82
  refine ⟨hS907, ?_⟩
  replace hr4 := hr4.new hb82
  replace hr5 := hr5.new hb82
  replace hr8 := hr8.new hb82
  replace hr12 := hr12.new hb82
  replace hB := hB.acc hb82
  replace hBi := hBi.acc hb82
  replace hBj := hBj.acc hb82
  replace hBk := hBk.acc hb82
  replace hBl := hBl.acc hb82
  refine WA_take 12 (by kernel_rfl) rfl (fun _ _ => rn_eqlA (n := 128) (by kernel_rfl) rfl rfl htl htl) ?_
  refine WA_take 13 (by kernel_rfl) rfl (fun _ _ => rn_pick_t rfl) ?_
  refine WA_take 14 (by kernel_rfl) rfl (fun _ _ => rn_move) ?_
  refine WA_tp 85 rfl ((by simp [tornB])) ?_
  refine WA_one 15 (by kernel_rfl) ?_
  refine WO_ent rfl rfl (rn_call (by kernel_rfl) rfl) (knownC w82) ?_
  rintro _ w86 ⟨rfl, hb86⟩
  have hS908 := hS907.add0 hb86
  refine ⟨hS908, ?_⟩
  replace hr4 := hr4.new hb86
  replace hr5 := hr5.new hb86
  replace hr8 := hr8.new hb86
  replace hr12 := hr12.new hb86
  replace hB := hB.acc hb86
  replace hBi := hBi.acc hb86
  replace hBj := hBj.acc hb86
  replace hBk := hBk.acc hb86
  replace hBl := hBl.acc hb86
  refine WA_take 16 (by kernel_rfl) rfl (fun _ _ => rn_pick_t rfl) ?_
  refine WA_take 17 (by kernel_rfl) rfl (fun _ _ => rn_assign) ?_
  refine WA_done (by kernel_rfl) ?_
  refine thenN ?_
  refine W_ret ?_
  refine ret_ret [_] ⟨rfl, trivial⟩ ?_
  exact ⟨rfl, hB⟩
theorem joinsC (p : Option Addr) (n cp : Nat) (l a b : List UInt8) (w : World) (h : SlAt w p n 128 (bv l)) (ha : a.length = 128) (hb : b.length = 128) :
    Calls Try.prog 6 [.slice p n cp, .agg (bv a).toArray, .agg (bv b).toArray].toArray w (Ret fun v w' => v = .bool true ∧ Below w.heap.size w w') := by
  by_cases hn : 700 < n
  · exact joins_many p n cp l a b w h ha hb hn
  · cases hj : joinIs l n with
    | false => exact joins_no p n cp l a b w h ha hb (by omega) hj
    | true => exact joins_yes p n cp l a b w h ha hb (by omega) _ _ _ ⟨hj, rfl, rfl, rfl⟩
end Go.Proofs.Ytnlocpldghpfcaa
