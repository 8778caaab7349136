/- What every law of the chapter asks: the chapter's rows; lists of sectors that are the same. -/
import Derived.Test.YtnlocpldghpfcaaHalfM
namespace Go.Proofs.Ytnlocpldghpfcaa
open Go Go.RowKit Coup

theorem torn23r (a b : List UInt8) (ha : a.length = 128) (hb : b.length = 128) (w : World) : Calls Try.prog 23 [.agg (bv a).toArray, .agg (bv b).toArray].toArray w (Ret fun v w' => v = .agg (bv (tornB a b)).toArray ∧ Below w.heap.size w w') := calls_ret (torn23 a b ha hb w)
theorem tag21r (s : List UInt8) (hs : s.length = 128) (w : World) : Calls Try.prog 21 [.agg (bv s).toArray].toArray w (Ret fun v w' => v = .agg #[.int .u64 (tagC (s.take 64)), .int .i64 (tagN (s.take 64))] ∧ Below w.heap.size w w') := calls_ret (tag21 s hs w)
theorem joinR (p : Option Addr) (n cp : Nat) (l : List UInt8) (w : World) (h : SlAt w p n 128 (bv l)) (hn : n ≤ 1000000) : Calls Try.prog 17 [.slice p n cp].toArray w (Ret fun v w' => JR l n w v w') := by
  by_cases h0 : 0 < n
  · cases hm : mayT (hCount (halfAt l 0)) (hNum (halfAt l 0)) with
    | true => exact joinT p n cp l w h hn h0 hm
    | false => exact joinF p n cp l w h hn h0 hm
  · obtain rfl : n = 0 := by omega
    exact join0 p cp l w
theorem joinNot (p : Option Addr) (n cp : Nat) (l : List UInt8) (w : World) (h : SlAt w p n 128 (bv l)) (hn : n ≤ 1000000) (hj : joinIs l n = false) : Calls Try.prog 17 [.slice p n cp].toArray w (Ret fun v w' => v = noneV ∧ Below w.heap.size w w') :=
  (joinR p n cp l w h hn).to fun v w' ⟨h1, h2⟩ => by
    rcases h2 with ⟨_, h2⟩ | ⟨h3, _⟩
    · exact ⟨h2, h1⟩
    · rw [hj] at h3; cases h3
theorem joinYes (p : Option Addr) (n cp c nn : Nat) (b l : List UInt8) (w : World) (h : SlAt w p n 128 (bv l)) (hn : n ≤ 1000000) (hj : Told l n c nn b) : Calls Try.prog 17 [.slice p n cp].toArray w
    (Ret fun v w' => ∃ sp, v = .tuple #[.agg #[.int .u64 c, .int .i64 nn], .slice sp b.length b.length, .int .i64 (needN b.length : Nat), .int .i64 0] ∧ SlAt w' sp b.length 1 (bv b) ∧ Below w.heap.size w w') :=
  (joinR p n cp l w h hn).to fun v w' ⟨h1, h2⟩ => by
    rcases h2 with ⟨h3, _⟩ | ⟨_, sp, h2, h4⟩
    · rw [hj.is] at h3; cases h3
    · rw [hj.c, hj.n, hj.b] at h2
      rw [hj.b] at h4
      exact ⟨sp, h2, h4, h1⟩

theorem known_torn : joinIs (tornB (rowB 1 0 (zerosB 60)) (zerosB 128)) 1 = false := by decide +kernel
theorem needN_small : needN 60 = 1 ∧ needZ 0 = 1 ∧ needZ 44 = 1 ∧ needZ 92 = 1 ∧ needZ 93 = 2 := by decide

theorem knownC (w : World) : Calls Try.prog 8 [].toArray w (Ret fun v w' => v = .bool true ∧ Below w.heap.size w w') := by
  have hB := Below.refl w.heap.size w
  have hzl : (zerosB 60).length = 60 := by simp [zerosB]
  have hRl : (rowB 1 0 (zerosB 60)).length = 128 := by rw [rowB_len, hzl]; rfl
  have hT : Told (rowB 1 0 (zerosB 60)) 1 1 0 (zerosB 60) := by
    have := told_row 1 0 (zerosB 60) [] 1 (by decide) (by rw [hzl]; omega) (by rw [hzl]; decide) (by rw [List.append_nil, hRl])
    rwa [List.append_nil] at this
  have hN := known_torn
  have hZl : (zerosB 128).length = 128 := by simp [zerosB]
  have hTl : (tornB (rowB 1 0 (zerosB 60)) (zerosB 128)).length = 128 := tornB_length _ _ hRl hZl
  obtain ⟨nn1, nn2, nn3, nn4, nn5⟩ := needN_small
  have hsp := fun p n c w' (h : SlAt w' p n 1 (bv (zerosB 60))) => split_yes 1 0 (by decide) (zerosB 60) p n c w' h
  have htn := fun w' => torn23r (rowB 1 0 (zerosB 60)) (zerosB 128) hRl hZl w'
  generalize tornB (rowB 1 0 (zerosB 60)) (zerosB 128) = T at *
  generalize rowB 1 0 (zerosB 60) = R at *
  have hbR : (bv R).length = 128 := by rw [bv_length, hRl]
  have hbT : (bv T).length = 128 := by rw [bv_length, hTl]
  refine calls_W (fn := Try.f8) (rs := [.tmp 0]) (n := 69) Try.func8 rfl rfl Try.ntmps8 (by kernel_rfl) rfl ?_
  refine W_seq ?_
  refine W_region ?_
  refine WR_val rfl (rn_assign) ?_
  refine WR_nil ?_
  refine thenN ?_
  refine W_seq ?_
  refine W_region ?_
  refine WR_val rfl (rn_pair0 (k0 := .u64) (k1 := .i64) (by kernel_rfl) rfl) ?_
  refine WR_mk rfl (mk_make (e := 5) 60 [byteV 0] 1 1 (byteV 0) (by kernel_rfl) (by kernel_rfl) ⟨_, rfl, rfl⟩ ⟨_, rfl, rfl⟩ (by simp) (by simp) (by omega) (by omega) (fun g13 w13 hg13 hr13 hb13 => ?_))
  have ge_hB_g13 := Nat.le_trans hB.size hg13
  replace hB := hB.acc hb13
  rw [show List.replicate (60 * 1) (byteV 0) = bv (zerosB 60) from (bv_zeros 60).symm] at hr13
  have hs13 := hr13.slA (m := 60) (sz := 1) (by rw [bv_length, hzl]) (by unfold maxLen; omega)
  refine WR_ent rfl (rn_call (by kernel_rfl) rfl) (hsp _ 60 60 w13 hs13 (by omega)) ?_
  rintro _ w14 ⟨gr, rfl, hgr, hrr, hb14⟩
  have ge_hB_gr := Nat.le_trans hB.size hgr
  have lt_g13_gr : g13 < gr := Nat.lt_of_lt_of_le hr13.lt hgr
  replace hr13 := hr13.new hb14
  replace hB := hB.acc hb14
  refine WR_val rfl (rn_move) ?_
  refine WR_val rfl (rn_extract rfl rfl) ?_
  refine WR_val rfl (rn_extract rfl rfl) ?_
  refine WR_val rfl (rn_assign) ?_
  refine WR_val rfl (rn_assign) ?_
  refine WR_nil ?_
  refine thenN ?_
  refine W_seq ?_
  refine W_seq ?_
  refine W_region ?_
  refine WR_val rfl (rn_move) ?_
  refine WR_val rfl (rn_neq rfl rfl) ?_
  refine WR_val rfl (rn_move) ?_
  refine WR_fp 19 rfl ((by decide)) ?_
  refine WR_yes rfl ?_
  refine WR_val rfl (rn_move) ?_
  refine WR_yes rfl ?_
  refine WR_val rfl (rn_lenSl (e := 48) (sz := 128) (by kernel_rfl) rfl rfl) ?_
  refine WR_yes rfl ?_
  refine WR_val rfl (rn_neq rfl rfl) ?_
  refine WR_val rfl (rn_pick_f rfl) ?_
  refine WR_val rfl (rn_move) ?_
  refine WR_fp 24 rfl ((by decide)) ?_
  refine WR_yes rfl ?_
  refine WR_ent rfl (rn_call (by kernel_rfl) rfl) (need12r 0 w14) ?_
  rintro _ _ ⟨rfl, rfl⟩
  refine WR_yes rfl ?_
  refine WR_val rfl (rn_neq rfl rfl) ?_
  refine WR_val rfl (rn_pick_f rfl) ?_
  refine WR_val rfl (rn_move) ?_
  refine WR_fp 28 rfl ((by decide)) ?_
  refine WR_yes rfl ?_
  refine WR_ent rfl (rn_call (by kernel_rfl) rfl) (need12r 44 w14) ?_
  rintro _ _ ⟨rfl, rfl⟩
  refine WR_yes rfl ?_
  refine WR_val rfl (rn_neq rfl rfl) ?_
  refine WR_val rfl (rn_pick_f rfl) ?_
  refine WR_val rfl (rn_move) ?_
  refine WR_fp 32 rfl ((by decide)) ?_
  refine WR_yes rfl ?_
  refine WR_ent rfl (rn_call (by kernel_rfl) rfl) (need12r 92 w14) ?_
  rintro _ _ ⟨rfl, rfl⟩
  refine WR_yes rfl ?_
  refine WR_val rfl (rn_neq rfl rfl) ?_
  refine WR_val rfl (rn_pick_f rfl) ?_
  refine WR_val rfl (rn_move) ?_
  refine WR_fp 36 rfl ((by decide)) ?_
  refine WR_yes rfl ?_
  refine WR_ent rfl (rn_call (by kernel_rfl) rfl) (need12r 93 w14) ?_
  rintro _ _ ⟨rfl, rfl⟩
  refine WR_yes rfl ?_
  refine WR_val rfl (rn_neq rfl rfl) ?_
  refine WR_val rfl (rn_pick_f rfl) ?_
  refine WR_nil ?_
  refine thenN ?_
  refine W_fp rfl ((by decide)) ?_
  refine W_skip ?_
  refine thenN ?_
  refine W_seq ?_
  refine W_region ?_
  refine WR_val rfl (rn_move) ?_
  refine WR_val rfl (rn_indexSl (e := 48) (sz := 128) (by kernel_rfl) rfl rfl (0) rfl (by omega)) ?_
  refine WR_val rfl (rn_load rfl (Ld.rowA (k := 128) hrr (by kernel_rfl) (by kernel_rfl) hbR)) ?_
  refine WR_val rfl (rn_zeroed (bv (zerosB 128)) (by kernel_rfl)) ?_
  refine WR_ent rfl (rn_call (by kernel_rfl) rfl) (htn w14) ?_
  rintro _ w45 ⟨rfl, hb45⟩
  replace hr13 := hr13.new hb45
  replace hrr := hrr.new hb45
  replace hB := hB.acc hb45
  refine WR_mk rfl (mk_one (e := 48) (.agg (bv T).toArray) (bv T) (List.replicate 128 (Value.int .u8 0)) 128 (by kernel_rfl) (by kernel_rfl) rfl rfl (by first | rfl | (simp; done) | (simp [bv_length, *]; done)) ⟨by decide, by decide⟩ (fun g46 w46 hg46 hr46 hb46 => ?_))
  have ge_hB_g46 := Nat.le_trans hB.size hg46
  have lt_g13_g46 : g13 < g46 := Nat.lt_of_lt_of_le hr13.lt hg46
  have lt_gr_g46 : gr < g46 := Nat.lt_of_lt_of_le hrr.lt hg46
  replace hr13 := hr13.new hb46
  replace hrr := hrr.new hb46
  replace hB := hB.acc hb46
  have hs46 := hr46.slA (m := 1) (sz := 128) hbT (by unfold maxLen; omega)
  refine WR_ent rfl (rn_call (by kernel_rfl) rfl) (joinNot _ 1 _ T w46 hs46 (by omega) hN) ?_
  rintro _ w47 ⟨rfl, hb47⟩
  replace hr13 := hr13.new hb47
  replace hrr := hrr.new hb47
  replace hr46 := hr46.new hb47
  replace hB := hB.acc hb47
  refine WR_val rfl (rn_move) ?_
  refine WR_val rfl (rn_extract rfl rfl) ?_
  refine WR_val rfl (rn_extract rfl rfl) ?_
  refine WR_val rfl (rn_extract rfl rfl) ?_
  refine WR_val rfl (rn_extract rfl rfl) ?_
  refine WR_mk rfl (mk_alloc ([.int .u64 0, .int .i64 0]) (by kernel_rfl) (fun g3 w3 hg3 hr3 hb3 => ?_))
  have ge_hB_g3 := Nat.le_trans hB.size hg3
  have lt_g13_g3 : g13 < g3 := Nat.lt_of_lt_of_le hr13.lt hg3
  have lt_gr_g3 : gr < g3 := Nat.lt_of_lt_of_le hrr.lt hg3
  have lt_g46_g3 : g46 < g3 := Nat.lt_of_lt_of_le hr46.lt hg3
  replace hr13 := hr13.new hb3
  replace hrr := hrr.new hb3
  replace hr46 := hr46.new hb3
  replace hB := hB.acc hb3
  refine WR_sk rfl (sk_storeA 2 ([.int .u64 0, .int .i64 0]) rfl rfl hr3 (by kernel_rfl) (by first | assumption | (simp; done) | (simp [bv_length, *]; done)) (by first | (simp; done) | (simp [bv_length, *]; done) | rfl) (by first | exact bv_one _ | assumption | (simp [Value.oneCell']; done)) (fun w901 hr3 ho901 => ?_))
  replace hr13 := hr13.only ho901 (Nat.ne_of_lt lt_g13_g3)
  replace hrr := hrr.only ho901 (Nat.ne_of_lt lt_gr_g3)
  replace hr46 := hr46.only ho901 (Nat.ne_of_lt lt_g46_g3)
  replace hB := ho901.below hB ge_hB_g3
  refine WR_val rfl (rn_assign) ?_
  refine WR_val rfl (rn_assign) ?_
  refine WR_val rfl (rn_assign) ?_
  refine WR_nil ?_
  refine thenN ?_
  refine W_seq ?_
  refine W_region ?_
  refine WR_val rfl (rn_move) ?_
  have hsr := hrr.slA (m := 1) (sz := 128) hbR (by unfold maxLen; omega)
  refine WR_ent rfl (rn_call (by kernel_rfl) rfl) (joinYes _ 1 _ 1 0 (zerosB 60) R w901 hsr (by omega) hT) ?_
  rintro _ w54 ⟨sp, rfl, hsb, hb54⟩
  replace hr13 := hr13.new hb54
  replace hrr := hrr.new hb54
  replace hr46 := hr46.new hb54
  replace hr3 := hr3.new hb54
  replace hB := hB.acc hb54
  refine WR_val rfl (rn_move) ?_
  refine WR_val rfl (rn_extract rfl rfl) ?_
  refine WR_val rfl (rn_extract rfl rfl) ?_
  refine WR_val rfl (rn_extract rfl rfl) ?_
  refine WR_val rfl (rn_extract rfl rfl) ?_
  refine WR_mk rfl (mk_alloc ([.int .u64 0, .int .i64 0]) (by kernel_rfl) (fun g7 w7 hg7 hr7 hb7 => ?_))
  have ge_hB_g7 := Nat.le_trans hB.size hg7
  have lt_g13_g7 : g13 < g7 := Nat.lt_of_lt_of_le hr13.lt hg7
  have lt_gr_g7 : gr < g7 := Nat.lt_of_lt_of_le hrr.lt hg7
  have lt_g46_g7 : g46 < g7 := Nat.lt_of_lt_of_le hr46.lt hg7
  have lt_g3_g7 : g3 < g7 := Nat.lt_of_lt_of_le hr3.lt hg7
  replace hr13 := hr13.new hb7
  replace hrr := hrr.new hb7
  replace hr46 := hr46.new hb7
  replace hr3 := hr3.new hb7
  replace hB := hB.acc hb7
  refine WR_sk rfl (sk_storeA 2 ([.int .u64 1, .int .i64 0]) rfl rfl hr7 (by kernel_rfl) (by first | assumption | (simp; done) | (simp [bv_length, *]; done)) (by first | (simp; done) | (simp [bv_length, *]; done) | rfl) (by first | exact bv_one _ | assumption | (simp [Value.oneCell']; done)) (fun w902 hr7 ho902 => ?_))
  replace hr13 := hr13.only ho902 (Nat.ne_of_lt lt_g13_g7)
  replace hrr := hrr.only ho902 (Nat.ne_of_lt lt_gr_g7)
  replace hr46 := hr46.only ho902 (Nat.ne_of_lt lt_g46_g7)
  replace hr3 := hr3.only ho902 (Nat.ne_of_lt lt_g3_g7)
  replace hB := ho902.below hB ge_hB_g7
  refine WR_val rfl (rn_assign) ?_
  refine WR_val rfl (rn_assign) ?_
  refine WR_val rfl (rn_assign) ?_
  refine WR_nil ?_
  refine thenN ?_
  refine W_seq ?_
  refine W_region ?_
  refine WR_val rfl (rn_move) ?_
  refine WR_val rfl (rn_eql rfl rfl) ?_
  refine WR_val rfl (rn_move) ?_
  refine WR_tp 61 rfl (rfl) ?_
  refine WR_yes rfl ?_
  refine WR_val rfl (rn_move) ?_
  refine WR_yes rfl ?_
  refine WR_val rfl (rn_eql rfl rfl) ?_
  refine WR_val rfl (rn_pick_t rfl) ?_
  refine WR_val rfl (rn_move) ?_
  refine WR_tp 65 rfl (rfl) ?_
  refine WR_yes rfl ?_
  refine WR_val rfl (rn_move) ?_
  refine WR_yes rfl ?_
  refine WR_val rfl (rn_eql rfl rfl) ?_
  refine WR_val rfl (rn_pick_t rfl) ?_
  refine WR_val rfl (rn_assign) ?_
  refine WR_nil ?_
  refine thenN ?_
  refine W_ret ?_
  refine ret_ret [_] ⟨rfl, trivial⟩ ?_
  exact ⟨rfl, hB⟩
end Go.Proofs.Ytnlocpldghpfcaa
