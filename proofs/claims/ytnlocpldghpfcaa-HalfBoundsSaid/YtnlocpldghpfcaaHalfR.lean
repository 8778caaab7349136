/- Rows and tags at their bounds: the law HalfBounds. -/
import Derived.Test.YtnlocpldghpfcaaHalfQ
namespace Go.Proofs.Ytnlocpldghpfcaa
open Go Go.RowKit Coup

theorem set_last {α : Type} (a b : α) : ∀ k, (List.replicate (k + 1) a).set k b = List.replicate k a ++ [b]
  | 0 => rfl
  | k + 1 => by
    have := set_last a b k
    rw [List.replicate_succ, List.set_cons_succ, this, List.replicate_succ, List.cons_append]
theorem joinIs_short {l : List UInt8} {n : Nat} (h : n < (hMany (halfAt l 0) + 1) / 2) : joinIs l n = false := by
  unfold joinIs joinMay
  rw [decide_eq_false (by omega : ¬ (hMany (halfAt l 0) + 1) / 2 ≤ n)]
  simp
def topB : List UInt8 := zerosB 32767 ++ [7]
theorem topB_len : topB.length = 32768 := by rw [topB, List.length_append, zerosB, List.length_replicate]; rfl
theorem topB_set : (List.replicate (32768 * 1) (byteV 0)).set 32767 (.int .u8 7) = bv topB := by
  rw [show 32768 * 1 = 32767 + 1 from rfl, set_last, topB, bv_append, bv_zeros]; rfl
theorem need_top : needN 32768 = 342 := by decide
theorem short_top (R : List UInt8) (hR : R = rowB 4611686018427387904 2147483647 topB) : joinIs (R.take (341 * 128)) 341 = false := by
  refine joinIs_short ?_
  have h0 := row_half 4611686018427387904 2147483647 topB [] 0 (by rw [topB_len]; decide)
  rw [List.append_nil, ← hR] at h0
  have h1 : halfAt (R.take (341 * 128)) 0 = halfAt R 0 := by
    rw [halfAt, halfAt, Nat.mul_zero, List.drop_zero, List.drop_zero, List.take_take]; rfl
  have f := (halfB_fields 4611686018427387904 2147483647 0 (manyN topB.length) (pieceB topB 0)).2.2.2.1
  rw [h1, h0, f, topB_len]
  decide
theorem boundsC (w : World) : Calls Try.prog 5 [].toArray w (Ret fun v w' => v = .bool true ∧ Below w.heap.size w w') := by
  have hB := Below.refl w.heap.size w
  obtain ⟨N, hN⟩ : ∃ N : Nat, N = 32768 := ⟨_, rfl⟩
  obtain ⟨T, hT32⟩ : ∃ T : Nat, T = 32767 := ⟨_, rfl⟩
  have hnt : needN N = 342 := by rw [hN]; exact need_top
  have htl : topB.length = N := by rw [hN]; exact topB_len
  have hts : (List.replicate (N * 1) (byteV 0)).set T (.int .u8 7) = bv topB := by rw [hN, hT32]; exact topB_set
  have hm : mayT (4611686018427387904 : Nat) (2147483647 : Nat) = true := by decide
  have hrl := rowB_len 4611686018427387904 2147483647 topB
  rw [htl, hnt] at hrl
  have hT : Told (rowB 4611686018427387904 2147483647 topB) 342 4611686018427387904 2147483647 topB := by
    have := told_row 4611686018427387904 2147483647 topB [] 342 hm (by rw [htl]; omega) (by rw [htl, hnt]; omega) (by rw [List.append_nil, hrl])
    rwa [List.append_nil] at this
  have hsh := short_top _ rfl
  have hsp := fun p n c w' (h : SlAt w' p n 1 (bv topB)) => split_yes 4611686018427387904 2147483647 hm topB p n c w' h
  generalize rowB 4611686018427387904 2147483647 topB = R at *
  generalize topB = B at *
  have hj0 : joinIs [] 0 = false := by simp [joinIs]
  have hZ : needZ (-1) = 0 ∧ needZ 32769 = 0 ∧ needZ 32768 = 342 := by decide
  obtain ⟨hz1, hz2, hz3⟩ := hZ
  refine calls_W (fn := Try.f5) (rs := [.tmp 0]) (n := 149) Try.func5 rfl rfl Try.ntmps5 (by kernel_rfl) rfl ?_
  refine W_seq ?_
  refine W_region ?_
  refine WR_val rfl (rn_assign) ?_
  refine WR_nil ?_
  refine thenN ?_
  refine W_seq ?_
  refine W_region ?_
  refine WR_val rfl (rn_pair (k0 := .u64) (k1 := .i64) (by kernel_rfl) (by kernel_rfl) rfl rfl) ?_
  refine WR_mk rfl (mk_alloc ([Value.int .u64 0, Value.int .i64 0]) (by kernel_rfl) (fun g1 w1 hg1 hr1 hb1 => ?_))
  have ge_hB_g1 := Nat.le_trans hB.size hg1
  replace hB := hB.acc hb1
  refine WR_sk rfl (sk_storeA 2 ([.int .u64 4611686018427387904, .int .i64 2147483647]) rfl rfl hr1 (by kernel_rfl) (by first | assumption | (simp; done) | (simp [bv_length, *]; done)) (by first | (simp; done) | (simp [bv_length, *]; done) | rfl) (by first | exact bv_one _ | assumption | (simp [Value.oneCell']; done)) (fun w901 hr1 ho901 => ?_))
  replace hB := ho901.below hB ge_hB_g1
  refine WR_nil ?_
  refine thenN ?_
  refine W_seq ?_
  refine W_region ?_
  refine WR_mk rfl (mk_make (e := 5) N [byteV 0] 1 1 (byteV 0) (by kernel_rfl) (by kernel_rfl) ⟨_, rfl, by omega⟩ ⟨_, rfl, by omega⟩ (by simp) (by simp) (by omega) (by omega) (fun g26 w26 hg26 hr26 hb26 => ?_))
  have ge_hB_g26 := Nat.le_trans hB.size hg26
  have lt_g1_g26 : g1 < g26 := Nat.lt_of_lt_of_le hr1.lt hg26
  replace hr1 := hr1.new hb26
  replace hB := hB.acc hb26
  refine WR_val rfl (rn_assign) ?_
  refine WR_nil ?_
  refine thenN ?_
  refine W_seq ?_
  refine W_region ?_
  refine WR_val rfl (rn_move) ?_
  refine WR_val rfl (rn_indexSl1 (e := 5) (by kernel_rfl) rfl rfl (T) (by omega) (by omega)) ?_
  refine WR_sk rfl (sk_store1 rfl rfl rfl rfl hr26 (by kernel_rfl) (by first | (simp only [List.length_replicate]; omega) | simp) (fun w902 hr26 ho902 => ?_))
  replace hr1 := hr1.only ho902 (Nat.ne_of_lt lt_g1_g26)
  replace hB := ho902.below hB ge_hB_g26
  rw [Nat.zero_add] at hr26
  have hr26 : row w902 g26 (bv B) 5 := by rw [← hts]; exact hr26
  refine WR_nil ?_
  refine thenN ?_
  refine W_seq ?_
  refine W_region ?_
  refine WR_val rfl (rn_load rfl (Ld.rowA (k := 2) hr1 (by kernel_rfl) (by kernel_rfl) rfl)) ?_
  refine WR_val rfl (rn_move) ?_
  have hs26 := hr26.slA (m := N) (sz := 1) (by rw [bv_length, htl, Nat.mul_one]) (by unfold maxLen; omega)
  refine WR_ent rfl (rn_call (by kernel_rfl) rfl) (hsp _ N N w902 hs26 (by omega)) ?_
  rintro _ w32 ⟨gr, rfl, hgr, hrr, hb32⟩
  have ge_hB_gr := Nat.le_trans hB.size hgr
  have lt_g1_gr : g1 < gr := Nat.lt_of_lt_of_le hr1.lt hgr
  have lt_g26_gr : g26 < gr := Nat.lt_of_lt_of_le hr26.lt hgr
  replace hr1 := hr1.new hb32
  replace hr26 := hr26.new hb32
  replace hB := hB.acc hb32
  refine WR_val rfl (rn_move) ?_
  refine WR_val rfl (rn_extract rfl rfl) ?_
  refine WR_val rfl (rn_extract rfl rfl) ?_
  refine WR_val rfl (rn_assign) ?_
  refine WR_val rfl (rn_assign) ?_
  refine WR_nil ?_
  refine thenN ?_
  refine W_seq ?_
  refine W_seq ?_
  refine W_region ?_
  refine WR_val rfl (rn_move) ?_
  refine WR_val rfl (rn_neq rfl rfl) ?_
  refine WR_val rfl (rn_move) ?_
  refine WR_fp 37 rfl ((by decide)) ?_
  refine WR_yes rfl ?_
  refine WR_val rfl (rn_move) ?_
  refine WR_yes rfl ?_
  refine WR_val rfl (rn_lenSl (e := 48) (sz := 128) (by kernel_rfl) rfl rfl) ?_
  refine WR_yes rfl ?_
  refine WR_val rfl (rn_eql rfl rfl) ?_
  refine WR_val rfl (rn_pick_f rfl) ?_
  refine WR_nil ?_
  refine thenN ?_
  refine W_fp rfl ((by omega)) ?_
  refine W_skip ?_
  refine thenN ?_
  refine W_seq ?_
  refine W_region ?_
  refine WR_val rfl (rn_move) ?_
  have hsr := hrr.slA (m := needN N) (sz := 128) (by rw [bv_length, hrl, hnt]) (by unfold maxLen; omega)
  refine WR_ent rfl (rn_call (by kernel_rfl) rfl) (joinYes _ (needN N) _ 4611686018427387904 2147483647 B R w32 hsr (by omega) (by rw [hnt]; exact hT)) ?_
  rintro _ w44 ⟨sp, rfl, hsb, hb44⟩
  replace hr1 := hr1.new hb44
  replace hr26 := hr26.new hb44
  replace hrr := hrr.new hb44
  replace hB := hB.acc hb44
  have hBj := Below.refl w44.heap.size w44
  refine WR_val rfl (rn_move) ?_
  refine WR_val rfl (rn_extract rfl rfl) ?_
  refine WR_val rfl (rn_extract rfl rfl) ?_
  refine WR_val rfl (rn_extract rfl rfl) ?_
  refine WR_val rfl (rn_extract rfl rfl) ?_
  refine WR_mk rfl (mk_alloc ([Value.int .u64 0, Value.int .i64 0]) (by kernel_rfl) (fun g5 w5 hg5 hr5 hb5 => ?_))
  have ge_hB_g5 := Nat.le_trans hB.size hg5
  have ge_hBj_g5 := Nat.le_trans hBj.size hg5
  have lt_g1_g5 : g1 < g5 := Nat.lt_of_lt_of_le hr1.lt hg5
  have lt_g26_g5 : g26 < g5 := Nat.lt_of_lt_of_le hr26.lt hg5
  have lt_gr_g5 : gr < g5 := Nat.lt_of_lt_of_le hrr.lt hg5
  replace hr1 := hr1.new hb5
  replace hr26 := hr26.new hb5
  replace hrr := hrr.new hb5
  replace hB := hB.acc hb5
  replace hBj := hBj.acc hb5
  refine WR_sk rfl (sk_storeA 2 ([.int .u64 4611686018427387904, .int .i64 2147483647]) rfl rfl hr5 (by kernel_rfl) (by first | assumption | (simp; done) | (simp [bv_length, *]; done)) (by first | (simp; done) | (simp [bv_length, *]; done) | rfl) (by first | exact bv_one _ | assumption | (simp [Value.oneCell']; done)) (fun w903 hr5 ho903 => ?_))
  replace hr1 := hr1.only ho903 (Nat.ne_of_lt lt_g1_g5)
  replace hr26 := hr26.only ho903 (Nat.ne_of_lt lt_g26_g5)
  replace hrr := hrr.only ho903 (Nat.ne_of_lt lt_gr_g5)
  replace hB := ho903.below hB ge_hB_g5
  replace hBj := ho903.below hBj ge_hBj_g5
  refine WR_val rfl (rn_assign) ?_
  refine WR_val rfl (rn_assign) ?_
  refine WR_val rfl (rn_assign) ?_
  refine WR_nil ?_
  refine thenN ?_
  refine W_seq ?_
  refine W_draw' [] (by kernel_rfl) ?_
  intro w904 hb904 hS904
  replace hr1 := hr1.new hb904
  replace hr26 := hr26.new hb904
  replace hrr := hrr.new hb904
  replace hr5 := hr5.new hb904
  replace hB := hB.acc hb904
  replace hBj := hBj.acc hb904
  have hr1_d904 := hr1
  have hr26_d904 := hr26
  have hrr_d904 := hrr
  have hr5_d904 := hr5
  have hB_d904 := hB
  have hBj_d904 := hBj
  refine WA_take 0 (by kernel_rfl) rfl (fun w' hS' => rn_load rfl (Ld.rowA (k := 2) (hr1_d904.kpd hS' (by first | (simp; done) | (simp; omega))) (by kernel_rfl) (by kernel_rfl) rfl)) ?_
  refine WA_take 1 (by kernel_rfl) rfl (fun _ _ => rn_move) ?_
  refine WA_one 2 (by kernel_rfl) ?_
  refine WO_mk rfl rfl (mk_one (e := 5) (Value.int .u8 0) ([Value.int .u8 0]) ([Value.int .u8 0]) 1 (by kernel_rfl) (by kernel_rfl) rfl rfl rfl ⟨by decide, by decide⟩ (fun g52 w52 hg52 hr52 hb52 => ?_))
  have hS905 := hS904.add0 hb52
  refine ⟨hS905, ?_⟩
  have ge_hS904_g52 := Nat.le_trans hS904.size hg52
  have ge_hB_g52 := Nat.le_trans hB.size hg52
  have ge_hBj_g52 := Nat.le_trans hBj.size hg52
  have lt_g1_g52 : g1 < g52 := Nat.lt_of_lt_of_le hr1.lt hg52
  have lt_g26_g52 : g26 < g52 := Nat.lt_of_lt_of_le hr26.lt hg52
  have lt_gr_g52 : gr < g52 := Nat.lt_of_lt_of_le hrr.lt hg52
  have lt_g5_g52 : g5 < g52 := Nat.lt_of_lt_of_le hr5.lt hg52
  replace hr1 := hr1.new hb52
  replace hr26 := hr26.new hb52
  replace hrr := hrr.new hb52
  replace hr5 := hr5.new hb52
  replace hB := hB.acc hb52
  replace hBj := hBj.acc hb52
  refine WA_one 3 (by kernel_rfl) ?_
  have hs52 := hr52.slA (m := 1) (sz := 1) rfl (by unfold maxLen; omega)
  have hs26 := hr26.slA (m := N) (sz := 1) (by rw [bv_length, htl, Nat.mul_one]) (by unfold maxLen; omega)
  refine WO_mk rfl rfl (mk_appendG (e := 5) (sz := 1) (bytes := 1) (z := Value.int .u8 0) (by kernel_rfl) rfl (by kernel_rfl) rfl (by decide) rfl (hs26) rfl (hs52) (by omega) (by omega) (by unfold maxLen; omega) (by omega) (fun q53 c53 w53 hb53 => ?_))
  have hS906 := hS905.add0 hb53
  refine ⟨hS906, ?_⟩
  replace hr1 := hr1.new hb53
  replace hr26 := hr26.new hb53
  replace hrr := hrr.new hb53
  replace hr5 := hr5.new hb53
  replace hB := hB.acc hb53
  replace hBj := hBj.acc hb53
  refine WA_one 4 (by kernel_rfl) ?_
  refine WO_ent rfl rfl (rn_call (by kernel_rfl) rfl) (split_long (4611686018427387904 : Nat) (2147483647 : Nat) hm q53 (N + 1) c53 (by omega) w53) ?_
  rintro _ w54 ⟨rfl, hb54⟩
  have hS907 := hS906.add0 hb54
  refine ⟨hS907, ?_⟩
  replace hr1 := hr1.new hb54
  replace hr26 := hr26.new hb54
  replace hrr := hrr.new hb54
  replace hr5 := hr5.new hb54
  replace hB := hB.acc hb54
  replace hBj := hBj.acc hb54
  refine WA_take 5 (by kernel_rfl) rfl (fun _ _ => rn_move) ?_
  refine WA_take 6 (by kernel_rfl) rfl (fun _ _ => rn_extract rfl rfl) ?_
  refine WA_take 7 (by kernel_rfl) rfl (fun _ _ => rn_extract rfl rfl) ?_
  refine WA_take 8 (by kernel_rfl) rfl (fun _ _ => rn_assign) ?_
  refine WA_take 9 (by kernel_rfl) rfl (fun _ _ => rn_assign) ?_
  refine WA_done (by kernel_rfl) ?_
  refine thenN ?_
  refine W_seq ?_
  refine W_region ?_
  refine WR_val rfl (rn_pair0 (k0 := .u64) (k1 := .i64) (by kernel_rfl) rfl) ?_
  refine WR_ent rfl (rn_call (by kernel_rfl) rfl) (split_no 4611686018427387905 0 (by decide) none 0 0 w54) ?_
  rintro _ w59 ⟨rfl, hb59⟩
  replace hr1 := hr1.new hb59
  replace hr26 := hr26.new hb59
  replace hrr := hrr.new hb59
  replace hr5 := hr5.new hb59
  replace hB := hB.acc hb59
  replace hBj := hBj.acc hb59
  refine WR_val rfl (rn_move) ?_
  refine WR_val rfl (rn_extract rfl rfl) ?_
  refine WR_val rfl (rn_extract rfl rfl) ?_
  refine WR_val rfl (rn_assign) ?_
  refine WR_val rfl (rn_assign) ?_
  refine WR_nil ?_
  refine thenN ?_
  refine W_seq ?_
  refine W_region ?_
  refine WR_val rfl (rn_pair (k0 := .u64) (k1 := .i64) (by kernel_rfl) (by kernel_rfl) rfl rfl) ?_
  refine WR_ent rfl (rn_call (by kernel_rfl) rfl) (split_no 1 (-1) (by decide) none 0 0 w59) ?_
  rintro _ w64 ⟨rfl, hb64⟩
  replace hr1 := hr1.new hb64
  replace hr26 := hr26.new hb64
  replace hrr := hrr.new hb64
  replace hr5 := hr5.new hb64
  replace hB := hB.acc hb64
  replace hBj := hBj.acc hb64
  refine WR_val rfl (rn_move) ?_
  refine WR_val rfl (rn_extract rfl rfl) ?_
  refine WR_val rfl (rn_extract rfl rfl) ?_
  refine WR_val rfl (rn_assign) ?_
  refine WR_val rfl (rn_assign) ?_
  refine WR_nil ?_
  refine thenN ?_
  refine W_seq ?_
  refine W_region ?_
  refine WR_val rfl (rn_zeroed ([Value.int .u64 0, Value.int .i64 0]) (by kernel_rfl)) ?_
  refine WR_val rfl (rn_move) ?_
  refine WR_mk rfl (mk_one (e := 5) (Value.int .u8 0) ([Value.int .u8 0]) ([Value.int .u8 0]) 1 (by kernel_rfl) (by kernel_rfl) rfl rfl rfl ⟨by decide, by decide⟩ (fun g70 w70 hg70 hr70 hb70 => ?_))
  have ge_hB_g70 := Nat.le_trans hB.size hg70
  have ge_hBj_g70 := Nat.le_trans hBj.size hg70
  have lt_g1_g70 : g1 < g70 := Nat.lt_of_lt_of_le hr1.lt hg70
  have lt_g26_g70 : g26 < g70 := Nat.lt_of_lt_of_le hr26.lt hg70
  have lt_gr_g70 : gr < g70 := Nat.lt_of_lt_of_le hrr.lt hg70
  have lt_g5_g70 : g5 < g70 := Nat.lt_of_lt_of_le hr5.lt hg70
  replace hr1 := hr1.new hb70
  replace hr26 := hr26.new hb70
  replace hrr := hrr.new hb70
  replace hr5 := hr5.new hb70
  replace hB := hB.acc hb70
  replace hBj := hBj.acc hb70
  have hs70 := hr70.slA (m := 1) (sz := 1) rfl (by unfold maxLen; omega)
  have hs26 := hr26.slA (m := N) (sz := 1) (by rw [bv_length, htl, Nat.mul_one]) (by unfold maxLen; omega)
  refine WR_mk rfl (mk_appendG (e := 5) (sz := 1) (bytes := 1) (z := Value.int .u8 0) (by kernel_rfl) rfl (by kernel_rfl) rfl (by decide) rfl (hs26) rfl (hs70) (by omega) (by omega) (by unfold maxLen; omega) (by omega) (fun q71 c71 w71 hb71 => ?_))
  replace hr1 := hr1.new hb71
  replace hr26 := hr26.new hb71
  replace hrr := hrr.new hb71
  replace hr5 := hr5.new hb71
  replace hB := hB.acc hb71
  replace hBj := hBj.acc hb71
  refine WR_ent rfl (rn_call (by kernel_rfl) rfl) (split_no 0 0 (by decide) q71 (N + 1) c71 w71) ?_
  rintro _ w72 ⟨rfl, hb72⟩
  replace hr1 := hr1.new hb72
  replace hr26 := hr26.new hb72
  replace hrr := hrr.new hb72
  replace hr5 := hr5.new hb72
  replace hB := hB.acc hb72
  replace hBj := hBj.acc hb72
  refine WR_val rfl (rn_move) ?_
  refine WR_val rfl (rn_extract rfl rfl) ?_
  refine WR_val rfl (rn_extract rfl rfl) ?_
  refine WR_val rfl (rn_assign) ?_
  refine WR_val rfl (rn_assign) ?_
  refine WR_nil ?_
  refine thenN ?_
  refine W_seq ?_
  refine W_region ?_
  refine WR_ent rfl (rn_call (by kernel_rfl) rfl) (joinNot none 0 0 [] w72 (SlAt.nil _ _ _) (by omega) hj0) ?_
  rintro _ w76 ⟨rfl, hb76⟩
  replace hr1 := hr1.new hb76
  replace hr26 := hr26.new hb76
  replace hrr := hrr.new hb76
  replace hr5 := hr5.new hb76
  replace hB := hB.acc hb76
  replace hBj := hBj.acc hb76
  refine WR_val rfl (rn_move) ?_
  refine WR_val rfl (rn_extract rfl rfl) ?_
  refine WR_val rfl (rn_extract rfl rfl) ?_
  refine WR_val rfl (rn_extract rfl rfl) ?_
  refine WR_val rfl (rn_extract rfl rfl) ?_
  refine WR_mk rfl (mk_alloc ([Value.int .u64 0, Value.int .i64 0]) (by kernel_rfl) (fun g17 w17 hg17 hr17 hb17 => ?_))
  have ge_hB_g17 := Nat.le_trans hB.size hg17
  have ge_hBj_g17 := Nat.le_trans hBj.size hg17
  have lt_g1_g17 : g1 < g17 := Nat.lt_of_lt_of_le hr1.lt hg17
  have lt_g26_g17 : g26 < g17 := Nat.lt_of_lt_of_le hr26.lt hg17
  have lt_gr_g17 : gr < g17 := Nat.lt_of_lt_of_le hrr.lt hg17
  have lt_g5_g17 : g5 < g17 := Nat.lt_of_lt_of_le hr5.lt hg17
  replace hr1 := hr1.new hb17
  replace hr26 := hr26.new hb17
  replace hrr := hrr.new hb17
  replace hr5 := hr5.new hb17
  replace hB := hB.acc hb17
  replace hBj := hBj.acc hb17
  refine WR_sk rfl (sk_storeA 2 ([.int .u64 0, .int .i64 0]) rfl rfl hr17 (by kernel_rfl) (by first | assumption | (simp; done) | (simp [bv_length, *]; done)) (by first | (simp; done) | (simp [bv_length, *]; done) | rfl) (by first | exact bv_one _ | assumption | (simp [Value.oneCell']; done)) (fun w908 hr17 ho908 => ?_))
  replace hr1 := hr1.only ho908 (Nat.ne_of_lt lt_g1_g17)
  replace hr26 := hr26.only ho908 (Nat.ne_of_lt lt_g26_g17)
  replace hrr := hrr.only ho908 (Nat.ne_of_lt lt_gr_g17)
  replace hr5 := hr5.only ho908 (Nat.ne_of_lt lt_g5_g17)
  replace hB := ho908.below hB ge_hB_g17
  replace hBj := ho908.below hBj ge_hBj_g17
  refine WR_val rfl (rn_assign) ?_
  refine WR_val rfl (rn_assign) ?_
  refine WR_val rfl (rn_assign) ?_
  refine WR_nil ?_
  refine thenN ?_
  refine W_seq ?_
  refine W_region ?_
  refine WR_val rfl (rn_move) ?_
  refine WR_val rfl (rn_move) ?_
  refine WR_val rfl (rn_lenSl (e := 48) (sz := 128) (by kernel_rfl) rfl rfl) ?_
  refine WR_val rfl (rn_sub rfl rfl (Coup.w64 (by omega))) ?_
  refine WR_val rfl (rn_sliceSl' (e := 48) (sz := 128) (0) (341) (_) (341) (by kernel_rfl) rfl rfl ⟨_, _, rfl, by omega⟩ rfl (by simp) (by omega) (by omega) (by omega) (by omega) (by omega)) ?_
  have hs86 := (hrr.slA (m := needN N) (sz := 128) (by rw [bv_length, hrl, hnt]) (by unfold maxLen; omega)).sub 0 341 (by omega)
  rw [Nat.zero_mul, List.drop_zero, ← bv_take] at hs86
  refine WR_ent rfl (rn_call (by kernel_rfl) rfl) (joinNot _ 341 _ (R.take (341 * 128)) w908 hs86 (by omega) hsh) ?_
  rintro _ w87 ⟨rfl, hb87⟩
  replace hr1 := hr1.new hb87
  replace hr26 := hr26.new hb87
  replace hrr := hrr.new hb87
  replace hr5 := hr5.new hb87
  replace hr17 := hr17.new hb87
  replace hB := hB.acc hb87
  replace hBj := hBj.acc hb87
  refine WR_val rfl (rn_move) ?_
  refine WR_val rfl (rn_extract rfl rfl) ?_
  refine WR_val rfl (rn_extract rfl rfl) ?_
  refine WR_val rfl (rn_extract rfl rfl) ?_
  refine WR_val rfl (rn_extract rfl rfl) ?_
  refine WR_mk rfl (mk_alloc ([Value.int .u64 0, Value.int .i64 0]) (by kernel_rfl) (fun g21 w21 hg21 hr21 hb21 => ?_))
  have ge_hB_g21 := Nat.le_trans hB.size hg21
  have ge_hBj_g21 := Nat.le_trans hBj.size hg21
  have lt_g1_g21 : g1 < g21 := Nat.lt_of_lt_of_le hr1.lt hg21
  have lt_g26_g21 : g26 < g21 := Nat.lt_of_lt_of_le hr26.lt hg21
  have lt_gr_g21 : gr < g21 := Nat.lt_of_lt_of_le hrr.lt hg21
  have lt_g5_g21 : g5 < g21 := Nat.lt_of_lt_of_le hr5.lt hg21
  have lt_g17_g21 : g17 < g21 := Nat.lt_of_lt_of_le hr17.lt hg21
  replace hr1 := hr1.new hb21
  replace hr26 := hr26.new hb21
  replace hrr := hrr.new hb21
  replace hr5 := hr5.new hb21
  replace hr17 := hr17.new hb21
  replace hB := hB.acc hb21
  replace hBj := hBj.acc hb21
  refine WR_sk rfl (sk_storeA 2 ([.int .u64 0, .int .i64 0]) rfl rfl hr21 (by kernel_rfl) (by first | assumption | (simp; done) | (simp [bv_length, *]; done)) (by first | (simp; done) | (simp [bv_length, *]; done) | rfl) (by first | exact bv_one _ | assumption | (simp [Value.oneCell']; done)) (fun w909 hr21 ho909 => ?_))
  replace hr1 := hr1.only ho909 (Nat.ne_of_lt lt_g1_g21)
  replace hr26 := hr26.only ho909 (Nat.ne_of_lt lt_g26_g21)
  replace hrr := hrr.only ho909 (Nat.ne_of_lt lt_gr_g21)
  replace hr5 := hr5.only ho909 (Nat.ne_of_lt lt_g5_g21)
  replace hr17 := hr17.only ho909 (Nat.ne_of_lt lt_g17_g21)
  replace hB := ho909.below hB ge_hB_g21
  replace hBj := ho909.below hBj ge_hBj_g21
  refine WR_val rfl (rn_assign) ?_
  refine WR_val rfl (rn_assign) ?_
  refine WR_val rfl (rn_assign) ?_
  refine WR_nil ?_
  refine thenN ?_
  refine W_seq ?_
  refine W_region ?_
  refine WR_val rfl (rn_move) ?_
  refine WR_val rfl (rn_eql rfl rfl) ?_
  refine WR_val rfl (rn_move) ?_
  refine WR_tp 94 rfl ((by decide)) ?_
  refine WR_yes rfl ?_
  refine WR_val rfl (rn_load rfl (Ld.rowA (k := 2) hr5 (by kernel_rfl) (by kernel_rfl) (by first | (simp; done) | (simp [bv_length, *]; done)))) ?_
  refine WR_yes rfl ?_
  refine WR_val rfl (rn_load rfl (Ld.rowA (k := 2) hr1 (by kernel_rfl) (by kernel_rfl) (by first | (simp; done) | (simp [bv_length, *]; done)))) ?_
  refine WR_yes rfl ?_
  refine WR_val rfl (rn_eqlP (k0 := .u64) (k1 := .i64) (by kernel_rfl) rfl rfl) ?_
  refine WR_val rfl (rn_pick_t rfl) ?_
  refine WR_val rfl (rn_move) ?_
  refine WR_tb 99 rfl ((by decide)) ?_
  refine WR_yes rfl ?_
  refine WR_val rfl (rn_move) ?_
  refine WR_yes rfl ?_
  refine WR_val rfl (rn_str (e := 5) (l := B) (by kernel_rfl) (by kernel_rfl) (by kernel_rfl) rfl (hsb.below hBj (Nat.le_refl _))) ?_
  refine WR_yes rfl ?_
  refine WR_val rfl (rn_move) ?_
  refine WR_yes rfl ?_
  have hs26 := hr26.slA (m := N) (sz := 1) (by rw [bv_length, htl, Nat.mul_one]) (by unfold maxLen; omega)
  refine WR_val rfl (rn_str (e := 5) (l := B) (by kernel_rfl) (by kernel_rfl) (by kernel_rfl) rfl hs26) ?_
  refine WR_yes rfl ?_
  refine WR_val rfl (rn_eqlS rfl rfl) ?_
  refine WR_val rfl (rn_pick_t rfl) ?_
  refine WR_val rfl (rn_move) ?_
  refine WR_tb 106 rfl ((by simp)) ?_
  refine WR_yes rfl ?_
  refine WR_val rfl (rn_move) ?_
  refine WR_yes rfl ?_
  refine WR_val rfl (rn_eql rfl rfl) ?_
  refine WR_val rfl (rn_pick_t rfl) ?_
  refine WR_val rfl (rn_move) ?_
  refine WR_tp 110 rfl ((by rw [htl]; omega)) ?_
  refine WR_yes rfl ?_
  refine WR_val rfl (rn_move) ?_
  refine WR_yes rfl ?_
  refine WR_val rfl (rn_eql rfl rfl) ?_
  refine WR_val rfl (rn_pick_t rfl) ?_
  refine WR_val rfl (rn_move) ?_
  refine WR_tp 114 rfl ((by decide)) ?_
  refine WR_yes rfl ?_
  refine WR_val rfl (rn_move) ?_
  refine WR_yes rfl ?_
  refine WR_val rfl (rn_eql rfl rfl) ?_
  refine WR_val rfl (rn_pick_t rfl) ?_
  refine WR_val rfl (rn_move) ?_
  refine WR_tp 118 rfl ((by decide)) ?_
  refine WR_yes rfl ?_
  refine WR_val rfl (rn_move) ?_
  refine WR_yes rfl ?_
  refine WR_val rfl (rn_eql rfl rfl) ?_
  refine WR_val rfl (rn_pick_t rfl) ?_
  refine WR_val rfl (rn_move) ?_
  refine WR_tp 122 rfl ((by decide)) ?_
  refine WR_yes rfl ?_
  refine WR_val rfl (rn_move) ?_
  refine WR_yes rfl ?_
  refine WR_val rfl (rn_eql rfl rfl) ?_
  refine WR_val rfl (rn_pick_t rfl) ?_
  refine WR_val rfl (rn_move) ?_
  refine WR_tp 126 rfl ((by decide)) ?_
  refine WR_yes rfl ?_
  refine WR_val rfl (rn_move) ?_
  refine WR_yes rfl ?_
  refine WR_val rfl (rn_eql rfl rfl) ?_
  refine WR_val rfl (rn_pick_t rfl) ?_
  refine WR_val rfl (rn_move) ?_
  refine WR_tp 130 rfl ((by decide)) ?_
  refine WR_yes rfl ?_
  refine WR_val rfl (rn_move) ?_
  refine WR_yes rfl ?_
  refine WR_val rfl (rn_eql rfl rfl) ?_
  refine WR_val rfl (rn_pick_t rfl) ?_
  refine WR_val rfl (rn_move) ?_
  refine WR_tp 134 rfl ((by decide)) ?_
  refine WR_yes rfl ?_
  refine WR_ent rfl (rn_call (by kernel_rfl) rfl) (need12r (-1) w909) ?_
  rintro _ _ ⟨rfl, rfl⟩
  refine WR_yes rfl ?_
  refine WR_val rfl (rn_eql rfl rfl) ?_
  refine WR_val rfl (rn_pick_t rfl) ?_
  refine WR_val rfl (rn_move) ?_
  refine WR_tp 138 rfl (hz1) ?_
  refine WR_yes rfl ?_
  refine WR_ent rfl (rn_call (by kernel_rfl) rfl) (need12r 32769 w909) ?_
  rintro _ _ ⟨rfl, rfl⟩
  refine WR_yes rfl ?_
  refine WR_val rfl (rn_eql rfl rfl) ?_
  refine WR_val rfl (rn_pick_t rfl) ?_
  refine WR_val rfl (rn_move) ?_
  refine WR_tp 142 rfl (hz2) ?_
  refine WR_yes rfl ?_
  refine WR_ent rfl (rn_call (by kernel_rfl) rfl) (need12r 32768 w909) ?_
  rintro _ _ ⟨rfl, rfl⟩
  refine WR_yes rfl ?_
  refine WR_val rfl (rn_eql rfl rfl) ?_
  refine WR_val rfl (rn_pick_t rfl) ?_
  refine WR_val rfl (rn_move) ?_
  refine WR_tp 146 rfl (hz3) ?_
  refine WR_yes rfl ?_
  refine WR_ent rfl (rn_call (by kernel_rfl) rfl) (knownC w909) ?_
  rintro _ w147 ⟨rfl, hb147⟩
  replace hr1 := hr1.new hb147
  replace hr26 := hr26.new hb147
  replace hrr := hrr.new hb147
  replace hr5 := hr5.new hb147
  replace hr17 := hr17.new hb147
  replace hr21 := hr21.new hb147
  replace hB := hB.acc hb147
  replace hBj := hBj.acc hb147
  refine WR_val rfl (rn_pick_t rfl) ?_
  refine WR_val rfl (rn_assign) ?_
  refine WR_nil ?_
  refine thenN ?_
  refine W_ret ?_
  refine ret_ret [_] ⟨rfl, trivial⟩ ?_
  exact ⟨rfl, hB⟩
end Go.Proofs.Ytnlocpldghpfcaa
