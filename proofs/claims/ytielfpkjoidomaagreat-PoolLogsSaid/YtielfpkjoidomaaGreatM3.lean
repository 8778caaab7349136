import Derived.Test.YtielfpkjoidomaaGreatM2
import Derived.Test.YtielfpkjoidomaaGreatM0
namespace Go.Proofs.YtielfpkjoidomaaGreat
open Go Go.RowKit Coup
def magic : List UInt8 := [67, 80, 76, 71]
def headB (c s : Nat) : List UInt8 := magic ++ (beB 8 c ++ (beB 8 s ++ zerosB 108))
theorem headB_len (c s : Nat) : (headB c s).length = 128 := by simp [headB, magic, beB_length, zerosB]
def hdF (c s i j : Nat) : UInt8 := if j < 4 then magic.getD j 0 else if j < 12 then (if j - 4 < i then (beB 8 c).getD (j - 4) 0 else 0) else if j < 20 then (if j - 12 < i then (beB 8 s).getD (j - 12) 0 else 0) else 0
def hdL (c s i : Nat) : List UInt8 := (List.range 128).map (hdF c s i)
theorem hdL_get (c s i j : Nat) : (hdL c s i)[j]? = if j < 128 then some (hdF c s i j) else none := by
  rw [hdL, List.getElem?_map]
  by_cases h : j < 128
  · rw [List.getElem?_range h, if_pos h]; rfl
  · rw [List.getElem?_eq_none (by rw [List.length_range]; omega), if_neg h]; rfl
theorem hdL_len (c s i : Nat) : (hdL c s i).length = 128 := by simp [hdL]
theorem getD_be {x j : Nat} (h : j < 8) : (beB 8 x)[j]? = some ((beB 8 x).getD j 0) := by
  rw [List.getD_eq_getElem?_getD, List.getElem?_eq_getElem (by rw [beB_length]; exact h)]; rfl
theorem hdL_end (c s : Nat) : hdL c s 8 = headB c s := by
  refine List.ext_getElem? fun j => ?_
  rw [hdL_get]
  unfold headB hdF
  by_cases h1 : j < 4
  · rw [if_pos (by omega), if_pos h1, List.getElem?_append_left (by simpa [magic] using h1)]
    match j, h1 with
    | 0, _ => rfl
    | 1, _ => rfl
    | 2, _ => rfl
    | 3, _ => rfl
  · rw [List.getElem?_append_right (by simp [magic]; omega), show magic.length = 4 from rfl, if_neg h1]
    by_cases h2 : j < 12
    · rw [if_pos (by omega), if_pos h2, if_pos (by omega), List.getElem?_append_left (by rw [beB_length]; omega), getD_be (by omega)]
    · rw [if_neg h2, List.getElem?_append_right (by rw [beB_length]; omega), beB_length, show j - 4 - 8 = j - 12 by omega]
      by_cases h3 : j < 20
      · rw [if_pos (by omega), if_pos h3, if_pos (by omega), List.getElem?_append_left (by rw [beB_length]; omega), getD_be (by omega)]
      · rw [if_neg h3, List.getElem?_append_right (by rw [beB_length]; omega), beB_length]
        by_cases h4 : j < 128
        · rw [if_pos h4, zerosB, List.getElem?_replicate, if_pos (by omega)]
        · rw [if_neg h4, zerosB, List.getElem?_replicate, if_neg (by omega)]
theorem hdL_start (c s : Nat) : splice (List.replicate 128 (Value.int .u8 0)) 0 (bv magic) = bv (hdL c s 0) := by
  have e : splice (List.replicate 128 (Value.int .u8 0)) 0 (bv magic) = bv (magic ++ zerosB 124) := by
    simp only [splice, List.take_zero, List.nil_append, Nat.zero_add, bv_length, bv_append, bv_zeros]
    rw [show magic.length = 4 from rfl, List.drop_replicate]; rfl
  rw [e]
  congr 1
theorem hdL_step (c s i : Nat) (h : i < 8) : ((hdL c s i).set (4 + i) ((beB 8 c).getD i 0)).set (12 + i) ((beB 8 s).getD i 0) = hdL c s (i + 1) := by
  refine List.ext_getElem? fun j => ?_
  rw [List.getElem?_set, List.length_set, hdL_len, List.getElem?_set, hdL_len, hdL_get, hdL_get]
  unfold hdF
  by_cases h1 : 12 + i = j
  · subst h1
    rw [if_pos rfl, if_pos (by omega), if_pos (by omega), if_neg (by omega), if_neg (by omega), if_pos (by omega), if_pos (by omega), Nat.add_sub_cancel_left]
  · rw [if_neg h1]
    by_cases h2 : 4 + i = j
    · subst h2
      rw [if_pos rfl, if_pos (by omega), if_pos (by omega), if_neg (by omega), if_pos (by omega), if_pos (by omega), Nat.add_sub_cancel_left]
    · rw [if_neg h2]
      by_cases h3 : j < 128
      · rw [if_pos h3, if_pos h3]
        congr 1
        by_cases h4 : j < 4
        · rw [if_pos h4, if_pos h4]
        · rw [if_neg h4, if_neg h4]
          by_cases h5 : j < 12
          · rw [if_pos h5, if_pos h5]
            by_cases h6 : j - 4 < i
            · rw [if_pos h6, if_pos (by omega)]
            · rw [if_neg h6, if_neg (by omega)]
          · rw [if_neg h5, if_neg h5]
            by_cases h7 : j < 20
            · rw [if_pos h7, if_pos h7]
              by_cases h6 : j - 12 < i
              · rw [if_pos h6, if_pos (by omega)]
              · rw [if_neg h6, if_neg (by omega)]
            · rw [if_neg h7, if_neg h7]
      · rw [if_neg h3, if_neg h3]
theorem be_byte {x i : Nat} (h : i < 8) (s : Int) (hs : s = ((56 - 8 * i : Nat) : Int)) : IntKind.u8.wrap ((x : Int) / 2 ^ (56 - 8 * i)) = (((beB 8 x).getD i 0).toNat : Int) := by
  have h1 := shr_byte x (8 - 1 - i)
  rw [List.getD_eq_getElem?_getD, beB_get 8 x i h]
  rw [show 56 - 8 * i = 8 * (8 - 1 - i) by omega, IntKind.wrap_u8]
  injection h1
theorem set_bv (l : List UInt8) (i : Nat) (b : UInt8) : (bv l).set i (.int .u8 (b.toNat : Int)) = bv (l.set i b) := by simp [bv, List.map_set, byteV]
set_option maxRecDepth 20000 in
set_option maxHeartbeats 1000000 in
theorem sector72 (c s : Nat) (w : World) (hc : c < 18446744073709551616) (hs : s < 18446744073709551616) :
    Calls Tryz.prog 99 [.agg #[.int .u64 c, .int .u64 s]].toArray w (Ret fun v w' => v = .agg (bv (headB c s)).toArray ∧ Below w.heap.size w w') := by
  have hB := Below.refl w.heap.size w
  refine calls_W (fn := Tryz.f99) (rs := [.cell 2 94]) (n := 31) Tryz.func99 rfl rfl Tryz.ntmps99 (by kernel_rfl) rfl ?_
  refine W_seq ?_
  refine W_region ?_
  refine WR_mk rfl (mk_box ([.int .u64 c, .int .u64 s]) rfl (fun g1 w1 hg1 hr1 hb1 => ?_))
  have ge_hB_g1 := Nat.le_trans hB.size hg1
  replace hB := hB.acc hb1
  refine WR_mk rfl (mk_alloc (List.replicate 128 (Value.int .u8 0)) (by kernel_rfl) (fun g2 w2 hg2 hr2 hb2 => ?_))
  have ge_hB_g2 := Nat.le_trans hB.size hg2
  have lt_g1_g2 : g1 < g2 := Nat.lt_of_lt_of_le hr1.lt hg2
  replace hr1 := hr1.new hb2
  replace hB := hB.acc hb2
  refine WR_nil ?_
  refine thenN ?_
  refine W_seq ?_
  refine W_region ?_
  refine WR_val rfl (rn_sliceAr1' (e := 5) (n := 128) (0) (128) (128) (128) (by kernel_rfl) rfl rfl rfl rfl (by simp) (by omega) (by omega) (by omega) (by omega) (by omega)) ?_
  refine WR_mk rfl (mk_copyS (e := 5) magic (by kernel_rfl) (by kernel_rfl) g2 0 rfl rfl hr2 (by decide) (by simp [magic]) (fun w5 hr2 ho5 => ?_))
  replace hr1 := hr1.only ho5 (Nat.ne_of_lt lt_g1_g2)
  replace hB := ho5.below hB ge_hB_g2
  rw [hdL_start c s] at hr2
  refine WR_nil ?_
  refine thenN ?_
  refine W_seq ?_
  refine W_seq ?_
  refine W_region ?_
  refine WR_val rfl (rn_move) ?_
  refine WR_nil ?_
  refine thenN ?_
  refine W_block ?_
  refine W_loop (α := Nat) 0 (fun i => [(6, .int .i64 (i : Nat)), (1, .pointer (some ⟨g1, 0, none⟩)), (2, .pointer (some ⟨g2, 0, none⟩))])
    (fun i w' => i ≤ 8 ∧ row w' g1 [.int .u64 c, .int .u64 s] 107 ∧ row w' g2 (bv (hdL c s i)) 94 ∧ Below w.heap.size w w') (fun i => 8 - i)
    ⟨rfl, rfl, rfl, rfl⟩ ⟨Nat.zero_le _, hr1, hr2, hB⟩ ?_
  clear hr1 hr2 hB
  rintro i f wr ⟨hi, hr1, hr2, hB⟩
  have hne : g1 ≠ g2 := by omega
  have hll : (bv (hdL c s i)).length = 128 := by rw [bv_length]; exact hdL_len _ _ _
  refine W_seq ?_
  refine W_region ?_
  refine WR_val rfl (rn_lss rfl rfl) ?_
  refine WR_nil ?_
  refine thenN ?_
  refine W_seq ?_
  refine W_ifp rfl (fun hlt => ?_) (fun hlt => ?_)
  ·
    refine W_skip ?_
    refine thenN ?_
    refine W_seq ?_
    refine W_block ?_
    refine W_seq ?_
    refine W_region ?_
    refine WR_val rfl (rn_move) ?_
    refine WR_val rfl (rn_assign) ?_
    refine WR_nil ?_
    refine thenN ?_
    have hob : ∃ L, hdL c s i = L := ⟨_, rfl⟩
    obtain ⟨L, hL⟩ := hob
    have hbc := be_byte (x := c) (i := i) (by omega) _ rfl
    have hbs := be_byte (x := s) (i := i) (by omega) _ rfl
    have hst := hdL_step c s i (by omega)
    have hLl : L.length = 128 := by rw [← hL]; exact hdL_len _ _ _
    rw [hL] at hr2 hll hst
    refine W_draw' [g2] (by kernel_rfl) ?_
    intro w901 hb901 hS901
    replace hr1 := hr1.new hb901
    replace hr2 := hr2.new hb901
    replace hB := hB.acc hb901
    have hr1_d901 := hr1
    have hr2_d901 := hr2
    have hB_d901 := hB
    refine WA_take 0 (by kernel_rfl) rfl (fun _ _ => rn_move) ?_
    refine WA_take 1 (by kernel_rfl) rfl (fun _ _ => rn_add rfl rfl (Coup.w64 (by omega))) ?_
    refine WA_take 2 (by kernel_rfl) rfl (fun _ _ => rn_move) ?_
    refine WA_take 3 (by kernel_rfl) rfl (fun _ _ => rn_add rfl rfl (Coup.w64 (by omega))) ?_
    refine WA_take 4 (by kernel_rfl) rfl (fun _ _ => rn_fieldAddr (off := 0) (by kernel_rfl) rfl) ?_
    refine WA_take 5 (by kernel_rfl) rfl (fun w' hS' => rn_load rfl (Ld.row1 (hr1_d901.kpd hS' (by first | (simp; done) | (simp; omega) | (simp [*]; done) | exact notLL (Or.inl (by omega)) | exact notLL (Or.inr (by simp)) | exact fun g hm => Nat.le_trans (by omega) (inLL hm).1 | (intro b o e; cases e; exact notLL (Or.inl (by omega))) | (intro b hm; have := (hu.lt b (Option.mem_toList.1 hm)).1; omega) | (intro b o e; cases e; intro hm; have := (hu.lt _ (Option.mem_toList.1 hm)).1; omega))) (by kernel_rfl) rfl)) ?_
    refine WA_take 6 (by kernel_rfl) rfl (fun _ _ => rn_move) ?_
    refine WA_take 7 (by kernel_rfl) rfl (fun _ _ => rn_mul rfl rfl (Coup.w64 (by omega))) ?_
    refine WA_take 8 (by kernel_rfl) rfl (fun _ _ => rn_sub rfl rfl (Coup.w64 (by omega))) ?_
    refine WA_take 9 (by kernel_rfl) rfl (fun _ _ => rn_shr rfl rfl (by omega) (shrN (56 - 8 * i) (by omega) (by omega))) ?_
    refine WA_take 10 (by kernel_rfl) rfl (fun _ _ => rn_conv (k := .u8) (by kernel_rfl) (by kernel_rfl) rfl hbc) ?_
    refine WA_take 11 (by kernel_rfl) rfl (fun _ _ => rn_fieldAddr (off := 1) (by kernel_rfl) rfl) ?_
    refine WA_take 12 (by kernel_rfl) rfl (fun w' hS' => rn_load rfl (Ld.row1 (hr1_d901.kpd hS' (by first | (simp; done) | (simp; omega) | (simp [*]; done) | exact notLL (Or.inl (by omega)) | exact notLL (Or.inr (by simp)) | exact fun g hm => Nat.le_trans (by omega) (inLL hm).1 | (intro b o e; cases e; exact notLL (Or.inl (by omega))) | (intro b hm; have := (hu.lt b (Option.mem_toList.1 hm)).1; omega) | (intro b o e; cases e; intro hm; have := (hu.lt _ (Option.mem_toList.1 hm)).1; omega))) (by kernel_rfl) rfl)) ?_
    refine WA_take 13 (by kernel_rfl) rfl (fun _ _ => rn_move) ?_
    refine WA_take 14 (by kernel_rfl) rfl (fun _ _ => rn_mul rfl rfl (Coup.w64 (by omega))) ?_
    refine WA_take 15 (by kernel_rfl) rfl (fun _ _ => rn_sub rfl rfl (Coup.w64 (by omega))) ?_
    refine WA_take 16 (by kernel_rfl) rfl (fun _ _ => rn_shr rfl rfl (by omega) (shrN (56 - 8 * i) (by omega) (by omega))) ?_
    refine WA_take 17 (by kernel_rfl) rfl (fun _ _ => rn_conv (k := .u8) (by kernel_rfl) (by kernel_rfl) rfl hbs) ?_
    refine WA_take 18 (by kernel_rfl) rfl (fun _ _ => rn_indexAr1 (e := 5) (m := 128) (by kernel_rfl) rfl rfl (4 + i) (by omega) (by omega)) ?_
    refine WA_one 19 (by kernel_rfl) ?_
    refine WO_sk rfl rfl (sk_store1 rfl rfl rfl rfl hr2 (by kernel_rfl) (by first | (simp only [List.length_replicate]; omega) | (simp only [iv_length]; omega) | (simp only [bv_length, List.length_set]; omega) | simp) (fun w903 hr2 ho903 => ?_))
    have hS902 := hS901.add1 ho903 (by first | (left; omega) | (right; simp; done) | (right; simp; omega))
    refine ⟨hS902, ?_⟩
    replace hr1 := hr1.only ho903 (Nat.ne_of_lt lt_g1_g2)
    replace hB := ho903.below hB ge_hB_g2
    refine WA_take 20 (by kernel_rfl) rfl (fun _ _ => rn_indexAr1 (e := 5) (m := 128) (by kernel_rfl) rfl rfl (12 + i) (by omega) (by omega)) ?_
    refine WA_one 21 (by kernel_rfl) ?_
    refine WO_sk rfl rfl (sk_store1 rfl rfl rfl rfl hr2 (by kernel_rfl) (by first | (simp only [List.length_replicate]; omega) | (simp only [iv_length]; omega) | (simp only [bv_length, List.length_set]; omega) | simp) (fun w905 hr2 ho905 => ?_))
    have hS904 := hS902.add1 ho905 (by first | (left; omega) | (right; simp; done) | (right; simp; omega))
    refine ⟨hS904, ?_⟩
    replace hr1 := hr1.only ho905 (Nat.ne_of_lt lt_g1_g2)
    replace hB := ho905.below hB ge_hB_g2
    refine WA_done (by kernel_rfl) ?_
    refine blockN ?_
    refine thenN ?_
    refine W_region ?_
    refine WR_val rfl (rn_add rfl rfl (Coup.w64 (by omega))) ?_
    refine WR_val rfl (rn_move) ?_
    refine WR_nil ?_
    have hq : row w905 g2 (((bv L).set (0 + (4 + i)) (.int .u8 (((beB 8 c).getD i 0).toNat : Int))).set (0 + (12 + i)) (.int .u8 (((beB 8 s).getD i 0).toNat : Int))) 94 := hr2
    rw [Nat.zero_add, Nat.zero_add, set_bv, set_bv, hst] at hq
    refine loopN ⟨i + 1, by omega, ⟨by go_num, rfl, rfl, rfl⟩, by omega, hr1, hq, hB⟩
  ·
    have h8 : i = 8 := by omega
    subst h8
    rw [hdL_end] at hr2
    rw [hdL_end] at hll
    have hob : ∃ L, headB c s = L := ⟨_, rfl⟩
    obtain ⟨L, hL⟩ := hob
    rw [hL] at hr2 hll
    rw [hL]
    refine W_exit ?_
    refine thenX ?_
    refine loopX ?_
    refine blockX ?_
    refine thenN ?_
    refine W_seq ?_
    refine W_region ?_
    refine WR_val rfl (rn_load rfl (Ld.rowA (k := 128) hr2 (by kernel_rfl) (by kernel_rfl) (by first | (simp; done) | (simp [bv_length, *]; done) | assumption))) ?_
    refine WR_sk rfl (sk_storeA 128 (bv L) rfl rfl hr2 (by kernel_rfl) (by first | assumption | (simp; done) | (simp [bv_length, *]; done)) (by first | assumption | (simp; done) | (simp [bv_length, *]; done) | rfl) (by first | exact bv_one _ | assumption | (simp [Value.oneCell']; done)) (fun w906 hr2 ho906 => ?_))
    replace hr1 := hr1.only ho906 (Nat.ne_of_lt lt_g1_g2)
    replace hB := ho906.below hB ge_hB_g2
    refine WR_nil ?_
    refine thenN ?_
    refine W_ret ?_
    refine ret_ret [_] ⟨⟨_, rfl, Ld.rowA (k := 128) hr2 (by kernel_rfl) (by kernel_rfl) (by first | (simp; done) | (simp [bv_length, *]; done) | assumption)⟩, trivial⟩ ?_
    exact ⟨rfl, hB⟩
end Go.Proofs.YtielfpkjoidomaaGreat
namespace Go.Proofs.YtielfpkjoidomaaGreat
open Go Go.RowKit Coup
def hdC (s : List UInt8) : Nat := numB ((s.drop 4).take 8)
def hdS (s : List UInt8) : Nat := numB ((s.drop 12).take 8)
def hdIs (s : List UInt8) : Bool := decide (tornB s zeroS = headB (hdC s) (hdS s)) && decide (1 ≤ hdS s) && decide (hdS s ≤ hdC s) && decide (hdC s ≤ 4611686018427387904)
theorem torn23w (a b : List UInt8) (ha : a.length = 128) (hb : b.length = 128) (w : World) : Calls Tryz.prog 98 [.agg (bv a).toArray, .agg (bv b).toArray].toArray w (Ret fun v w' => v = .agg (bv (tornB a b)).toArray ∧ Below w.heap.size w w') := calls_ret (torn23 a b ha hb w)
set_option maxRecDepth 20000 in
set_option maxHeartbeats 1000000 in
theorem headOf51 (s : List UInt8) (w : World) (hs : s.length = 128) :
    Calls Tryz.prog 75 [.agg (bv s).toArray].toArray w (Ret fun v w' => v = .tuple #[.agg #[.int .u64 (hdC s), .int .u64 (hdS s)], .bool (hdIs s)] ∧ Below w.heap.size w w') := by
  have hB := Below.refl w.heap.size w
  have hml : maxLen = 9223372036854775807 := by decide
  have hsl : (bv s).length = 128 := by rw [bv_length]; exact hs
  have hc8 : hdC s < 18446744073709551616 := numB_lt_of _ 8 (by simp; omega)
  have hs8 : hdS s < 18446744073709551616 := numB_lt_of _ 8 (by simp; omega)
  obtain ⟨Z, hzz, hzb, hzl⟩ := zeroSQ
  refine calls_W (fn := Tryz.f75) (rs := [.cell 2 107, .tmp 3]) (n := 36) Tryz.func75 rfl rfl Tryz.ntmps75 (by kernel_rfl) rfl ?_
  refine W_seq ?_
  refine W_region ?_
  refine WR_mk rfl (mk_box ((bv s)) rfl (fun g1 w1 hg1 hr1 hb1 => ?_))
  have ge_hB_g1 := Nat.le_trans hB.size hg1
  replace hB := hB.acc hb1
  refine WR_mk rfl (mk_alloc ([Value.int .u64 0, Value.int .u64 0]) (by kernel_rfl) (fun g2 w2 hg2 hr2 hb2 => ?_))
  have ge_hB_g2 := Nat.le_trans hB.size hg2
  have lt_g1_g2 : g1 < g2 := Nat.lt_of_lt_of_le hr1.lt hg2
  replace hr1 := hr1.new hb2
  replace hB := hB.acc hb2
  refine WR_val rfl (rn_assign) ?_
  refine WR_nil ?_
  refine thenN ?_
  refine W_seq ?_
  refine W_draw' [] (by kernel_rfl) ?_
  intro w901 hb901 hS901
  replace hr1 := hr1.new hb901
  replace hr2 := hr2.new hb901
  replace hB := hB.acc hb901
  have hr1_d901 := hr1
  have hr2_d901 := hr2
  have hB_d901 := hB
  refine WA_take 0 (by kernel_rfl) rfl (fun _ _ => rn_sliceAr1' (e := 5) (n := 128) (4) (12) (128) (8) (by kernel_rfl) rfl ⟨_, _, rfl, rfl⟩ ⟨_, _, rfl, rfl⟩ rfl (by simp) (by omega) (by omega) (by omega) (by omega) (by omega)) ?_
  refine WA_call 1 (by kernel_rfl) rfl (fun _ => rn_call (by kernel_rfl) rfl) (fun w' hS' => number42 _ 8 _ _ w' ((hr1_d901.kpd hS' (by first | (simp; done) | (simp; omega) | (simp [*]; done) | exact notLL (Or.inl (by omega)) | exact notLL (Or.inr (by simp)) | exact fun g hm => Nat.le_trans (by omega) (inLL hm).1 | (intro b o e; cases e; exact notLL (Or.inl (by omega))) | (intro b hm; have := (hu.lt b (Option.mem_toList.1 hm)).1; omega) | (intro b o e; cases e; intro hm; have := (hu.lt _ (Option.mem_toList.1 hm)).1; omega))).slB 4 8 (by omega) (by omega)) (by omega)) ?_
  refine WA_take 2 (by kernel_rfl) rfl (fun _ _ => rn_sliceAr1' (e := 5) (n := 128) (12) (20) (128) (8) (by kernel_rfl) rfl ⟨_, _, rfl, rfl⟩ ⟨_, _, rfl, rfl⟩ rfl (by simp) (by omega) (by omega) (by omega) (by omega) (by omega)) ?_
  refine WA_call 3 (by kernel_rfl) rfl (fun _ => rn_call (by kernel_rfl) rfl) (fun w' hS' => number42 _ 8 _ _ w' ((hr1_d901.kpd hS' (by first | (simp; done) | (simp; omega) | (simp [*]; done) | exact notLL (Or.inl (by omega)) | exact notLL (Or.inr (by simp)) | exact fun g hm => Nat.le_trans (by omega) (inLL hm).1 | (intro b o e; cases e; exact notLL (Or.inl (by omega))) | (intro b hm; have := (hu.lt b (Option.mem_toList.1 hm)).1; omega) | (intro b o e; cases e; intro hm; have := (hu.lt _ (Option.mem_toList.1 hm)).1; omega))).slB 12 8 (by omega) (by omega)) (by omega)) ?_
  refine WA_take 4 (by kernel_rfl) rfl (fun _ _ => rn_pair (k0 := .u64) (k1 := .u64) (by kernel_rfl) (by kernel_rfl) rfl rfl) ?_
  refine WA_one 5 (by kernel_rfl) ?_
  refine WO_mk rfl rfl (mk_alloc ([Value.int .u64 0, Value.int .u64 0]) (by kernel_rfl) (fun g4 w4 hg4 hr4 hb4 => ?_))
  have hS902 := hS901.add0 hb4
  refine ⟨hS902, ?_⟩
  have ge_hS901_g4 := Nat.le_trans hS901.size hg4
  have ge_hB_g4 := Nat.le_trans hB.size hg4
  have lt_g1_g4 : g1 < g4 := Nat.lt_of_lt_of_le hr1.lt hg4
  have lt_g2_g4 : g2 < g4 := Nat.lt_of_lt_of_le hr2.lt hg4
  replace hr1 := hr1.new hb4
  replace hr2 := hr2.new hb4
  replace hB := hB.acc hb4
  refine WA_one 6 (by kernel_rfl) ?_
  refine WO_sk rfl rfl (sk_storeA 2 ([.int .u64 (hdC s), .int .u64 (hdS s)]) rfl rfl hr4 (by kernel_rfl) (by first | assumption | (simp; done) | (simp [bv_length, *]; done)) (by first | assumption | (simp; done) | (simp [bv_length, *]; done) | rfl) (by first | exact bv_one _ | assumption | (simp [Value.oneCell']; done)) (fun w904 hr4 ho904 => ?_))
  have hS903 := hS902.add1 ho904 (by first | (left; omega) | (right; simp; done) | (right; simp; omega))
  refine ⟨hS903, ?_⟩
  replace hr1 := hr1.only ho904 (Nat.ne_of_lt lt_g1_g4)
  replace hr2 := hr2.only ho904 (Nat.ne_of_lt lt_g2_g4)
  replace hB := ho904.below hB ge_hB_g4
  refine WA_done (by kernel_rfl) ?_
  refine thenN ?_
  refine W_seq ?_
  refine W_draw' [] (by kernel_rfl) ?_
  intro w905 hb905 hS905
  replace hr1 := hr1.new hb905
  replace hr2 := hr2.new hb905
  replace hr4 := hr4.new hb905
  replace hB := hB.acc hb905
  have hr1_d905 := hr1
  have hr2_d905 := hr2
  have hr4_d905 := hr4
  have hB_d905 := hB
  refine WA_take 0 (by kernel_rfl) rfl (fun w' hS' => rn_load rfl (Ld.rowA (k := 128) (hr1_d905.kpd hS' (by first | (simp; done) | (simp; omega) | (simp [*]; done) | exact notLL (Or.inl (by omega)) | exact notLL (Or.inr (by simp)) | exact fun g hm => Nat.le_trans (by omega) (inLL hm).1 | (intro b o e; cases e; exact notLL (Or.inl (by omega))) | (intro b hm; have := (hu.lt b (Option.mem_toList.1 hm)).1; omega) | (intro b o e; cases e; intro hm; have := (hu.lt _ (Option.mem_toList.1 hm)).1; omega))) (by kernel_rfl) (by kernel_rfl) (by first | (simp; done) | (simp [bv_length, *]; done) | assumption))) ?_
  refine WA_take 1 (by kernel_rfl) rfl (fun _ _ => rn_zeroed (bv Z) (by rw [← hzb]; kernel_rfl)) ?_
  refine WA_take 3 (by kernel_rfl) rfl (fun w' hS' => rn_load rfl (Ld.rowA (k := 2) (hr4_d905.kpd hS' (by first | (simp; done) | (simp; omega) | (simp [*]; done) | exact notLL (Or.inl (by omega)) | exact notLL (Or.inr (by simp)) | exact fun g hm => Nat.le_trans (by omega) (inLL hm).1 | (intro b o e; cases e; exact notLL (Or.inl (by omega))) | (intro b hm; have := (hu.lt b (Option.mem_toList.1 hm)).1; omega) | (intro b o e; cases e; intro hm; have := (hu.lt _ (Option.mem_toList.1 hm)).1; omega))) (by kernel_rfl) (by kernel_rfl) (by first | (simp; done) | (simp [bv_length, *]; done) | assumption))) ?_
  refine WA_one 2 (by kernel_rfl) ?_
  have hZl : Z.length = 128 := by rw [← bv_length]; exact hzl
  have hT := fun w' => torn23w s Z hs hZl w'
  have hTl := tornB_length s Z hs hZl
  have hSc := fun w' => sector72 (hdC s) (hdS s) w' hc8 hs8
  have hSl := headB_len (hdC s) (hdS s)
  have hob : ∃ T, tornB s Z = T := ⟨_, rfl⟩
  obtain ⟨T, hTe⟩ := hob
  have hob : ∃ H, headB (hdC s) (hdS s) = H := ⟨_, rfl⟩
  obtain ⟨H, hHe⟩ := hob
  rw [hTe] at hT hTl
  rw [hHe] at hSc hSl
  have hie : hdIs s = (decide (T = H) && decide (1 ≤ hdS s) && decide (hdS s ≤ hdC s) && decide (hdC s ≤ 4611686018427387904)) := by rw [hdIs, hzz, hTe, hHe]
  refine WO_ent rfl rfl (rn_call (by kernel_rfl) rfl) (hT w905) ?_
  rintro _ w13 ⟨rfl, hb13⟩
  have hS906 := hS905.add0 hb13
  refine ⟨hS906, ?_⟩
  replace hr1 := hr1.new hb13
  replace hr2 := hr2.new hb13
  replace hr4 := hr4.new hb13
  replace hB := hB.acc hb13
  refine WA_one 4 (by kernel_rfl) ?_
  refine WO_ent rfl rfl (rn_call (by kernel_rfl) rfl) (hSc w13) ?_
  rintro _ w15 ⟨rfl, hb15⟩
  have hS907 := hS906.add0 hb15
  refine ⟨hS907, ?_⟩
  replace hr1 := hr1.new hb15
  replace hr2 := hr2.new hb15
  replace hr4 := hr4.new hb15
  replace hB := hB.acc hb15
  refine WA_take 5 (by kernel_rfl) rfl (fun _ _ => rn_eqlA (n := 128) (by kernel_rfl) rfl rfl hTl hSl) ?_
  refine WA_take 6 (by kernel_rfl) rfl (fun _ _ => rn_move) ?_
  refine WA_part 17 rfl (fun hq1 => ?_) (fun hq1 => ?_)
  ·
    refine WA_take 7 (by kernel_rfl) rfl (fun _ _ => rn_fieldAddr (off := 1) (by kernel_rfl) rfl) ?_
    refine WA_take 8 (by kernel_rfl) rfl (fun w' hS' => rn_load rfl (Ld.row1 (hr4_d905.kpd hS' (by first | (simp; done) | (simp; omega) | (simp [*]; done) | exact notLL (Or.inl (by omega)) | exact notLL (Or.inr (by simp)) | exact fun g hm => Nat.le_trans (by omega) (inLL hm).1 | (intro b o e; cases e; exact notLL (Or.inl (by omega))) | (intro b hm; have := (hu.lt b (Option.mem_toList.1 hm)).1; omega) | (intro b o e; cases e; intro hm; have := (hu.lt _ (Option.mem_toList.1 hm)).1; omega))) (by kernel_rfl) rfl)) ?_
    refine WA_take 9 (by kernel_rfl) rfl (fun _ _ => rn_geq rfl rfl) ?_
    refine WA_take 10 (by kernel_rfl) rfl (fun _ _ => rn_pick_t rfl) ?_
    refine WA_take 11 (by kernel_rfl) rfl (fun _ _ => rn_move) ?_
    refine WA_part 22 rfl (fun hq2 => ?_) (fun hq2 => ?_)
    ·
      refine WA_take 12 (by kernel_rfl) rfl (fun _ _ => rn_fieldAddr (off := 1) (by kernel_rfl) rfl) ?_
      refine WA_take 13 (by kernel_rfl) rfl (fun w' hS' => rn_load rfl (Ld.row1 (hr4_d905.kpd hS' (by first | (simp; done) | (simp; omega) | (simp [*]; done) | exact notLL (Or.inl (by omega)) | exact notLL (Or.inr (by simp)) | exact fun g hm => Nat.le_trans (by omega) (inLL hm).1 | (intro b o e; cases e; exact notLL (Or.inl (by omega))) | (intro b hm; have := (hu.lt b (Option.mem_toList.1 hm)).1; omega) | (intro b o e; cases e; intro hm; have := (hu.lt _ (Option.mem_toList.1 hm)).1; omega))) (by kernel_rfl) rfl)) ?_
      refine WA_take 14 (by kernel_rfl) rfl (fun _ _ => rn_fieldAddr (off := 0) (by kernel_rfl) rfl) ?_
      refine WA_take 15 (by kernel_rfl) rfl (fun w' hS' => rn_load rfl (Ld.row1 (hr4_d905.kpd hS' (by first | (simp; done) | (simp; omega) | (simp [*]; done) | exact notLL (Or.inl (by omega)) | exact notLL (Or.inr (by simp)) | exact fun g hm => Nat.le_trans (by omega) (inLL hm).1 | (intro b o e; cases e; exact notLL (Or.inl (by omega))) | (intro b hm; have := (hu.lt b (Option.mem_toList.1 hm)).1; omega) | (intro b o e; cases e; intro hm; have := (hu.lt _ (Option.mem_toList.1 hm)).1; omega))) (by kernel_rfl) rfl)) ?_
      refine WA_take 16 (by kernel_rfl) rfl (fun _ _ => rn_leq rfl rfl) ?_
      refine WA_take 17 (by kernel_rfl) rfl (fun _ _ => rn_pick_t rfl) ?_
      refine WA_take 18 (by kernel_rfl) rfl (fun _ _ => rn_move) ?_
      refine WA_part 29 rfl (fun hq3 => ?_) (fun hq3 => ?_)
      ·
        refine WA_take 19 (by kernel_rfl) rfl (fun _ _ => rn_fieldAddr (off := 0) (by kernel_rfl) rfl) ?_
        refine WA_take 20 (by kernel_rfl) rfl (fun w' hS' => rn_load rfl (Ld.row1 (hr4_d905.kpd hS' (by first | (simp; done) | (simp; omega) | (simp [*]; done) | exact notLL (Or.inl (by omega)) | exact notLL (Or.inr (by simp)) | exact fun g hm => Nat.le_trans (by omega) (inLL hm).1 | (intro b o e; cases e; exact notLL (Or.inl (by omega))) | (intro b hm; have := (hu.lt b (Option.mem_toList.1 hm)).1; omega) | (intro b o e; cases e; intro hm; have := (hu.lt _ (Option.mem_toList.1 hm)).1; omega))) (by kernel_rfl) rfl)) ?_
        refine WA_take 21 (by kernel_rfl) rfl (fun _ _ => rn_leq rfl rfl) ?_
        refine WA_take 22 (by kernel_rfl) rfl (fun _ _ => rn_pick_t rfl) ?_
        refine WA_take 23 (by kernel_rfl) rfl (fun _ _ => rn_assign) ?_
        refine WA_done (by kernel_rfl) ?_
        refine thenN ?_
        refine W_seq ?_
        refine W_region ?_
        refine WR_val rfl (rn_load rfl (Ld.rowA (k := 2) hr4 (by kernel_rfl) (by kernel_rfl) (by first | (simp; done) | (simp [bv_length, *]; done) | assumption))) ?_
        refine WR_val rfl (rn_move) ?_
        refine WR_sk rfl (sk_storeA 2 ([.int .u64 (hdC s), .int .u64 (hdS s)]) rfl rfl hr2 (by kernel_rfl) (by first | assumption | (simp; done) | (simp [bv_length, *]; done)) (by first | assumption | (simp; done) | (simp [bv_length, *]; done) | rfl) (by first | exact bv_one _ | assumption | (simp [Value.oneCell']; done)) (fun w908 hr2 ho908 => ?_))
        replace hr1 := hr1.only ho908 (Nat.ne_of_lt lt_g1_g2)
        replace hr4 := hr4.only ho908 (Nat.ne_of_gt lt_g2_g4)
        replace hB := ho908.below hB ge_hB_g2
        refine WR_val rfl (rn_assign) ?_
        refine WR_nil ?_
        refine thenN ?_
        refine W_ret ?_
        refine ret_ret [_, _] ⟨⟨_, rfl, Ld.rowA (k := 2) hr2 (by kernel_rfl) (by kernel_rfl) (by first | (simp; done) | (simp [bv_length, *]; done) | assumption)⟩, rfl, trivial⟩ ?_
        refine ⟨?_, hB⟩
        rw [hie]
        rw [decide_eq_true hq1, decide_eq_true (show 1 ≤ hdS s by omega), decide_eq_true (show hdS s ≤ hdC s by omega)]
        have e : decide ((hdC s : Int) ≤ 4611686018427387904) = decide (hdC s ≤ 4611686018427387904) := by
          by_cases hq4 : hdC s ≤ 4611686018427387904
          · rw [decide_eq_true hq4, decide_eq_true (by omega)]
          · rw [decide_eq_false hq4, decide_eq_false (by omega)]
        rw [← e]
        rfl
      ·
        have hz : hdIs s = false := by rw [hie, decide_eq_false (show ¬ hdS s ≤ hdC s by omega), Bool.and_false, Bool.false_and]
        refine WA_skip 19 (by kernel_rfl) rfl ?_
        refine WA_skip 20 (by kernel_rfl) rfl ?_
        refine WA_skip 21 (by kernel_rfl) rfl ?_
        refine WA_take 22 (by kernel_rfl) rfl (fun _ _ => rn_pick_f rfl) ?_
        refine WA_take 23 (by kernel_rfl) rfl (fun _ _ => rn_assign) ?_
        refine WA_done (by kernel_rfl) ?_
        refine thenN ?_
        refine W_seq ?_
        refine W_region ?_
        refine WR_val rfl (rn_load rfl (Ld.rowA (k := 2) hr4 (by kernel_rfl) (by kernel_rfl) (by first | (simp; done) | (simp [bv_length, *]; done) | assumption))) ?_
        refine WR_val rfl (rn_move) ?_
        refine WR_sk rfl (sk_storeA 2 ([.int .u64 (hdC s), .int .u64 (hdS s)]) rfl rfl hr2 (by kernel_rfl) (by first | assumption | (simp; done) | (simp [bv_length, *]; done)) (by first | assumption | (simp; done) | (simp [bv_length, *]; done) | rfl) (by first | exact bv_one _ | assumption | (simp [Value.oneCell']; done)) (fun w909 hr2 ho909 => ?_))
        replace hr1 := hr1.only ho909 (Nat.ne_of_lt lt_g1_g2)
        replace hr4 := hr4.only ho909 (Nat.ne_of_gt lt_g2_g4)
        replace hB := ho909.below hB ge_hB_g2
        refine WR_val rfl (rn_assign) ?_
        refine WR_nil ?_
        refine thenN ?_
        refine W_ret ?_
        refine ret_ret [_, _] ⟨⟨_, rfl, Ld.rowA (k := 2) hr2 (by kernel_rfl) (by kernel_rfl) (by first | (simp; done) | (simp [bv_length, *]; done) | assumption)⟩, rfl, trivial⟩ ?_
        refine ⟨?_, hB⟩
        rw [hz]
        rfl
    ·
      have hz : hdIs s = false := by rw [hie, decide_eq_false (show ¬ 1 ≤ hdS s by omega), Bool.and_false, Bool.false_and, Bool.false_and]
      refine WA_skip 12 (by kernel_rfl) rfl ?_
      refine WA_skip 13 (by kernel_rfl) rfl ?_
      refine WA_skip 14 (by kernel_rfl) rfl ?_
      refine WA_skip 15 (by kernel_rfl) rfl ?_
      refine WA_skip 16 (by kernel_rfl) rfl ?_
      refine WA_take 17 (by kernel_rfl) rfl (fun _ _ => rn_pick_f rfl) ?_
      refine WA_take 18 (by kernel_rfl) rfl (fun _ _ => rn_move) ?_
      refine WA_skip 19 (by kernel_rfl) rfl ?_
      refine WA_skip 20 (by kernel_rfl) rfl ?_
      refine WA_skip 21 (by kernel_rfl) rfl ?_
      refine WA_take 22 (by kernel_rfl) rfl (fun _ _ => rn_pick_f rfl) ?_
      refine WA_take 23 (by kernel_rfl) rfl (fun _ _ => rn_assign) ?_
      refine WA_done (by kernel_rfl) ?_
      refine thenN ?_
      refine W_seq ?_
      refine W_region ?_
      refine WR_val rfl (rn_load rfl (Ld.rowA (k := 2) hr4 (by kernel_rfl) (by kernel_rfl) (by first | (simp; done) | (simp [bv_length, *]; done) | assumption))) ?_
      refine WR_val rfl (rn_move) ?_
      refine WR_sk rfl (sk_storeA 2 ([.int .u64 (hdC s), .int .u64 (hdS s)]) rfl rfl hr2 (by kernel_rfl) (by first | assumption | (simp; done) | (simp [bv_length, *]; done)) (by first | assumption | (simp; done) | (simp [bv_length, *]; done) | rfl) (by first | exact bv_one _ | assumption | (simp [Value.oneCell']; done)) (fun w910 hr2 ho910 => ?_))
      replace hr1 := hr1.only ho910 (Nat.ne_of_lt lt_g1_g2)
      replace hr4 := hr4.only ho910 (Nat.ne_of_gt lt_g2_g4)
      replace hB := ho910.below hB ge_hB_g2
      refine WR_val rfl (rn_assign) ?_
      refine WR_nil ?_
      refine thenN ?_
      refine W_ret ?_
      refine ret_ret [_, _] ⟨⟨_, rfl, Ld.rowA (k := 2) hr2 (by kernel_rfl) (by kernel_rfl) (by first | (simp; done) | (simp [bv_length, *]; done) | assumption)⟩, rfl, trivial⟩ ?_
      refine ⟨?_, hB⟩
      rw [hz]
      rfl
  ·
    have hz : hdIs s = false := by rw [hie, decide_eq_false hq1, Bool.false_and, Bool.false_and, Bool.false_and]
    refine WA_skip 7 (by kernel_rfl) rfl ?_
    refine WA_skip 8 (by kernel_rfl) rfl ?_
    refine WA_skip 9 (by kernel_rfl) rfl ?_
    refine WA_take 10 (by kernel_rfl) rfl (fun _ _ => rn_pick_f rfl) ?_
    refine WA_take 11 (by kernel_rfl) rfl (fun _ _ => rn_move) ?_
    refine WA_skip 12 (by kernel_rfl) rfl ?_
    refine WA_skip 13 (by kernel_rfl) rfl ?_
    refine WA_skip 14 (by kernel_rfl) rfl ?_
    refine WA_skip 15 (by kernel_rfl) rfl ?_
    refine WA_skip 16 (by kernel_rfl) rfl ?_
    refine WA_take 17 (by kernel_rfl) rfl (fun _ _ => rn_pick_f rfl) ?_
    refine WA_take 18 (by kernel_rfl) rfl (fun _ _ => rn_move) ?_
    refine WA_skip 19 (by kernel_rfl) rfl ?_
    refine WA_skip 20 (by kernel_rfl) rfl ?_
    refine WA_skip 21 (by kernel_rfl) rfl ?_
    refine WA_take 22 (by kernel_rfl) rfl (fun _ _ => rn_pick_f rfl) ?_
    refine WA_take 23 (by kernel_rfl) rfl (fun _ _ => rn_assign) ?_
    refine WA_done (by kernel_rfl) ?_
    refine thenN ?_
    refine W_seq ?_
    refine W_region ?_
    refine WR_val rfl (rn_load rfl (Ld.rowA (k := 2) hr4 (by kernel_rfl) (by kernel_rfl) (by first | (simp; done) | (simp [bv_length, *]; done) | assumption))) ?_
    refine WR_val rfl (rn_move) ?_
    refine WR_sk rfl (sk_storeA 2 ([.int .u64 (hdC s), .int .u64 (hdS s)]) rfl rfl hr2 (by kernel_rfl) (by first | assumption | (simp; done) | (simp [bv_length, *]; done)) (by first | assumption | (simp; done) | (simp [bv_length, *]; done) | rfl) (by first | exact bv_one _ | assumption | (simp [Value.oneCell']; done)) (fun w911 hr2 ho911 => ?_))
    replace hr1 := hr1.only ho911 (Nat.ne_of_lt lt_g1_g2)
    replace hr4 := hr4.only ho911 (Nat.ne_of_gt lt_g2_g4)
    replace hB := ho911.below hB ge_hB_g2
    refine WR_val rfl (rn_assign) ?_
    refine WR_nil ?_
    refine thenN ?_
    refine W_ret ?_
    refine ret_ret [_, _] ⟨⟨_, rfl, Ld.rowA (k := 2) hr2 (by kernel_rfl) (by kernel_rfl) (by first | (simp; done) | (simp [bv_length, *]; done) | assumption)⟩, rfl, trivial⟩ ?_
    refine ⟨?_, hB⟩
    rw [hz]
    rfl
end Go.Proofs.YtielfpkjoidomaaGreat
namespace Go.Proofs.YtielfpkjoidomaaGreat
open Go Go.RowKit Coup
def wf64 (i : Int) : Prop := -9223372036854775808 ≤ i ∧ i ≤ 9223372036854775807
def fitsN (all : Nat) (n : Int) : Bool := decide (4 ≤ n ∧ n ≤ 4000 ∧ 1 + n ≤ all)
section
variable {Y : World → List Nat → Prop} {g lo : Nat} {L : List Nat} {D : Dk} {w : World}
set_option maxRecDepth 20000 in
theorem may49 (h : Two (DZ g D) Y lo L w) (n : Int) (hn : wf64 n) : Calls Tryz.prog 74 [.pointer (some ⟨g, 0, none⟩), .int .i64 n].toArray w (Ret fun v w' => v = .int .i64 (if fitsN D.V.length n then 0 else 2) ∧ w = w') := by
  have hS := tSectors h
  have hp := (tOk h).2
  have hn8 := (tOk h).1.n
  have h1 := hn.1
  have h2 := hn.2
  refine calls_W (fn := Tryz.f74) (rs := [.tmp 4]) (n := 23) Tryz.func74 rfl rfl Tryz.ntmps74 (by kernel_rfl) rfl ?_
  refine W_seq ?_
  refine W_region ?_
  refine WR_val rfl (rn_assign) ?_
  refine WR_nil ?_
  refine thenN ?_
  refine W_seq ?_
  refine W_block ?_
  refine W_seq ?_
  refine W_region ?_
  refine WR_val rfl (rn_move) ?_
  refine WR_ent rfl (rn_call (by kernel_rfl) rfl) (hS) ?_
  rintro _ _ ⟨rfl, rfl⟩
  refine WR_val rfl (rn_eql rfl rfl) ?_
  refine WR_val rfl (rn_assign) ?_
  refine WR_nil ?_
  refine thenN ?_
  refine W_fp rfl ((by omega)) ?_
  refine W_seq ?_
  refine W_region ?_
  refine WR_val rfl (rn_move) ?_
  refine WR_val rfl (rn_lss rfl rfl) ?_
  refine WR_val rfl (rn_move) ?_
  refine WR_part 12 rfl (fun h3 => ?_) (fun h3 => ?_)
  ·
    refine WR_no rfl rfl ?_
    refine WR_no rfl rfl ?_
    refine WR_val rfl (rn_pick_t rfl) ?_
    refine WR_val rfl (rn_move) ?_
    refine WR_no rfl rfl ?_
    refine WR_no rfl rfl ?_
    refine WR_no rfl rfl ?_
    refine WR_no rfl rfl ?_
    refine WR_no rfl rfl ?_
    refine WR_val rfl (rn_pick_t rfl) ?_
    refine WR_val rfl (rn_assign) ?_
    refine WR_nil ?_
    refine thenN ?_
    refine W_tb rfl (rfl) ?_
    refine W_seq ?_
    refine W_region ?_
    refine WR_val rfl (rn_assign) ?_
    refine WR_nil ?_
    refine thenN ?_
    refine W_ret ?_
    refine blockR ?_
    refine thenR ?_
    refine ret_ret [_] ⟨rfl, trivial⟩ ?_
    have hz : fitsN D.V.length n = false := decide_eq_false (by omega)
    exact ⟨by rw [hz]; rfl, rfl⟩
  ·
    refine WR_yes rfl ?_
    refine WR_val rfl (rn_move) ?_
    refine WR_yes rfl ?_
    refine WR_val rfl (rn_gtr rfl rfl) ?_
    refine WR_val rfl (rn_pick_f rfl) ?_
    refine WR_val rfl (rn_move) ?_
    refine WR_part 16 rfl (fun h4 => ?_) (fun h4 => ?_)
    ·
      refine WR_no rfl rfl ?_
      refine WR_no rfl rfl ?_
      refine WR_no rfl rfl ?_
      refine WR_no rfl rfl ?_
      refine WR_no rfl rfl ?_
      refine WR_val rfl (rn_pick_t rfl) ?_
      refine WR_val rfl (rn_assign) ?_
      refine WR_nil ?_
      refine thenN ?_
      refine W_tb rfl (rfl) ?_
      refine W_seq ?_
      refine W_region ?_
      refine WR_val rfl (rn_assign) ?_
      refine WR_nil ?_
      refine thenN ?_
      refine W_ret ?_
      refine blockR ?_
      refine thenR ?_
      refine ret_ret [_] ⟨rfl, trivial⟩ ?_
      have hz : fitsN D.V.length n = false := decide_eq_false (by omega)
      exact ⟨by rw [hz]; rfl, rfl⟩
    ·
      refine WR_yes rfl ?_
      refine WR_val rfl (rn_move) ?_
      refine WR_yes rfl ?_
      refine WR_ent rfl (rn_call (by kernel_rfl) rfl) (hS) ?_
      rintro _ _ ⟨rfl, rfl⟩
      refine WR_yes rfl ?_
      refine WR_val rfl (rn_move) ?_
      refine WR_yes rfl ?_
      refine WR_val rfl (rn_add rfl rfl (Coup.w64 (by omega))) ?_
      refine WR_yes rfl ?_
      refine WR_val rfl (rn_lss rfl rfl) ?_
      refine WR_val rfl (rn_pick_f rfl) ?_
      refine WR_val rfl (rn_assign) ?_
      refine WR_nil ?_
      refine thenN ?_
      refine W_ifp rfl (fun h5 => ?_) (fun h5 => ?_)
      ·
        refine W_seq ?_
        refine W_region ?_
        refine WR_val rfl (rn_assign) ?_
        refine WR_nil ?_
        refine thenN ?_
        refine W_ret ?_
        refine blockR ?_
        refine thenR ?_
        refine ret_ret [_] ⟨rfl, trivial⟩ ?_
        have hz : fitsN D.V.length n = false := decide_eq_false (by omega)
        exact ⟨by rw [hz]; rfl, rfl⟩
      ·
        refine W_skip ?_
        refine blockN ?_
        refine thenN ?_
        refine W_seq ?_
        refine W_region ?_
        refine WR_val rfl (rn_assign) ?_
        refine WR_nil ?_
        refine thenN ?_
        refine W_ret ?_
        refine ret_ret [_] ⟨rfl, trivial⟩ ?_
        have hz : fitsN D.V.length n = true := decide_eq_true (by omega)
        exact ⟨by rw [hz]; rfl, rfl⟩
end
section
variable {Y : World → List Nat → Prop} [Thing Y] {g lo : Nat} {L : List Nat} {D : Dk} {w : World}
def saveD (D : Dk) (c s : Nat) : Dk := if stepOk D then flushD (writeA D 0 (headB c s)) else writeA D 0 (headB c s)
set_option maxRecDepth 20000 in
theorem save54 (h : Two (DZ g D) Y lo L w) (c s : Nat) (hc : c < 18446744073709551616) (hs : s < 18446744073709551616) (hsh : shortD D 90000) :
    Calls Tryz.prog 79 [.pointer (some ⟨g, 0, none⟩), .agg #[.int .u64 c, .int .u64 s]].toArray w (Ret fun v w' => v = .int .i64 (if stepOk D && stepOk (writeA D 0 (headB c s)) then 0 else 10) ∧ Two (DZ g (saveD D c s)) Y lo L w' ∧ LoL lo L w w') := by
  have hD := h
  have hLL := LoL.refl lo L w
  have hin : inD D 0 = true := decide_eq_true ⟨by omega, by have := (tOk h).2; omega⟩
  have hS := fun w' => sector72 c s w' hc hs
  have hHl := headB_len c s
  have hob : ∃ H, headB c s = H := ⟨_, rfl⟩
  obtain ⟨H, hH⟩ := hob
  rw [saveD, hH]
  rw [hH] at hS hHl
  refine calls_W (fn := Tryz.f79) (rs := [.tmp 4]) (n := 15) Tryz.func79 rfl rfl Tryz.ntmps79 (by kernel_rfl) rfl ?_
  refine W_seq ?_
  refine W_region ?_
  refine WR_mk rfl (mk_box ([.int .u64 c, .int .u64 s]) rfl (fun g3 w3 hg3 hr3 hb3 => ?_))
  replace hD := hD.newc hb3 hg3 hr3.lt
  replace hLL := hLL.new hb3
  refine WR_val rfl (rn_assign) ?_
  refine WR_nil ?_
  refine thenN ?_
  refine W_seq ?_
  refine W_seq ?_
  refine W_region ?_
  refine WR_val rfl (rn_move) ?_
  refine WR_val rfl (rn_load rfl (Ld.rowA (k := 2) hr3 (by kernel_rfl) (by kernel_rfl) (by first | (simp; done) | (simp [bv_length, *]; done) | assumption))) ?_
  refine WR_ent rfl (rn_call (by kernel_rfl) rfl) (hS w3) ?_
  rintro _ w8 ⟨rfl, hb8⟩
  replace hD := hD.new hb8
  replace hLL := hLL.new hb8
  replace hr3 := hr3.new hb8
  have hw := tWrite hD 0 H hHl hsh
  rw [writeE, hin, if_pos rfl] at hw
  refine WR_ent rfl (rn_call (by kernel_rfl) rfl) (hw) ?_
  rintro _ w9 ⟨rfl, hD, hb9⟩
  replace hLL := hLL.ll hb9 (by first | (intro b hb; exact hb) | (intro b hb; simp [hb]; done) | simp)
  replace hr3 := hr3.kpd hb9.kp (by first | (refine notLL ?_; left; omega) | (refine notLL ?_; right; simp; done) | (intro b o e; cases e; first | (refine notLL ?_; left; omega) | (refine notLL ?_; right; simp; done) | (refine notLL ?_; right; simp [*]; done)) | (intro b hb; refine notLL ?_; left; omega) | (intro b hb e; cases e; exact notLL (by right; simp [*]) hb))
  refine WR_val rfl (rn_assign) ?_
  refine WR_nil ?_
  refine thenN ?_
  refine W_seq ?_
  refine W_region ?_
  refine WR_val rfl (rn_move) ?_
  refine WR_val rfl (rn_neq rfl rfl) ?_
  refine WR_nil ?_
  refine thenN ?_
  refine W_ifp rfl (fun hne => ?_) (fun hne => ?_)
  ·
    refine W_seq ?_
    refine W_region ?_
    refine WR_val rfl (rn_move) ?_
    refine WR_val rfl (rn_assign) ?_
    refine WR_nil ?_
    refine thenN ?_
    refine W_ret ?_
    refine thenR ?_
    refine ret_ret [_] ⟨rfl, trivial⟩ ?_
    have hf : stepOk D = false := by cases hx : stepOk D with | false => rfl | true => simp [hx] at hne
    refine ⟨by rw [hf]; rfl, ?_, hLL⟩
    rw [hf]
    exact hD.weak (fun b hb => List.mem_cons_of_mem _ hb)
  ·
    have hf : stepOk D = true := by cases hx : stepOk D with | true => rfl | false => simp [hx] at hne
    rw [hf, if_pos rfl, Bool.true_and]
    refine W_skip ?_
    refine thenN ?_
    refine W_seq ?_
    refine W_region ?_
    refine WR_val rfl (rn_move) ?_
    refine WR_ent rfl (rn_call (by kernel_rfl) rfl) (tFlush hD) ?_
    rintro _ w14 ⟨rfl, hD, hb14⟩
    replace hLL := hLL.ll hb14 (by first | (intro b hb; exact hb) | (intro b hb; simp [hb]; done) | simp)
    replace hr3 := hr3.kpd hb14.kp (by first | (refine notLL ?_; left; omega) | (refine notLL ?_; right; simp; done) | (intro b o e; cases e; first | (refine notLL ?_; left; omega) | (refine notLL ?_; right; simp; done) | (refine notLL ?_; right; simp [*]; done)) | (intro b hb; refine notLL ?_; left; omega) | (intro b hb e; cases e; exact notLL (by right; simp [*]) hb))
    refine WR_val rfl (rn_assign) ?_
    refine WR_nil ?_
    refine thenN ?_
    refine W_ret ?_
    refine ret_ret [_] ⟨rfl, trivial⟩ ?_
    exact ⟨rfl, hD.weak (fun b hb => List.mem_cons_of_mem _ hb), hLL⟩
def zerosD (D : Dk) (m : Nat) : Dk := (List.range m).foldl (fun (D : Dk) (i : Nat) => writeA D (i : Int) zeroS) D
theorem zerosD_succ (D : Dk) (m : Nat) : zerosD D (m + 1) = writeA (zerosD D m) (m : Int) zeroS := by simp [zerosD, List.range_succ]
theorem zeros_alive {D : Dk} {k : Nat} (h : Alive D k) : ∀ m, Alive (zerosD D m) (m + k) ∧ (zerosD D m).V.length = D.V.length
  | 0 => ⟨by rw [Nat.zero_add]; exact h, rfl⟩
  | m + 1 => by
    obtain ⟨h1, h2⟩ := zeros_alive h m
    rw [zerosD_succ]
    obtain ⟨e1, e2, _⟩ := h1.writeA (m : Int) zeroS
    exact ⟨e1.weak (by omega), e2.trans h2⟩
def fmtD (D : Dk) (n : Nat) : Dk := flushD (writeA (flushD (zerosD D (1 + n))) 0 (headB 1 1))
set_option maxRecDepth 20000 in
set_option maxHeartbeats 1000000 in
theorem format26 (h : Two (DZ g D) Y lo L w) (n : Int) (hn : wf64 n) (ha : Alive D 80000) :
    Calls Tryz.prog 46 [.pointer (some ⟨g, 0, none⟩), .int .i64 n].toArray w (Ret fun v w' => v = .int .i64 (if fitsN D.V.length n then 0 else 2) ∧ Two (DZ g (if fitsN D.V.length n then fmtD D n.toNat else D)) Y lo L w' ∧ LoL lo L w w') := by
  have hD := h
  have hLL := LoL.refl lo L w
  have hM := may49 h n hn
  obtain ⟨Z, hzz, hzb, hzl⟩ := zeroSQ
  have hZl : Z.length = 128 := by rw [← bv_length]; exact hzl
  have hzs := fun m => zerosD_succ D m
  simp only [hzz] at hzs
  obtain ⟨ft, hft⟩ : ∃ ft, fitsN D.V.length n = ft := ⟨_, rfl⟩
  rw [hft] at hM ⊢
  refine calls_W (fn := Tryz.f46) (rs := [.tmp 4]) (n := 36) Tryz.func46 rfl rfl Tryz.ntmps46 (by kernel_rfl) rfl ?_
  refine W_seq ?_
  refine W_region ?_
  refine WR_val rfl (rn_assign) ?_
  refine WR_nil ?_
  refine thenN ?_
  refine W_seq ?_
  refine W_seq ?_
  refine W_region ?_
  refine WR_val rfl (rn_move) ?_
  refine WR_val rfl (rn_move) ?_
  refine WR_ent rfl (rn_call (by kernel_rfl) rfl) (hM) ?_
  rintro _ _ ⟨rfl, rfl⟩
  refine WR_val rfl (rn_assign) ?_
  refine WR_nil ?_
  refine thenN ?_
  refine W_seq ?_
  refine W_region ?_
  refine WR_val rfl (rn_move) ?_
  refine WR_val rfl (rn_neq rfl rfl) ?_
  refine WR_nil ?_
  refine thenN ?_
  refine W_ifp rfl (fun hne => ?_) (fun hne => ?_)
  ·
    refine W_seq ?_
    refine W_region ?_
    refine WR_val rfl (rn_move) ?_
    refine WR_val rfl (rn_assign) ?_
    refine WR_nil ?_
    refine thenN ?_
    refine W_ret ?_
    refine thenR ?_
    refine ret_ret [_] ⟨rfl, trivial⟩ ?_
    have hf : ft = false := by cases ft with | false => rfl | true => simp at hne
    subst hf
    exact ⟨rfl, hD, hLL⟩
  ·
    have hf : ft = true := by cases ft with | true => rfl | false => simp at hne
    subst hf
    have hfit := of_decide_eq_true hft
    have hobt : ∃ m : Nat, n = m := ⟨n.toNat, by omega⟩
    obtain ⟨m, rfl⟩ := hobt
    rw [if_pos rfl, if_pos rfl, Int.toNat_natCast]
    refine W_skip ?_
    refine thenN ?_
    refine W_seq ?_
    refine W_seq ?_
    refine W_region ?_
    refine WR_val rfl (rn_move) ?_
    refine WR_val rfl (rn_add rfl rfl (Coup.w64 (by omega))) ?_
    refine WR_val rfl (rn_move) ?_
    refine WR_nil ?_
    refine thenN ?_
    refine W_block ?_
    refine W_loop (α := Nat) 0 (fun i => [(17, .int .i64 (i : Nat)), (16, .int .i64 (1 + (m : Int))), (0, .pointer (some ⟨g, 0, none⟩))])
      (fun i w' => i ≤ 1 + m ∧ Two (DZ g (zerosD D i)) Y lo L w' ∧ LoL lo L w w') (fun i => 1 + m - i)
      ⟨rfl, rfl, rfl, rfl⟩ ⟨Nat.zero_le _, hD, hLL⟩ ?_
    clear hD hLL
    rintro i f wr ⟨hi, hD, hLL⟩
    have hal := zeros_alive ha i
    have hst := step_alive hal.1.left hal.1.dead
    refine W_seq ?_
    refine W_region ?_
    refine WR_val rfl (rn_lss rfl rfl) ?_
    refine WR_nil ?_
    refine thenN ?_
    refine W_seq ?_
    refine W_ifp rfl (fun hlt => ?_) (fun hlt => ?_)
    ·
      refine W_skip ?_
      refine thenN ?_
      refine W_seq ?_
      refine W_block ?_
      refine W_seq ?_
      refine W_region ?_
      refine WR_val rfl (rn_move) ?_
      refine WR_val rfl (rn_assign) ?_
      refine WR_nil ?_
      refine thenN ?_
      refine W_seq ?_
      refine W_region ?_
      refine WR_val rfl (rn_move) ?_
      refine WR_val rfl (rn_move) ?_
      refine WR_val rfl (rn_zeroed (bv Z) (by rw [← hzb]; kernel_rfl)) ?_
      have hw := tWrite hD (i : Int) Z hZl (short_of hal.1.short (by omega))
      have hin : inD (zerosD D i) (i : Int) = true := decide_eq_true (by omega)
      rw [writeE, hin, hst.1, if_pos rfl, if_pos rfl, ← hzs] at hw
      refine WR_ent rfl (rn_call (by kernel_rfl) rfl) (hw) ?_
      rintro _ w23 ⟨rfl, hD, hb23⟩
      replace hLL := hLL.ll hb23 (by first | (intro b hb; exact hb) | (intro b hb; simp [hb]; done) | simp)
      refine WR_val rfl (rn_assign) ?_
      refine WR_nil ?_
      refine thenN ?_
      refine W_seq ?_
      refine W_region ?_
      refine WR_val rfl (rn_move) ?_
      refine WR_val rfl (rn_neq rfl rfl) ?_
      refine WR_nil ?_
      refine thenN ?_
      refine W_fp rfl ((by omega)) ?_
      refine W_skip ?_
      refine blockN ?_
      refine thenN ?_
      refine W_region ?_
      refine WR_val rfl (rn_add rfl rfl (Coup.w64 (by omega))) ?_
      refine WR_val rfl (rn_move) ?_
      refine WR_nil ?_
      refine loopN ⟨i + 1, by omega, ⟨by go_num, rfl, rfl, rfl⟩, by omega, hD, hLL⟩
    ·
      have him : i = 1 + m := by omega
      subst him
      have hfa := flush_alive hal.1
      have hfl := flush_len (D := zerosD D (1 + m))
      have hw1 := hfa.2.writeA 0 (headB 1 1)
      have hst2 := step_alive hfa.2.left hfa.2.dead
      have hst3 := step_alive hw1.1.left hw1.1.dead
      refine W_exit ?_
      refine thenX ?_
      refine loopX ?_
      refine blockX ?_
      refine thenN ?_
      refine W_seq ?_
      refine W_seq ?_
      refine W_region ?_
      refine WR_val rfl (rn_move) ?_
      have hf := tFlush hD
      rw [hst.1, if_pos rfl] at hf
      refine WR_ent rfl (rn_call (by kernel_rfl) rfl) (hf) ?_
      rintro _ w29 ⟨rfl, hD, hb29⟩
      replace hLL := hLL.ll hb29 (by first | (intro b hb; exact hb) | (intro b hb; simp [hb]; done) | simp)
      refine WR_val rfl (rn_assign) ?_
      refine WR_nil ?_
      refine thenN ?_
      refine W_seq ?_
      refine W_region ?_
      refine WR_val rfl (rn_move) ?_
      refine WR_val rfl (rn_neq rfl rfl) ?_
      refine WR_nil ?_
      refine thenN ?_
      refine W_fp rfl ((by omega)) ?_
      refine W_skip ?_
      refine thenN ?_
      refine W_seq ?_
      refine W_region ?_
      refine WR_val rfl (rn_move) ?_
      refine WR_val rfl (rn_pair (k0 := .u64) (k1 := .u64) (by kernel_rfl) (by kernel_rfl) rfl rfl) ?_
      have hsv := save54 hD 1 1 (by omega) (by omega) (short_of hfa.2.short (by omega))
      rw [saveD, hst2.1, if_pos rfl, hst3.1] at hsv
      refine WR_ent rfl (rn_call (by kernel_rfl) rfl) (hsv) ?_
      rintro _ w35 ⟨rfl, hD, hb35⟩
      replace hLL := hLL.ll hb35 (by first | (intro b hb; exact hb) | (intro b hb; simp [hb]; done) | simp)
      refine WR_val rfl (rn_assign) ?_
      refine WR_nil ?_
      refine thenN ?_
      refine W_ret ?_
      refine ret_ret [_] ⟨rfl, trivial⟩ ?_
      exact ⟨rfl, hD, hLL⟩
end
end Go.Proofs.YtielfpkjoidomaaGreat
namespace Go.Proofs.YtielfpkjoidomaaGreat
open Go Go.RowKit Coup
structure Lg where
  count : Nat
  since : Nat
  size : Nat
  num : Nat
  at_ : Nat
  dead : Bool
def lgV (g : Nat) (G : Lg) : List Value := [.int .u64 (G.count : Int), .int .u64 (G.since : Int), .pointer (some ⟨g, 0, none⟩), .int .i64 (G.size : Int), .int .i64 (G.num : Int), .int .i64 (G.at_ : Int), .bool G.dead]
structure LgAt (g x : Nat) (Y : World → List Nat → Prop) (lo : Nat) (L : List Nat) (D : Dk) (G : Lg) (w : World) : Prop where
  two : Two (DZ g D) Y lo (x :: L) w
  rowx : row w x (lgV g G) 109
  ge : lo ≤ x
  ni : x ∉ L
namespace LgAt
variable {Y : World → List Nat → Prop} {g x lo gc : Nat} {L L2 M : List Nat} {D : Dk} {G : Lg} {w w' : World}
theorem lt (h : LgAt g x Y lo L D G w) : x < w.heap.size := h.rowx.lt
theorem kpd [hY : Thing Y] (h : LgAt g x Y lo L D G w) (k : Kp M w w') (hM : ∀ b ∈ M, b < lo ∨ b ∈ L) : LgAt g x Y lo L D G w' :=
  ⟨h.two.kpd k fun b hb => (hM b hb).imp id (List.mem_cons_of_mem _), h.rowx.kpd k fun hm => (hM _ hm).elim (fun hl => absurd h.ge (Nat.not_le.2 hl)) h.ni, h.ge, h.ni⟩
theorem new [hY : Thing Y] (h : LgAt g x Y lo L D G w) (hb : Below w.heap.size w w') : LgAt g x Y lo L D G w' := h.kpd (M := []) (Kp.of_below hb) (by simp)
theorem only [hY : Thing Y] (h : LgAt g x Y lo L D G w) (ho : Only gc w w') (hg : gc < lo ∨ gc ∈ L) : LgAt g x Y lo L D G w' := h.kpd (Kp.of_only ho) fun b hb => by rw [List.mem_singleton.1 hb]; exact hg
theorem weak (h : LgAt g x Y lo L D G w) (h2 : ∀ b ∈ L2, b ∈ L) : LgAt g x Y lo L2 D G w := ⟨h.two.weak fun b hb => (List.mem_cons.1 hb).elim (fun e => e ▸ List.mem_cons_self ..) fun hm => List.mem_cons_of_mem _ (h2 b hm), h.rowx, h.ge, fun hm => h.ni (h2 _ hm)⟩
theorem newc [hY : Thing Y] (h : LgAt g x Y lo L D G w) (hb : Below w.heap.size w w') (hg : w.heap.size ≤ gc) (hg' : gc < w'.heap.size) : LgAt g x Y lo (gc :: L) D G w' :=
  ⟨(h.two.newc hb hg hg').weak (L2 := x :: gc :: L) fun b hm => by
    rcases List.mem_cons.1 hm with rfl | hm
    · exact List.mem_cons_of_mem _ (List.mem_cons_self ..)
    · rcases List.mem_cons.1 hm with rfl | hm
      · exact List.mem_cons_self ..
      · exact List.mem_cons_of_mem _ (List.mem_cons_of_mem _ hm), h.rowx.new hb, h.ge, fun hm => by
    rcases List.mem_cons.1 hm with e | hm
    · have := h.lt; omega
    · exact h.ni hm⟩
theorem fst (h : LgAt g x Y lo L D G w) : Two (DZ g D) Y lo L w := h.two.weak fun _ hb => List.mem_cons_of_mem _ hb
end LgAt
section
variable {Y : World → List Nat → Prop} [Thing Y] {g x lo : Nat} {L : List Nat} {D : Dk} {G : Lg} {w : World}
def nextG (G : Lg) (s : Nat) (ok : Bool) : Lg := if ok then { G with count := G.count + 1, since := s } else { G with dead := true }
def saveE (D : Dk) (c s : Nat) : Bool := stepOk D && stepOk (writeA D 0 (headB c s))
set_option maxRecDepth 20000 in
theorem next48 (h : LgAt g x Y lo L D G w) (s : Nat) (hc : G.count + 1 < 18446744073709551616) (hs : s < 18446744073709551616) (hsh : shortD D 90000) :
    Calls Tryz.prog 77 [.pointer (some ⟨x, 0, none⟩), .int .u64 (s : Int)].toArray w (Ret fun v w' => v = .int .i64 (if saveE D (G.count + 1) s then 0 else 10) ∧ LgAt g x Y lo L (saveD D (G.count + 1) s) (nextG G s (saveE D (G.count + 1) s)) w' ∧ LoL lo L w w') := by
  obtain ⟨hD, hx, hge, hni⟩ := h
  have hLL := LoL.refl lo L w
  have hxl := hx.lt
  have hsv0 := fun (L : List Nat) (w' : World) (h : Two (DZ g D) Y lo L w') => save54 h (G.count + 1) s hc hs hsh
  obtain ⟨ok, hok⟩ : ∃ ok, saveE D (G.count + 1) s = ok := ⟨_, rfl⟩
  obtain ⟨D2, hD2⟩ : ∃ D2, saveD D (G.count + 1) s = D2 := ⟨_, rfl⟩
  rw [hok, hD2]
  unfold saveE at hok
  rw [hok, hD2] at hsv0
  obtain ⟨c, si, sz, nu, at_, de⟩ := G
  dsimp only [lgV, nextG] at *
  refine calls_W (fn := Tryz.f77) (rs := [.tmp 4]) (n := 31) Tryz.func77 rfl rfl Tryz.ntmps77 (by kernel_rfl) rfl ?_
  refine W_seq ?_
  refine W_region ?_
  refine WR_val rfl (rn_assign) ?_
  refine WR_nil ?_
  refine thenN ?_
  refine W_seq ?_
  refine W_region ?_
  refine WR_val rfl (rn_move) ?_
  refine WR_val rfl (rn_nilCheckP rfl) ?_
  refine WR_val rfl (rn_fieldAddr (off := 0) (by kernel_rfl) rfl) ?_
  refine WR_val rfl (rn_fieldAddr (off := 0) (by kernel_rfl) rfl) ?_
  refine WR_val rfl (rn_load rfl (Ld.row1 hx (by kernel_rfl) rfl)) ?_
  refine WR_val rfl (rn_add rfl rfl (wu64 (by omega))) ?_
  refine WR_val rfl (rn_move) ?_
  refine WR_val rfl (rn_pair (k0 := .u64) (k1 := .u64) (by kernel_rfl) (by kernel_rfl) rfl rfl) ?_
  refine WR_mk rfl (mk_alloc ([Value.int .u64 0, Value.int .u64 0]) (by kernel_rfl) (fun g5 w5 hg5 hr5 hb5 => ?_))
  have lt_x_g5 : x < g5 := Nat.lt_of_lt_of_le hx.lt hg5
  replace hD := hD.newc hb5 hg5 hr5.lt
  replace hx := hx.new hb5
  replace hLL := hLL.new hb5
  refine WR_sk rfl (sk_storeA 2 (_) rfl rfl hr5 (by kernel_rfl) (by first | assumption | (simp; done) | (simp [bv_length, *]; done)) (by first | assumption | (simp; done) | (simp [bv_length, *]; done) | rfl) (by first | exact bv_one _ | assumption | (simp [Value.oneCell']; done)) (fun w901 hr5 ho901 => ?_))
  replace hD := hD.only ho901 (by first | (right; simp; done) | (left; omega))
  replace hx := hx.only ho901 (Nat.ne_of_lt lt_x_g5)
  replace hLL := hLL.only ho901 (by first | omega | (right; exact ⟨by omega, by assumption⟩))
  refine WR_nil ?_
  refine thenN ?_
  refine W_seq ?_
  refine W_seq ?_
  refine W_drawL (lo) ((g5 :: x :: L)) (by kernel_rfl) ?_
  intro w902 hb902 hn902 hS902
  replace hD := hD.new hb902
  replace hx := hx.new hb902
  replace hLL := hLL.new hb902
  replace hr5 := hr5.new hb902
  have hD_d902 := hD
  have hx_d902 := hx
  have hLL_d902 := hLL
  have hr5_d902 := hr5
  refine WA_take 0 (by kernel_rfl) rfl (fun _ _ => rn_move) ?_
  refine WA_take 1 (by kernel_rfl) rfl (fun _ _ => rn_nilCheckP rfl) ?_
  refine WA_take 2 (by kernel_rfl) rfl (fun _ _ => rn_fieldAddr (off := 2) (by kernel_rfl) rfl) ?_
  refine WA_take 3 (by kernel_rfl) rfl (fun w' hS' => rn_load rfl (Ld.row1 (hx_d902.kpd hS' (by first | (simp; done) | (simp; omega) | (simp [*]; done) | exact notLL (Or.inl (by omega)) | exact notLL (Or.inr (by simp)) | exact fun g hm => Nat.le_trans (by omega) (inLL hm).1 | (intro b o e; cases e; exact notLL (Or.inl (by omega))) | (intro b hm; have := (hu.lt b (Option.mem_toList.1 hm)).1; omega) | (intro b o e; cases e; intro hm; have := (hu.lt _ (Option.mem_toList.1 hm)).1; omega))) (by kernel_rfl) rfl)) ?_
  refine WA_take 4 (by kernel_rfl) rfl (fun w' hS' => rn_load rfl (Ld.rowA (k := 2) (hr5_d902.kpd hS' (by first | (simp; done) | (simp; omega) | (simp [*]; done) | exact notLL (Or.inl (by omega)) | exact notLL (Or.inr (by simp)) | exact fun g hm => Nat.le_trans (by omega) (inLL hm).1 | (intro b o e; cases e; exact notLL (Or.inl (by omega))) | (intro b hm; have := (hu.lt b (Option.mem_toList.1 hm)).1; omega) | (intro b o e; cases e; intro hm; have := (hu.lt _ (Option.mem_toList.1 hm)).1; omega))) (by kernel_rfl) (by kernel_rfl) (by first | (simp; done) | (simp [bv_length, *]; done) | assumption))) ?_
  refine WA_one 5 (by kernel_rfl) ?_
  refine WO_ent rfl rfl (rn_call (by kernel_rfl) rfl) (hsv0 _ w902 hD) ?_
  rintro _ w20 ⟨rfl, hD, hb20⟩
  have hS903 := hS902.addLL hn902 hb20
  refine ⟨hS903, ?_⟩
  replace hx := hx.kpd hb20.kp (by first | (refine notLL ?_; left; omega) | (refine notLL ?_; right; simp; done) | (intro b o e; cases e; first | (refine notLL ?_; left; omega) | (refine notLL ?_; right; simp; done) | (refine notLL ?_; right; simp [*]; done)) | (intro b hb; refine notLL ?_; left; omega) | (intro b hb e; cases e; exact notLL (by right; simp [*]) hb))
  replace hLL := hLL.ll hb20 (by first | (intro b hb; exact hb) | (intro b hb; simp [hb]; done) | simp)
  replace hr5 := hr5.kpd hb20.kp (by first | (refine notLL ?_; left; omega) | (refine notLL ?_; right; simp; done) | (intro b o e; cases e; first | (refine notLL ?_; left; omega) | (refine notLL ?_; right; simp; done) | (refine notLL ?_; right; simp [*]; done)) | (intro b hb; refine notLL ?_; left; omega) | (intro b hb e; cases e; exact notLL (by right; simp [*]) hb))
  refine WA_take 6 (by kernel_rfl) rfl (fun _ _ => rn_assign) ?_
  refine WA_done (by kernel_rfl) ?_
  refine thenN ?_
  refine W_seq ?_
  refine W_region ?_
  refine WR_val rfl (rn_move) ?_
  refine WR_val rfl (rn_neq rfl rfl) ?_
  refine WR_nil ?_
  refine thenN ?_
  refine W_ifp rfl (fun hne => ?_) (fun hne => ?_)
  ·
    refine W_seq ?_
    refine W_region ?_
    refine WR_val rfl (rn_move) ?_
    refine WR_val rfl (rn_nilCheckP rfl) ?_
    refine WR_val rfl (rn_fieldAddr (off := 6) (by kernel_rfl) rfl) ?_
    refine WR_sk rfl (sk_store1 rfl rfl rfl rfl hx (by kernel_rfl) (by first | (simp only [List.length_replicate]; omega) | (simp only [iv_length]; omega) | (simp only [bv_length, List.length_set]; omega) | simp) (fun w904 hx ho904 => ?_))
    replace hD := hD.only ho904 (by first | (right; simp; done) | (left; omega))
    replace hLL := hLL.only ho904 (by first | omega | (right; exact ⟨by omega, by assumption⟩))
    replace hr5 := hr5.only ho904 (Nat.ne_of_gt lt_x_g5)
    refine WR_nil ?_
    refine thenN ?_
    refine W_seq ?_
    refine W_region ?_
    refine WR_val rfl (rn_move) ?_
    refine WR_val rfl (rn_assign) ?_
    refine WR_nil ?_
    refine thenN ?_
    refine W_ret ?_
    refine thenR ?_
    refine ret_ret [_] ⟨rfl, trivial⟩ ?_
    have hf : ok = false := by cases ok with | false => rfl | true => simp at hne
    subst hf
    exact ⟨rfl, ⟨hD.weak (fun b hb => List.mem_cons_of_mem _ hb), hx, hge, hni⟩, hLL⟩
  ·
    have hf : ok = true := by cases ok with | true => rfl | false => simp at hne
    subst hf
    refine W_skip ?_
    refine thenN ?_
    refine W_seq ?_
    refine W_region ?_
    refine WR_val rfl (rn_move) ?_
    refine WR_val rfl (rn_load rfl (Ld.rowA (k := 2) hr5 (by kernel_rfl) (by kernel_rfl) (by first | (simp; done) | (simp [bv_length, *]; done) | assumption))) ?_
    refine WR_val rfl (rn_nilCheckP rfl) ?_
    refine WR_val rfl (rn_fieldAddr (off := 0) (by kernel_rfl) rfl) ?_
    refine WR_sk rfl (sk_store [.int .u64 ((c : Int) + 1), .int .u64 (s : Int)] rfl rfl hx (by kernel_rfl) (by simp) (by simp [Value.oneCell']) (fun w905 hx ho905 => ?_))
    replace hD := hD.only ho905 (by first | (right; simp; done) | (left; omega))
    replace hLL := hLL.only ho905 (by first | omega | (right; exact ⟨by omega, by assumption⟩))
    replace hr5 := hr5.only ho905 (Nat.ne_of_gt lt_x_g5)
    refine WR_nil ?_
    refine thenN ?_
    refine W_seq ?_
    refine W_region ?_
    refine WR_val rfl (rn_assign) ?_
    refine WR_nil ?_
    refine thenN ?_
    refine W_ret ?_
    refine ret_ret [_] ⟨rfl, trivial⟩ ?_
    exact ⟨rfl, ⟨hD.weak (fun b hb => List.mem_cons_of_mem _ hb), hx, hge, hni⟩, hLL⟩
omit [Thing Y]
set_option maxRecDepth 20000 in
theorem ready45 (h : LgAt g x Y lo L D G w) : Calls Tryz.prog 68 [.pointer (some ⟨x, 0, none⟩)].toArray w (Ret fun v w' => v = .int .i64 (if G.dead then 10 else 0) ∧ w = w') := by
  obtain ⟨hD, hx, hge, hni⟩ := h
  obtain ⟨c, si, sz, nu, at_, de⟩ := G
  dsimp only [lgV] at *
  refine calls_W (fn := Tryz.f68) (rs := [.tmp 2]) (n := 18) Tryz.func68 rfl rfl Tryz.ntmps68 (by kernel_rfl) rfl ?_
  refine W_seq ?_
  refine W_region ?_
  refine WR_val rfl (rn_assign) ?_
  refine WR_nil ?_
  refine thenN ?_
  refine W_seq ?_
  refine W_block ?_
  refine W_seq ?_
  refine W_region ?_
  refine WR_val rfl (rn_move) ?_
  refine WR_val rfl (rn_eqlP1 (by kernel_rfl) rfl rfl) ?_
  refine WR_val rfl (rn_move) ?_
  refine WR_fb 6 rfl (rfl) ?_
  refine WR_yes rfl ?_
  refine WR_val rfl (rn_move) ?_
  refine WR_yes rfl ?_
  refine WR_val rfl (rn_nilCheckP rfl) ?_
  refine WR_yes rfl ?_
  refine WR_val rfl (rn_fieldAddr (off := 2) (by kernel_rfl) rfl) ?_
  refine WR_yes rfl ?_
  refine WR_val rfl (rn_load rfl (Ld.row1 hx (by kernel_rfl) rfl)) ?_
  refine WR_yes rfl ?_
  refine WR_val rfl (rn_eqlP1 (by kernel_rfl) rfl rfl) ?_
  refine WR_val rfl (rn_pick_f rfl) ?_
  refine WR_val rfl (rn_assign) ?_
  refine WR_nil ?_
  refine thenN ?_
  refine W_fb rfl (rfl) ?_
  refine W_seq ?_
  refine W_region ?_
  refine WR_val rfl (rn_move) ?_
  refine WR_val rfl (rn_nilCheckP rfl) ?_
  refine WR_val rfl (rn_fieldAddr (off := 6) (by kernel_rfl) rfl) ?_
  refine WR_val rfl (rn_load rfl (Ld.row1 hx (by kernel_rfl) rfl)) ?_
  refine WR_val rfl (rn_assign) ?_
  refine WR_nil ?_
  refine thenN ?_
  refine W_if rfl (fun hde => ?_) (fun hde => ?_)
  ·
    refine W_seq ?_
    refine W_region ?_
    refine WR_val rfl (rn_assign) ?_
    refine WR_nil ?_
    refine thenN ?_
    refine W_ret ?_
    refine blockR ?_
    refine thenR ?_
    refine ret_ret [_] ⟨rfl, trivial⟩ ?_
    subst hde
    exact ⟨rfl, rfl⟩
  ·
    refine W_skip ?_
    refine blockN ?_
    refine thenN ?_
    refine W_seq ?_
    refine W_region ?_
    refine WR_val rfl (rn_assign) ?_
    refine WR_nil ?_
    refine thenN ?_
    refine W_ret ?_
    refine ret_ret [_] ⟨rfl, trivial⟩ ?_
    have hf : de = false := by cases de with | false => rfl | true => cases hde
    subst hf
    exact ⟨rfl, rfl⟩
set_option maxRecDepth 20000 in
theorem room19 (h : LgAt g x Y lo L D G w) (hle : G.at_ ≤ G.size) (hsz : G.size ≤ 4000) : Calls Tryz.prog 38 [.pointer (some ⟨x, 0, none⟩)].toArray w (Ret fun v w' => v = .int .i64 ((G.size - G.at_ : Nat) : Int) ∧ Below w.heap.size w w') := by
  obtain ⟨hD, hx, hge, hni⟩ := h
  obtain ⟨c, si, sz, nu, at_, de⟩ := G
  dsimp only [lgV] at *
  have hB := Below.refl w.heap.size w
  refine calls_W (fn := Tryz.f38) (rs := [.tmp 2]) (n := 14) Tryz.func38 rfl rfl Tryz.ntmps38 (by kernel_rfl) rfl ?_
  refine W_seq ?_
  refine W_region ?_
  refine WR_val rfl (rn_assign) ?_
  refine WR_nil ?_
  refine thenN ?_
  refine W_seq ?_
  refine W_seq ?_
  refine W_region ?_
  refine WR_val rfl (rn_move) ?_
  refine WR_val rfl (rn_eqlP1 (by kernel_rfl) rfl rfl) ?_
  refine WR_nil ?_
  refine thenN ?_
  refine W_fb rfl (rfl) ?_
  refine W_skip ?_
  refine thenN ?_
  refine W_seq ?_
  refine W_draw' [] (by kernel_rfl) ?_
  intro w901 hb901 hS901
  replace hx := hx.new hb901
  replace hB := hB.acc hb901
  have hx_d901 := hx
  have hB_d901 := hB
  refine WA_take 0 (by kernel_rfl) rfl (fun _ _ => rn_move) ?_
  refine WA_take 1 (by kernel_rfl) rfl (fun _ _ => rn_nilCheckP rfl) ?_
  refine WA_take 2 (by kernel_rfl) rfl (fun _ _ => rn_fieldAddr (off := 3) (by kernel_rfl) rfl) ?_
  refine WA_take 3 (by kernel_rfl) rfl (fun w' hS' => rn_load rfl (Ld.row1 (hx_d901.kpd hS' (by first | (simp; done) | (simp; omega) | (simp [*]; done) | exact notLL (Or.inl (by omega)) | exact notLL (Or.inr (by simp)) | exact fun g hm => Nat.le_trans (by omega) (inLL hm).1 | (intro b o e; cases e; exact notLL (Or.inl (by omega))) | (intro b hm; have := (hu.lt b (Option.mem_toList.1 hm)).1; omega) | (intro b o e; cases e; intro hm; have := (hu.lt _ (Option.mem_toList.1 hm)).1; omega))) (by kernel_rfl) rfl)) ?_
  refine WA_take 4 (by kernel_rfl) rfl (fun _ _ => rn_move) ?_
  refine WA_take 5 (by kernel_rfl) rfl (fun _ _ => rn_nilCheckP rfl) ?_
  refine WA_take 6 (by kernel_rfl) rfl (fun _ _ => rn_fieldAddr (off := 5) (by kernel_rfl) rfl) ?_
  refine WA_take 7 (by kernel_rfl) rfl (fun w' hS' => rn_load rfl (Ld.row1 (hx_d901.kpd hS' (by first | (simp; done) | (simp; omega) | (simp [*]; done) | exact notLL (Or.inl (by omega)) | exact notLL (Or.inr (by simp)) | exact fun g hm => Nat.le_trans (by omega) (inLL hm).1 | (intro b o e; cases e; exact notLL (Or.inl (by omega))) | (intro b hm; have := (hu.lt b (Option.mem_toList.1 hm)).1; omega) | (intro b o e; cases e; intro hm; have := (hu.lt _ (Option.mem_toList.1 hm)).1; omega))) (by kernel_rfl) rfl)) ?_
  refine WA_take 8 (by kernel_rfl) rfl (fun _ _ => rn_sub rfl rfl (Coup.w64 (by omega))) ?_
  refine WA_take 9 (by kernel_rfl) rfl (fun _ _ => rn_assign) ?_
  refine WA_done (by kernel_rfl) ?_
  refine thenN ?_
  refine W_ret ?_
  refine ret_ret [_] ⟨rfl, trivial⟩ ?_
  have he : (sz : Int) - at_ = ((sz - at_ : Nat) : Int) := by omega
  exact ⟨by show Value.int .i64 ((sz : Int) - at_) = _; rw [he], hB⟩
end
end Go.Proofs.YtielfpkjoidomaaGreat
namespace Go.Proofs.YtielfpkjoidomaaGreat
open Go Go.RowKit Coup
def writesW (D : Dk) (at_ : Nat) : List Sec → Dk × Bool
  | [] => (D, true)
  | s :: l => if stepOk D then writesW (writeA D (at_ : Int) s) (at_ + 1) l else (writeA D (at_ : Int) s, false)
theorem writesW_snoc : ∀ (l : List Sec) (D : Dk) (a : Nat) (s : Sec), (writesW D a l).2 = true → writesW D a (l ++ [s]) = (writeA (writesW D a l).1 ((a + l.length : Nat) : Int) s, stepOk (writesW D a l).1)
  | [], D, a, s, _ => by
    simp only [List.nil_append, writesW, List.length_nil, Nat.add_zero]
    split
    · rename_i h; rw [h]
    · rename_i h; cases hx : stepOk D with
      | true => exact absurd hx h
      | false => rfl
  | t :: l, D, a, s, h => by
    rw [List.cons_append, writesW]
    rw [writesW] at h ⊢
    by_cases hs : stepOk D = true
    · rw [if_pos hs] at h ⊢
      rw [if_pos hs, writesW_snoc l _ _ s h, List.length_cons, show a + 1 + l.length = a + (l.length + 1) by omega]
    · rw [if_neg hs] at h; cases h
theorem writesW_bad : ∀ (l m : List Sec) (D : Dk) (a : Nat), (writesW D a l).2 = false → writesW D a (l ++ m) = writesW D a l
  | [], m, D, a, h => by cases h
  | t :: l, m, D, a, h => by
    rw [List.cons_append, writesW]
    rw [writesW] at h ⊢
    by_cases hs : stepOk D = true
    · rw [if_pos hs] at h ⊢
      rw [if_pos hs, writesW_bad l m _ _ h]
    · rw [if_neg hs, if_neg hs]
theorem writeA_len (D : Dk) (i : Int) (s : Sec) : (writeA D i s).V.length = D.V.length := by
  unfold writeA writeD
  split
  · split
    · show ((stepD D).V.set _ _).length = _
      rw [List.length_set, stepD_V]
    · rw [stepD_V]
  · rfl
theorem writeA_short {D : Dk} {k : Nat} (h : shortD D k) (i : Int) (s : Sec) : shortD (writeA D i s) (k + 1) := by
  unfold writeA writeD
  split
  · rename_i hin
    obtain ⟨m, rfl, hm⟩ := inD_nat hin
    have hsh := h.ver hm
    split
    · intro v hv
      rcases List.mem_or_eq_of_mem_set hv with e | e
      · rw [stepD_V] at e; exact Nat.le_trans (h v e) (by omega)
      · rw [e, List.length_append, List.length_singleton, Int.toNat_natCast]; omega
    · intro v hv; rw [stepD_V] at hv; exact Nat.le_trans (h v hv) (by omega)
  · exact short_of h (by omega)
theorem writesW_len : ∀ (l : List Sec) (D : Dk) (a : Nat), (writesW D a l).1.V.length = D.V.length
  | [], D, a => rfl
  | t :: l, D, a => by
    have h : (writeA D (a : Int) t).V.length = D.V.length := writeA_len _ _ _
    rw [writesW]
    split
    · rw [writesW_len l, h]
    · exact h
theorem writesW_short : ∀ (l : List Sec) (D : Dk) (a k : Nat), shortD D k → shortD (writesW D a l).1 (k + l.length)
  | [], D, a, k, h => h
  | t :: l, D, a, k, h => by
    have h1 : shortD (writeA D (a : Int) t) (k + 1) := writeA_short h _ _
    rw [writesW, List.length_cons]
    split
    · exact short_of (writesW_short l _ _ _ h1) (by omega)
    · exact short_of h1 (by omega)
def secsOf (b : List UInt8) (n : Nat) : List Sec := (List.range n).map fun i => (b.drop (128 * i)).take 128
theorem secsOf_len (b : List UInt8) (n : Nat) : (secsOf b n).length = n := by simp [secsOf]
theorem secsOf_get (b : List UInt8) {n i : Nat} (h : i < n) : (secsOf b n)[i]? = some ((b.drop (128 * i)).take 128) := by
  rw [secsOf, List.getElem?_map, List.getElem?_range h]; rfl
theorem secsOf_ok {b : List UInt8} {n : Nat} (h : b.length = 128 * n) : secsOk (secsOf b n) := fun s hs => by
  obtain ⟨i, hi, rfl⟩ := List.mem_map.1 hs
  have := List.mem_range.1 hi
  rw [List.length_take, List.length_drop]; omega
theorem secsOf_snoc (b : List UInt8) (n : Nat) : secsOf b (n + 1) = secsOf b n ++ [(b.drop (128 * n)).take 128] := by simp [secsOf, List.range_succ]
theorem secsOf_flat (b : List UInt8) : ∀ n, (secsOf b n).flatten = b.take (128 * n)
  | 0 => rfl
  | n + 1 => by
    rw [secsOf_snoc, List.flatten_append, secsOf_flat b n, List.flatten_singleton, Nat.mul_succ, List.take_add]
section
variable {Y : World → List Nat → Prop} [Thing Y] {g x lo : Nat} {L : List Nat} {D : Dk} {G : Lg} {w : World}
def putW (D : Dk) (a : Nat) (R : List Sec) : Dk × Bool := if (writesW D a R).2 then (flushD (writesW D a R).1, stepOk (writesW D a R).1) else writesW D a R
set_option maxRecDepth 20000 in
set_option maxHeartbeats 1000000 in
theorem write47 (h : LgAt g x Y lo L D G w) (R : List Sec) (hR : secsOk R) (p n c : Nat) (hp : p ∈ L) (hn : R.length = n) (hrow : SlAt w (some ⟨p, 0, none⟩) n 128 (bv R.flatten)) (hfit : 1 + G.at_ + n ≤ D.V.length) (hsh : shortD D 80000) (hn2 : n ≤ 4000) :
    Calls Tryz.prog 71 [.pointer (some ⟨x, 0, none⟩), .slice (some ⟨p, 0, none⟩) n c].toArray w (Ret fun v w' => v = .int .i64 (if (putW D (1 + G.at_) R).2 then 0 else 10) ∧ LgAt g x Y lo L (putW D (1 + G.at_) R).1 G w' ∧ LoL lo L w w') := by
  obtain ⟨hD, hx, hge, hni⟩ := h
  have hLL := LoL.refl lo L w
  have hxl := hx.lt
  have hpl := hD.lt p (List.mem_cons_of_mem _ hp)
  have hVn := (tOk hD).1.n
  obtain ⟨cc, si, sz, nu, at_, de⟩ := G
  dsimp only [lgV] at *
  refine calls_W (fn := Tryz.f71) (rs := [.tmp 4]) (n := 37) Tryz.func71 rfl rfl Tryz.ntmps71 (by kernel_rfl) rfl ?_
  refine W_seq ?_
  refine W_region ?_
  refine WR_val rfl (rn_assign) ?_
  refine WR_nil ?_
  refine thenN ?_
  refine W_seq ?_
  refine W_seq ?_
  refine W_region ?_
  refine WR_val rfl (rn_move) ?_
  refine WR_val rfl (rn_lenSl (e := 94) (sz := 128) (by kernel_rfl) rfl rfl) ?_
  refine WR_val rfl (rn_move) ?_
  refine WR_nil ?_
  refine thenN ?_
  refine W_block ?_
  refine W_loop (α := Nat) 0 (fun i => [(10, .int .i64 (i : Nat)), (9, .int .i64 (n : Int)), (8, .slice (some ⟨p, 0, none⟩) n c), (0, .pointer (some ⟨x, 0, none⟩))])
    (fun i w' => i ≤ n ∧ (writesW D (1 + at_) (R.take i)).2 = true ∧ LgAt g x Y lo L (writesW D (1 + at_) (R.take i)).1 ⟨cc, si, sz, nu, at_, de⟩ w' ∧ SlAt w' (some ⟨p, 0, none⟩) n 128 (bv R.flatten) ∧ LoL lo L w w') (fun i => n - i)
    ⟨rfl, rfl, rfl, rfl, rfl⟩ ⟨Nat.zero_le _, rfl, ⟨hD, hx, hge, hni⟩, hrow, hLL⟩ ?_
  clear hD hLL hx hrow
  rintro i f wr ⟨hi, hok, ⟨hD, hx, -, -⟩, hrow, hLL⟩
  dsimp only [lgV] at hx
  have hsz := hLL.size
  have hshi := writesW_short (R.take i) D (1 + at_) 80000 hsh
  have hlni := writesW_len (R.take i) D (1 + at_)
  rw [List.length_take] at hshi
  refine W_seq ?_
  refine W_region ?_
  refine WR_val rfl (rn_lss rfl rfl) ?_
  refine WR_nil ?_
  refine thenN ?_
  refine W_seq ?_
  refine W_ifp rfl (fun hlt => ?_) (fun hlt => ?_)
  ·
    refine W_skip ?_
    refine thenN ?_
    refine W_seq ?_
    refine W_block ?_
    refine W_seq ?_
    refine W_region ?_
    have hix : ∃ s, R[i]? = some s := ⟨_, List.getElem?_eq_getElem (by omega)⟩
    obtain ⟨s, hs⟩ := hix
    have htk : R.take (i + 1) = R.take i ++ [s] := by rw [List.take_add_one, hs]; rfl
    have hsn := writesW_snoc (R.take i) D (1 + at_) s hok
    rw [← htk, List.length_take, Nat.min_eq_left (by omega)] at hsn
    have hsl : s.length = 128 := hR s (List.mem_of_getElem? hs)
    refine WR_val rfl (rn_move) ?_
    refine WR_val rfl (rn_indexSl (e := 94) (sz := 128) (by kernel_rfl) rfl rfl (i) (by omega) (by omega)) ?_
    refine WR_val rfl (rn_load rfl (ld_sec hrow hR hs)) ?_
    refine WR_mk rfl (mk_alloc (List.replicate 128 (Value.int .u8 0)) (by kernel_rfl) (fun g6 w6 hg6 hr6 hb6 => ?_))
    have lt_x_g6 : x < g6 := Nat.lt_of_lt_of_le hx.lt hg6
    replace hD := hD.newc hb6 hg6 hr6.lt
    replace hx := hx.new hb6
    replace hrow := hrow.new hb6
    replace hLL := hLL.new hb6
    refine WR_val rfl (rn_assign) ?_
    refine WR_sk rfl (sk_storeA 128 (_) rfl rfl hr6 (by kernel_rfl) (by first | assumption | (simp; done) | (simp [bv_length, *]; done)) (by first | assumption | (simp; done) | (simp [bv_length, *]; done) | rfl) (by first | exact bv_one _ | assumption | (simp [Value.oneCell']; done)) (fun w901 hr6 ho901 => ?_))
    replace hD := hD.only ho901 (by first | (right; simp; done) | (left; omega))
    replace hx := hx.only ho901 (Nat.ne_of_lt lt_x_g6)
    replace hrow := hrow.only ho901 (by omega)
    replace hLL := hLL.only ho901 (by first | omega | (right; exact ⟨by omega, by assumption⟩))
    refine WR_nil ?_
    refine thenN ?_
    refine W_seq ?_
    refine W_drawL (lo) ((g6 :: x :: L)) (by kernel_rfl) ?_
    intro w902 hb902 hn902 hS902
    replace hD := hD.new hb902
    replace hx := hx.new hb902
    replace hrow := hrow.new hb902
    replace hLL := hLL.new hb902
    replace hr6 := hr6.new hb902
    have hD_d902 := hD
    have hx_d902 := hx
    have hrow_d902 := hrow
    have hLL_d902 := hLL
    have hr6_d902 := hr6
    refine WA_take 0 (by kernel_rfl) rfl (fun _ _ => rn_move) ?_
    refine WA_take 1 (by kernel_rfl) rfl (fun _ _ => rn_nilCheckP rfl) ?_
    refine WA_take 2 (by kernel_rfl) rfl (fun _ _ => rn_fieldAddr (off := 2) (by kernel_rfl) rfl) ?_
    refine WA_take 3 (by kernel_rfl) rfl (fun w' hS' => rn_load rfl (Ld.row1 (hx_d902.kpd hS' (by first | (simp; done) | (simp; omega) | (simp [*]; done) | exact notLL (Or.inl (by omega)) | exact notLL (Or.inr (by simp)) | exact fun g hm => Nat.le_trans (by omega) (inLL hm).1 | (intro b o e; cases e; exact notLL (Or.inl (by omega))) | (intro b hm; have := (hu.lt b (Option.mem_toList.1 hm)).1; omega) | (intro b o e; cases e; intro hm; have := (hu.lt _ (Option.mem_toList.1 hm)).1; omega))) (by kernel_rfl) rfl)) ?_
    refine WA_take 4 (by kernel_rfl) rfl (fun _ _ => rn_move) ?_
    refine WA_take 5 (by kernel_rfl) rfl (fun _ _ => rn_nilCheckP rfl) ?_
    refine WA_take 6 (by kernel_rfl) rfl (fun _ _ => rn_fieldAddr (off := 5) (by kernel_rfl) rfl) ?_
    refine WA_take 7 (by kernel_rfl) rfl (fun w' hS' => rn_load rfl (Ld.row1 (hx_d902.kpd hS' (by first | (simp; done) | (simp; omega) | (simp [*]; done) | exact notLL (Or.inl (by omega)) | exact notLL (Or.inr (by simp)) | exact fun g hm => Nat.le_trans (by omega) (inLL hm).1 | (intro b o e; cases e; exact notLL (Or.inl (by omega))) | (intro b hm; have := (hu.lt b (Option.mem_toList.1 hm)).1; omega) | (intro b o e; cases e; intro hm; have := (hu.lt _ (Option.mem_toList.1 hm)).1; omega))) (by kernel_rfl) rfl)) ?_
    refine WA_take 8 (by kernel_rfl) rfl (fun _ _ => rn_add rfl rfl (Coup.w64 (by omega))) ?_
    refine WA_take 9 (by kernel_rfl) rfl (fun _ _ => rn_move) ?_
    refine WA_take 10 (by kernel_rfl) rfl (fun _ _ => rn_add rfl rfl (Coup.w64 (by omega))) ?_
    refine WA_take 11 (by kernel_rfl) rfl (fun w' hS' => rn_load rfl (Ld.rowA (k := 128) (hr6_d902.kpd hS' (by first | (simp; done) | (simp; omega) | (simp [*]; done) | exact notLL (Or.inl (by omega)) | exact notLL (Or.inr (by simp)) | exact fun g hm => Nat.le_trans (by omega) (inLL hm).1 | (intro b o e; cases e; exact notLL (Or.inl (by omega))) | (intro b hm; have := (hu.lt b (Option.mem_toList.1 hm)).1; omega) | (intro b o e; cases e; intro hm; have := (hu.lt _ (Option.mem_toList.1 hm)).1; omega))) (by kernel_rfl) (by kernel_rfl) (by first | (simp; done) | (simp [bv_length, *]; done) | assumption))) ?_
    refine WA_one 12 (by kernel_rfl) ?_
    have hw := tWrite hD ((1 + (at_ : Int)) + (i : Int)) s hsl (short_of hshi (by omega))
    refine WO_ent rfl rfl (rn_call (by kernel_rfl) rfl) (hw) ?_
    rintro _ w27 ⟨rfl, hD, hb27⟩
    have hS903 := hS902.addLL hn902 hb27
    refine ⟨hS903, ?_⟩
    replace hx := hx.kpd hb27.kp (by first | (refine notLL ?_; left; omega) | (refine notLL ?_; right; simp; done) | (intro b o e; cases e; first | (refine notLL ?_; left; omega) | (refine notLL ?_; right; simp; done) | (refine notLL ?_; right; simp [*]; done)) | (intro b hb; refine notLL ?_; left; omega) | (intro b hb e; cases e; exact notLL (by right; simp [*]) hb))
    replace hrow := hrow.kpd hb27.kp (by first | (refine notLL ?_; left; omega) | (refine notLL ?_; right; simp; done) | (intro b o e; cases e; first | (refine notLL ?_; left; omega) | (refine notLL ?_; right; simp; done) | (refine notLL ?_; right; simp [*]; done)) | (intro b hb; refine notLL ?_; left; omega) | (intro b hb e; cases e; exact notLL (by right; simp [*]) hb))
    replace hLL := hLL.ll hb27 (by first | (intro b hb; exact hb) | (intro b hb; simp [hb]; done) | simp)
    replace hr6 := hr6.kpd hb27.kp (by first | (refine notLL ?_; left; omega) | (refine notLL ?_; right; simp; done) | (intro b o e; cases e; first | (refine notLL ?_; left; omega) | (refine notLL ?_; right; simp; done) | (refine notLL ?_; right; simp [*]; done)) | (intro b hb; refine notLL ?_; left; omega) | (intro b hb e; cases e; exact notLL (by right; simp [*]) hb))
    refine WA_take 13 (by kernel_rfl) rfl (fun _ _ => rn_assign) ?_
    refine WA_done (by kernel_rfl) ?_
    refine thenN ?_
    refine W_seq ?_
    refine W_region ?_
    have hin : inD (writesW D (1 + at_) (R.take i)).1 ((1 + (at_ : Int)) + (i : Int)) = true := decide_eq_true (by omega)
    have hcast : (1 + (at_ : Int)) + (i : Int) = ((1 + at_ + i : Nat) : Int) := by omega
    rw [writeE, hin, if_pos rfl]
    rw [hcast] at hD
    refine WR_val rfl (rn_move) ?_
    refine WR_val rfl (rn_neq rfl rfl) ?_
    refine WR_nil ?_
    refine thenN ?_
    refine W_ifp rfl (fun hne => ?_) (fun hne => ?_)
    ·
      refine W_seq ?_
      refine W_region ?_
      refine WR_val rfl (rn_move) ?_
      refine WR_val rfl (rn_assign) ?_
      refine WR_nil ?_
      refine thenN ?_
      refine W_ret ?_
      refine blockR ?_
      refine thenR ?_
      refine loopR ?_
      refine blockR ?_
      refine thenR ?_
      refine ret_ret [_] ⟨rfl, trivial⟩ ?_
      have hf : stepOk (writesW D (1 + at_) (R.take i)).1 = false := by cases hq : stepOk (writesW D (1 + at_) (R.take i)).1 with | false => rfl | true => simp [hq] at hne
      rw [hf] at hsn
      have hbd := writesW_bad (R.take (i + 1)) (R.drop (i + 1)) D (1 + at_) (by rw [hsn])
      rw [List.take_append_drop, hsn] at hbd
      rw [putW, hbd]
      exact ⟨by rw [hf]; rfl, ⟨hD.weak (fun b hb => List.mem_cons_of_mem _ hb), hx, hge, hni⟩, hLL⟩
    ·
      have hf : stepOk (writesW D (1 + at_) (R.take i)).1 = true := by cases hq : stepOk (writesW D (1 + at_) (R.take i)).1 with | true => rfl | false => simp [hq] at hne
      refine W_skip ?_
      refine blockN ?_
      refine thenN ?_
      refine W_region ?_
      refine WR_val rfl (rn_add rfl rfl (Coup.w64 (by omega))) ?_
      refine WR_val rfl (rn_move) ?_
      refine WR_nil ?_
      refine loopN ⟨i + 1, by omega, ⟨by go_num, rfl, rfl, rfl, rfl⟩, by omega, by rw [hsn]; exact hf, ?_, hrow, hLL⟩
      rw [hsn]
      exact ⟨hD.weak (fun b hb => List.mem_cons_of_mem _ hb), hx, hge, hni⟩
  ·
    have hin : i = n := by omega
    subst hin
    rw [List.take_of_length_le (by omega)] at hok hD hshi hlni
    refine W_exit ?_
    refine thenX ?_
    refine loopX ?_
    refine blockX ?_
    refine thenN ?_
    refine W_seq ?_
    refine W_region ?_
    refine WR_val rfl (rn_move) ?_
    refine WR_val rfl (rn_nilCheckP rfl) ?_
    refine WR_val rfl (rn_fieldAddr (off := 2) (by kernel_rfl) rfl) ?_
    refine WR_val rfl (rn_load rfl (Ld.row1 hx (by kernel_rfl) rfl)) ?_
    refine WR_ent rfl (rn_call (by kernel_rfl) rfl) (tFlush hD) ?_
    rintro _ w36 ⟨rfl, hD, hb36⟩
    replace hx := hx.kpd hb36.kp (by first | (refine notLL ?_; left; omega) | (refine notLL ?_; right; simp; done) | (intro b o e; cases e; first | (refine notLL ?_; left; omega) | (refine notLL ?_; right; simp; done) | (refine notLL ?_; right; simp [*]; done)) | (intro b hb; refine notLL ?_; left; omega) | (intro b hb e; cases e; exact notLL (by right; simp [*]) hb))
    replace hrow := hrow.kpd hb36.kp (by first | (refine notLL ?_; left; omega) | (refine notLL ?_; right; simp; done) | (intro b o e; cases e; first | (refine notLL ?_; left; omega) | (refine notLL ?_; right; simp; done) | (refine notLL ?_; right; simp [*]; done)) | (intro b hb; refine notLL ?_; left; omega) | (intro b hb e; cases e; exact notLL (by right; simp [*]) hb))
    replace hLL := hLL.ll hb36 (by first | (intro b hb; exact hb) | (intro b hb; simp [hb]; done) | simp)
    refine WR_val rfl (rn_assign) ?_
    refine WR_nil ?_
    refine thenN ?_
    refine W_ret ?_
    refine ret_ret [_] ⟨rfl, trivial⟩ ?_
    rw [putW, hok, if_pos rfl]
    exact ⟨rfl, ⟨hD, hx, hge, hni⟩, hLL⟩
def truncG (G : Lg) : Lg := { G with count := G.count + 1, since := G.count + 1, num := 0, at_ := 0 }
set_option maxRecDepth 20000 in
theorem trunc18 (h : LgAt g x Y lo L D G w) (hc : G.count ≤ 4611686018427387904) (hsh : shortD D 90000) :
    Calls Tryz.prog 67 [.pointer (some ⟨x, 0, none⟩)].toArray w (Ret fun v w' => ∃ e : Int, v = .int .i64 e ∧ LoL lo L w w' ∧
      ((G.dead = true ∧ e = 10 ∧ LgAt g x Y lo L D G w') ∨ (G.dead = false ∧ G.count = 4611686018427387904 ∧ e = 8 ∧ LgAt g x Y lo L D G w') ∨
        (G.dead = false ∧ G.count < 4611686018427387904 ∧ saveE D (G.count + 1) (G.count + 1) = false ∧ e = 10 ∧ LgAt g x Y lo L (saveD D (G.count + 1) (G.count + 1)) { G with dead := true } w') ∨
        (G.dead = false ∧ G.count < 4611686018427387904 ∧ saveE D (G.count + 1) (G.count + 1) = true ∧ e = 0 ∧ LgAt g x Y lo L (saveD D (G.count + 1) (G.count + 1)) (truncG G) w'))) := by
  have hLL := LoL.refl lo L w
  have hrd := ready45 h
  have hG := h
  have hxl := h.lt
  obtain ⟨dd, hdd⟩ : ∃ dd, G.dead = dd := ⟨_, rfl⟩
  rw [hdd] at hrd ⊢
  refine calls_W (fn := Tryz.f67) (rs := [.tmp 2]) (n := 33) Tryz.func67 rfl rfl Tryz.ntmps67 (by kernel_rfl) rfl ?_
  refine W_seq ?_
  refine W_region ?_
  refine WR_val rfl (rn_assign) ?_
  refine WR_nil ?_
  refine thenN ?_
  refine W_seq ?_
  refine W_seq ?_
  refine W_region ?_
  refine WR_val rfl (rn_move) ?_
  refine WR_ent rfl (rn_call (by kernel_rfl) rfl) (hrd) ?_
  rintro _ _ ⟨rfl, rfl⟩
  refine WR_val rfl (rn_assign) ?_
  refine WR_nil ?_
  refine thenN ?_
  refine W_seq ?_
  refine W_region ?_
  refine WR_val rfl (rn_move) ?_
  refine WR_val rfl (rn_neq rfl rfl) ?_
  refine WR_nil ?_
  refine thenN ?_
  refine W_ifp rfl (fun hne => ?_) (fun hne => ?_)
  ·
    refine W_seq ?_
    refine W_region ?_
    refine WR_val rfl (rn_move) ?_
    refine WR_val rfl (rn_assign) ?_
    refine WR_nil ?_
    refine thenN ?_
    refine W_ret ?_
    refine thenR ?_
    refine ret_ret [_] ⟨rfl, trivial⟩ ?_
    have hf : dd = true := by cases dd with | true => rfl | false => simp at hne
    subst hf
    exact ⟨_, rfl, hLL, .inl ⟨rfl, rfl, hG⟩⟩
  ·
    have hf : dd = false := by cases dd with | false => rfl | true => simp at hne
    subst hf
    refine W_skip ?_
    refine thenN ?_
    refine W_seq ?_
    refine W_seq ?_
    refine W_region ?_
    refine WR_val rfl (rn_move) ?_
    refine WR_val rfl (rn_nilCheckP rfl) ?_
    refine WR_val rfl (rn_fieldAddr (off := 0) (by kernel_rfl) rfl) ?_
    refine WR_val rfl (rn_fieldAddr (off := 0) (by kernel_rfl) rfl) ?_
    refine WR_val rfl (rn_load rfl ((Ld.row1 hG.rowx (by kernel_rfl) rfl))) ?_
    refine WR_val rfl (rn_eql rfl rfl) ?_
    refine WR_nil ?_
    refine thenN ?_
    refine W_ifp rfl (fun he => ?_) (fun he => ?_)
    ·
      refine W_seq ?_
      refine W_region ?_
      refine WR_val rfl (rn_assign) ?_
      refine WR_nil ?_
      refine thenN ?_
      refine W_ret ?_
      refine thenR ?_
      refine ret_ret [_] ⟨rfl, trivial⟩ ?_
      exact ⟨_, rfl, hLL, .inr (.inl ⟨rfl, by omega, rfl, hG⟩)⟩
    ·
      have hcl : G.count < 4611686018427387904 := by omega
      have hobt : ∃ ok, saveE D (G.count + 1) (G.count + 1) = ok := ⟨_, rfl⟩
      obtain ⟨ok, hok⟩ := hobt
      have hnx := next48 hG (G.count + 1) (by omega) (by omega) hsh
      rw [hok] at hnx ⊢
      refine W_skip ?_
      refine thenN ?_
      refine W_seq ?_
      refine W_seq ?_
      refine W_region ?_
      refine WR_val rfl (rn_move) ?_
      refine WR_val rfl (rn_move) ?_
      refine WR_val rfl (rn_nilCheckP rfl) ?_
      refine WR_val rfl (rn_fieldAddr (off := 0) (by kernel_rfl) rfl) ?_
      refine WR_val rfl (rn_fieldAddr (off := 0) (by kernel_rfl) rfl) ?_
      refine WR_val rfl (rn_load rfl ((Ld.row1 hG.rowx (by kernel_rfl) rfl))) ?_
      refine WR_val rfl (rn_add rfl rfl (wu64 (by omega))) ?_
      refine WR_ent rfl (rn_call (by kernel_rfl) rfl) (hnx) ?_
      rintro _ w23 ⟨rfl, hG, hb23⟩
      replace hLL := hLL.ll hb23 (by first | (intro b hb; exact hb) | (intro b hb; simp [hb]; done) | simp)
      refine WR_val rfl (rn_assign) ?_
      refine WR_nil ?_
      refine thenN ?_
      refine W_seq ?_
      refine W_region ?_
      refine WR_val rfl (rn_move) ?_
      refine WR_val rfl (rn_neq rfl rfl) ?_
      refine WR_nil ?_
      refine thenN ?_
      refine W_ifp rfl (fun hn2 => ?_) (fun hn2 => ?_)
      ·
        refine W_seq ?_
        refine W_region ?_
        refine WR_val rfl (rn_move) ?_
        refine WR_val rfl (rn_assign) ?_
        refine WR_nil ?_
        refine thenN ?_
        refine W_ret ?_
        refine thenR ?_
        refine ret_ret [_] ⟨rfl, trivial⟩ ?_
        have hf : ok = false := by cases ok with | false => rfl | true => simp at hn2
        subst hf
        exact ⟨_, rfl, hLL, .inr (.inr (.inl ⟨rfl, hcl, rfl, rfl, hG⟩))⟩
      ·
        have hf : ok = true := by cases ok with | true => rfl | false => simp at hn2
        subst hf
        obtain ⟨hD, hx, hge, hni⟩ := hG
        obtain ⟨c, si, sz, nu, at_, de⟩ := G
        dsimp only [lgV, nextG] at hx hdd
        subst hdd
        rw [if_pos rfl] at hx
        dsimp only at hx
        refine W_skip ?_
        refine thenN ?_
        refine W_seq ?_
        refine W_region ?_
        refine WR_val rfl (rn_move) ?_
        refine WR_val rfl (rn_move) ?_
        refine WR_val rfl (rn_nilCheckP rfl) ?_
        refine WR_val rfl (rn_fieldAddr (off := 4) (by kernel_rfl) rfl) ?_
        refine WR_sk rfl (sk_store1 rfl rfl rfl rfl hx (by kernel_rfl) (by first | (simp only [List.length_replicate]; omega) | (simp only [iv_length]; omega) | (simp only [bv_length, List.length_set]; omega) | simp) (fun w901 hx ho901 => ?_))
        replace hLL := hLL.only ho901 (by first | omega | (right; exact ⟨by omega, by assumption⟩))
        replace hD := hD.only ho901 (by first | (right; simp; done) | (left; omega))
        refine WR_val rfl (rn_nilCheckP rfl) ?_
        refine WR_val rfl (rn_fieldAddr (off := 5) (by kernel_rfl) rfl) ?_
        refine WR_sk rfl (sk_store1 rfl rfl rfl rfl hx (by kernel_rfl) (by first | (simp only [List.length_replicate]; omega) | (simp only [iv_length]; omega) | (simp only [bv_length, List.length_set]; omega) | simp) (fun w902 hx ho902 => ?_))
        replace hLL := hLL.only ho902 (by first | omega | (right; exact ⟨by omega, by assumption⟩))
        replace hD := hD.only ho902 (by first | (right; simp; done) | (left; omega))
        refine WR_nil ?_
        refine thenN ?_
        refine W_seq ?_
        refine W_region ?_
        refine WR_val rfl (rn_assign) ?_
        refine WR_nil ?_
        refine thenN ?_
        refine W_ret ?_
        refine ret_ret [_] ⟨rfl, trivial⟩ ?_
        exact ⟨_, rfl, hLL, .inr (.inr (.inr ⟨rfl, hcl, rfl, rfl, ⟨hD, hx, hge, hni⟩⟩))⟩
end
end Go.Proofs.YtielfpkjoidomaaGreat
namespace Go.Proofs.YtielfpkjoidomaaGreat
open Go Go.RowKit Coup
structure LgOk (D : Dk) (G : Lg) : Prop where
  s1 : 1 ≤ G.since
  sc : G.since ≤ G.count
  cm : G.count ≤ 4611686018427387904
  sz4 : 4 ≤ G.size
  szm : G.size ≤ 4000
  at_ : G.at_ ≤ G.size
  num : G.num ≤ G.at_
  fit : 1 + G.size ≤ D.V.length
def rowW (G : Lg) (R : Rec) : List Sec := secsOf (rowB G.count G.num (recB R)) (needN (516 * R.length))
theorem rowW_len (G : Lg) (R : Rec) : (rowW G R).length = needN (516 * R.length) := secsOf_len _ _
theorem rowW_flat (G : Lg) {R : Rec} (h : chsOk R) : (rowW G R).flatten = rowB G.count G.num (recB R) ∧ secsOk (rowW G R) := by
  have hl := rowB_len G.count G.num (recB R)
  rw [recB_len h] at hl
  refine ⟨?_, secsOf_ok hl⟩
  rw [rowW, secsOf_flat, ← hl, List.take_length]
def commitR (D : Dk) (G : Lg) (R : Rec) : Int × Dk × Lg :=
  if G.dead then (10, D, G) else if mayR R = false then (2, D, G) else if G.size < G.at_ + (rowW G R).length then (8, D, G)
  else if (putW D (1 + G.at_) (rowW G R)).2 then (0, (putW D (1 + G.at_) (rowW G R)).1, { G with at_ := G.at_ + (rowW G R).length, num := G.num + 1 }) else (10, (putW D (1 + G.at_) (rowW G R)).1, { G with dead := true })
section
variable {Y : World → List Nat → Prop} [Thing Y] {g x lo : Nat} {L : List Nat} {D : Dk} {G : Lg} {w : World}
set_option maxRecDepth 20000 in
omit [Thing Y] in
theorem commit_dead (h : LgAt g x Y lo L D G w) (hd : G.dead = true) (R : Rec) (p : Option Addr) (n cp : Nat) :
    Calls Tryz.prog 41 [.pointer (some ⟨x, 0, none⟩), .slice p n cp].toArray w (Ret fun v w' => v = .int .i64 (commitR D G R).1 ∧ LgAt g x Y lo L (commitR D G R).2.1 (commitR D G R).2.2 w' ∧ LoL lo L w w') := by
  have hLL := LoL.refl lo L w
  have hrd := ready45 h
  have hG := h
  rw [hd] at hrd
  rw [commitR, hd, if_pos rfl]
  refine calls_W (fn := Tryz.f41) (rs := [.tmp 4]) (n := 72) Tryz.func41 rfl rfl Tryz.ntmps41 (by kernel_rfl) rfl ?_
  refine W_seq ?_
  refine W_region ?_
  refine WR_val rfl (rn_assign) ?_
  refine WR_nil ?_
  refine thenN ?_
  refine W_seq ?_
  refine W_seq ?_
  refine W_region ?_
  refine WR_val rfl (rn_move) ?_
  refine WR_ent rfl (rn_call (by kernel_rfl) rfl) (hrd) ?_
  rintro _ _ ⟨rfl, rfl⟩
  refine WR_val rfl (rn_assign) ?_
  refine WR_nil ?_
  refine thenN ?_
  refine W_seq ?_
  refine W_region ?_
  refine WR_val rfl (rn_move) ?_
  refine WR_val rfl (rn_neq rfl rfl) ?_
  refine WR_nil ?_
  refine thenN ?_
  refine W_tp rfl ((by simp)) ?_
  refine W_seq ?_
  refine W_region ?_
  refine WR_val rfl (rn_move) ?_
  refine WR_val rfl (rn_assign) ?_
  refine WR_nil ?_
  refine thenN ?_
  refine W_ret ?_
  refine thenR ?_
  refine ret_ret [_] ⟨rfl, trivial⟩ ?_
  exact ⟨rfl, hG, hLL⟩
set_option maxRecDepth 20000 in
theorem commit_no (h : LgAt g x Y lo L D G w) (hd : G.dead = false) (R : Rec) (hR : chsOk R) (hm : mayR R = false) (p : Option Addr) (n cp : Nat) (hs : SlAt w p n 513 (chsV R)) (hn : R.length = n) (hn2 : n ≤ 1000000) :
    Calls Tryz.prog 41 [.pointer (some ⟨x, 0, none⟩), .slice p n cp].toArray w (Ret fun v w' => v = .int .i64 (commitR D G R).1 ∧ LgAt g x Y lo L (commitR D G R).2.1 (commitR D G R).2.2 w' ∧ LoL lo L w w') := by
  have hLL := LoL.refl lo L w
  have hrd := ready45 h
  have hG := h
  have hby := (bytes9 R hR p n cp w hs hn hn2).to fun v w' (h : ((mayR R = true ∧ ∃ g o c, v = .tuple #[.slice (some ⟨g, o, none⟩) (516 * n) c, .int .i64 0] ∧ w.heap.size ≤ g ∧ 516 * n ≤ c ∧ SlAt w' (some ⟨g, o, none⟩) (516 * n) 1 (bv (recB R))) ∨ (mayR R = false ∧ v = .tuple #[.slice none 0 0, .int .i64 2])) ∧ Below w.heap.size w w') => (show v = .tuple #[.slice none 0 0, .int .i64 2] ∧ Below w.heap.size w w' from ⟨h.1.elim (fun h => by rw [hm] at h; cases h.1) fun h => h.2, h.2⟩)
  rw [hd] at hrd
  rw [commitR, hd, if_neg (by simp), if_pos hm]
  refine calls_W (fn := Tryz.f41) (rs := [.tmp 4]) (n := 72) Tryz.func41 rfl rfl Tryz.ntmps41 (by kernel_rfl) rfl ?_
  refine W_seq ?_
  refine W_region ?_
  refine WR_val rfl (rn_assign) ?_
  refine WR_nil ?_
  refine thenN ?_
  refine W_seq ?_
  refine W_seq ?_
  refine W_region ?_
  refine WR_val rfl (rn_move) ?_
  refine WR_ent rfl (rn_call (by kernel_rfl) rfl) (hrd) ?_
  rintro _ _ ⟨rfl, rfl⟩
  refine WR_val rfl (rn_assign) ?_
  refine WR_nil ?_
  refine thenN ?_
  refine W_seq ?_
  refine W_region ?_
  refine WR_val rfl (rn_move) ?_
  refine WR_val rfl (rn_neq rfl rfl) ?_
  refine WR_nil ?_
  refine thenN ?_
  refine W_fp rfl ((by simp)) ?_
  refine W_skip ?_
  refine thenN ?_
  refine W_seq ?_
  refine W_region ?_
  refine WR_val rfl (rn_move) ?_
  refine WR_ent rfl (rn_call (by kernel_rfl) rfl) (hby) ?_
  rintro _ w18 ⟨rfl, hb18⟩
  replace hG := hG.new hb18
  replace hLL := hLL.new hb18
  refine WR_val rfl (rn_move) ?_
  refine WR_val rfl (rn_extract rfl rfl) ?_
  refine WR_val rfl (rn_extract rfl rfl) ?_
  refine WR_val rfl (rn_assign) ?_
  refine WR_val rfl (rn_assign) ?_
  refine WR_nil ?_
  refine thenN ?_
  refine W_seq ?_
  refine W_block ?_
  refine W_seq ?_
  refine W_region ?_
  refine WR_val rfl (rn_move) ?_
  refine WR_val rfl (rn_neq rfl rfl) ?_
  refine WR_val rfl (rn_assign) ?_
  refine WR_nil ?_
  refine thenN ?_
  refine W_tp rfl ((by simp)) ?_
  refine W_seq ?_
  refine W_region ?_
  refine WR_val rfl (rn_move) ?_
  refine WR_val rfl (rn_assign) ?_
  refine WR_nil ?_
  refine thenN ?_
  refine W_ret ?_
  refine blockR ?_
  refine thenR ?_
  refine ret_ret [_] ⟨rfl, trivial⟩ ?_
  exact ⟨rfl, hG, hLL⟩
set_option maxRecDepth 20000 in
set_option maxHeartbeats 1000000 in
theorem commit_yes (h : LgAt g x Y lo L D G w) (hok : LgOk D G) (hsh : shortD D 80000) (hd : G.dead = false) (R : Rec) (hR : chsOk R) (hm : mayR R = true) (p : Option Addr) (n cp : Nat) (hs : SlAt w p n 513 (chsV R)) (hn : R.length = n) (hn2 : n ≤ 1000000) :
    Calls Tryz.prog 41 [.pointer (some ⟨x, 0, none⟩), .slice p n cp].toArray w (Ret fun v w' => v = .int .i64 (commitR D G R).1 ∧ LgAt g x Y lo L (commitR D G R).2.1 (commitR D G R).2.2 w' ∧ LoL lo L w w') := by
  have hLL := LoL.refl lo L w
  have hrd := ready45 h
  have hG := h
  have hby := (bytes9 R hR p n cp w hs hn hn2).to fun v w' (h : ((mayR R = true ∧ ∃ g o c, v = .tuple #[.slice (some ⟨g, o, none⟩) (516 * n) c, .int .i64 0] ∧ w.heap.size ≤ g ∧ 516 * n ≤ c ∧ SlAt w' (some ⟨g, o, none⟩) (516 * n) 1 (bv (recB R))) ∨ (mayR R = false ∧ v = .tuple #[.slice none 0 0, .int .i64 2])) ∧ Below w.heap.size w w') => (show ∃ g o c, v = .tuple #[.slice (some ⟨g, o, none⟩) (516 * n) c, .int .i64 0] ∧ w.heap.size ≤ g ∧ SlAt w' (some ⟨g, o, none⟩) (516 * n) 1 (bv (recB R)) ∧ Below w.heap.size w w' from h.1.elim (fun ⟨_, g, o, c, h1, h2, _, h3⟩ => ⟨g, o, c, h1, h2, h3, h.2⟩) fun h => by rw [hm] at h; cases h.1)
  rw [hd] at hrd
  have hn60 : 1 ≤ n ∧ n ≤ 60 := by
    have := of_decide_eq_true (Bool.and_eq_true_iff.1 hm).1
    rwa [hn] at this
  have hnw := (needW_pos hn60).1
  have hnd := (needW_pos hn60).2
  have hlen := rowW_len G R
  obtain ⟨hfl, hso⟩ := rowW_flat G hR
  have hrl := rowB_len G.count G.num (recB R)
  rw [recB_len hR, hn] at hrl
  rw [hn] at hlen
  have hN : needN (516 * n) ≤ 1000 := by unfold needN manyN; omega
  have hmt : mayT (G.count : Int) (G.num : Int) = true := by
    have h1 := hok.s1
    have h2 := hok.sc
    have h3 := hok.cm
    have h4 := hok.szm
    have h5 := hok.at_
    have h6 := hok.num
    unfold mayT
    rw [decide_eq_true (by omega), decide_eq_true (by unfold maxCount; omega), decide_eq_true (by omega), decide_eq_true (by omega)]; rfl
  have hfit := hok.fit
  have hat := hok.at_
  have hszm := hok.szm
  have hnum := hok.num
  rw [commitR, hd, if_neg (by simp), if_neg (by rw [hm]; simp), hlen]
  generalize rowW G R = RW at *
  generalize hNe : needN (516 * n) = N at *
  obtain ⟨pw, hpw⟩ : ∃ pw, putW D (1 + G.at_) RW = pw := ⟨_, rfl⟩
  rw [hpw]
  obtain ⟨D2, ok⟩ := pw
  refine calls_W (fn := Tryz.f41) (rs := [.tmp 4]) (n := 72) Tryz.func41 rfl rfl Tryz.ntmps41 (by kernel_rfl) rfl ?_
  refine W_seq ?_
  refine W_region ?_
  refine WR_val rfl (rn_assign) ?_
  refine WR_nil ?_
  refine thenN ?_
  refine W_seq ?_
  refine W_seq ?_
  refine W_region ?_
  refine WR_val rfl (rn_move) ?_
  refine WR_ent rfl (rn_call (by kernel_rfl) rfl) (hrd) ?_
  rintro _ _ ⟨rfl, rfl⟩
  refine WR_val rfl (rn_assign) ?_
  refine WR_nil ?_
  refine thenN ?_
  refine W_seq ?_
  refine W_region ?_
  refine WR_val rfl (rn_move) ?_
  refine WR_val rfl (rn_neq rfl rfl) ?_
  refine WR_nil ?_
  refine thenN ?_
  refine W_fp rfl ((by simp)) ?_
  refine W_skip ?_
  refine thenN ?_
  refine W_seq ?_
  refine W_region ?_
  refine WR_val rfl (rn_move) ?_
  refine WR_ent rfl (rn_call (by kernel_rfl) rfl) (hby) ?_
  rintro _ w18 ⟨gb, ob, cb, rfl, hgb, hbs, hb18⟩
  replace hG := hG.new hb18
  replace hLL := hLL.new hb18
  refine WR_val rfl (rn_move) ?_
  refine WR_val rfl (rn_extract rfl rfl) ?_
  refine WR_val rfl (rn_extract rfl rfl) ?_
  refine WR_val rfl (rn_assign) ?_
  refine WR_val rfl (rn_assign) ?_
  refine WR_nil ?_
  refine thenN ?_
  refine W_seq ?_
  refine W_block ?_
  refine W_seq ?_
  refine W_region ?_
  refine WR_val rfl (rn_move) ?_
  refine WR_val rfl (rn_neq rfl rfl) ?_
  refine WR_val rfl (rn_assign) ?_
  refine WR_nil ?_
  refine thenN ?_
  refine W_fp rfl ((by simp)) ?_
  refine W_seq ?_
  refine W_region ?_
  refine WR_val rfl (rn_move) ?_
  refine WR_val rfl (rn_lenSl (e := 73) (sz := 513) (by kernel_rfl) rfl rfl) ?_
  refine WR_ent rfl (rn_call (by kernel_rfl) rfl) (need10 n w18) ?_
  rintro _ _ ⟨rfl, rfl⟩
  refine WR_val rfl (rn_move) ?_
  refine WR_ent rfl (rn_call (by kernel_rfl) rfl) (room19 hG hat hszm) ?_
  rintro _ w30 ⟨rfl, hb30⟩
  replace hG := hG.new hb30
  replace hLL := hLL.new hb30
  replace hbs := hbs.new hb30
  rw [hnw]
  refine WR_val rfl (rn_gtr rfl rfl) ?_
  refine WR_val rfl (rn_assign) ?_
  refine WR_nil ?_
  refine thenN ?_
  refine W_ifp rfl (fun hgt => ?_) (fun hgt => ?_)
  ·
    refine W_seq ?_
    refine W_region ?_
    refine WR_val rfl (rn_assign) ?_
    refine WR_nil ?_
    refine thenN ?_
    refine W_ret ?_
    refine blockR ?_
    refine thenR ?_
    refine ret_ret [_] ⟨rfl, trivial⟩ ?_
    have hlt : G.size < G.at_ + N := by omega
    rw [if_pos hlt]
    exact ⟨rfl, hG, hLL⟩
  ·
    have hlt : ¬ G.size < G.at_ + N := by omega
    rw [if_neg hlt]
    refine W_skip ?_
    refine blockN ?_
    refine thenN ?_
    refine W_seq ?_
    refine W_draw' [] (by kernel_rfl) ?_
    intro w901 hb901 hS901
    replace hG := hG.new hb901
    replace hLL := hLL.new hb901
    replace hbs := hbs.new hb901
    have hG_d901 := hG
    have hLL_d901 := hLL
    have hbs_d901 := hbs
    refine WA_take 0 (by kernel_rfl) rfl (fun _ _ => rn_move) ?_
    refine WA_take 1 (by kernel_rfl) rfl (fun _ _ => rn_nilCheckP rfl) ?_
    refine WA_take 2 (by kernel_rfl) rfl (fun _ _ => rn_fieldAddr (off := 0) (by kernel_rfl) rfl) ?_
    refine WA_take 3 (by kernel_rfl) rfl (fun _ _ => rn_fieldAddr (off := 0) (by kernel_rfl) rfl) ?_
    refine WA_take 4 (by kernel_rfl) rfl (fun w' hS' => rn_load rfl ((Ld.row1 (hG_d901.kpd hS' (by first | (simp; done) | (simp; omega) | (simp [*]; done) | exact notLL (Or.inl (by omega)) | exact notLL (Or.inr (by simp)) | exact fun g hm => Nat.le_trans (by omega) (inLL hm).1 | (intro b o e; cases e; exact notLL (Or.inl (by omega))) | (intro b hm; have := (hu.lt b (Option.mem_toList.1 hm)).1; omega) | (intro b o e; cases e; intro hm; have := (hu.lt _ (Option.mem_toList.1 hm)).1; omega))).rowx (by kernel_rfl) rfl))) ?_
    refine WA_take 5 (by kernel_rfl) rfl (fun _ _ => rn_move) ?_
    refine WA_take 6 (by kernel_rfl) rfl (fun _ _ => rn_nilCheckP rfl) ?_
    refine WA_take 7 (by kernel_rfl) rfl (fun _ _ => rn_fieldAddr (off := 4) (by kernel_rfl) rfl) ?_
    refine WA_take 8 (by kernel_rfl) rfl (fun w' hS' => rn_load rfl ((Ld.row1 (hG_d901.kpd hS' (by first | (simp; done) | (simp; omega) | (simp [*]; done) | exact notLL (Or.inl (by omega)) | exact notLL (Or.inr (by simp)) | exact fun g hm => Nat.le_trans (by omega) (inLL hm).1 | (intro b o e; cases e; exact notLL (Or.inl (by omega))) | (intro b hm; have := (hu.lt b (Option.mem_toList.1 hm)).1; omega) | (intro b o e; cases e; intro hm; have := (hu.lt _ (Option.mem_toList.1 hm)).1; omega))).rowx (by kernel_rfl) rfl))) ?_
    refine WA_take 9 (by kernel_rfl) rfl (fun _ _ => rn_pair (k0 := .u64) (k1 := .i64) (by kernel_rfl) (by kernel_rfl) rfl rfl) ?_
    refine WA_take 10 (by kernel_rfl) rfl (fun _ _ => rn_move) ?_
    refine WA_one 11 (by kernel_rfl) ?_
    have hsp := split_yes G.count G.num hmt (recB R) _ (516 * n) cb w901 hbs (by omega)
    rw [hNe] at hsp
    refine WO_ent rfl rfl (rn_call (by kernel_rfl) rfl) (hsp) ?_
    rintro _ w44 ⟨gq, rfl, hgq, hrq, hb44⟩
    replace hG := hG.newc hb44 hgq hrq.lt
    have hS902 := hS901.add0 hb44
    refine ⟨hS902, ?_⟩
    replace hLL := hLL.new hb44
    refine WA_take 12 (by kernel_rfl) rfl (fun _ _ => rn_move) ?_
    refine WA_take 13 (by kernel_rfl) rfl (fun _ _ => rn_extract rfl rfl) ?_
    refine WA_take 14 (by kernel_rfl) rfl (fun _ _ => rn_extract rfl rfl) ?_
    refine WA_take 15 (by kernel_rfl) rfl (fun _ _ => rn_assign) ?_
    refine WA_take 16 (by kernel_rfl) rfl (fun _ _ => rn_assign) ?_
    refine WA_done (by kernel_rfl) ?_
    refine thenN ?_
    refine W_seq ?_
    refine W_seq ?_
    refine W_region ?_
    refine WR_val rfl (rn_move) ?_
    refine WR_val rfl (rn_move) ?_
    have hrs := hrq.slA (m := N) (sz := 128) (by rw [bv_length, hrl]; omega) (by unfold maxLen; omega)
    rw [← hfl] at hrs
    have hwr := write47 hG RW hso gq N N (List.mem_cons_self ..) hlen hrs (by omega) hsh (by omega)
    rw [hpw] at hwr
    clear hrl hNe hnw
    refine WR_ent rfl (rn_call (by kernel_rfl) rfl) (hwr) ?_
    rintro _ w49 ⟨rfl, hG, hb49⟩
    replace hLL := hLL.ll hb49 (by first | (intro b hb; exact hb) | (intro b hb; simp [hb]; done) | simp)
    refine WR_val rfl (rn_assign) ?_
    refine WR_nil ?_
    refine thenN ?_
    refine W_seq ?_
    refine W_region ?_
    obtain ⟨hD, hx, hge, hni⟩ := hG
    obtain ⟨c, si, sz, nu, at_, de⟩ := G
    dsimp only [lgV] at hx hd hnum hat hszm hfit
    subst hd
    replace hD := hD.weak (L2 := x :: L) (fun b hb => (List.mem_cons.1 hb).elim (fun e => e ▸ List.mem_cons_self ..) fun hm => List.mem_cons_of_mem _ (List.mem_cons_of_mem _ hm))
    replace hni : x ∉ L := fun hm => hni (List.mem_cons_of_mem _ hm)
    refine WR_val rfl (rn_move) ?_
    refine WR_val rfl (rn_neq rfl rfl) ?_
    refine WR_nil ?_
    refine thenN ?_
    refine W_ifp rfl (fun hne => ?_) (fun hne => ?_)
    ·
      refine W_seq ?_
      refine W_region ?_
      refine WR_val rfl (rn_move) ?_
      refine WR_val rfl (rn_nilCheckP rfl) ?_
      refine WR_val rfl (rn_fieldAddr (off := 6) (by kernel_rfl) rfl) ?_
      refine WR_sk rfl (sk_store1 rfl rfl rfl rfl hx (by kernel_rfl) (by first | (simp only [List.length_replicate]; omega) | (simp only [iv_length]; omega) | (simp only [bv_length, List.length_set]; omega) | simp) (fun w903 hx ho903 => ?_))
      replace hLL := hLL.only ho903 (by first | omega | (right; exact ⟨by omega, by assumption⟩))
      replace hD := hD.only ho903 (by first | (right; simp; done) | (left; omega))
      refine WR_nil ?_
      refine thenN ?_
      refine W_seq ?_
      refine W_region ?_
      refine WR_val rfl (rn_move) ?_
      refine WR_val rfl (rn_assign) ?_
      refine WR_nil ?_
      refine thenN ?_
      refine W_ret ?_
      refine thenR ?_
      refine ret_ret [_] ⟨rfl, trivial⟩ ?_
      have hf : ok = false := by cases ok with | false => rfl | true => simp at hne
      subst hf
      exact ⟨rfl, ⟨hD, hx, hge, hni⟩, hLL⟩
    ·
      have hf : ok = true := by cases ok with | true => rfl | false => simp at hne
      subst hf
      refine W_skip ?_
      refine thenN ?_
      refine W_seq ?_
      refine W_region ?_
      refine WR_val rfl (rn_move) ?_
      refine WR_val rfl (rn_nilCheckP rfl) ?_
      refine WR_val rfl (rn_fieldAddr (off := 5) (by kernel_rfl) rfl) ?_
      refine WR_val rfl (rn_load rfl (Ld.row1 hx (by kernel_rfl) rfl)) ?_
      refine WR_val rfl (rn_move) ?_
      refine WR_val rfl (rn_lenSl (e := 94) (sz := 128) (by kernel_rfl) rfl rfl) ?_
      refine WR_val rfl (rn_add rfl rfl (Coup.w64 (by omega))) ?_
      refine WR_val rfl (rn_nilCheckP rfl) ?_
      refine WR_val rfl (rn_fieldAddr (off := 5) (by kernel_rfl) rfl) ?_
      refine WR_sk rfl (sk_store1 rfl rfl rfl rfl hx (by kernel_rfl) (by first | (simp only [List.length_replicate]; omega) | (simp only [iv_length]; omega) | (simp only [bv_length, List.length_set]; omega) | simp) (fun w904 hx ho904 => ?_))
      replace hLL := hLL.only ho904 (by first | omega | (right; exact ⟨by omega, by assumption⟩))
      replace hD := hD.only ho904 (by first | (right; simp; done) | (left; omega))
      refine WR_nil ?_
      refine thenN ?_
      refine W_seq ?_
      refine W_region ?_
      have hx2 : row w904 x [.int .u64 (c : Int), .int .u64 (si : Int), .pointer (some ⟨g, 0, none⟩), .int .i64 (sz : Int), .int .i64 (nu : Int), .int .i64 ((at_ : Int) + (N : Int)), .bool false] 109 := hx
      replace hx := hx2
      clear hx2
      refine WR_val rfl (rn_move) ?_
      refine WR_val rfl (rn_nilCheckP rfl) ?_
      refine WR_val rfl (rn_fieldAddr (off := 4) (by kernel_rfl) rfl) ?_
      refine WR_val rfl (rn_load rfl (Ld.row1 hx (by kernel_rfl) rfl)) ?_
      refine WR_val rfl (rn_add rfl rfl (Coup.w64 (by omega))) ?_
      refine WR_val rfl (rn_nilCheckP rfl) ?_
      refine WR_val rfl (rn_fieldAddr (off := 4) (by kernel_rfl) rfl) ?_
      refine WR_sk rfl (sk_store1 rfl rfl rfl rfl hx (by kernel_rfl) (by first | (simp only [List.length_replicate]; omega) | (simp only [iv_length]; omega) | (simp only [bv_length, List.length_set]; omega) | simp) (fun w905 hx ho905 => ?_))
      replace hLL := hLL.only ho905 (by first | omega | (right; exact ⟨by omega, by assumption⟩))
      replace hD := hD.only ho905 (by first | (right; simp; done) | (left; omega))
      refine WR_nil ?_
      refine thenN ?_
      refine W_seq ?_
      refine W_region ?_
      refine WR_val rfl (rn_assign) ?_
      refine WR_nil ?_
      refine thenN ?_
      refine W_ret ?_
      refine ret_ret [_] ⟨rfl, trivial⟩ ?_
      exact ⟨rfl, ⟨hD, hx, hge, hni⟩, hLL⟩
theorem commit17 (h : LgAt g x Y lo L D G w) (hok : LgOk D G) (hsh : shortD D 80000) (R : Rec) (hR : chsOk R) (p : Option Addr) (n cp : Nat) (hs : SlAt w p n 513 (chsV R)) (hn : R.length = n) (hn2 : n ≤ 1000000) :
    Calls Tryz.prog 41 [.pointer (some ⟨x, 0, none⟩), .slice p n cp].toArray w (Ret fun v w' => v = .int .i64 (commitR D G R).1 ∧ LgAt g x Y lo L (commitR D G R).2.1 (commitR D G R).2.2 w' ∧ LoL lo L w w') := by
  cases hd : G.dead with
  | true => exact commit_dead h hd R p n cp
  | false =>
    cases hm : mayR R with
    | true => exact commit_yes h hok hsh hd R hR hm p n cp hs hn hn2
    | false => exact commit_no h hd R hR hm p n cp hs hn hn2
end
end Go.Proofs.YtielfpkjoidomaaGreat
namespace Coup
open Go Go.RowKit
def SeqU (P : Program) (gf : Nat) (lb : List Value) (m : Nat) (V : Nat → List Value → World → Prop) (ks : List Nat) (w : World) : Prop :=
  ∀ (l : Nat) (J : Nat → World → Prop) (Jx : World → Prop) (W : World), Below w.heap.size w W →
    (∀ k W W', J k W → Below W.heap.size W W' → J k W') → (∀ W W', Jx W → Below W.heap.size W W' → Jx W') →
    (∀ k v W1, k < m → V k v W1 → J k W1 → YieldT P l v W1 fun e W' => (e = .returned (.bool true) ∧ J (k + 1) W' ∧ (∀ b, b ∈ ks → W'.heap[b]? = W1.heap[b]?) ∧ W1.heap.size ≤ W'.heap.size) ∨ (e = .returned (.bool false) ∧ Jx W')) →
    J 0 W → Calls P gf (.func (.yield l) #[] #[] :: lb).toArray W (Ret fun _ W' => J m W' ∨ Jx W')
section
variable {md : Option Nat → Prop} {P : Program} {n : Nat} {Q : Post} {ρ : Env} {w w0 : World}
theorem W_rangeFuncU {g : Operand} {ps : List Nat} {assign body : Code} {gf : Nat} {lb : List Value} {m : Nat} {V : Nat → List Value → World → Prop} {ks : List Nat} (hmd : ∀ rd, md rd → rd = none)
    (hg : ev ρ g = .func (.func gf) #[] lb.toArray) (hcan : canCall P gf = true) (hseq : SeqU P gf lb m V ks w0) (hb0 : Below w0.heap.size w0 w) (hps : ∀ k v W, V k v W → v.length = ps.length) (hpn : ps.all (Nat.blt · n) = true) (hnd : ps.Nodup)
    (hks : ∀ b, b ∈ ks → b < w.heap.size)
    (I : Nat → World → Prop) (Ix : Code → World → Prop) (hI : ∀ k W W', I k W → Soft w.heap.size W W' → I k W') (hIx : ∀ c W W', Ix c W → Soft w.heap.size W W' → Ix c W') (h0 : I 0 w)
    (round : ∀ l k v W1, k < m → V k v W1 → I k W1 → w.heap.size ≤ W1.heap.size → W (fun rd => rd = some l) P n assign
      (fun e ρ' W' => e = .normal ∧ Below W1.heap.size W1 W' ∧ ∀ W2, Soft w.heap.size W' W2 → W (fun rd => rd = some l) P n body (roundQ w.heap.size ks I Ix k W2) ρ' W2) (setP ρ.f ps v) W1)
    (hdone : ∀ D W, w.heap.size ≤ D → I m W → W.heap[D]? = some (.deferred (some [])) → Q .normal ⟨ρ.f, D :: ρ.ms⟩ W)
    (hstop : ∀ D c W', w.heap.size ≤ D → Ix c W' → W'.heap[D]? = some (.deferred (some [])) → codeOk n c = true ∧ W md P n c Q ⟨ρ.f, D :: ρ.ms⟩ W') :
    W md P n (.rangeFunc g ps.toArray assign body) Q ρ w := by
  intro hc rd a hrd ha
  obtain rfl := hmd rd hrd
  simp only [codeOk, Bool.and_eq_true] at hc
  have hpn' : ∀ p, p ∈ ps → p < n := fun p hp => by have := List.all_eq_true.1 hpn p hp; simpa using this
  refine wpIn_rangeFunc ?_
  intro fn hfn
  obtain ⟨rec, hrec⟩ : ∃ rec : LoopState → Option Code → Loop, rec = fun st pe => { state := st, pending := pe, fn, tmps := a.tmps, params := ps.toArray, assign, body, defers := w.heap.size } := ⟨_, rfl⟩
  obtain ⟨W1, hW1⟩ : ∃ W1, (w.alloc (.deferred (some []))).alloc (.loop (rec .ready none)) = W1 := ⟨_, rfl⟩
  have hs1 : W1.heap.size = w.heap.size + 2 := by rw [← hW1]; simp
  have hL1 : W1.heap[w.heap.size + 1]? = some (.loop (rec .ready none)) := by
    rw [← hW1]; have := World.alloc_heap_new (w.alloc (.deferred (some []))) (.loop (rec .ready none)); rwa [World.size_alloc] at this
  have hK1 : W1.heap[w.heap.size]? = some (.deferred (some [])) := by
    rw [← hW1]; exact (Below.heap_alloc _ _ _ (by simp)).trans (World.alloc_heap_new w _)
  have hbw : Below w.heap.size w W1 := by rw [← hW1]; exact ((Below.refl _ w).alloc (Nat.le_refl _) _).alloc (by simp) _
  have hI1 : I 0 W1 := hI 0 w W1 h0 (Soft.of_below hbw)
  have hb1 : Below w0.heap.size w0 W1 := hb0.acc hbw
  have hro : (fr none).round = none := rfl
  obtain ⟨lw, hlw⟩ : ∃ lw, lw = w.heap.size + 1 := ⟨_, rfl⟩
  have hcall : (callFunc gf (.func (.yield lw) #[] #[] :: lb).toArray).run P W1 = .ok (.enter gf (.func (.yield lw) #[] #[] :: lb).toArray) W1 := by
    unfold canCall at hcan
    cases hfn : P.funcs[gf]? with
    | none => simp [hfn] at hcan
    | some f =>
      rw [hfn] at hcan
      simp only [Bool.and_eq_true, Bool.not_eq_true'] at hcan
      cases hb : f.body with
      | none => simp [hb] at hcan
      | some c =>
        have hn : ¬ f.name = "runtime.NumGoroutine" := by simpa using hcan.1
        simp [callFunc, program, Sem.run, hfn, hn, hb, Result.andThen]
  have hae : a.eval g = .func (.func gf) #[] lb.toArray := by rw [ha.ev]; exact hg
  refine ⟨lw, [mkD w.heap.size], W1, { target := .fn (.func gf) lb.toArray, args := #[.func (.yield lw) #[] #[]] }, W1, gf, (.func (.yield lw) #[] #[] :: lb).toArray, W1, ?_, ?_, fun f' _ => fr_fn none f', ?_, fun hdp => by (rw [fr_depth] at hdp; cases hdp), ?_⟩
  · rw [hro, hlw, ← hW1, hrec]; exact run_enterLoop_outer _ _ _ _ _
  · simp only [resolve, rangeCall, hae]
    simp [Deferred.ofValue, Act.eval]
  · have e : #[Value.func (.yield lw) #[] #[]] ++ lb.toArray = (.func (.yield lw) #[] #[] :: lb).toArray := by simp
    simp only [invoke, e]
    exact hcall
  · refine fr_calls ((hseq lw (fun k W => I k W ∧ W.heap[w.heap.size + 1]? = some (.loop (rec .ready none)) ∧ W.heap[w.heap.size]? = some (.deferred (some [])))
      (fun W => ∃ c, Ix c W ∧ W.heap[w.heap.size + 1]? = some (.loop (rec .done (some c))) ∧ W.heap[w.heap.size]? = some (.deferred (some []))) W1 hb1 ?_ ?_ ?_ ⟨hI1, hL1, hK1⟩).mono ?_)
    · rintro k A B ⟨h1, h2, h3⟩ hAB
      exact ⟨hI k A B h1 (Soft.of_below hAB), by rw [hAB.block _ (Array.getElem?_eq_some_iff.1 h2).1]; exact h2, by rw [hAB.block _ (Array.getElem?_eq_some_iff.1 h3).1]; exact h3⟩
    · rintro A B ⟨c, h1, h2, h3⟩ hAB
      exact ⟨c, hIx c A B h1 (Soft.of_below hAB), by rw [hAB.block _ (Array.getElem?_eq_some_iff.1 h2).1]; exact h2, by rw [hAB.block _ (Array.getElem?_eq_some_iff.1 h3).1]; exact h3⟩
    · rintro k v W hkm hv ⟨hi, hl, hk⟩
      have hlt : w.heap.size + 1 < W.heap.size := (Array.getElem?_eq_some_iff.1 hl).1
      have hvl := hps k v W hv
      have hy := run_yield (P := P) (args := v.toArray) hl (by rw [hrec]; simpa using hvl)
      rw [hrec] at hy
      refine ⟨fn, _, assign, body, by rw [hlw]; exact hy, ?_⟩
      clear hy
      refine roundIn_of_wpIn (F := Fence.wide) (n := 0) trivial ?_
      have hag : Ag n { tmps := (ps.toArray.zip v.toArray).foldl (fun t (p, u) => t.setIfInBounds p u) a.tmps, defers := [] } (setP ρ.f ps v) := by
        have := setP_ag ha ps v a.tmps ha.s ha.t hpn' hnd
        rw [← Array.foldl_toList, Array.toList_zip]
        exact this
      have hA := round lw k v W hkm hv hi (by omega) hc.1 (some lw) _ rfl hag
      have hA' : assign.wpIn (Fence.wide.inRound lw) 0 P _ _ W := fun b k' cs h1 h2 h3 => hA b k' cs h1 h2 (room_wide _)
      refine wpIn_mono hA' ?_
      rintro e a' Wa ⟨ρ', h1, rfl, hbel, hbody⟩
      show ∃ w2, _
      have hl2 : Wa.heap[w.heap.size + 1]? = some (.loop (rec .ready none)) := by rw [hbel.block _ hlt]; exact hl
      have hk2 : Wa.heap[w.heap.size]? = some (.deferred (some [])) := by rw [hbel.block _ (by omega)]; exact hk
      have hlt2 := (Array.getElem?_eq_some_iff.1 hl2).1
      refine ⟨_, by rw [hlw]; exact run_beginRound hl2 (by rw [hrec]), ?_⟩
      obtain ⟨W2, hW2⟩ : ∃ W2, W2 = Wa.putObj (w.heap.size + 1) (.loop { rec .ready none with state := .busy }) := ⟨_, rfl⟩
      have hl3 : W2.heap[w.heap.size + 1]? = some (.loop { rec .ready none with state := .busy }) := by rw [hW2]; exact World.putObj_heap_same hlt2
      have hk3 : W2.heap[w.heap.size]? = some (.deferred (some [])) := by rw [hW2]; exact (World.putObj_heap_other (by omega)).trans hk2
      have hsf : Soft w.heap.size Wa W2 := by rw [hW2]; exact Soft.put _ hl2 (by omega) rfl
      rw [← hW2]
      have hB := hbody W2 hsf hc.2 (some lw) a' rfl h1
      have hB' : body.wpIn (Fence.wide.inRound lw) 0 P _ a' W2 := fun b k' cs h1 h2 h3 => hB b k' cs h1 h2 (room_wide _)
      refine wpIn_mono hB' ?_
      have fin : ∀ (jump : Option Code) (W3 : World), KeepsFrom w.heap.size W2 W3 →
          (Instr.endRound lw jump).run P W3 = .ok (.bool jump.isNone) (W3.putObj (w.heap.size + 1) (.loop (rec (if jump.isNone then .ready else .done) jump))) ∧
          Soft w.heap.size W3 (W3.putObj (w.heap.size + 1) (.loop (rec (if jump.isNone then .ready else .done) jump))) ∧
          (W3.putObj (w.heap.size + 1) (.loop (rec (if jump.isNone then .ready else .done) jump))).heap[w.heap.size + 1]? = some (.loop (rec (if jump.isNone then .ready else .done) jump)) ∧
          (W3.putObj (w.heap.size + 1) (.loop (rec (if jump.isNone then .ready else .done) jump))).heap[w.heap.size]? = some (.deferred (some [])) := fun jump W3 hk3' => by
        have hl4 := hk3'.same _ _ (by omega) hl3 rfl
        have := run_endRound (P := P) jump hl4
        rw [hrec] at this ⊢
        refine ⟨by rw [hlw]; exact this, Soft.put _ hl4 (by omega) rfl, World.putObj_heap_same (Array.getElem?_eq_some_iff.1 hl4).1, (World.putObj_heap_other (by omega)).trans (hk3'.same _ _ (Nat.le_refl _) hk3 rfl)⟩
      rintro e a3 W3 ⟨ρ3, _, hp⟩
      have hkw : ∀ b, b ∈ ks → W2.heap[b]? = W.heap[b]? := fun b hb => by
        have := hks b hb
        rw [hW2, World.putObj_heap_other (by omega), hbel.block b (by omega)]
      have hsz2 : W.heap.size ≤ W2.heap.size := by rw [hW2]; simpa using hbel.size
      cases e with
      | normal =>
        obtain ⟨hp1, hp2, hp3⟩ := hp
        obtain ⟨hr, hs, hl5, hk5⟩ := fin none W3 hp1
        refine ⟨_, _, hr, .inl ⟨rfl, ⟨hI _ _ _ hp3 hs, hl5, hk5⟩, fun b hb => ?_, ?_⟩⟩
        · have := hks b hb
          rw [World.putObj_heap_other (by omega), hp2 b hb, hkw b hb]
        · have := hp1.size; simp; omega
      | ret =>
        obtain ⟨hp1, hp2⟩ := hp
        obtain ⟨hr, hs, hl5, hk5⟩ := fin (some .ret) W3 hp1
        exact ⟨_, _, hr, .inr ⟨rfl, .ret, hIx _ _ _ hp2 hs, hl5, hk5⟩⟩
      | exit id =>
        obtain ⟨hp1, hp2⟩ := hp
        obtain ⟨hr, hs, hl5, hk5⟩ := fin (some (.exit id)) W3 hp1
        exact ⟨_, _, hr, .inr ⟨rfl, .exit id, hIx _ _ _ hp2 hs, hl5, hk5⟩⟩
      | goto t => exact hp.elim
      | panic ch => exact hp.elim
      | outgrown => exact hp.elim
    · rintro e W2 ⟨v, rfl, (⟨hi, hl, hk⟩ | ⟨c, hi, hl, hk⟩)⟩
      · refine ⟨none, _, by have := run_endLoop (P := P) hl (by rw [hrec]; simp); rw [hrec] at this; rw [hlw]; exact this, ?_⟩
        refine ⟨⟨ρ.f, w.heap.size :: ρ.ms⟩, ⟨by simp [ha.d], ha.s, ha.t⟩, hdone w.heap.size _ (Nat.le_refl _) (hI _ _ _ hi (Soft.put _ hl (by omega) rfl)) ((World.putObj_heap_other (by omega)).trans hk)⟩
      · refine ⟨some c, _, by have := run_endLoop (P := P) hl (by rw [hrec]; simp); rw [hrec] at this; rw [hlw]; exact this, ?_⟩
        obtain ⟨h1, h2⟩ := hstop w.heap.size c _ (Nat.le_refl _) (hIx _ _ _ hi (Soft.put _ hl (by omega) rfl)) ((World.putObj_heap_other (by omega)).trans hk)
        exact h2 h1 none _ hrd ⟨by simp [ha.d], ha.s, ha.t⟩
end
end Coup
namespace Go.Proofs.YtielfpkjoidomaaGreat
open Go Go.RowKit Coup
structure RowD' where
  c : Nat
  nn : Nat
  b : List UInt8
def rowsL : Nat → List UInt8 → Nat → List RowD'
  | 0, _, _ => []
  | f + 1, l, n => if joinIs l n then ⟨hCount (halfAt l 0), hNum (halfAt l 0), joinB l⟩ :: rowsL f (l.drop (128 * needN (joinB l).length)) (n - needN (joinB l).length) else []
theorem joinNotW (p : Option Addr) (n cp : Nat) (l : List UInt8) (w : World) (h : SlAt w p n 128 (bv l)) (hn : n ≤ 1000000) (hj : joinIs l n = false) : Calls Tryz.prog 109 [.slice p n cp].toArray w (Ret fun v w' => v = noneV ∧ Below w.heap.size w w') := by
  have hJ : Calls Tryz.prog 109 [.slice p n cp].toArray w (Ret fun v w' => JR l n w v w') := by
    by_cases h0 : 0 < n
    · cases hm : mayT (hCount (halfAt l 0)) (hNum (halfAt l 0)) with
      | true => exact joinT p n cp l w h hn h0 hm
      | false => exact joinF p n cp l w h hn h0 hm
    · obtain rfl : n = 0 := by omega
      exact join0 p cp l w
  exact hJ.to fun v w' ⟨h1, h2⟩ => by
    rcases h2 with ⟨_, h2⟩ | ⟨h3, _⟩
    · exact ⟨h2, h1⟩
    · rw [hj] at h3; cases h3
theorem join_facts {l : List UInt8} {n : Nat} (hj : joinIs l n = true) : 0 < n ∧ mayT (hCount (halfAt l 0)) (hNum (halfAt l 0)) = true ∧ (l.length = n * 128 → needN (joinB l).length ≤ n ∧ 1 ≤ needN (joinB l).length) := by
  rw [joinIs, Bool.and_eq_true, Bool.and_eq_true] at hj
  obtain ⟨⟨h1, h2⟩, h3⟩ := hj
  have h0 := of_decide_eq_true h1
  rw [joinMay, Bool.and_eq_true, Bool.and_eq_true, Bool.and_eq_true] at h2
  obtain ⟨⟨⟨h4, h5⟩, h6⟩, h7⟩ := h2
  have h7 := of_decide_eq_true h7
  rw [joinOk, Bool.and_eq_true, Bool.and_eq_true, Bool.and_eq_true] at h3
  obtain ⟨⟨⟨_, h8⟩, h9⟩, _⟩ := h3
  have h9 := of_decide_eq_true h9
  refine ⟨h0, h4, fun hl => ?_⟩
  have hb : (joinB l).length ≤ joinK l (hMany (halfAt l 0)) := by rw [joinB, List.length_take]; omega
  have hk : manyN (joinB l).length ≤ manyN (joinK l (hMany (halfAt l 0))) := by unfold manyN; omega
  rw [h9] at hk
  have hp : 1 ≤ manyN (joinB l).length := by unfold manyN; omega
  unfold needN
  omega
theorem joinYesW (p : Option Addr) (n cp : Nat) (l : List UInt8) (w : World) (h : SlAt w p n 128 (bv l)) (hn : n ≤ 1000000) (hj : joinIs l n = true) : Calls Tryz.prog 109 [.slice p n cp].toArray w
    (Ret fun v w' => ∃ sp, v = .tuple #[.agg #[.int .u64 (hCount (halfAt l 0)), .int .i64 (hNum (halfAt l 0))], .slice sp (joinB l).length (joinB l).length, .int .i64 (needN (joinB l).length : Nat), .int .i64 0] ∧ SlAt w' sp (joinB l).length 1 (bv (joinB l)) ∧ Below w.heap.size w w') := by
  obtain ⟨h0, hm, _⟩ := join_facts hj
  exact (joinT p n cp l w h hn h0 hm).to fun v w' ⟨h1, h2⟩ => by
    rcases h2 with ⟨h3, _⟩ | ⟨_, sp, h3, h4⟩
    · rw [hj] at h3; cases h3
    · exact ⟨sp, h3, h4, h1⟩
theorem sl_dropZ {w : World} {q : Option Addr} {m c sz j : Nat} {cs : List Value} (h : SlAt w q m sz cs) (hj : j ≤ m) (hc : m ≤ c) : SlAt w (if c = j then q else q.map (·.add (j * sz))) (m - j) sz (cs.drop (j * sz)) := by
  refine ⟨by rw [List.length_drop, h.len, Nat.sub_mul], Nat.le_trans (Nat.sub_le _ _) h.max, fun h0 => ?_⟩
  have hs : 0 < (m - j) * sz := h0
  have hmj : 0 < m - j := Nat.pos_of_mul_pos_right hs
  have hmul : (m - j) * sz + j * sz = m * sz := by rw [← Nat.add_mul]; congr 1; omega
  obtain ⟨b, off, hp, hlt, hcell⟩ := h.at_ (by omega)
  refine ⟨b, off + j * sz, by rw [if_neg (by omega), hp, Option.map_some, Addr.add_lit], hlt, fun i hi => ?_⟩
  rw [List.getElem?_drop, ← hcell (j * sz + i) (by omega)]
  congr 2; omega
def RowV (R : List RowD') (k : Nat) (v : List Value) (W : World) : Prop := ∃ r, R[k]? = some r ∧ ∃ sp, v = [.agg #[.int .u64 (r.c : Int), .int .i64 (r.nn : Int)], .slice sp r.b.length r.b.length] ∧ SlAt W sp r.b.length 1 (bv r.b)
set_option maxRecDepth 20000 in
set_option maxHeartbeats 1000000 in
theorem rowsSeq (l : List UInt8) (g1 ga oa n c : Nat) (w : World) (hn : n ≤ 1000000) (h0n : 0 < n) (hcn : n ≤ c) (r1 : row w g1 [.slice (some ⟨ga, oa, none⟩) n c] 81)
    (hs : SlAt w (some ⟨ga, oa, none⟩) n 128 (bv l)) : SeqU Tryz.prog 108 [.pointer (some ⟨g1, 0, none⟩)] (rowsL n l n).length (RowV (rowsL n l n)) [g1, ga] w := by
  intro ly J Jx W hbW hJ hJx hy h0
  have r1W := r1.new hbW
  have hsW := hs.new hbW
  have hgaW := hsW.some (by omega)
  obtain ⟨_, _, heq, hgaW⟩ := hgaW
  cases heq
  have hB := Below.refl W.heap.size W
  obtain ⟨R, hR⟩ : ∃ R, rowsL n l n = R := ⟨_, rfl⟩
  rw [hR] at hy ⊢
  refine calls_W (fn := Tryz.f108) (rs := []) (n := 28) Tryz.func108 rfl rfl Tryz.ntmps108 (by kernel_rfl) rfl ?_
  refine W_seq ?_
  refine W_region ?_
  refine WR_val rfl (rn_load rfl (Ld.row1 r1W (by kernel_rfl) rfl)) ?_
  refine WR_val rfl (rn_assign) ?_
  refine WR_nil ?_
  refine thenN ?_
  refine W_block ?_
  refine W_loop (α := Nat × Nat × Nat × Option Addr × List UInt8) (0, n, c, some ⟨ga, oa, none⟩, l) (fun k => [(0, .func (.yield ly) #[] #[]), (1, .pointer (some ⟨g1, 0, none⟩)), (3, .slice k.2.2.2.1 k.2.1 k.2.2.1)])
    (fun k w' => k.1 ≤ R.length ∧ k.2.1 ≤ k.2.2.1 ∧ k.2.1 ≤ n ∧ (∃ f, k.2.1 ≤ f ∧ R.drop k.1 = rowsL f k.2.2.2.2 k.2.1) ∧ SlAt W k.2.2.2.1 k.2.1 128 (bv k.2.2.2.2) ∧ (∀ b o, k.2.2.2.1 = some ⟨b, o, none⟩ → 0 < k.2.1 → b = ga) ∧ J k.1 w' ∧ (∀ x, x ∈ [g1, ga] → w'.heap[x]? = W.heap[x]?) ∧ W.heap.size ≤ w'.heap.size) (fun k => k.2.1) ⟨rfl, rfl, rfl, rfl⟩ ⟨Nat.zero_le _, hcn, Nat.le_refl _, ⟨n, Nat.le_refl _, hR.symm⟩, hsW, (fun b o e _ => by cases e; rfl), h0, fun _ _ => rfl, Nat.le_refl _⟩ ?_
  rintro ⟨k, m, cm, q, lr⟩ f wr ⟨hk, hcm, hmn, ⟨fu, hfu, hdr⟩, hsm, hqa, hJk, hkp, hsz⟩
  dsimp only at *
  have hBr := Below.refl wr.heap.size wr
  have hlr : lr.length = m * 128 := by simpa [bv_length] using hsm.len
  have hsr : SlAt wr q m 128 (bv lr) := by
    by_cases h0m : 0 < m
    · obtain ⟨b, o, rfl, _⟩ := hsm.some (by omega)
      obtain rfl := hqa b o rfl h0m
      exact hsm.blk (hkp b (by simp)) hsz
    · exact ⟨hsm.len, hsm.max, fun h => absurd h (by rw [show m = 0 by omega, Nat.zero_mul]; exact Nat.lt_irrefl 0)⟩
  cases hj : joinIs lr m with
  | false =>
    have hkR : k = R.length := by
      have h1 := congrArg List.length hdr
      cases fu with
      | zero => rw [rowsL, List.length_drop, List.length_nil] at h1; omega
      | succ fu => rw [rowsL, hj, if_neg (by simp), List.length_drop, List.length_nil] at h1; omega
    refine W_block ?_
    refine W_seq ?_
    refine W_region ?_
    refine WR_val rfl (rn_move) ?_
    refine WR_ent rfl (rn_call (by kernel_rfl) rfl) (joinNotW q m cm lr wr (hsr.new hBr) (by omega) hj) ?_
    rintro _ w11 ⟨rfl, hb11⟩
    replace hBr := hBr.acc hb11
    refine WR_val rfl (rn_move) ?_
    refine WR_val rfl (rn_extract rfl rfl) ?_
    refine WR_val rfl (rn_extract rfl rfl) ?_
    refine WR_val rfl (rn_extract rfl rfl) ?_
    refine WR_val rfl (rn_extract rfl rfl) ?_
    refine WR_mk rfl (mk_alloc ([Value.int .u64 0, Value.int .i64 0]) (by kernel_rfl) (fun g4 w4 hg4 hr4 hb4 => ?_))
    have ge_hBr_g4 := Nat.le_trans hBr.size hg4
    replace hBr := hBr.acc hb4
    refine WR_sk rfl (sk_storeA 2 (_) rfl rfl hr4 (by kernel_rfl) (by first | assumption | (simp; done) | (simp [bv_length, *]; done)) (by first | assumption | (simp; done) | (simp [bv_length, *]; done) | rfl) (by first | exact bv_one _ | assumption | (simp [Value.oneCell']; done)) (fun w901 hr4 ho901 => ?_))
    replace hBr := ho901.below hBr ge_hBr_g4
    refine WR_val rfl (rn_assign) ?_
    refine WR_val rfl (rn_assign) ?_
    refine WR_val rfl (rn_assign) ?_
    refine WR_nil ?_
    refine thenN ?_
    refine W_seq ?_
    refine W_seq ?_
    refine W_region ?_
    refine WR_val rfl (rn_move) ?_
    refine WR_val rfl (rn_neq rfl rfl) ?_
    refine WR_val rfl (rn_move) ?_
    refine WR_tp 18 rfl ((by decide)) ?_
    refine WR_no rfl rfl ?_
    refine WR_no rfl rfl ?_
    refine WR_no rfl rfl ?_
    refine WR_no rfl rfl ?_
    refine WR_no rfl rfl ?_
    refine WR_val rfl (rn_pick_t rfl) ?_
    refine WR_nil ?_
    refine thenN ?_
    refine W_t rfl ?_
    refine W_ret ?_
    refine thenR ?_
    refine blockR ?_
    refine loopR ?_
    refine blockR ?_
    refine ret_ret [] trivial ?_
    exact Or.inl (hkR ▸ hJ _ _ _ hJk hBr)
  | true =>
    have hjf := join_facts hj
    have hnd := hjf.2.2 hlr
    have hobt : ∃ z, fu = z + 1 := ⟨fu - 1, by omega⟩
    obtain ⟨fu, rfl⟩ := hobt
    rw [rowsL, hj, if_pos rfl] at hdr
    have hkl : k < R.length := by
      have h1 := congrArg List.length hdr
      rw [List.length_drop, List.length_cons] at h1; omega
    have hRk : R[k]? = some ⟨hCount (halfAt lr 0), hNum (halfAt lr 0), joinB lr⟩ := by
      have h1 := congrArg (fun z => z[0]?) hdr
      simpa [List.getElem?_drop] using h1
    have hdr2 : R.drop (k + 1) = rowsL fu (lr.drop (128 * needN (joinB lr).length)) (m - needN (joinB lr).length) := by
      have h1 := congrArg (List.drop 1) hdr
      rw [List.drop_drop] at h1
      exact h1
    have hj2 := joinYesW q m cm lr
    generalize hCount (halfAt lr 0) = C at *
    generalize hNum (halfAt lr 0) = NN at *
    generalize joinB lr = JB at *
    generalize needN JB.length = ND at *
    refine W_block ?_
    refine W_seq ?_
    refine W_region ?_
    refine WR_val rfl (rn_move) ?_
    refine WR_ent rfl (rn_call (by kernel_rfl) rfl) (hj2 wr (hsr.new hBr) (by omega) hj) ?_
    rintro _ w11 ⟨sp, rfl, hsp, hb11⟩
    replace hBr := hBr.acc hb11
    have hBs := Below.refl (w11).heap.size w11
    refine WR_val rfl (rn_move) ?_
    refine WR_val rfl (rn_extract rfl rfl) ?_
    refine WR_val rfl (rn_extract rfl rfl) ?_
    refine WR_val rfl (rn_extract rfl rfl) ?_
    refine WR_val rfl (rn_extract rfl rfl) ?_
    refine WR_mk rfl (mk_alloc ([Value.int .u64 0, Value.int .i64 0]) (by kernel_rfl) (fun g4 w4 hg4 hr4 hb4 => ?_))
    have ge_hBr_g4 := Nat.le_trans hBr.size hg4
    have ge_hBs_g4 := Nat.le_trans hBs.size hg4
    replace hBr := hBr.acc hb4
    replace hBs := hBs.acc hb4
    refine WR_sk rfl (sk_storeA 2 (_) rfl rfl hr4 (by kernel_rfl) (by first | assumption | (simp; done) | (simp [bv_length, *]; done)) (by first | assumption | (simp; done) | (simp [bv_length, *]; done) | rfl) (by first | exact bv_one _ | assumption | (simp [Value.oneCell']; done)) (fun w902 hr4 ho902 => ?_))
    replace hBr := ho902.below hBr ge_hBr_g4
    replace hBs := ho902.below hBs ge_hBs_g4
    refine WR_val rfl (rn_assign) ?_
    refine WR_val rfl (rn_assign) ?_
    refine WR_val rfl (rn_assign) ?_
    refine WR_nil ?_
    refine thenN ?_
    refine W_seq ?_
    refine W_seq ?_
    refine W_region ?_
    refine WR_val rfl (rn_move) ?_
    refine WR_val rfl (rn_neq rfl rfl) ?_
    refine WR_val rfl (rn_move) ?_
    refine WR_fp 18 rfl ((by simp)) ?_
    refine WR_yes rfl ?_
    refine WR_val rfl (rn_move) ?_
    refine WR_yes rfl ?_
    refine WR_val rfl (rn_load rfl (Ld.rowA (k := 2) hr4 (by kernel_rfl) (by kernel_rfl) (by first | (simp; done) | (simp [bv_length, *]; done) | assumption))) ?_
    refine WR_yes rfl ?_
    refine WR_val rfl (rn_move) ?_
    refine WR_yes rfl ?_
    have hYk := hy k _ w902 hkl ⟨_, hRk, sp, rfl, hsp.below hBs (Nat.le_refl _)⟩ (hJ _ _ _ hJk hBr)
    refine WR_yield (vl := [.agg #[.int .u64 (C : Int), .int .i64 (NN : Int)], .slice sp JB.length JB.length]) rfl rfl hYk ?_
    have hdz := sl_dropZ hsm hnd.1 hcm
    have hdl : (lr.drop (128 * ND)).length = (m - ND) * 128 := by rw [List.length_drop, hlr]; omega
    replace hdz : SlAt W (if cm = ND then q else q.map (·.add (ND * 128))) (m - ND) 128 (bv (lr.drop (128 * ND))) := by rw [Nat.mul_comm 128 ND, bv_drop]; exact hdz
    rintro e wy (⟨rfl, hJy, hky, hsy⟩ | ⟨rfl, hJxy⟩)
    · refine ⟨_, rfl, ?_⟩
      refine WR_yes rfl ?_
      refine WR_val rfl (rn_not rfl) ?_
      refine WR_val rfl (rn_pick_f rfl) ?_
      refine WR_nil ?_
      refine thenN ?_
      refine W_f rfl ?_
      refine W_skip ?_
      refine thenN ?_
      refine W_region ?_
      refine WR_val rfl (rn_move) ?_
      refine WR_val rfl (rn_move) ?_
      refine WR_val rfl (rn_sliceSl (e := 94) (sz := 128) ND m cm (by kernel_rfl) rfl ⟨_, _, rfl, rfl⟩ rfl rfl (by simp) (by omega) (by omega) (by omega)) ?_
      refine WR_val rfl (rn_assign) ?_
      refine WR_nil ?_
      refine blockN ?_
      refine loopN ⟨(k + 1, m - ND, cm - ND, if cm = ND then q else q.map (·.add (ND * 128)), lr.drop (128 * ND)), by show m - ND < m; omega, ⟨rfl, rfl, rfl, rfl⟩, by show k + 1 ≤ _; omega, by show m - ND ≤ cm - ND; omega, by show m - ND ≤ n; omega, ⟨fu, by show m - ND ≤ fu; omega, hdr2⟩, hdz, fun b o e h => ?_, hJy, fun x hx => ?_, ?_⟩
      · have hpos : 0 < m - ND := h
        have e : (if cm = ND then q else q.map (·.add (ND * 128))) = some ⟨b, o, none⟩ := e
        rw [if_neg (by omega)] at e
        have hobt := hsm.some (by omega)
        obtain ⟨b2, o2, e2, _⟩ := hobt
        rw [e2, Option.map_some, Addr.add_lit] at e
        cases e
        exact hqa _ _ e2 (by omega)
      · have hxx : x < wr.heap.size := by
          simp only [List.mem_cons, List.not_mem_nil, or_false] at hx
          have h1 := r1W.lt
          rcases hx with rfl | rfl <;> omega
        rw [hky x hx, hBr.block x hxx, hkp x hx]
      · have := hBr.size; omega
    · refine ⟨_, rfl, ?_⟩
      refine WR_yes rfl ?_
      refine WR_val rfl (rn_not rfl) ?_
      refine WR_val rfl (rn_pick_f rfl) ?_
      refine WR_nil ?_
      refine thenN ?_
      refine W_t rfl ?_
      refine W_ret ?_
      refine thenR ?_
      refine blockR ?_
      refine loopR ?_
      refine blockR ?_
      refine ret_ret [] trivial ?_
      exact Or.inr hJxy
set_option maxRecDepth 20000 in
theorem rows73 (l : List UInt8) (ga oa : Nat) (n cp : Nat) (w : World) (h : SlAt w (some ⟨ga, oa, none⟩) n 128 (bv l)) (hn : n ≤ 1000000) (h0n : 0 < n) (hcn : n ≤ cp) :
    Calls Tryz.prog 100 [.slice (some ⟨ga, oa, none⟩) n cp].toArray w (Ret fun v w' => ∃ g1, v = .func (.func 108) #[] [.pointer (some ⟨g1, 0, none⟩)].toArray ∧ g1 < w'.heap.size ∧ w.heap.size ≤ g1 ∧ Below w.heap.size w w' ∧
      SeqU Tryz.prog 108 [.pointer (some ⟨g1, 0, none⟩)] (rowsL n l n).length (RowV (rowsL n l n)) [g1, ga] w') := by
  have hB := Below.refl w.heap.size w
  refine calls_W (fn := Tryz.f100) (rs := [.tmp 2]) (n := 4) Tryz.func100 rfl rfl Tryz.ntmps100 (by kernel_rfl) rfl ?_
  refine W_seq ?_
  refine W_region ?_
  refine WR_mk rfl (mk_box ([_]) rfl (fun g1 w1 hg1 hr1 hb1 => ?_))
  have ge_hB_g1 := Nat.le_trans hB.size hg1
  replace hB := hB.acc hb1
  refine WR_val rfl (rn_assign) ?_
  refine WR_nil ?_
  refine thenN ?_
  refine W_seq ?_
  refine W_region ?_
  refine WR_val rfl (rn_makeFunc) ?_
  refine WR_val rfl (rn_assign) ?_
  refine WR_nil ?_
  refine thenN ?_
  refine W_ret ?_
  refine ret_ret [_] ⟨rfl, trivial⟩ ?_
  have hg := hB.size
  exact ⟨_, rfl, hr1.lt, by omega, hB, rowsSeq l _ ga oa n cp _ hn h0n hcn hr1 (h.below hB (Nat.le_refl _))⟩
theorem join_short {l : List UInt8} {n : Nat} (hj : joinIs l n = true) : (joinB l).length ≤ 32768 := by
  rw [joinIs, Bool.and_eq_true, Bool.and_eq_true] at hj
  have h3 := hj.2
  rw [joinOk, Bool.and_eq_true, Bool.and_eq_true, Bool.and_eq_true] at h3
  have h8 := of_decide_eq_true h3.1.1.2
  rw [joinB, List.length_take]; omega
theorem rowsL_short : ∀ (f : Nat) (l : List UInt8) (n : Nat) (r : RowD'), r ∈ rowsL f l n → r.b.length ≤ 32768
  | 0, l, n, r, h => by cases h
  | f + 1, l, n, r, h => by
    rw [rowsL] at h
    split at h
    · rename_i hj
      rcases List.mem_cons.1 h with rfl | h
      · exact join_short hj
      · exact rowsL_short f _ _ r h
    · cases h
theorem rowsL_len : ∀ (f : Nat) (l : List UInt8) (n : Nat), (rowsL f l n).length ≤ f
  | 0, l, n => Nat.le_refl 0
  | f + 1, l, n => by
    rw [rowsL]
    split
    · rw [List.length_cons]; have := rowsL_len f (l.drop (128 * needN (joinB l).length)) (n - needN (joinB l).length); omega
    · simp
end Go.Proofs.YtielfpkjoidomaaGreat
namespace Go.Proofs.YtielfpkjoidomaaGreat
open Go Go.RowKit Coup
structure RlsAt (w : World) (lo : Nat) (o : Option Nat) (vs : List Value) (L : List Rec) : Prop where
  len : vs.length = L.length
  at_ : ∀ (i : Nat) l, L[i]? = some l → ∃ b off c, vs[i]? = some (.slice (some ⟨b, off, none⟩) l.length c) ∧ SlAt w (some ⟨b, off, none⟩) l.length 513 (chsV l) ∧ b < w.heap.size ∧ some b ≠ o ∧ l.length ≤ c ∧ lo ≤ b
namespace RlsAt
variable {w w' : World} {lo : Nat} {o : Option Nat} {vs : List Value} {L : List Rec}
theorem nil (w : World) (lo : Nat) (o : Option Nat) : RlsAt w lo o [] [] := ⟨rfl, fun i l h => by simp at h⟩
theorem kp {M : List Nat} (h : RlsAt w lo o vs L) (k : Kp M w w') (hM : ∀ g, g ∈ M → w.heap.size ≤ g ∨ o = some g ∨ g < lo) : RlsAt w' lo o vs L := ⟨h.len, fun i l hl => by
  obtain ⟨b, off, c, h1, h2, h3, h4, h5⟩ := h.at_ i l hl
  refine ⟨b, off, c, h1, h2.kpd k fun b' o' e hm => ?_, Nat.lt_of_lt_of_le h3 k.size, h4, h5⟩
  cases e
  rcases hM b hm with e | e | e
  · omega
  · exact h4 e.symm
  · omega⟩
theorem new (h : RlsAt w lo o vs L) (hb : Below w.heap.size w w') : RlsAt w' lo o vs L := h.kp (M := []) (Kp.of_below hb) (by simp)
theorem only {g : Nat} (h : RlsAt w lo o vs L) (ho : Only g w w') (hg : g < lo) : RlsAt w' lo o vs L := h.kp (Kp.of_only ho) fun b hb => by rw [List.mem_singleton.1 hb]; exact .inr (.inr hg)
theorem soft {B : Nat} (h : RlsAt w lo o vs L) (k : Soft B w w') : RlsAt w' lo o vs L := ⟨h.len, fun i l hl => by
  obtain ⟨b, off, c, h1, h2, h3, h4⟩ := h.at_ i l hl
  exact ⟨b, off, c, h1, h2.soft k, Nat.lt_of_lt_of_le h3 k.size, h4⟩⟩
theorem grow {v v' : Value} (h : RlsAt w lo v.ownBlock vs L) (hg : w.grownBy w' v.ownBlock) (hf : ∀ g, v'.ownBlock = some g → v.ownBlock = some g ∨ w.heap.size ≤ g) : RlsAt w' lo v'.ownBlock vs L := ⟨h.len, fun i l hl => by
  obtain ⟨b, off, c, h1, h2, h3, h4, h5⟩ := h.at_ i l hl
  refine ⟨b, off, c, h1, h2.kpd (Kp.of_grown hg) fun b' o' e hm => ?_, Nat.lt_of_lt_of_le h3 hg.size, fun e => (hf b e.symm).elim (fun e' => h4 e'.symm) (fun e' => by omega), h5⟩
  cases e
  simp only [Option.mem_toList] at hm
  exact h4 hm.symm⟩
theorem snoc {b off c : Nat} {l : Rec} (h : RlsAt w lo o vs L) (h2 : SlAt w (some ⟨b, off, none⟩) l.length 513 (chsV l)) (h3 : b < w.heap.size) (h4 : some b ≠ o) (h5 : l.length ≤ c) (h6 : lo ≤ b) : RlsAt w lo o (vs ++ [.slice (some ⟨b, off, none⟩) l.length c]) (L ++ [l]) :=
  ⟨by simp [h.len], fun i l' hl => by
    by_cases hi : i < L.length
    · rw [List.getElem?_append_left hi] at hl
      obtain ⟨b', off', c', e1, e2, e3, e4, e5⟩ := h.at_ i l' hl
      exact ⟨b', off', c', by rw [List.getElem?_append_left (by rw [h.len]; exact hi)]; exact e1, e2, e3, e4, e5⟩
    · have hi' : i = L.length := by
        have := (List.getElem?_eq_some_iff.1 hl).1
        simp at this; omega
      subst hi'
      simp at hl
      subst hl
      exact ⟨b, off, c, by rw [← h.len]; simp, h2, h3, h4, h5, h6⟩⟩
end RlsAt
def AllZ (p : Option Addr) (S : List Rec) : World → List Nat → Prop := fun w C => (∀ b ∈ C, b < w.heap.size) ∧ ∃ vs, SlAt w p S.length 1 vs ∧ (0 < S.length → ∀ b o, p = some ⟨b, o, none⟩ → b ∈ C) ∧
  ∀ (i : Nat) r, S[i]? = some r → ∃ b off c, vs[i]? = some (.slice (some ⟨b, off, none⟩) r.length c) ∧ SlAt w (some ⟨b, off, none⟩) r.length 513 (chsV r) ∧ b ∈ C
theorem sl_kp0 {M : List Nat} {w w' : World} {p : Option Addr} {m sz : Nat} {cs : List Value} (h : SlAt w p m sz cs) (k : Kp M w w') (hM : 0 < m → ∀ b o, p = some ⟨b, o, none⟩ → b ∉ M) : SlAt w' p m sz cs := by
  by_cases h0 : 0 < m
  · exact h.kpd k (hM h0)
  · exact ⟨h.len, h.max, fun h1 => absurd h1 (by rw [show m = 0 by omega, Nat.zero_mul]; exact Nat.lt_irrefl 0)⟩
instance (p : Option Addr) (S : List Rec) : Thing (AllZ p S) :=
  ⟨fun {w w' B M} ⟨h1, vs, h2, h3, h4⟩ k hM => ⟨fun b hb => Nat.lt_of_lt_of_le (h1 b hb) k.size, vs, sl_kp0 h2 k fun h0 b o e => hM b (h3 h0 b o e), h3, fun i r hr => by
    obtain ⟨b, off, c, e1, e2, e3⟩ := h4 i r hr
    exact ⟨b, off, c, e1, e2.kpd k (fun b' o' e => by cases e; exact hM _ e3), e3⟩⟩, fun h b hb => h.1 b hb⟩
def AndZ (Y Z : World → List Nat → Prop) : World → List Nat → Prop := fun w C => ∃ C1 C2, C = C1 ++ C2 ∧ Y w C1 ∧ Z w C2
instance (Y Z : World → List Nat → Prop) [hY : Thing Y] [hZ : Thing Z] : Thing (AndZ Y Z) :=
  ⟨fun {w w' B M} ⟨C1, C2, e, h1, h2⟩ k hM => ⟨C1, C2, e, hY.kpd h1 k fun b hb => hM b (by rw [e]; exact List.mem_append_left _ hb), hZ.kpd h2 k fun b hb => hM b (by rw [e]; exact List.mem_append_right _ hb)⟩,
   fun {w B} ⟨C1, C2, e, h1, h2⟩ b hb => by
    rw [e] at hb
    exact (List.mem_append.1 hb).elim (hY.lt h1 b) (hZ.lt h2 b)⟩
theorem two_add {X Y Z : World → List Nat → Prop} [hX : Thing X] [hY : Thing Y] {lo : Nat} {L M C : List Nat} {w w' : World} (h : Two X Y lo L w) (k : Kp M w w') (hM : ∀ b ∈ M, b < lo ∨ b ∈ L) (hz : Z w' C) (hC : ∀ b ∈ C, w.heap.size ≤ b) : Two X (AndZ Y Z) lo L w' := by
  obtain ⟨⟨B, E, h1, h2, h3, h4⟩, h5, h6⟩ := h
  have hXl := fun b hb => hX.lt h1 b hb
  exact ⟨⟨B, E ++ C, hX.kpd h1 k fun b hb hm => (hM b hm).elim (fun hl => absurd (h3 b hb).1 (Nat.not_le.2 hl)) (h3 b hb).2.2,
    ⟨E, C, rfl, hY.kpd h2 k fun b hb hm => (hM b hm).elim (fun hl => absurd (h4 b hb).1 (Nat.not_le.2 hl)) (h4 b hb).2, hz⟩,
    fun b hb => ⟨(h3 b hb).1, fun hm => (List.mem_append.1 hm).elim (h3 b hb).2.1 fun hc => absurd (hXl b hb) (Nat.not_lt.2 (hC b hc)), (h3 b hb).2.2⟩,
    fun b hb => (List.mem_append.1 hb).elim (h4 b) fun hc => ⟨Nat.le_trans h5 (hC b hc), fun hm => absurd (h6 b hm) (Nat.not_lt.2 (hC b hc))⟩⟩, Nat.le_trans h5 k.size, fun b hb => Nat.lt_of_lt_of_le (h6 b hb) k.size⟩
def logB (D : Dk) (n : Nat) : List UInt8 := ((List.range n).map fun i => readD D (1 + i)).flatten
theorem logB_succ (D : Dk) (n : Nat) : logB D (n + 1) = logB D n ++ readD D (1 + n) := by simp [logB, List.range_succ]
theorem readD_len {D : Dk} (h : DkOk D) {i : Nat} (hi : i < D.V.length) : (readD D i).length = 128 := lastS_ok (ver_ok h hi).2.1
def okRow (s c k : Nat) (r : RowD') : Option Rec := if r.nn = k ∧ s ≤ r.c ∧ r.c ≤ c then ofR r.b else none
def recsL (s c : Nat) : Nat → List RowD' → List Rec
  | _, [] => []
  | k, r :: R => match okRow s c k r with
    | some x => x :: recsL s c (k + 1) R
    | none => []
def atS (S : List Rec) : Nat := (S.map fun r => needN (516 * r.length)).sum
def recsOf (D : Dk) (G : Lg) : List Rec := recsL G.since G.count 0 (rowsL G.size (logB D G.size) G.size)
end Go.Proofs.YtielfpkjoidomaaGreat
namespace Go.Proofs.YtielfpkjoidomaaGreat
open Go Go.RowKit Coup
structure RdAt (w0 : World) (B x g g1 g2 cc si n : Nat) (de : Bool) (T : List Rec) (W : World) : Prop where
  rx : row W x [.int .u64 (cc : Int), .int .u64 (si : Int), .pointer (some ⟨g, 0, none⟩), .int .i64 (n : Int), .int .i64 ((T.length : Nat) : Int), .int .i64 ((atS T : Nat) : Int), .bool de] 109
  r1 : row W g1 [.pointer (some ⟨x, 0, none⟩)] 50
  ow : ∃ v vs, row W g2 [v] 78 ∧ ownsAt W B 52 1 v T.length vs ∧ RlsAt W B v.ownBlock vs T
  kb : Kp [x] w0 W
theorem RdAt.soft {w0 W W' : World} {B B' x g g1 g2 cc si n : Nat} {de : Bool} {T : List Rec} (h : RdAt w0 B x g g1 g2 cc si n de T W) (hs : Soft B' W W') (hB : w0.heap.size ≤ B') : RdAt w0 B x g g1 g2 cc si n de T W' :=
  ⟨h.rx.soft hs, h.r1.soft hs, let ⟨v, vs, h1, h2, h3⟩ := h.ow; ⟨v, vs, h1.soft hs, h2.soft hs, h3.soft hs⟩, h.kb.soft hs hB⟩
theorem all_of {w0 W : World} {B e : Nat} {p : Option Addr} {c : Nat} {vs : List Value} {o : Option Nat} {S : List Rec} (hv : ownsAt W B e 1 (.slice p S.length c) S.length vs) (hr : RlsAt W B o vs S) (hB : w0.heap.size ≤ B) :
    AllZ p S W (List.range' w0.heap.size (W.heap.size - w0.heap.size)) := by
  have hC : ∀ b, w0.heap.size ≤ b → b < W.heap.size → b ∈ List.range' w0.heap.size (W.heap.size - w0.heap.size) := fun b h1 h2 => List.mem_range'_1.2 ⟨h1, by omega⟩
  refine ⟨fun b hb => by have := List.mem_range'_1.1 hb; omega, vs, hv.sl, fun h0 b o e => ?_, fun i r hi => ?_⟩
  · subst e
    have := hv.lt b rfl
    exact hC b (by omega) this.2
  · obtain ⟨b, off, c, h1, h2, h3, _, _, h6⟩ := hr.at_ i r hi
    exact ⟨b, off, c, h1, h2, hC b (by omega) h3⟩
theorem own_cells {w : World} {base e sz m b : Nat} {v : Value} {xs : List Value} (h : ownsAt w base e sz v m xs) (hb : v.ownBlock = some b) : ∃ o : Obj, w.heap[b]? = some o ∧ o.isCells = true := by
  rcases h.2 with hn | ⟨g, off, cap, cur, rfl, hb', hgg, rest⟩
  · simp [hn, Value.ownBlock] at hb
  · cases hb; exact ⟨_, hgg, rfl⟩
theorem own_cap {w : World} {base e sz m c : Nat} {p : Option Addr} {xs : List Value} (h : ownsAt w base e sz (.slice p m c) m xs) : m ≤ c := by
  rcases h.2 with ⟨hn, _⟩ | ⟨g, off, cap, cur, he, hb', hgg, hmc, _⟩
  · cases hn; exact Nat.le_refl _
  · cases he; exact hmc
theorem recsL_none {s c k : Nat} {r : RowD'} {R : List RowD'} (h : okRow s c k r = none) : recsL s c k (r :: R) = [] := by rw [recsL, h]
theorem recsL_some {s c k : Nat} {r : RowD'} {R : List RowD'} {x : Rec} (h : okRow s c k r = some x) : recsL s c k (r :: R) = x :: recsL s c (k + 1) R := by rw [recsL, h]
theorem atS_snoc (T : List Rec) (r : Rec) : atS (T ++ [r]) = atS T + needN (516 * r.length) := by simp [atS]
theorem ofR_may {b : List UInt8} {r : Rec} (h : ofR b = some r) : 1 ≤ r.length ∧ r.length ≤ 60 := by
  unfold ofR at h
  split at h
  · rename_i hok
    cases h
    rw [ofOk, Bool.and_eq_true, Bool.and_eq_true] at hok
    have := of_decide_eq_true hok.1.2
    rwa [ofL_len]
  · cases h
section
variable {Y : World → List Nat → Prop} [Thing Y] {g x lo : Nat} {L : List Nat} {D : Dk} {G : Lg} {w : World}
set_option maxRecDepth 20000 in
set_option maxHeartbeats 2000000 in
theorem read52 (h : LgAt g x Y lo L D G w) (hok : LgOk D G) (h0 : G.num = 0) (h1 : G.at_ = 0) :
    Calls Tryz.prog 76 [.pointer (some ⟨x, 0, none⟩)].toArray w (Ret fun v w' => ∃ p c, v = .tuple #[.slice p (recsOf D G).length c, .int .i64 0] ∧ (recsOf D G).length ≤ c ∧
      LgAt g x (AndZ Y (AllZ p (recsOf D G))) lo L D { G with num := (recsOf D G).length, at_ := atS (recsOf D G) } w' ∧ LoL lo L w w') := by
  have hB := Below.refl w.heap.size w
  have hx := h.rowx
  have hxl := hx.lt
  have hge := h.ge
  have hni := h.ni
  have hfit := hok.fit
  have hszm := hok.szm
  have hsz4 := hok.sz4
  have hDk := (tOk h.two).1
  have hml : maxLen = 9223372036854775807 := by decide
  have hrec : recsOf D G = recsL G.since G.count 0 (rowsL G.size (logB D G.size) G.size) := rfl
  have hTw := fun w' (hb : Below w.heap.size w w') i => tRead (h.new hb).two i
  generalize recsOf D G = S at *
  obtain ⟨cc, si, sz, nu, at_, de⟩ := G
  dsimp only [lgV] at *
  subst h0 h1
  refine calls_W (fn := Tryz.f76) (rs := [.cell 2 78, .tmp 3]) (n := 99) Tryz.func76 rfl rfl Tryz.ntmps76 (by kernel_rfl) rfl ?_
  refine W_seq ?_
  refine W_region ?_
  refine WR_mk rfl (mk_box ([_]) rfl (fun g1 w1 hg1 hr1 hb1 => ?_))
  have ge_hB_g1 := Nat.le_trans hB.size hg1
  have lt_x_g1 : x < g1 := Nat.lt_of_lt_of_le hx.lt hg1
  replace hx := hx.new hb1
  replace hB := hB.acc hb1
  refine WR_mk rfl (mk_alloc ([Value.slice none 0 0]) (by kernel_rfl) (fun g2 w2 hg2 hr2 hb2 => ?_))
  have ge_hB_g2 := Nat.le_trans hB.size hg2
  have lt_x_g2 : x < g2 := Nat.lt_of_lt_of_le hx.lt hg2
  have lt_g1_g2 : g1 < g2 := Nat.lt_of_lt_of_le hr1.lt hg2
  replace hx := hx.new hb2
  replace hr1 := hr1.new hb2
  replace hB := hB.acc hb2
  refine WR_val rfl (rn_assign) ?_
  refine WR_nil ?_
  refine thenN ?_
  refine W_seq ?_
  refine W_region ?_
  refine WR_val rfl (rn_assign) ?_
  refine WR_nil ?_
  refine thenN ?_
  refine W_seq ?_
  refine W_seq ?_
  refine W_region ?_
  refine WR_val rfl (rn_load rfl (Ld.row1 hr1 (by kernel_rfl) rfl)) ?_
  refine WR_val rfl (rn_nilCheckP rfl) ?_
  refine WR_val rfl (rn_fieldAddr (off := 3) (by kernel_rfl) rfl) ?_
  refine WR_val rfl (rn_load rfl (Ld.row1 hx (by kernel_rfl) rfl)) ?_
  refine WR_val rfl (rn_move) ?_
  refine WR_nil ?_
  refine thenN ?_
  refine W_block ?_
  have hx2 := hx.lt
  have h12 := hr1.lt
  have h22 := hr2.lt
  have hb2 := hB.size
  refine W_loop (α := Nat × Value) (0, .slice none 0 0) (fun k => [(16, .int .i64 (k.1 : Nat)), (15, .int .i64 (sz : Int)), (4, k.2), (1, .pointer (some ⟨g1, 0, none⟩)), (2, .pointer (some ⟨g2, 0, none⟩))])
    (fun k w' => k.1 ≤ sz ∧ ownsAt w' w2.heap.size 94 128 k.2 k.1 (bv (logB D k.1)) ∧ row w' x [.int .u64 (cc : Int), .int .u64 (si : Int), .pointer (some ⟨g, 0, none⟩), .int .i64 (sz : Int), .int .i64 ((0 : Nat) : Int), .int .i64 ((0 : Nat) : Int), .bool de] 109 ∧ row w' g1 [.pointer (some ⟨x, 0, none⟩)] 50 ∧ row w' g2 [.slice none 0 0] 78 ∧ Below w.heap.size w w' ∧ w2.heap.size ≤ w'.heap.size) (fun k => sz - k.1)
    ⟨rfl, rfl, rfl, rfl, rfl, rfl⟩ ⟨Nat.zero_le _, ownsAt_nil _ _ _ _, hx, hr1, hr2, hB, Nat.le_refl _⟩ ?_
  clear hx hr1 hr2 hB
  rintro ⟨i, u⟩ f wr ⟨hi, hu, hx, hr1, hr2, hB, hsw⟩
  dsimp only at *
  have hBr := Below.refl wr.heap.size wr
  refine W_seq ?_
  refine W_region ?_
  refine WR_val rfl (rn_lss rfl rfl) ?_
  refine WR_nil ?_
  refine thenN ?_
  refine W_seq ?_
  refine W_ifp rfl (fun hlt => ?_) (fun hlt => ?_)
  ·
    refine W_skip ?_
    refine thenN ?_
    refine W_seq ?_
    refine W_block ?_
    refine W_seq ?_
    refine W_region ?_
    refine WR_val rfl (rn_move) ?_
    refine WR_val rfl (rn_assign) ?_
    refine WR_nil ?_
    refine thenN ?_
    refine W_seq ?_
    refine W_region ?_
    have hcast : ((1 + i : Nat) : Int) = 1 + (i : Int) := by omega
    have hin : inD D ((1 + i : Nat) : Int) = true := decide_eq_true (by omega)
    have hsl := readD_len hDk (i := 1 + i) (by omega)
    have hlsn := logB_succ D i
    have hex : ∃ s, readD D (1 + i) = s := ⟨_, rfl⟩
    obtain ⟨s, hs⟩ := hex
    rw [hs] at hsl hlsn
    refine WR_val rfl (rn_load rfl (Ld.row1 hr1 (by kernel_rfl) rfl)) ?_
    refine WR_val rfl (rn_nilCheckP rfl) ?_
    refine WR_val rfl (rn_fieldAddr (off := 2) (by kernel_rfl) rfl) ?_
    refine WR_val rfl (rn_load rfl (Ld.row1 hx (by kernel_rfl) rfl)) ?_
    refine WR_val rfl (rn_move) ?_
    refine WR_val rfl (rn_add rfl rfl (Coup.w64 (by omega))) ?_
    have hrd := hTw _ hB ((1 + i : Nat) : Int)
    rw [hin, if_pos rfl, if_pos rfl, Int.toNat_natCast, hs, hcast] at hrd
    refine WR_ent rfl (rn_call (by kernel_rfl) rfl) (hrd) ?_
    rintro _ w26 ⟨rfl, hb26⟩
    replace hx := hx.new hb26
    replace hr1 := hr1.new hb26
    replace hr2 := hr2.new hb26
    replace hB := hB.acc hb26
    replace hBr := hBr.acc hb26
    refine WR_val rfl (rn_move) ?_
    refine WR_val rfl (rn_extract rfl rfl) ?_
    refine WR_val rfl (rn_extract rfl rfl) ?_
    refine WR_mk rfl (mk_alloc (List.replicate 128 (Value.int .u8 0)) (by kernel_rfl) (fun g6 w6 hg6 hr6 hb6 => ?_))
    have ge_hB_g6 := Nat.le_trans hB.size hg6
    have ge_hBr_g6 := Nat.le_trans hBr.size hg6
    have lt_x_g6 : x < g6 := Nat.lt_of_lt_of_le hx.lt hg6
    have lt_g1_g6 : g1 < g6 := Nat.lt_of_lt_of_le hr1.lt hg6
    have lt_g2_g6 : g2 < g6 := Nat.lt_of_lt_of_le hr2.lt hg6
    replace hx := hx.new hb6
    replace hr1 := hr1.new hb6
    replace hr2 := hr2.new hb6
    replace hB := hB.acc hb6
    replace hBr := hBr.acc hb6
    refine WR_sk rfl (sk_storeA 128 (bv s) rfl rfl hr6 (by kernel_rfl) (by first | assumption | (simp; done) | (simp [bv_length, *]; done)) (by first | assumption | (simp; done) | (simp [bv_length, *]; done) | rfl) (by first | exact bv_one _ | assumption | (simp [Value.oneCell']; done)) (fun w901 hr6 ho901 => ?_))
    replace hx := hx.only ho901 (Nat.ne_of_lt lt_x_g6)
    replace hr1 := hr1.only ho901 (Nat.ne_of_lt lt_g1_g6)
    replace hr2 := hr2.only ho901 (Nat.ne_of_lt lt_g2_g6)
    replace hB := ho901.below hB ge_hB_g6
    replace hBr := ho901.below hBr ge_hBr_g6
    refine WR_val rfl (rn_assign) ?_
    refine WR_nil ?_
    refine thenN ?_
    refine W_seq ?_
    refine W_seq ?_
    refine W_region ?_
    refine WR_val rfl (rn_move) ?_
    refine WR_val rfl (rn_neq rfl rfl) ?_
    refine WR_nil ?_
    refine thenN ?_
    refine W_fp rfl ((by simp)) ?_
    refine W_skip ?_
    refine thenN ?_
    refine W_region ?_
    refine WR_val rfl (rn_move) ?_
    refine WR_val rfl (rn_load rfl (Ld.rowA (k := 128) hr6 (by kernel_rfl) (by kernel_rfl) (by rw [bv_length, hsl]))) ?_
    refine WR_mk rfl (mk_one (e := 94) (.agg (bv s).toArray) (bv s) (List.replicate 128 (Value.int .u8 0)) 128 (by kernel_rfl) (by kernel_rfl) rfl rfl (by first | rfl | (simp; done) | (simp [bv_length, *]; done)) ⟨by decide, by decide⟩ (fun g34 w34 hg34 hr34 hb34 => ?_))
    have ge_hB_g34 := Nat.le_trans hB.size hg34
    have ge_hBr_g34 := Nat.le_trans hBr.size hg34
    have lt_x_g34 : x < g34 := Nat.lt_of_lt_of_le hx.lt hg34
    have lt_g1_g34 : g1 < g34 := Nat.lt_of_lt_of_le hr1.lt hg34
    have lt_g2_g34 : g2 < g34 := Nat.lt_of_lt_of_le hr2.lt hg34
    have lt_g6_g34 : g6 < g34 := Nat.lt_of_lt_of_le hr6.lt hg34
    replace hx := hx.new hb34
    replace hr1 := hr1.new hb34
    replace hr2 := hr2.new hb34
    replace hr6 := hr6.new hb34
    replace hB := hB.acc hb34
    replace hBr := hBr.acc hb34
    have hs34 := hr34.slA (m := 1) (sz := 128) (by rw [bv_length, hsl]) (by omega)
    replace hu := hu.new hBr
    have hbz := hBr.size
    have sz_hB_35 := hB.size
    refine WR_mk rfl (mk_append (e := 94) (sz := 128) (bytes := 128) (z := .agg (List.replicate 128 (Value.int .u8 0)).toArray) (by kernel_rfl) rfl (by kernel_rfl) rfl (by decide) rfl hu rfl hs34 (bv_one _) (by unfold maxLen; omega) (by omega) (fun hm0 => by omega) (fun v35 w35 hv35 hgr35 hfr35 => ?_))
    replace hx := hx.own hu hgr35 (by omega)
    replace hr1 := hr1.own hu hgr35 (by omega)
    replace hr2 := hr2.own hu hgr35 (by omega)
    replace hB := hB.own hu hgr35 (by omega)
    refine WR_val rfl (rn_assign) ?_
    refine WR_nil ?_
    refine blockN ?_
    refine thenN ?_
    refine W_region ?_
    refine WR_val rfl (rn_add rfl rfl (Coup.w64 (by omega))) ?_
    refine WR_val rfl (rn_move) ?_
    refine WR_nil ?_
    rw [← bv_append, ← hlsn] at hv35
    refine loopN ⟨(i + 1, v35), by show _ - (i + 1) < _ - i; omega, ⟨by go_num, rfl, rfl, rfl, rfl, rfl⟩, by show i + 1 ≤ _; omega, hv35, hx, hr1, hr2, hB, by have := hgr35.size; have := hBr.size; omega⟩
  ·
    have him : i = sz := by omega
    subst him
    have hobt := hu.form' (by omega)
    obtain ⟨ga, oa, ca, rfl, hga1, hga2, hca⟩ := hobt
    have hall := hu.sl
    refine W_exit ?_
    refine thenX ?_
    refine loopX ?_
    refine blockX ?_
    refine thenN ?_
    refine W_seq ?_
    refine W_seq ?_
    refine W_region ?_
    refine WR_val rfl (rn_move) ?_
    refine WR_ent rfl (rn_call (by kernel_rfl) rfl) (rows73 (logB D i) ga oa i ca wr hall (by omega) (by omega) hca) ?_
    rintro _ w38 ⟨gr, rfl, hgr, hgr2, hb38, hseq⟩
    replace hx := hx.new hb38
    replace hr1 := hr1.new hb38
    replace hr2 := hr2.new hb38
    replace hB := hB.acc hb38
    refine WR_nil ?_
    refine thenN ?_
    refine W_block ?_
    have hRs := rowsL_short i (logB D i) i
    have hRl := rowsL_len i (logB D i) i
    have hobt : ∃ R, rowsL i (logB D i) i = R := ⟨_, rfl⟩
    obtain ⟨R, hR⟩ := hobt
    rw [hR] at hseq hrec hRs hRl
    have hbs := hB.size
    have hobt : ∃ b, (w38).heap.size = b := ⟨_, rfl⟩
    obtain ⟨BB, hBB⟩ := hobt
    have hg1l := hr1.lt
    have hg2l := hr2.lt
    have hRd : RdAt w BB x g g1 g2 cc si i de [] w38 := ⟨hx, hr1, ⟨_, [], hr2, ownsAt_nil _ _ _ _, RlsAt.nil _ _ _⟩, Kp.of_below' hB⟩
    refine W_rangeFuncU (ps := [39, 40]) (m := R.length) (V := RowV R) (ks := [gr, ga]) (fun _ h => h) rfl (by kernel_rfl) hseq (Below.refl _ _) (by rintro k v W ⟨r, _, sp, rfl, _⟩; rfl) (by kernel_rfl) (by simp)
      (by intro y hy; simp only [List.mem_cons, List.not_mem_nil, or_false] at hy; rcases hy with rfl | rfl <;> omega)
      (fun k W => k ≤ R.length ∧ ∃ T : List Rec, T.length = k ∧ atS T ≤ 1000 * k ∧ S = T ++ recsL si cc k (R.drop k) ∧ RdAt w BB x g g1 g2 cc si i de T W)
      (fun c W => c = .exit 2 ∧ RdAt w BB x g g1 g2 cc si i de S W) (fun k W W' ⟨h1, T, h2, ha, h3, h4⟩ hs => ⟨h1, T, h2, ha, h3, h4.soft hs hbs⟩) (fun c W W' ⟨h1, h2⟩ hs => ⟨h1, h2.soft hs hbs⟩) ⟨Nat.zero_le _, [], rfl, Nat.le_refl _, hrec, hRd⟩ ?_ ?_ ?_
    · intro l k v W1 hkR hv hI hsz
      obtain ⟨hk, T, hTk, hat, hST, hT⟩ := hI
      obtain ⟨r, hRk, sp, rfl, hsp⟩ := hv
      have hrs := hRs r (List.mem_of_getElem? hRk)
      have hdr : R.drop k = r :: R.drop (k + 1) := by rw [List.drop_eq_getElem_cons hkR]; congr 1; exact Option.some.inj ((List.getElem?_eq_getElem hkR).symm.trans hRk)
      rw [hdr] at hST
      have hBa := Below.refl W1.heap.size W1
      refine W_seq ?_
      refine W_region ?_
      refine WR_mk rfl (mk_alloc ([Value.int .u64 0, Value.int .i64 0]) (by kernel_rfl) (fun g8 w8 hg8 hr8 hb8 => ?_))
      have ge_hBa_g8 := Nat.le_trans hBa.size hg8
      replace hBa := hBa.acc hb8
      refine WR_sk rfl (sk_storeA 2 ([.int .u64 (r.c : Int), .int .i64 (r.nn : Int)]) rfl rfl hr8 (by kernel_rfl) (by first | assumption | (simp; done) | (simp [bv_length, *]; done)) (by first | assumption | (simp; done) | (simp [bv_length, *]; done) | rfl) (by first | exact bv_one _ | assumption | (simp [Value.oneCell']; done)) (fun w902 hr8 ho902 => ?_))
      replace hBa := ho902.below hBa ge_hBa_g8
      refine WR_nil ?_
      refine thenN ?_
      refine W_region ?_
      refine WR_val rfl (rn_assign) ?_
      refine WR_nil ?_
      refine ⟨rfl, hBa, fun W2 hs => ?_⟩
      have hr8 := hr8.soft hs
      have hsp := (hsp.new hBa).soft hs
      have hsz2 := hs.size
      have hsz1 := hBa.size
      have hT2 : RdAt w BB x g g1 g2 cc si i de T W2 := RdAt.soft (w0 := w) ⟨hT.rx.new hBa, hT.r1.new hBa, let ⟨v, vs, q1, q2, q3⟩ := hT.ow; ⟨v, vs, q1.new hBa, q2.new hBa, q3.new hBa⟩, hT.kb.trans (Kp.of_below' hBa)⟩ hs hbs
      obtain ⟨hx, hr1, ⟨v, vs, hr2, hu, hrl⟩, hkb⟩ := hT2
      obtain ⟨pu, cu, rfl⟩ := hu.form
      have hBi := Below.refl W2.heap.size W2
      have hof := fun w' (h : SlAt w' sp r.b.length 1 (bv r.b)) => of13 r.b sp r.b.length r.b.length w' h (Nat.le_refl _) (by omega)
      cases hrb : ofR r.b with
      | none =>
        have hS2 : S = T := by rw [hST, recsL_none (by rw [okRow, hrb]; split <;> rfl), List.append_nil]
        have hof2 := fun w' (h : SlAt w' sp r.b.length 1 (bv r.b)) => (hof w' h).to fun v w2 h => (show v = .tuple #[.slice none 0 0, .int .i64 4] ∧ Below w'.heap.size w' w2 from ⟨h.1.elim (fun ⟨_, _, _, _, h1, _⟩ => by rw [hrb] at h1; cases h1) fun h => h.2, h.2⟩)
        refine W_block ?_
        refine W_seq ?_
        refine W_region ?_
        refine WR_val rfl (rn_move) ?_
        refine WR_ent rfl (rn_call (by kernel_rfl) rfl) (hof2 _ (hsp.new hBi)) ?_
        rintro _ w43 ⟨rfl, hb43⟩
        replace hr8 := hr8.new hb43
        replace hx := hx.new hb43
        replace hr1 := hr1.new hb43
        replace hBi := hBi.acc hb43
        refine WR_val rfl (rn_move) ?_
        refine WR_val rfl (rn_extract rfl rfl) ?_
        refine WR_val rfl (rn_extract rfl rfl) ?_
        refine WR_val rfl (rn_assign) ?_
        refine WR_val rfl (rn_assign) ?_
        refine WR_nil ?_
        refine thenN ?_
        refine W_seq ?_
        refine W_seq ?_
        refine W_draw' [] (by kernel_rfl) ?_
        intro w903 hb903 hS903
        replace hr8 := hr8.new hb903
        replace hx := hx.new hb903
        replace hr1 := hr1.new hb903
        replace hBi := hBi.acc hb903
        have hr8_d903 := hr8
        have hx_d903 := hx
        have hr1_d903 := hr1
        have hBi_d903 := hBi
        refine WA_take 0 (by kernel_rfl) rfl (fun _ _ => rn_move) ?_
        refine WA_take 1 (by kernel_rfl) rfl (fun _ _ => rn_neq rfl rfl) ?_
        refine WA_take 2 (by kernel_rfl) rfl (fun _ _ => rn_move) ?_
        refine WA_tp 48 rfl ((by decide)) ?_
        refine WA_skip 3 (by kernel_rfl) rfl ?_
        refine WA_skip 4 (by kernel_rfl) rfl ?_
        refine WA_skip 5 (by kernel_rfl) rfl ?_
        refine WA_skip 6 (by kernel_rfl) rfl ?_
        refine WA_skip 7 (by kernel_rfl) rfl ?_
        refine WA_skip 8 (by kernel_rfl) rfl ?_
        refine WA_skip 9 (by kernel_rfl) rfl ?_
        refine WA_take 10 (by kernel_rfl) rfl (fun _ _ => rn_pick_t rfl) ?_
        refine WA_take 11 (by kernel_rfl) rfl (fun _ _ => rn_move) ?_
        refine WA_skip 12 (by kernel_rfl) rfl ?_
        refine WA_skip 13 (by kernel_rfl) rfl ?_
        refine WA_skip 14 (by kernel_rfl) rfl ?_
        refine WA_skip 15 (by kernel_rfl) rfl ?_
        refine WA_skip 16 (by kernel_rfl) rfl ?_
        refine WA_skip 17 (by kernel_rfl) rfl ?_
        refine WA_skip 18 (by kernel_rfl) rfl ?_
        refine WA_skip 19 (by kernel_rfl) rfl ?_
        refine WA_take 20 (by kernel_rfl) rfl (fun _ _ => rn_pick_t rfl) ?_
        refine WA_take 21 (by kernel_rfl) rfl (fun _ _ => rn_move) ?_
        refine WA_skip 22 (by kernel_rfl) rfl ?_
        refine WA_skip 23 (by kernel_rfl) rfl ?_
        refine WA_skip 24 (by kernel_rfl) rfl ?_
        refine WA_skip 25 (by kernel_rfl) rfl ?_
        refine WA_skip 26 (by kernel_rfl) rfl ?_
        refine WA_skip 27 (by kernel_rfl) rfl ?_
        refine WA_skip 28 (by kernel_rfl) rfl ?_
        refine WA_skip 29 (by kernel_rfl) rfl ?_
        refine WA_take 30 (by kernel_rfl) rfl (fun _ _ => rn_pick_t rfl) ?_
        refine WA_done (by kernel_rfl) ?_
        refine thenN ?_
        refine W_t rfl ?_
        refine W_exit ?_
        refine thenX ?_
        refine blockO rfl ?_
        exact ⟨keepsFrom_of_kp (M := []) (Kp.of_below hBi) (by simp), rfl, hS2 ▸ ⟨hx, hr1, ⟨_, vs, hr2.new hBi, hu.new hBi, hrl.new hBi⟩, hkb.trans (Kp.of_below' hBi)⟩⟩
      | some rr =>
        have hof3 := fun w' (h : SlAt w' sp r.b.length 1 (bv r.b)) => (hof w' h).to fun v w2 h => (show ∃ g o c, v = .tuple #[.slice (some ⟨g, o, none⟩) rr.length c, .int .i64 0] ∧ w'.heap.size ≤ g ∧ rr.length ≤ c ∧ SlAt w2 (some ⟨g, o, none⟩) rr.length 513 (chsV rr) ∧ Below w'.heap.size w' w2 from h.1.elim (fun ⟨r2, g, o, c, h1, h2, h3, h4, h5⟩ => by rw [hrb] at h1; cases h1; exact ⟨g, o, c, h2, h3, h4, h5, h.2⟩) fun h => by rw [hrb] at h; cases h.1)
        have hrr := ofR_may hrb
        have hnw := needW_pos hrr
        have hN : needN (516 * rr.length) ≤ 1000 := by unfold needN manyN; omega
        refine W_block ?_
        refine W_seq ?_
        refine W_region ?_
        refine WR_val rfl (rn_move) ?_
        refine WR_ent rfl (rn_call (by kernel_rfl) rfl) (hof3 _ (hsp.new hBi)) ?_
        rintro _ w43 ⟨gq, oq, cq, rfl, hgq, hcq, hsq, hb43⟩
        replace hr8 := hr8.new hb43
        replace hx := hx.new hb43
        replace hr1 := hr1.new hb43
        replace hBi := hBi.acc hb43
        refine WR_val rfl (rn_move) ?_
        refine WR_val rfl (rn_extract rfl rfl) ?_
        refine WR_val rfl (rn_extract rfl rfl) ?_
        refine WR_val rfl (rn_assign) ?_
        refine WR_val rfl (rn_assign) ?_
        refine WR_nil ?_
        refine thenN ?_
        refine W_seq ?_
        refine W_seq ?_
        refine W_draw' [] (by kernel_rfl) ?_
        intro w904 hb904 hS904
        replace hr8 := hr8.new hb904
        replace hx := hx.new hb904
        replace hr1 := hr1.new hb904
        replace hsq := hsq.new hb904
        replace hBi := hBi.acc hb904
        have hr8_d904 := hr8
        have hx_d904 := hx
        have hr1_d904 := hr1
        have hsq_d904 := hsq
        have hBi_d904 := hBi
        refine WA_take 0 (by kernel_rfl) rfl (fun _ _ => rn_move) ?_
        refine WA_take 1 (by kernel_rfl) rfl (fun _ _ => rn_neq rfl rfl) ?_
        refine WA_take 2 (by kernel_rfl) rfl (fun _ _ => rn_move) ?_
        refine WA_fp 48 rfl ((by simp)) ?_
        refine WA_take 3 (by kernel_rfl) rfl (fun _ _ => rn_fieldAddr (off := 1) (by kernel_rfl) rfl) ?_
        refine WA_take 4 (by kernel_rfl) rfl (fun w' hS' => rn_load rfl (Ld.row1 (hr8_d904.kpd hS' (by first | (simp; done) | (simp; omega) | (simp [*]; done) | exact notLL (Or.inl (by omega)) | exact notLL (Or.inr (by simp)) | exact fun g hm => Nat.le_trans (by omega) (inLL hm).1 | (intro b o e; cases e; exact notLL (Or.inl (by omega))) | (intro b hm; have := (hu.lt b (Option.mem_toList.1 hm)).1; omega) | (intro b o e; cases e; intro hm; have := (hu.lt _ (Option.mem_toList.1 hm)).1; omega))) (by kernel_rfl) rfl)) ?_
        refine WA_take 5 (by kernel_rfl) rfl (fun w' hS' => rn_load rfl (Ld.row1 (hr1_d904.kpd hS' (by first | (simp; done) | (simp; omega) | (simp [*]; done) | exact notLL (Or.inl (by omega)) | exact notLL (Or.inr (by simp)) | exact fun g hm => Nat.le_trans (by omega) (inLL hm).1 | (intro b o e; cases e; exact notLL (Or.inl (by omega))) | (intro b hm; have := (hu.lt b (Option.mem_toList.1 hm)).1; omega) | (intro b o e; cases e; intro hm; have := (hu.lt _ (Option.mem_toList.1 hm)).1; omega))) (by kernel_rfl) rfl)) ?_
        refine WA_take 6 (by kernel_rfl) rfl (fun _ _ => rn_nilCheckP rfl) ?_
        refine WA_take 7 (by kernel_rfl) rfl (fun _ _ => rn_fieldAddr (off := 4) (by kernel_rfl) rfl) ?_
        refine WA_take 8 (by kernel_rfl) rfl (fun w' hS' => rn_load rfl (Ld.row1 (hx_d904.kpd hS' (by first | (simp; done) | (simp; omega) | (simp [*]; done) | exact notLL (Or.inl (by omega)) | exact notLL (Or.inr (by simp)) | exact fun g hm => Nat.le_trans (by omega) (inLL hm).1 | (intro b o e; cases e; exact notLL (Or.inl (by omega))) | (intro b hm; have := (hu.lt b (Option.mem_toList.1 hm)).1; omega) | (intro b o e; cases e; intro hm; have := (hu.lt _ (Option.mem_toList.1 hm)).1; omega))) (by kernel_rfl) rfl)) ?_
        refine WA_take 9 (by kernel_rfl) rfl (fun _ _ => rn_neq rfl rfl) ?_
        refine WA_take 10 (by kernel_rfl) rfl (fun _ _ => rn_pick_f rfl) ?_
        refine WA_take 11 (by kernel_rfl) rfl (fun _ _ => rn_move) ?_
        refine WA_part 57 rfl (fun hnn => ?_) (fun hnn => ?_)
        ·
          refine WA_skip 12 (by kernel_rfl) rfl ?_
          refine WA_skip 13 (by kernel_rfl) rfl ?_
          refine WA_skip 14 (by kernel_rfl) rfl ?_
          refine WA_skip 15 (by kernel_rfl) rfl ?_
          refine WA_skip 16 (by kernel_rfl) rfl ?_
          refine WA_skip 17 (by kernel_rfl) rfl ?_
          refine WA_skip 18 (by kernel_rfl) rfl ?_
          refine WA_skip 19 (by kernel_rfl) rfl ?_
          refine WA_take 20 (by kernel_rfl) rfl (fun _ _ => rn_pick_t rfl) ?_
          refine WA_take 21 (by kernel_rfl) rfl (fun _ _ => rn_move) ?_
          refine WA_skip 22 (by kernel_rfl) rfl ?_
          refine WA_skip 23 (by kernel_rfl) rfl ?_
          refine WA_skip 24 (by kernel_rfl) rfl ?_
          refine WA_skip 25 (by kernel_rfl) rfl ?_
          refine WA_skip 26 (by kernel_rfl) rfl ?_
          refine WA_skip 27 (by kernel_rfl) rfl ?_
          refine WA_skip 28 (by kernel_rfl) rfl ?_
          refine WA_skip 29 (by kernel_rfl) rfl ?_
          refine WA_take 30 (by kernel_rfl) rfl (fun _ _ => rn_pick_t rfl) ?_
          refine WA_done (by kernel_rfl) ?_
          refine thenN ?_
          refine W_t rfl ?_
          refine W_exit ?_
          refine thenX ?_
          refine blockO rfl ?_
          have hS2 : S = T := by rw [hST, recsL_none (by rw [okRow, if_neg (by omega)]), List.append_nil]
          exact ⟨keepsFrom_of_kp (M := []) (Kp.of_below hBi) (by simp), rfl, hS2 ▸ ⟨hx, hr1, ⟨_, vs, hr2.new hBi, hu.new hBi, hrl.new hBi⟩, hkb.trans (Kp.of_below' hBi)⟩⟩
        ·
          refine WA_take 12 (by kernel_rfl) rfl (fun _ _ => rn_fieldAddr (off := 0) (by kernel_rfl) rfl) ?_
          refine WA_take 13 (by kernel_rfl) rfl (fun w' hS' => rn_load rfl (Ld.row1 (hr8_d904.kpd hS' (by first | (simp; done) | (simp; omega) | (simp [*]; done) | exact notLL (Or.inl (by omega)) | exact notLL (Or.inr (by simp)) | exact fun g hm => Nat.le_trans (by omega) (inLL hm).1 | (intro b o e; cases e; exact notLL (Or.inl (by omega))) | (intro b hm; have := (hu.lt b (Option.mem_toList.1 hm)).1; omega) | (intro b o e; cases e; intro hm; have := (hu.lt _ (Option.mem_toList.1 hm)).1; omega))) (by kernel_rfl) rfl)) ?_
          refine WA_take 14 (by kernel_rfl) rfl (fun w' hS' => rn_load rfl (Ld.row1 (hr1_d904.kpd hS' (by first | (simp; done) | (simp; omega) | (simp [*]; done) | exact notLL (Or.inl (by omega)) | exact notLL (Or.inr (by simp)) | exact fun g hm => Nat.le_trans (by omega) (inLL hm).1 | (intro b o e; cases e; exact notLL (Or.inl (by omega))) | (intro b hm; have := (hu.lt b (Option.mem_toList.1 hm)).1; omega) | (intro b o e; cases e; intro hm; have := (hu.lt _ (Option.mem_toList.1 hm)).1; omega))) (by kernel_rfl) rfl)) ?_
          refine WA_take 15 (by kernel_rfl) rfl (fun _ _ => rn_nilCheckP rfl) ?_
          refine WA_take 16 (by kernel_rfl) rfl (fun _ _ => rn_fieldAddr (off := 0) (by kernel_rfl) rfl) ?_
          refine WA_take 17 (by kernel_rfl) rfl (fun _ _ => rn_fieldAddr (off := 1) (by kernel_rfl) rfl) ?_
          refine WA_take 18 (by kernel_rfl) rfl (fun w' hS' => rn_load rfl (Ld.row1 (hx_d904.kpd hS' (by first | (simp; done) | (simp; omega) | (simp [*]; done) | exact notLL (Or.inl (by omega)) | exact notLL (Or.inr (by simp)) | exact fun g hm => Nat.le_trans (by omega) (inLL hm).1 | (intro b o e; cases e; exact notLL (Or.inl (by omega))) | (intro b hm; have := (hu.lt b (Option.mem_toList.1 hm)).1; omega) | (intro b o e; cases e; intro hm; have := (hu.lt _ (Option.mem_toList.1 hm)).1; omega))) (by kernel_rfl) rfl)) ?_
          refine WA_take 19 (by kernel_rfl) rfl (fun _ _ => rn_lss rfl rfl) ?_
          refine WA_take 20 (by kernel_rfl) rfl (fun _ _ => rn_pick_f rfl) ?_
          refine WA_take 21 (by kernel_rfl) rfl (fun _ _ => rn_move) ?_
          refine WA_part 67 rfl (fun hsi => ?_) (fun hsi => ?_)
          ·
            refine WA_skip 22 (by kernel_rfl) rfl ?_
            refine WA_skip 23 (by kernel_rfl) rfl ?_
            refine WA_skip 24 (by kernel_rfl) rfl ?_
            refine WA_skip 25 (by kernel_rfl) rfl ?_
            refine WA_skip 26 (by kernel_rfl) rfl ?_
            refine WA_skip 27 (by kernel_rfl) rfl ?_
            refine WA_skip 28 (by kernel_rfl) rfl ?_
            refine WA_skip 29 (by kernel_rfl) rfl ?_
            refine WA_take 30 (by kernel_rfl) rfl (fun _ _ => rn_pick_t rfl) ?_
            refine WA_done (by kernel_rfl) ?_
            refine thenN ?_
            refine W_t rfl ?_
            refine W_exit ?_
            refine thenX ?_
            refine blockO rfl ?_
            have hS2 : S = T := by rw [hST, recsL_none (by rw [okRow, if_neg (by omega)]), List.append_nil]
            exact ⟨keepsFrom_of_kp (M := []) (Kp.of_below hBi) (by simp), rfl, hS2 ▸ ⟨hx, hr1, ⟨_, vs, hr2.new hBi, hu.new hBi, hrl.new hBi⟩, hkb.trans (Kp.of_below' hBi)⟩⟩
          ·
            refine WA_take 22 (by kernel_rfl) rfl (fun _ _ => rn_fieldAddr (off := 0) (by kernel_rfl) rfl) ?_
            refine WA_take 23 (by kernel_rfl) rfl (fun w' hS' => rn_load rfl (Ld.row1 (hr8_d904.kpd hS' (by first | (simp; done) | (simp; omega) | (simp [*]; done) | exact notLL (Or.inl (by omega)) | exact notLL (Or.inr (by simp)) | exact fun g hm => Nat.le_trans (by omega) (inLL hm).1 | (intro b o e; cases e; exact notLL (Or.inl (by omega))) | (intro b hm; have := (hu.lt b (Option.mem_toList.1 hm)).1; omega) | (intro b o e; cases e; intro hm; have := (hu.lt _ (Option.mem_toList.1 hm)).1; omega))) (by kernel_rfl) rfl)) ?_
            refine WA_take 24 (by kernel_rfl) rfl (fun w' hS' => rn_load rfl (Ld.row1 (hr1_d904.kpd hS' (by first | (simp; done) | (simp; omega) | (simp [*]; done) | exact notLL (Or.inl (by omega)) | exact notLL (Or.inr (by simp)) | exact fun g hm => Nat.le_trans (by omega) (inLL hm).1 | (intro b o e; cases e; exact notLL (Or.inl (by omega))) | (intro b hm; have := (hu.lt b (Option.mem_toList.1 hm)).1; omega) | (intro b o e; cases e; intro hm; have := (hu.lt _ (Option.mem_toList.1 hm)).1; omega))) (by kernel_rfl) rfl)) ?_
            refine WA_take 25 (by kernel_rfl) rfl (fun _ _ => rn_nilCheckP rfl) ?_
            refine WA_take 26 (by kernel_rfl) rfl (fun _ _ => rn_fieldAddr (off := 0) (by kernel_rfl) rfl) ?_
            refine WA_take 27 (by kernel_rfl) rfl (fun _ _ => rn_fieldAddr (off := 0) (by kernel_rfl) rfl) ?_
            refine WA_take 28 (by kernel_rfl) rfl (fun w' hS' => rn_load rfl (Ld.row1 (hx_d904.kpd hS' (by first | (simp; done) | (simp; omega) | (simp [*]; done) | exact notLL (Or.inl (by omega)) | exact notLL (Or.inr (by simp)) | exact fun g hm => Nat.le_trans (by omega) (inLL hm).1 | (intro b o e; cases e; exact notLL (Or.inl (by omega))) | (intro b hm; have := (hu.lt b (Option.mem_toList.1 hm)).1; omega) | (intro b o e; cases e; intro hm; have := (hu.lt _ (Option.mem_toList.1 hm)).1; omega))) (by kernel_rfl) rfl)) ?_
            refine WA_take 29 (by kernel_rfl) rfl (fun _ _ => rn_gtr rfl rfl) ?_
            refine WA_take 30 (by kernel_rfl) rfl (fun _ _ => rn_pick_f rfl) ?_
            refine WA_done (by kernel_rfl) ?_
            refine thenN ?_
            refine W_ifp rfl (fun hcc => ?_) (fun hcc => ?_)
            ·
              refine W_exit ?_
              refine thenX ?_
              refine blockO rfl ?_
              have hS2 : S = T := by rw [hST, recsL_none (by rw [okRow, if_neg (by omega)]), List.append_nil]
              exact ⟨keepsFrom_of_kp (M := []) (Kp.of_below hBi) (by simp), rfl, hS2 ▸ ⟨hx, hr1, ⟨_, vs, hr2.new hBi, hu.new hBi, hrl.new hBi⟩, hkb.trans (Kp.of_below' hBi)⟩⟩
            ·
              have hok2 : okRow si cc k r = some rr := by rw [okRow, if_pos (by omega), hrb]
              rw [recsL_some hok2] at hST
              have hu2 := hu
              have hsi2 := hsi
              refine W_skip ?_
              refine thenN ?_
              refine W_seq ?_
              refine W_region ?_
              replace hr2 := hr2.new hBi
              replace hu := hu.new hBi
              replace hrl := hrl.new hBi
              have hBe := hBi
              have hKx : KpB (x :: g2 :: (Value.slice pu T.length cu).ownBlock.toList) W2 w904 := ⟨Kp.of_below' hBi⟩
              have hwz := hBi.size
              refine WR_val rfl (rn_load rfl (Ld.row1 hr2 (by kernel_rfl) rfl)) ?_
              refine WR_val rfl (rn_move) ?_
              refine WR_mk rfl (mk_one (e := 52) (.slice (some ⟨gq, oq, none⟩) rr.length cq) ([.slice (some ⟨gq, oq, none⟩) rr.length cq]) ([Value.slice none 0 0]) 1 (by kernel_rfl) (by kernel_rfl) rfl rfl rfl ⟨by decide, by decide⟩ (fun g79 w79 hg79 hr79 hb79 => ?_))
              have lt_x_g79 : x < g79 := Nat.lt_of_lt_of_le hx.lt hg79
              have lt_g1_g79 : g1 < g79 := Nat.lt_of_lt_of_le hr1.lt hg79
              have lt_g2_g79 : g2 < g79 := Nat.lt_of_lt_of_le hr2.lt hg79
              replace hx := hx.new hb79
              replace hr1 := hr1.new hb79
              replace hsq := hsq.new hb79
              replace hr2 := hr2.new hb79
              replace hu := hu.new hb79
              replace hrl := hrl.new hb79
              replace hKx := hKx.new hb79
              have hs79 := hr79.slA (m := 1) (sz := 1) rfl (by omega)
              have hgq2 := (hsq.some (by omega))
              obtain ⟨_, _, hqe, hgq3⟩ := hgq2
              cases hqe
              have hwz2 := hb79.size
              refine WR_mk rfl (mk_append (e := 52) (sz := 1) (bytes := 24) (z := Value.slice none 0 0) (by kernel_rfl) rfl (by kernel_rfl) rfl (by decide) rfl hu rfl hs79 (by simp [Value.oneCell']) (by unfold maxLen; omega) (by omega) (fun hm0 => by omega) (fun v80 w80 hv80 hgr80 hfr80 => ?_))
              replace hx := hx.own hu hgr80 (by omega)
              replace hr1 := hr1.own hu hgr80 (by omega)
              replace hr2 := hr2.own hu hgr80 (by omega)
              obtain ⟨p80, c80, rfl⟩ := hv80.form
              have hne : ∀ b, (Value.slice pu T.length cu).ownBlock = some b → BB ≤ b ∧ b < W2.heap.size := hu2.lt
              have hsq2 := hsq.kpd (Kp.of_grown hgr80) (fun b o e hm => by cases e; have := (hne _ (Option.mem_toList.1 hm)).2; omega)
              have hrl2 := (hrl.grow hgr80 hfr80).snoc hsq2 (Nat.lt_of_lt_of_le hgq3 hgr80.size) (fun e => (hfr80 gq e.symm).elim (fun e' => by have := (hne _ e').2; omega) (fun e' => by omega)) hcq (by omega)
              replace hKx := hKx.kpd (Kp.of_grown hgr80) (fun b hb => .inl (List.mem_cons_of_mem _ (List.mem_cons_of_mem _ hb)))
              refine WR_sk rfl (sk_store1 rfl rfl rfl rfl hr2 (by kernel_rfl) (by first | (simp only [List.length_replicate]; omega) | (simp only [iv_length]; omega) | (simp only [bv_length, List.length_set]; omega) | simp) (fun w905 hr2 ho905 => ?_))
              replace hx := hx.only ho905 (Nat.ne_of_lt lt_x_g2)
              replace hr1 := hr1.only ho905 (Nat.ne_of_lt lt_g1_g2)
              replace hv80 := hv80.only ho905 (by omega)
              replace hKx := hKx.only ho905 (by first | (simp; done) | (right; omega))
              replace hrl2 := hrl2.only ho905 (by omega)
              refine WR_nil ?_
              refine thenN ?_
              refine W_seq ?_
              refine W_region ?_
              refine WR_val rfl (rn_load rfl (Ld.row1 hr1 (by kernel_rfl) rfl)) ?_
              refine WR_val rfl (rn_nilCheckP rfl) ?_
              refine WR_val rfl (rn_fieldAddr (off := 4) (by kernel_rfl) rfl) ?_
              refine WR_val rfl (rn_load rfl (Ld.row1 hx (by kernel_rfl) rfl)) ?_
              refine WR_val rfl (rn_add rfl rfl (Coup.w64 (by omega))) ?_
              refine WR_val rfl (rn_nilCheckP rfl) ?_
              refine WR_val rfl (rn_fieldAddr (off := 4) (by kernel_rfl) rfl) ?_
              refine WR_sk rfl (sk_store1 rfl rfl rfl rfl hx (by kernel_rfl) (by first | (simp only [List.length_replicate]; omega) | (simp only [iv_length]; omega) | (simp only [bv_length, List.length_set]; omega) | simp) (fun w906 hx ho906 => ?_))
              replace hr1 := hr1.only ho906 (Nat.ne_of_gt lt_x_g1)
              replace hr2 := hr2.only ho906 (Nat.ne_of_gt lt_x_g2)
              replace hv80 := hv80.only ho906 (by omega)
              replace hKx := hKx.only ho906 (by first | (simp; done) | (right; omega))
              replace hrl2 := hrl2.only ho906 (by omega)
              refine WR_nil ?_
              refine thenN ?_
              have hx2 : row w906 x [.int .u64 (cc : Int), .int .u64 (si : Int), .pointer (some ⟨g, 0, none⟩), .int .i64 (i : Int), .int .i64 (((T.length : Nat) : Int) + 1), .int .i64 ((atS T : Nat) : Int), .bool de] 109 := hx
              replace hx := hx2
              clear hx2
              refine W_draw' [x] (by kernel_rfl) ?_
              intro w907 hb907 hS907
              replace hx := hx.new hb907
              replace hr1 := hr1.new hb907
              replace hr2 := hr2.new hb907
              replace hv80 := hv80.new hb907
              replace hKx := hKx.new hb907
              replace hrl2 := hrl2.new hb907
              have hx_d907 := hx
              have hr1_d907 := hr1
              have hr2_d907 := hr2
              have hv80_d907 := hv80
              have hKx_d907 := hKx
              have hrl2_d907 := hrl2
              refine WA_take 0 (by kernel_rfl) rfl (fun w' hS' => rn_load rfl (Ld.row1 (hr1_d907.kpd hS' (by first | (simp; done) | (simp; omega) | (simp [*]; done) | exact notLL (Or.inl (by omega)) | exact notLL (Or.inr (by simp)) | exact fun g hm => Nat.le_trans (by omega) (inLL hm).1 | (intro b o e; cases e; exact notLL (Or.inl (by omega))) | (intro b hm; have := (hu.lt b (Option.mem_toList.1 hm)).1; omega) | (intro b o e; cases e; intro hm; have := (hu.lt _ (Option.mem_toList.1 hm)).1; omega))) (by kernel_rfl) rfl)) ?_
              refine WA_take 1 (by kernel_rfl) rfl (fun _ _ => rn_nilCheckP rfl) ?_
              refine WA_take 2 (by kernel_rfl) rfl (fun _ _ => rn_fieldAddr (off := 5) (by kernel_rfl) rfl) ?_
              refine WA_take 4 (by kernel_rfl) rfl (fun _ _ => rn_move) ?_
              refine WA_take 5 (by kernel_rfl) rfl (fun _ _ => rn_lenSl (e := 73) (sz := 513) (by kernel_rfl) rfl rfl) ?_
              refine WA_call 6 (by kernel_rfl) rfl (fun _ => rn_call (by kernel_rfl) rfl) (fun w' hS' => need10 rr.length w') ?_
              refine WA_one 3 (by kernel_rfl) ?_
              refine WO_val rfl rfl (rn_load rfl (Ld.row1 hx (by kernel_rfl) rfl)) hS907 ?_
              refine WA_take 7 (by kernel_rfl) rfl (fun _ _ => rn_add rfl rfl (Coup.w64 (by rw [hnw.1]; omega))) ?_
              refine WA_take 8 (by kernel_rfl) rfl (fun _ _ => rn_nilCheckP rfl) ?_
              refine WA_take 9 (by kernel_rfl) rfl (fun _ _ => rn_fieldAddr (off := 5) (by kernel_rfl) rfl) ?_
              refine WA_one 10 (by kernel_rfl) ?_
              refine WO_sk rfl rfl (sk_store1 rfl rfl rfl rfl hx (by kernel_rfl) (by first | (simp only [List.length_replicate]; omega) | (simp only [iv_length]; omega) | (simp only [bv_length, List.length_set]; omega) | simp) (fun w910 hx ho910 => ?_))
              have hS909 := hS907.add1 ho910 (by first | (left; omega) | (right; simp; done) | (right; simp; omega))
              refine ⟨hS909, ?_⟩
              replace hr1 := hr1.only ho910 (Nat.ne_of_gt lt_x_g1)
              replace hr2 := hr2.only ho910 (Nat.ne_of_gt lt_x_g2)
              replace hv80 := hv80.only ho910 (by omega)
              replace hKx := hKx.only ho910 (by first | (simp; done) | (right; omega))
              replace hrl2 := hrl2.only ho910 (by omega)
              refine WA_done (by kernel_rfl) ?_
              refine blockN ?_
              have e1 : (((T ++ [rr]).length : Nat) : Int) = ((T.length : Nat) : Int) + 1 := by rw [List.length_append]; rfl
              have e2 : ((atS (T ++ [rr]) : Nat) : Int) = ((atS T : Nat) : Int) + needW rr.length := by rw [atS_snoc, hnw.1]; rfl
              refine ⟨keepsFrom_of_kp hKx.k fun b hb => ?_, fun b hb => ?_, by omega, T ++ [rr], by rw [List.length_append, List.length_singleton]; omega, by rw [atS_snoc]; omega, by rw [List.append_assoc]; exact hST, by rw [e1, e2]; exact hx, hr1, ⟨_, _, hr2, by rw [List.length_append]; exact hv80, hrl2⟩, ?_⟩
              · rcases List.mem_cons.1 hb with rfl | hb
                · left; omega
                · rcases List.mem_cons.1 hb with rfl | hb
                  · left; omega
                  · right; exact own_cells hu2 (Option.mem_toList.1 hb)
              · have hbl : b < BB ∧ b ≠ x ∧ b ≠ g2 := by
                  simp only [List.mem_cons, List.not_mem_nil, or_false] at hb
                  rcases hb with rfl | rfl <;> omega
                refine hKx.k.block b (by omega) fun hm => ?_
                rcases List.mem_cons.1 hm with e | hm
                · exact hbl.2.1 e
                · rcases List.mem_cons.1 hm with e | hm
                  · exact hbl.2.2 e
                  · have := (hne _ (Option.mem_toList.1 hm)).1; omega
              · refine ((⟨hkb⟩ : KpB [x] w W2).kpd hKx.k fun b hm => ?_).k
                rcases List.mem_cons.1 hm with e | hm
                · left; simp [e]
                · rcases List.mem_cons.1 hm with e | hm
                  · right; omega
                  · have := (hne _ (Option.mem_toList.1 hm)).1; right; omega
    · intro Dd W hD hI hdef
      obtain ⟨hk, T, hTk, hat, hST, hT⟩ := hI
      rw [List.drop_length, recsL, List.append_nil] at hST
      subst hST
      obtain ⟨hx, hr1, ⟨v, vs, hr2, hu, hrl⟩, hkb⟩ := hT
      obtain ⟨pu, cu, rfl⟩ := hu.form
      refine blockN ?_
      refine thenN ?_
      refine W_seq ?_
      refine W_region ?_
      refine WR_val rfl (rn_load rfl (Ld.row1 hr2 (by kernel_rfl) rfl)) ?_
      refine WR_sk rfl (sk_store1 rfl rfl rfl rfl hr2 (by kernel_rfl) (by first | (simp only [List.length_replicate]; omega) | (simp only [iv_length]; omega) | (simp only [bv_length, List.length_set]; omega) | simp) (fun w911 hr2 ho911 => ?_))
      have hdef2 : (w911).heap[Dd]? = some (.deferred (some [])) := ((Kp.of_only ho911).block Dd (Array.getElem?_eq_some_iff.1 hdef).1 (by simp; omega)).trans hdef
      replace hdef := hdef2
      clear hdef2
      have hput := Soft.put (B := w.heap.size) (.deferred none) hdef (by omega) rfl
      have hr2n : row w911 g2 [.slice pu S.length cu] 78 := hr2
      have hr2p := hr2n.soft hput
      have hx2 := (hx.only ho911 (by omega)).soft hput
      have hu2 := (hu.only ho911 (by omega)).soft hput
      have hrl2 := (hrl.only ho911 (by omega)).soft hput
      have hk2 := ((⟨hkb⟩ : KpB [x] w W).only ho911 (by right; omega)).k.soft hput (Nat.le_refl _)
      refine WR_val rfl (rn_assign) ?_
      refine WR_nil ?_
      refine thenN ?_
      refine W_ret ?_
      refine ret_mark [_, _] Dd hdef ⟨⟨_, rfl, Ld.row1 hr2p (by kernel_rfl) rfl⟩, rfl, trivial⟩ ?_
      exact ⟨pu, cu, rfl, own_cap hu2, ⟨two_add h.two hk2 (fun b hb => .inr (by simp at hb; simp [hb])) (all_of hu2 hrl2 (by omega)) (fun b hb => (List.mem_range'_1.1 hb).1), hx2, hge, hni⟩, LoL.of_kp hk2 (fun b hb => .inl (by simp at hb; subst hb; exact ⟨hge, hni⟩))⟩
    · intro Dd c W' hD hI hdef
      obtain ⟨rfl, hT⟩ := hI
      obtain ⟨hx, hr1, ⟨v, vs, hr2, hu, hrl⟩, hkb⟩ := hT
      obtain ⟨pu, cu, rfl⟩ := hu.form
      refine ⟨by kernel_rfl, W_exit ?_⟩
      refine blockX ?_
      refine thenN ?_
      refine W_seq ?_
      refine W_region ?_
      refine WR_val rfl (rn_load rfl (Ld.row1 hr2 (by kernel_rfl) rfl)) ?_
      refine WR_sk rfl (sk_store1 rfl rfl rfl rfl hr2 (by kernel_rfl) (by first | (simp only [List.length_replicate]; omega) | (simp only [iv_length]; omega) | (simp only [bv_length, List.length_set]; omega) | simp) (fun w912 hr2 ho912 => ?_))
      have hdef2 : (w912).heap[Dd]? = some (.deferred (some [])) := ((Kp.of_only ho912).block Dd (Array.getElem?_eq_some_iff.1 hdef).1 (by simp; omega)).trans hdef
      replace hdef := hdef2
      clear hdef2
      have hput := Soft.put (B := w.heap.size) (.deferred none) hdef (by omega) rfl
      have hr2n : row w912 g2 [.slice pu S.length cu] 78 := hr2
      have hr2p := hr2n.soft hput
      have hx2 := (hx.only ho912 (by omega)).soft hput
      have hu2 := (hu.only ho912 (by omega)).soft hput
      have hrl2 := (hrl.only ho912 (by omega)).soft hput
      have hk2 := ((⟨hkb⟩ : KpB [x] w W').only ho912 (by right; omega)).k.soft hput (Nat.le_refl _)
      refine WR_val rfl (rn_assign) ?_
      refine WR_nil ?_
      refine thenN ?_
      refine W_ret ?_
      refine ret_mark [_, _] Dd hdef ⟨⟨_, rfl, Ld.row1 hr2p (by kernel_rfl) rfl⟩, rfl, trivial⟩ ?_
      exact ⟨pu, cu, rfl, own_cap hu2, ⟨two_add h.two hk2 (fun b hb => .inr (by simp at hb; simp [hb])) (all_of hu2 hrl2 (by omega)) (fun b hb => (List.mem_range'_1.1 hb).1), hx2, hge, hni⟩, LoL.of_kp hk2 (fun b hb => .inl (by simp at hb; subst hb; exact ⟨hge, hni⟩))⟩
end
end Go.Proofs.YtielfpkjoidomaaGreat
namespace Go.Proofs.YtielfpkjoidomaaGreat
open Go Go.RowKit Coup
theorem rn_built3 {P : Program} {ρ : Env} {w : World} {d : Option Nat} {ty : TypeId} {pos : String} {af : Array Edge} {gd : Option (Nat × Bool)} {t i j k : Nat} {x y z : Operand} (v u s : Value) (cs : List Value) (hx : ev ρ x = v) (hy : ev ρ y = u) (hz : ev ρ z = s) (hb : P.built t [(i, v), (j, u), (k, s)] = some cs.toArray) :
    (execOp (ev ρ) ⟨d, .build t #[(i, x), (j, y), (k, z)], ty, pos, af, gd⟩).run P w = .ok (.value (.agg cs.toArray)) w := by
  have := run_build (P := P) w t #[(i, v), (j, u), (k, s)] cs.toArray (by simpa using hb)
  simp only [execOp, List.map_toArray, List.map_cons, List.map_nil, hx, hy, hz, Sem.run_bind, this, Result.andThen_ok]
  rfl
theorem two_left {X Y Z : World → List Nat → Prop} {lo : Nat} {L : List Nat} {w : World} (h : Two X (AndZ Y Z) lo L w) : Two X Y lo L w := by
  obtain ⟨⟨B, _, h1, ⟨C1, C2, rfl, h2, _⟩, h3, h4⟩, h5, h6⟩ := h
  exact ⟨⟨B, C1, h1, h2, fun b hb => ⟨(h3 b hb).1, fun hm => (h3 b hb).2.1 (List.mem_append_left _ hm), (h3 b hb).2.2⟩, fun b hb => h4 b (List.mem_append_left _ hb)⟩, h5, h6⟩
def openE (D : Dk) (n : Int) : Int := if fitsN D.V.length n then (if hdIs (readD D 0) then (if hdC (readD D 0) = 4611686018427387904 then 8 else 0) else 6) else 2
def headG (D : Dk) (n : Int) : Lg := ⟨hdC (readD D 0), hdS (readD D 0), n.toNat, 0, 0, false⟩
section
variable {Y : World → List Nat → Prop} [Thing Y] {g lo : Nat} {L : List Nat} {D : Dk} {w : World}
def noLog (e : Int) : Value := .tuple #[.pointer none, .slice none 0 0, .int .i64 e]
set_option maxRecDepth 20000 in
set_option maxHeartbeats 1000000 in
theorem openYes (h : Two (DZ g D) Y lo L w) (n : Nat) (he : openE D n = 0) (hsh : shortD D 90000) :
    Calls Tryz.prog 44 [.pointer (some ⟨g, 0, none⟩), .int .i64 (n : Int)].toArray w (Ret fun v w' => ∃ ok D2 C s S, saveE D (C + 1) s = ok ∧ saveD D (C + 1) s = D2 ∧ hdC (readD D 0) = C ∧ hdS (readD D 0) = s ∧ recsOf D (headG D n) = S ∧ LoL lo L w w' ∧
      ((ok = false ∧ v = noLog 10 ∧ Two (DZ g D2) Y lo L w') ∨ (ok = true ∧ ∃ x p c, v = .tuple #[.pointer (some ⟨x, 0, none⟩), .slice p S.length c, .int .i64 0] ∧ S.length ≤ c ∧
        LgAt g x (AndZ Y (AllZ p S)) lo L D2 ⟨C + 1, s, n, S.length, atS S, false⟩ w'))) := by
  have hfit : fitsN D.V.length n = true := Decidable.byContradiction fun hc => by
    unfold openE at he; rw [if_neg hc] at he; cases he
  have his : hdIs (readD D 0) = true := Decidable.byContradiction fun hc => by
    unfold openE at he; rw [if_pos hfit, if_neg hc] at he; cases he
  have hCn : hdC (readD D 0) ≠ 4611686018427387904 := fun hc => by
    unfold openE at he; rw [if_pos hfit, if_pos his] at he; rw [if_pos hc] at he; cases he
  have hft := of_decide_eq_true hfit
  have hi2 := his
  rw [hdIs, Bool.and_eq_true, Bool.and_eq_true, Bool.and_eq_true] at hi2
  have hs1 := of_decide_eq_true hi2.1.1.2
  have hsc := of_decide_eq_true hi2.1.2
  have hcm := of_decide_eq_true hi2.2
  have hB := Below.refl w.heap.size w
  have hM := may49 h n ⟨by omega, by omega⟩
  rw [hfit] at hM
  have hpos := (tOk h).2
  have hin : inD D 0 = true := decide_eq_true ⟨by omega, by omega⟩
  have hrd := fun w' (hb : Below w.heap.size w w') => tRead (h.new hb) 0
  rw [hin, if_pos rfl, if_pos rfl] at hrd
  have hsl := readD_len (tOk h).1 hpos
  have hz : (0 : Int).toNat = 0 := rfl
  rw [hz] at hrd
  have hhd := fun w' => headOf51 (readD D 0) w' hsl
  rw [his] at hhd
  have hHG : headG D n = ⟨hdC (readD D 0), hdS (readD D 0), n, 0, 0, false⟩ := by rw [headG, Int.toNat_natCast]
  obtain ⟨C, hC⟩ : ∃ C, hdC (readD D 0) = C := ⟨_, rfl⟩
  obtain ⟨s, hS⟩ : ∃ s, hdS (readD D 0) = s := ⟨_, rfl⟩
  rw [hC, hS] at hHG hhd
  rw [hC] at hCn hsc hcm
  rw [hS] at hsc hs1
  obtain ⟨S, hR⟩ : ∃ S, recsOf D (headG D n) = S := ⟨_, rfl⟩
  have hrec := fun (x : Nat) (w' : World) (h : LgAt g x Y lo L D ⟨C, s, n, 0, 0, false⟩ w') => read52 h ⟨hs1, hsc, hcm, by show 4 ≤ n; omega, by show n ≤ 4000; omega, Nat.zero_le _, Nat.le_refl _, by show 1 + n ≤ _; omega⟩ rfl rfl
  rw [← hHG, hR, hHG] at hrec
  dsimp only at hrec
  obtain ⟨ok, hok⟩ : ∃ ok, saveE D (C + 1) s = ok := ⟨_, rfl⟩
  obtain ⟨D2, hD2⟩ : ∃ D2, saveD D (C + 1) s = D2 := ⟨_, rfl⟩
  have hnx := fun (x : Nat) (p : Option Addr) (w' : World) (h : LgAt g x (AndZ Y (AllZ p S)) lo L D ⟨C, s, n, S.length, atS S, false⟩ w') => next48 h s (by show C + 1 < _; omega) (by omega) hsh
  dsimp only at hnx
  rw [hok, hD2] at hnx
  generalize readD D 0 = sc at *
  have hlo := h.lo
  have hlt := h.lt
  have hLL := LoL.refl lo L w
  have hD := h
  refine Calls.to (R := fun v w' => LoL lo L w w' ∧ ((ok = false ∧ v = noLog 10 ∧ Two (DZ g D2) Y lo L w') ∨ (ok = true ∧ ∃ x p c, v = .tuple #[.pointer (some ⟨x, 0, none⟩), .slice p S.length c, .int .i64 0] ∧ S.length ≤ c ∧
        LgAt g x (AndZ Y (AllZ p S)) lo L D2 ⟨C + 1, s, n, S.length, atS S, false⟩ w'))) ?_ (fun v w' hh => ⟨ok, D2, C, s, S, hok, hD2, hC, hS, hR, hh.1, hh.2⟩)
  clear he
  refine calls_W (fn := Tryz.f44) (rs := [.tmp 4, .tmp 5, .tmp 6]) (n := 64) Tryz.func44 rfl rfl Tryz.ntmps44 (by kernel_rfl) rfl ?_
  refine W_seq ?_
  refine W_region ?_
  refine WR_val rfl (rn_assign) ?_
  refine WR_val rfl (rn_assign) ?_
  refine WR_val rfl (rn_assign) ?_
  refine WR_nil ?_
  refine thenN ?_
  refine W_seq ?_
  refine W_seq ?_
  refine W_region ?_
  refine WR_val rfl (rn_move) ?_
  refine WR_val rfl (rn_move) ?_
  refine WR_ent rfl (rn_call (by kernel_rfl) rfl) (hM) ?_
  rintro _ _ ⟨rfl, rfl⟩
  refine WR_val rfl (rn_assign) ?_
  refine WR_nil ?_
  refine thenN ?_
  refine W_seq ?_
  refine W_region ?_
  refine WR_val rfl (rn_move) ?_
  refine WR_val rfl (rn_neq rfl rfl) ?_
  refine WR_nil ?_
  refine thenN ?_
  refine W_fp rfl ((by simp)) ?_
  refine W_skip ?_
  refine thenN ?_
  refine W_seq ?_
  refine W_region ?_
  refine WR_val rfl (rn_move) ?_
  refine WR_ent rfl (rn_call (by kernel_rfl) rfl) (hrd _ hB) ?_
  rintro _ w22 ⟨rfl, hb22⟩
  replace hLL := hLL.new hb22
  replace hB := hB.acc hb22
  refine WR_val rfl (rn_move) ?_
  refine WR_val rfl (rn_extract rfl rfl) ?_
  refine WR_val rfl (rn_extract rfl rfl) ?_
  refine WR_mk rfl (mk_alloc (List.replicate 128 (Value.int .u8 0)) (by kernel_rfl) (fun g8 w8 hg8 hr8 hb8 => ?_))
  have ge_hB_g8 := Nat.le_trans hB.size hg8
  replace hLL := hLL.new hb8
  replace hB := hB.acc hb8
  refine WR_sk rfl (sk_storeA 128 (bv sc) rfl rfl hr8 (by kernel_rfl) (by first | assumption | (simp; done) | (simp [bv_length, *]; done)) (by first | assumption | (simp; done) | (simp [bv_length, *]; done) | rfl) (by first | exact bv_one _ | assumption | (simp [Value.oneCell']; done)) (fun w901 hr8 ho901 => ?_))
  replace hLL := hLL.only ho901 (by first | omega | (right; exact ⟨by omega, by assumption⟩))
  replace hB := ho901.below hB ge_hB_g8
  refine WR_val rfl (rn_assign) ?_
  refine WR_nil ?_
  refine thenN ?_
  refine W_seq ?_
  refine W_seq ?_
  refine W_region ?_
  refine WR_val rfl (rn_move) ?_
  refine WR_val rfl (rn_neq rfl rfl) ?_
  refine WR_nil ?_
  refine thenN ?_
  refine W_fp rfl ((by simp)) ?_
  refine W_skip ?_
  refine thenN ?_
  refine W_seq ?_
  refine W_region ?_
  refine WR_val rfl (rn_load rfl (Ld.rowA (k := 128) hr8 (by kernel_rfl) (by kernel_rfl) (by rw [bv_length, hsl]))) ?_
  refine WR_ent rfl (rn_call (by kernel_rfl) rfl) (hhd w901) ?_
  rintro _ w30 ⟨rfl, hb30⟩
  replace hLL := hLL.new hb30
  replace hr8 := hr8.new hb30
  replace hB := hB.acc hb30
  refine WR_val rfl (rn_move) ?_
  refine WR_val rfl (rn_extract rfl rfl) ?_
  refine WR_val rfl (rn_extract rfl rfl) ?_
  refine WR_mk rfl (mk_alloc ([Value.int .u64 0, Value.int .u64 0]) (by kernel_rfl) (fun g10 w10 hg10 hr10 hb10 => ?_))
  have ge_hB_g10 := Nat.le_trans hB.size hg10
  have lt_g8_g10 : g8 < g10 := Nat.lt_of_lt_of_le hr8.lt hg10
  replace hLL := hLL.new hb10
  replace hr8 := hr8.new hb10
  replace hB := hB.acc hb10
  refine WR_sk rfl (sk_storeA 2 ([.int .u64 (C : Int), .int .u64 (s : Int)]) rfl rfl hr10 (by kernel_rfl) (by first | assumption | (simp; done) | (simp [bv_length, *]; done)) (by first | assumption | (simp; done) | (simp [bv_length, *]; done) | rfl) (by first | exact bv_one _ | assumption | (simp [Value.oneCell']; done)) (fun w902 hr10 ho902 => ?_))
  replace hLL := hLL.only ho902 (by first | omega | (right; exact ⟨by omega, by assumption⟩))
  replace hr8 := hr8.only ho902 (Nat.ne_of_lt lt_g8_g10)
  replace hB := ho902.below hB ge_hB_g10
  refine WR_val rfl (rn_assign) ?_
  refine WR_nil ?_
  refine thenN ?_
  refine W_seq ?_
  refine W_block ?_
  refine W_seq ?_
  refine W_region ?_
  refine WR_val rfl (rn_move) ?_
  refine WR_val rfl (rn_not rfl) ?_
  refine WR_val rfl (rn_assign) ?_
  refine WR_nil ?_
  refine thenN ?_
  refine W_fnb rfl (rfl) ?_
  refine W_seq ?_
  refine W_region ?_
  refine WR_val rfl (rn_fieldAddr (off := 0) (by kernel_rfl) rfl) ?_
  refine WR_val rfl (rn_load rfl (Ld.row1 hr10 (by kernel_rfl) rfl)) ?_
  refine WR_val rfl (rn_eql rfl rfl) ?_
  refine WR_val rfl (rn_assign) ?_
  refine WR_nil ?_
  refine thenN ?_
  refine W_fp rfl ((by omega)) ?_
  refine W_skip ?_
  refine blockN ?_
  refine thenN ?_
  refine W_seq ?_
  refine W_region ?_
  refine WR_val rfl (rn_load rfl (Ld.rowA (k := 2) hr10 (by kernel_rfl) (by kernel_rfl) (by first | (simp; done) | (simp [bv_length, *]; done) | assumption))) ?_
  refine WR_val rfl (rn_move) ?_
  refine WR_val rfl (rn_move) ?_
  refine WR_val rfl (rn_built3 (.agg #[.int .u64 (C : Int), .int .u64 (s : Int)]) (.pointer (some ⟨g, 0, none⟩)) (.int .i64 (n : Int)) [.int .u64 (C : Int), .int .u64 (s : Int), .pointer (some ⟨g, 0, none⟩), .int .i64 (n : Int), .int .i64 0, .int .i64 0, .bool false] rfl rfl rfl (by kernel_rfl)) ?_
  have hDw := h.new hB
  refine WR_mk rfl (mk_box ([.int .u64 (C : Int), .int .u64 (s : Int), .pointer (some ⟨g, 0, none⟩), .int .i64 (n : Int), .int .i64 0, .int .i64 0, .bool false]) rfl (fun g44 w44 hg44 hr44 hb44 => ?_))
  have ge_hB_g44 := Nat.le_trans hB.size hg44
  have lt_g8_g44 : g8 < g44 := Nat.lt_of_lt_of_le hr8.lt hg44
  have lt_g10_g44 : g10 < g44 := Nat.lt_of_lt_of_le hr10.lt hg44
  replace hLL := hLL.new hb44
  replace hr8 := hr8.new hb44
  replace hr10 := hr10.new hb44
  replace hB := hB.acc hb44
  have hbz := hB.size
  have hG : LgAt g g44 Y lo L D ⟨C, s, n, 0, 0, false⟩ w44 := ⟨hDw.newc hb44 hg44 hr44.lt, hr44, by omega, fun hm => by have := hDw.lt _ hm; omega⟩
  refine WR_val rfl (rn_assign) ?_
  refine WR_nil ?_
  refine thenN ?_
  refine W_seq ?_
  refine W_region ?_
  refine WR_val rfl (rn_move) ?_
  refine WR_ent rfl (rn_call (by kernel_rfl) rfl) (hrec _ w44 hG) ?_
  rintro _ w47 ⟨p, cp, rfl, hcp, hG, hb47⟩
  replace hLL := hLL.ll hb47 (by first | (intro b hb; exact hb) | (intro b hb; simp [hb]; done) | simp)
  refine WR_val rfl (rn_move) ?_
  refine WR_val rfl (rn_extract rfl rfl) ?_
  refine WR_val rfl (rn_extract rfl rfl) ?_
  refine WR_val rfl (rn_assign) ?_
  refine WR_val rfl (rn_assign) ?_
  refine WR_nil ?_
  refine thenN ?_
  refine W_seq ?_
  refine W_seq ?_
  refine W_region ?_
  refine WR_val rfl (rn_move) ?_
  refine WR_val rfl (rn_eql rfl rfl) ?_
  refine WR_nil ?_
  refine thenN ?_
  refine W_tp rfl (rfl) ?_
  refine W_region ?_
  refine WR_val rfl (rn_move) ?_
  refine WR_val rfl (rn_move) ?_
  refine WR_val rfl (rn_nilCheckP rfl) ?_
  refine WR_val rfl (rn_fieldAddr (off := 0) (by kernel_rfl) rfl) ?_
  refine WR_val rfl (rn_fieldAddr (off := 1) (by kernel_rfl) rfl) ?_
  refine WR_val rfl (rn_load rfl (Ld.row1 hG.rowx (by kernel_rfl) rfl)) ?_
  refine WR_ent rfl (rn_call (by kernel_rfl) rfl) (hnx _ _ w47 hG) ?_
  rintro _ w58 ⟨rfl, hG, hb58⟩
  replace hLL := hLL.ll hb58 (by first | (intro b hb; exact hb) | (intro b hb; simp [hb]; done) | simp)
  refine WR_val rfl (rn_assign) ?_
  refine WR_nil ?_
  refine thenN ?_
  refine W_seq ?_
  refine W_seq ?_
  refine W_region ?_
  refine WR_val rfl (rn_move) ?_
  refine WR_val rfl (rn_neq rfl rfl) ?_
  refine WR_nil ?_
  refine thenN ?_
  refine W_ifp rfl (fun hne => ?_) (fun hne => ?_)
  ·
    refine W_seq ?_
    refine W_region ?_
    refine WR_val rfl (rn_move) ?_
    refine WR_val rfl (rn_assign) ?_
    refine WR_val rfl (rn_assign) ?_
    refine WR_val rfl (rn_assign) ?_
    refine WR_nil ?_
    refine thenN ?_
    refine W_ret ?_
    refine thenR ?_
    refine ret_ret [_, _, _] ⟨rfl, rfl, rfl, trivial⟩ ?_
    have hf : ok = false := by cases ok with | false => rfl | true => simp at hne
    subst hf
    exact ⟨hLL, .inl ⟨rfl, rfl, two_left hG.fst⟩⟩
  ·
    have hf : ok = true := by cases ok with | true => rfl | false => simp at hne
    subst hf
    refine W_skip ?_
    refine thenN ?_
    refine W_seq ?_
    refine W_region ?_
    refine WR_val rfl (rn_move) ?_
    refine WR_val rfl (rn_move) ?_
    refine WR_val rfl (rn_assign) ?_
    refine WR_val rfl (rn_assign) ?_
    refine WR_val rfl (rn_assign) ?_
    refine WR_nil ?_
    refine thenN ?_
    refine W_ret ?_
    refine ret_ret [_, _, _] ⟨rfl, rfl, rfl, trivial⟩ ?_
    exact ⟨hLL, .inr ⟨rfl, _, p, cp, rfl, hcp, hG⟩⟩
end
end Go.Proofs.YtielfpkjoidomaaGreat
namespace Go.Proofs.YtielfpkjoidomaaGreat
open Go Go.RowKit Coup
def cntP (n : Nat) (s : Int) : Nat := if s < 4 ∨ 4000 < s then 0 else (n - 1 - s.toNat) / 4
section
variable {Y : World → List Nat → Prop} {g lo : Nat} {L : List Nat} {D : Dk} {w : World}
set_option maxRecDepth 20000 in
theorem countP (h : Two (DZ g D) Y lo L w) (s : Int) (hs : wf64 s) : Calls Tryz.prog 28 [.pointer (some ⟨g, 0, none⟩), .int .i64 s].toArray w (Ret fun v w' => v = .int .i64 ((cntP D.V.length s : Nat) : Int) ∧ w = w') := by
  have hS := tSectors h
  have hn8 := (tOk h).1.n
  have h1 := hs.1
  have h2 := hs.2
  refine calls_W (fn := Tryz.f28) (rs := [.tmp 4]) (n := 18) Tryz.func28 rfl rfl Tryz.ntmps28 (by kernel_rfl) rfl ?_
  refine W_seq ?_
  refine W_region ?_
  refine WR_val rfl (rn_assign) ?_
  refine WR_nil ?_
  refine thenN ?_
  refine W_seq ?_
  refine W_seq ?_
  refine W_region ?_
  refine WR_val rfl (rn_move) ?_
  refine WR_val rfl (rn_lss rfl rfl) ?_
  refine WR_val rfl (rn_move) ?_
  refine WR_part 7 rfl (fun h3 => ?_) (fun h3 => ?_)
  ·
    refine WR_no rfl rfl ?_
    refine WR_no rfl rfl ?_
    refine WR_val rfl (rn_pick_t rfl) ?_
    refine WR_nil ?_
    refine thenN ?_
    refine W_tb rfl (rfl) ?_
    refine W_seq ?_
    refine W_region ?_
    refine WR_val rfl (rn_assign) ?_
    refine WR_nil ?_
    refine thenN ?_
    refine W_ret ?_
    refine thenR ?_
    refine ret_ret [_] ⟨rfl, trivial⟩ ?_
    exact ⟨by rw [cntP, if_pos (.inl h3)]; rfl, rfl⟩
  ·
    refine WR_yes rfl ?_
    refine WR_val rfl (rn_move) ?_
    refine WR_yes rfl ?_
    refine WR_val rfl (rn_gtr rfl rfl) ?_
    refine WR_val rfl (rn_pick_f rfl) ?_
    refine WR_nil ?_
    refine thenN ?_
    refine W_ifp rfl (fun h4 => ?_) (fun h4 => ?_)
    ·
      refine W_seq ?_
      refine W_region ?_
      refine WR_val rfl (rn_assign) ?_
      refine WR_nil ?_
      refine thenN ?_
      refine W_ret ?_
      refine thenR ?_
      refine ret_ret [_] ⟨rfl, trivial⟩ ?_
      exact ⟨by rw [cntP, if_pos (.inr h4)]; rfl, rfl⟩
    ·
      have hobt : ∃ m : Nat, s = m := ⟨s.toNat, by omega⟩
      obtain ⟨m, rfl⟩ := hobt
      refine W_skip ?_
      refine thenN ?_
      refine W_seq ?_
      refine W_region ?_
      refine WR_val rfl (rn_move) ?_
      refine WR_ent rfl (rn_call (by kernel_rfl) rfl) (hS) ?_
      rintro _ _ ⟨rfl, rfl⟩
      refine WR_val rfl (rn_sub rfl rfl (Coup.w64 (by omega))) ?_
      refine WR_val rfl (rn_move) ?_
      refine WR_val rfl (rn_sub rfl rfl (Coup.w64 (by omega))) ?_
      refine WR_val rfl (rn_max2 rfl rfl) ?_
      refine WR_val rfl (rn_quo0 rfl rfl (by omega) (by omega)) ?_
      refine WR_val rfl (rn_assign) ?_
      refine WR_nil ?_
      refine thenN ?_
      refine W_ret ?_
      refine ret_ret [_] ⟨rfl, trivial⟩ ?_
      refine ⟨?_, rfl⟩
      show Value.int .i64 (max ((D.V.length : Int) - 1 - m) 0 / 4) = _
      rw [cntP, if_neg (by omega), Int.toNat_natCast]
      congr 1
      omega
set_option maxRecDepth 20000 in
theorem mayP (h : Two (DZ g D) Y lo L w) (s : Int) (hs : wf64 s) : Calls Tryz.prog 43 [.pointer (some ⟨g, 0, none⟩), .int .i64 s].toArray w (Ret fun v w' => v = .int .i64 (if cntP D.V.length s < 4 then 2 else 0) ∧ w = w') := by
  have hS := tSectors h
  have hp := (tOk h).2
  have hC := countP h s hs
  refine calls_W (fn := Tryz.f43) (rs := [.tmp 4]) (n := 14) Tryz.func43 rfl rfl Tryz.ntmps43 (by kernel_rfl) rfl ?_
  refine W_seq ?_
  refine W_region ?_
  refine WR_val rfl (rn_assign) ?_
  refine WR_nil ?_
  refine thenN ?_
  refine W_seq ?_
  refine W_block ?_
  refine W_seq ?_
  refine W_region ?_
  refine WR_val rfl (rn_move) ?_
  refine WR_ent rfl (rn_call (by kernel_rfl) rfl) (hS) ?_
  rintro _ _ ⟨rfl, rfl⟩
  refine WR_val rfl (rn_eql rfl rfl) ?_
  refine WR_val rfl (rn_assign) ?_
  refine WR_nil ?_
  refine thenN ?_
  refine W_fp rfl ((by omega)) ?_
  refine W_seq ?_
  refine W_region ?_
  refine WR_val rfl (rn_move) ?_
  refine WR_val rfl (rn_move) ?_
  refine WR_ent rfl (rn_call (by kernel_rfl) rfl) (hC) ?_
  rintro _ _ ⟨rfl, rfl⟩
  refine WR_val rfl (rn_lss rfl rfl) ?_
  refine WR_val rfl (rn_assign) ?_
  refine WR_nil ?_
  refine thenN ?_
  refine W_ifp rfl (fun h3 => ?_) (fun h3 => ?_)
  ·
    refine W_seq ?_
    refine W_region ?_
    refine WR_val rfl (rn_assign) ?_
    refine WR_nil ?_
    refine thenN ?_
    refine W_ret ?_
    refine blockR ?_
    refine thenR ?_
    refine ret_ret [_] ⟨rfl, trivial⟩ ?_
    exact ⟨by rw [if_pos (by omega)]; rfl, rfl⟩
  ·
    refine W_skip ?_
    refine blockN ?_
    refine thenN ?_
    refine W_seq ?_
    refine W_region ?_
    refine WR_val rfl (rn_assign) ?_
    refine WR_nil ?_
    refine thenN ?_
    refine W_ret ?_
    refine ret_ret [_] ⟨rfl, trivial⟩ ?_
    exact ⟨by rw [if_neg (by omega)]; rfl, rfl⟩
end
set_option maxRecDepth 20000 in
theorem placeP (s n : Nat) (w : World) (hs : s ≤ 4000) (hn : n ≤ 8192) : Calls Tryz.prog 62 [.int .i64 (s : Int), .int .i64 (n : Int)].toArray w (Ret fun v w' => v = .int .i64 ((1 + s + n * 4 : Nat) : Int) ∧ w = w') := by
  refine calls_W (fn := Tryz.f62) (rs := [.tmp 4]) (n := 10) Tryz.func62 rfl rfl Tryz.ntmps62 (by kernel_rfl) rfl ?_
  refine W_seq ?_
  refine W_region ?_
  refine WR_val rfl (rn_assign) ?_
  refine WR_nil ?_
  refine thenN ?_
  refine W_seq ?_
  refine W_region ?_
  refine WR_val rfl (rn_move) ?_
  refine WR_val rfl (rn_add rfl rfl (Coup.w64 (by omega))) ?_
  refine WR_val rfl (rn_move) ?_
  refine WR_val rfl (rn_mul rfl rfl (Coup.w64 (by omega))) ?_
  refine WR_val rfl (rn_add rfl rfl (Coup.w64 (by omega))) ?_
  refine WR_val rfl (rn_assign) ?_
  refine WR_nil ?_
  refine thenN ?_
  refine W_ret ?_
  refine ret_ret [_] ⟨rfl, trivial⟩ ?_
  exact ⟨by show Value.int .i64 (1 + (s : Int) + n * 4) = _; congr 1, rfl⟩
theorem secsOf_take (b : List UInt8) {m n : Nat} (h : m ≤ n) : (secsOf b n).take m = secsOf b m := by
  rw [secsOf, secsOf, ← List.map_take, List.take_range, Nat.min_eq_left h]
section
variable {Y : World → List Nat → Prop} [Thing Y] {g lo : Nat} {L : List Nat} {D : Dk} {w : World}
set_option maxRecDepth 20000 in
set_option maxHeartbeats 1000000 in
theorem writeP (h : Two (DZ g D) Y lo L w) (s n : Nat) (X : List UInt8) (hX : X.length = 512) (hs : s ≤ 4000) (hn : 1 + s + n * 4 + 4 ≤ D.V.length) (hsh : shortD D 80000) :
    Calls Tryz.prog 45 [.pointer (some ⟨g, 0, none⟩), .int .i64 (s : Int), .int .i64 (n : Int), .agg (bv X).toArray].toArray w (Ret fun v w' => v = .int .i64 (if (writesW D (1 + s + n * 4) (secsOf X 4)).2 then 0 else 10) ∧ Two (DZ g (writesW D (1 + s + n * 4) (secsOf X 4)).1) Y lo L w' ∧ LoL lo L w w') := by
  have hD := h
  have hLL := LoL.refl lo L w
  have hn8 := (tOk hD).1.n
  have hpl := fun w' => placeP s n w' hs (by omega)
  obtain ⟨a, ha⟩ : ∃ a, 1 + s + n * 4 = a := ⟨_, rfl⟩
  rw [ha] at hpl hn ⊢
  have hXb : (bv X).length = 512 := by rw [bv_length]; exact hX
  refine calls_W (fn := Tryz.f45) (rs := [.tmp 8]) (n := 33) Tryz.func45 rfl rfl Tryz.ntmps45 (by kernel_rfl) rfl ?_
  refine W_seq ?_
  refine W_region ?_
  refine WR_mk rfl (mk_box (bv X) rfl (fun g7 w7 hg7 hr7 hb7 => ?_))
  replace hD := hD.newc hb7 hg7 hr7.lt
  replace hLL := hLL.new hb7
  refine WR_val rfl (rn_assign) ?_
  refine WR_nil ?_
  refine thenN ?_
  refine W_seq ?_
  refine W_seq ?_
  refine W_region ?_
  refine WR_val rfl (rn_move) ?_
  refine WR_nil ?_
  refine thenN ?_
  refine W_block ?_
  refine W_loop (α := Nat) 0 (fun i => [(11, .int .i64 (i : Nat)), (7, .pointer (some ⟨g7, 0, none⟩)), (0, .pointer (some ⟨g, 0, none⟩)), (1, .int .i64 (s : Int)), (2, .int .i64 (n : Int))])
    (fun i w' => i ≤ 4 ∧ (writesW D a (secsOf X i)).2 = true ∧ row w' g7 (bv X) 37 ∧ Two (DZ g (writesW D a (secsOf X i)).1) Y lo (g7 :: L) w' ∧ LoL lo L w w') (fun i => 4 - i)
    ⟨rfl, rfl, rfl, rfl, rfl, rfl⟩ ⟨Nat.zero_le _, rfl, hr7, hD, hLL⟩ ?_
  clear hD hLL hr7
  rintro i f wr ⟨hi, hok, hr7, hD, hLL⟩
  have hshi := writesW_short (secsOf X i) D a 80000 hsh
  have hlni := writesW_len (secsOf X i) D a
  rw [secsOf_len] at hshi
  refine W_seq ?_
  refine W_region ?_
  refine WR_val rfl (rn_lss rfl rfl) ?_
  refine WR_nil ?_
  refine thenN ?_
  refine W_seq ?_
  refine W_ifp rfl (fun hlt => ?_) (fun hlt => ?_)
  ·
    refine W_skip ?_
    refine thenN ?_
    refine W_seq ?_
    refine W_block ?_
    refine W_seq ?_
    refine W_region ?_
    refine WR_val rfl (rn_move) ?_
    refine WR_val rfl (rn_assign) ?_
    refine WR_nil ?_
    refine thenN ?_
    refine W_seq ?_
    have hobS : ∃ S, (X.drop (128 * i)).take 128 = S := ⟨_, rfl⟩
    obtain ⟨S, hS⟩ := hobS
    have hSb : bv S = ((bv X).drop (0 + 128 * i)).take 128 := by rw [← hS, bv_take, bv_drop, Nat.zero_add]
    have hSl : S.length = 128 := by rw [← hS, List.length_take, List.length_drop]; omega
    have hsx := secsOf_snoc X i
    rw [hS] at hsx
    have hsn := writesW_snoc (secsOf X i) D a S hok
    rw [← hsx, secsOf_len] at hsn
    refine W_drawL (lo) ((g7 :: L)) (by kernel_rfl) ?_
    intro w901 hb901 hn901 hS901
    replace hD := hD.new hb901
    replace hLL := hLL.new hb901
    replace hr7 := hr7.new hb901
    have hD_d901 := hD
    have hLL_d901 := hLL
    have hr7_d901 := hr7
    refine WA_take 0 (by kernel_rfl) rfl (fun _ _ => rn_move) ?_
    refine WA_take 1 (by kernel_rfl) rfl (fun _ _ => rn_move) ?_
    refine WA_take 2 (by kernel_rfl) rfl (fun _ _ => rn_move) ?_
    refine WA_call 3 (by kernel_rfl) rfl (fun _ => rn_call (by kernel_rfl) rfl) (fun w' hS' => hpl w') ?_
    refine WA_take 4 (by kernel_rfl) rfl (fun _ _ => rn_move) ?_
    refine WA_take 5 (by kernel_rfl) rfl (fun _ _ => rn_add rfl rfl (Coup.w64 (by omega))) ?_
    refine WA_take 6 (by kernel_rfl) rfl (fun _ _ => rn_move) ?_
    refine WA_take 7 (by kernel_rfl) rfl (fun _ _ => rn_mul rfl rfl (Coup.w64 (by omega))) ?_
    refine WA_take 8 (by kernel_rfl) rfl (fun _ _ => rn_move) ?_
    refine WA_take 9 (by kernel_rfl) rfl (fun _ _ => rn_add rfl rfl (Coup.w64 (by omega))) ?_
    refine WA_take 10 (by kernel_rfl) rfl (fun _ _ => rn_mul rfl rfl (Coup.w64 (by omega))) ?_
    refine WA_take 11 (by kernel_rfl) rfl (fun _ _ => rn_sliceAr1' (e := 5) (n := 512) (128 * i) (128 * i + 128) (512) (128) (by kernel_rfl) rfl ⟨_, _, rfl, by omega⟩ ⟨_, _, rfl, by omega⟩ rfl (by simp) (by omega) (by omega) (by omega) (by omega) (by omega)) ?_
    refine WA_take 12 (by kernel_rfl) rfl (fun _ _ => rn_arrayAt (n := 128) (e := 5) (sz := 1) (by kernel_rfl) rfl (by omega)) ?_
    refine WA_take 13 (by kernel_rfl) rfl (fun w' hS' => rn_load rfl (Ld.rowN (k := 128) (off := 0 + 128 * i) (hr7_d901.kpd hS' (by first | (simp; done) | (simp; omega) | (simp [*]; done) | exact notLL (Or.inl (by omega)) | exact notLL (Or.inr (by simp)) | exact fun g hm => Nat.le_trans (by omega) (inLL hm).1 | (intro b o e; cases e; exact notLL (Or.inl (by omega))) | (intro b hm; have := (hu.lt b (Option.mem_toList.1 hm)).1; omega) | (intro b o e; cases e; intro hm; have := (hu.lt _ (Option.mem_toList.1 hm)).1; omega))) (by kernel_rfl) (by kernel_rfl) (by omega))) ?_
    refine WA_one 14 (by kernel_rfl) ?_
    have hw := tWrite hD ((a : Int) + (i : Int)) S hSl (short_of hshi (by omega))
    rw [hSb] at hw
    refine WO_ent rfl rfl (rn_call (by kernel_rfl) rfl) (hw) ?_
    rintro _ w28 ⟨rfl, hD, hb28⟩
    have hS902 := hS901.addLL hn901 hb28
    refine ⟨hS902, ?_⟩
    replace hLL := hLL.ll hb28 (by first | (intro b hb; exact hb) | (intro b hb; simp [hb]; done) | simp)
    replace hr7 := hr7.kpd hb28.kp (by first | (refine notLL ?_; left; omega) | (refine notLL ?_; right; simp; done) | (intro b o e; cases e; first | (refine notLL ?_; left; omega) | (refine notLL ?_; right; simp; done) | (refine notLL ?_; right; simp [*]; done)) | (intro b hb; refine notLL ?_; left; omega) | (intro b hb e; cases e; exact notLL (by right; simp [*]) hb))
    refine WA_take 15 (by kernel_rfl) rfl (fun _ _ => rn_assign) ?_
    refine WA_done (by kernel_rfl) ?_
    refine thenN ?_
    refine W_seq ?_
    refine W_region ?_
    have hin : inD (writesW D a (secsOf X i)).1 ((a : Int) + (i : Int)) = true := decide_eq_true (by omega)
    rw [writeE, hin, if_pos rfl]
    rw [show (a : Int) + (i : Int) = ((a + i : Nat) : Int) by omega] at hD
    refine WR_val rfl (rn_move) ?_
    refine WR_val rfl (rn_neq rfl rfl) ?_
    refine WR_nil ?_
    refine thenN ?_
    refine W_ifp rfl (fun hne => ?_) (fun hne => ?_)
    ·
      refine W_seq ?_
      refine W_region ?_
      refine WR_val rfl (rn_move) ?_
      refine WR_val rfl (rn_assign) ?_
      refine WR_nil ?_
      refine thenN ?_
      refine W_ret ?_
      refine blockR ?_
      refine thenR ?_
      refine loopR ?_
      refine blockR ?_
      refine thenR ?_
      refine ret_ret [_] ⟨rfl, trivial⟩ ?_
      have hf : stepOk (writesW D a (secsOf X i)).1 = false := by cases hq : stepOk (writesW D a (secsOf X i)).1 with | false => rfl | true => simp [hq] at hne
      rw [hf] at hsn
      have hbd := writesW_bad (secsOf X (i + 1)) ((secsOf X 4).drop (i + 1)) D a (by rw [hsn])
      rw [show secsOf X (i + 1) ++ (secsOf X 4).drop (i + 1) = secsOf X 4 by rw [← secsOf_take X (show i + 1 ≤ 4 by omega), List.take_append_drop], hsn] at hbd
      rw [hbd]
      exact ⟨by rw [hf]; rfl, hD.weak (fun b hb => List.mem_cons_of_mem _ hb), hLL⟩
    ·
      have hf : stepOk (writesW D a (secsOf X i)).1 = true := by cases hq : stepOk (writesW D a (secsOf X i)).1 with | true => rfl | false => simp [hq] at hne
      refine W_skip ?_
      refine blockN ?_
      refine thenN ?_
      refine W_region ?_
      refine WR_val rfl (rn_add rfl rfl (Coup.w64 (by omega))) ?_
      refine WR_val rfl (rn_move) ?_
      refine WR_nil ?_
      refine loopN ⟨i + 1, by omega, ⟨by go_num, rfl, rfl, rfl, rfl, rfl⟩, by omega, by rw [hsn]; exact hf, hr7, by rw [hsn]; exact hD, hLL⟩
  ·
    have hi4 : i = 4 := by omega
    subst hi4
    refine W_exit ?_
    refine thenX ?_
    refine loopX ?_
    refine blockX ?_
    refine thenN ?_
    refine W_seq ?_
    refine W_region ?_
    refine WR_val rfl (rn_assign) ?_
    refine WR_nil ?_
    refine thenN ?_
    refine W_ret ?_
    refine ret_ret [_] ⟨rfl, trivial⟩ ?_
    exact ⟨by rw [hok]; rfl, hD.weak (fun b hb => List.mem_cons_of_mem _ hb), hLL⟩
theorem writesW_aliveP : ∀ (l : List Sec) {D : Dk} {k : Nat} (a : Nat), Alive D k → (writesW D a l).2 = true ∧ Alive (writesW D a l).1 (k + l.length)
  | [], D, k, a, h => ⟨rfl, h⟩
  | t :: l, D, k, a, h => by
    rw [writesW, (step_alive h.left h.dead).1, if_pos rfl]
    obtain ⟨h1, h2⟩ := writesW_aliveP l (a + 1) (h.writeA (a : Int) t).1
    exact ⟨h1, h2.weak (by rw [List.length_cons]; omega)⟩
def zeroP : List UInt8 := List.replicate 512 0
def zpD (D : Dk) (s : Nat) : Nat → Dk
  | 0 => D
  | m + 1 => (writesW (zpD D s m) (1 + s + m * 4) (secsOf zeroP 4)).1
theorem zp_alive {D : Dk} {k s : Nat} (h : Alive D k) : ∀ m, Alive (zpD D s m) (k + m * 4) ∧ (zpD D s m).V.length = D.V.length
  | 0 => ⟨by rw [Nat.zero_mul, Nat.add_zero]; exact h, rfl⟩
  | m + 1 => by
    obtain ⟨h1, h2⟩ := zp_alive (s := s) h m
    refine ⟨?_, (writesW_len _ _ _).trans h2⟩
    exact (writesW_aliveP (secsOf zeroP 4) (1 + s + m * 4) h1).2.weak (by rw [secsOf_len]; omega)
set_option maxRecDepth 20000 in
set_option maxHeartbeats 1000000 in
theorem formatP (h : Two (DZ g D) Y lo L w) (s : Int) (hs : wf64 s) (ha : Alive D 60000) :
    Calls Tryz.prog 27 [.pointer (some ⟨g, 0, none⟩), .int .i64 s].toArray w (Ret fun v w' => v = .int .i64 (if cntP D.V.length s < 4 then 2 else 0) ∧ Two (DZ g (if cntP D.V.length s < 4 then D else fmtD (zpD D s.toNat (cntP D.V.length s)) s.toNat)) Y lo L w' ∧ LoL lo L w w') := by
  have hD := h
  have hLL := LoL.refl lo L w
  have hM := mayP h s hs
  have hC := countP h s hs
  have hn8 := (tOk hD).1.n
  obtain ⟨c, hc⟩ : ∃ c, cntP D.V.length s = c := ⟨_, rfl⟩
  rw [hc] at hM hC ⊢
  refine calls_W (fn := Tryz.f27) (rs := [.tmp 4]) (n := 32) Tryz.func27 rfl rfl Tryz.ntmps27 (by kernel_rfl) rfl ?_
  refine W_seq ?_
  refine W_region ?_
  refine WR_val rfl (rn_assign) ?_
  refine WR_nil ?_
  refine thenN ?_
  refine W_seq ?_
  refine W_seq ?_
  refine W_region ?_
  refine WR_val rfl (rn_move) ?_
  refine WR_val rfl (rn_move) ?_
  refine WR_ent rfl (rn_call (by kernel_rfl) rfl) (hM) ?_
  rintro _ _ ⟨rfl, rfl⟩
  refine WR_val rfl (rn_assign) ?_
  refine WR_nil ?_
  refine thenN ?_
  refine W_seq ?_
  refine W_region ?_
  refine WR_val rfl (rn_move) ?_
  refine WR_val rfl (rn_neq rfl rfl) ?_
  refine WR_nil ?_
  refine thenN ?_
  refine W_ifp rfl (fun hne => ?_) (fun hne => ?_)
  ·
    refine W_seq ?_
    refine W_region ?_
    refine WR_val rfl (rn_move) ?_
    refine WR_val rfl (rn_assign) ?_
    refine WR_nil ?_
    refine thenN ?_
    refine W_ret ?_
    refine thenR ?_
    refine ret_ret [_] ⟨rfl, trivial⟩ ?_
    have hf : c < 4 := by
      by_cases h : c < 4
      · exact h
      · rw [if_neg h] at hne; simp at hne
    rw [if_pos hf, if_pos hf]
    exact ⟨rfl, hD, hLL⟩
  ·
    have hf : ¬ c < 4 := fun h => by rw [if_pos h] at hne; simp at hne
    rw [if_neg hf, if_neg hf]
    have hcn : ¬ (s < 4 ∨ 4000 < s) ∧ (D.V.length - 1 - s.toNat) / 4 = c := by
      rw [cntP] at hc
      by_cases h : s < 4 ∨ 4000 < s
      · rw [if_pos h] at hc; omega
      · rw [if_neg h] at hc; exact ⟨h, hc⟩
    have hobt : ∃ m : Nat, s = m := ⟨s.toNat, by omega⟩
    obtain ⟨m, rfl⟩ := hobt
    rw [Int.toNat_natCast] at hcn ⊢
    have hZl : zeroP.length = 512 := List.length_replicate ..
    have hobt : ∃ Z, zeroP = Z := ⟨_, rfl⟩
    obtain ⟨Z, hZ⟩ := hobt
    have hzs := fun i => show zpD D m (i + 1) = (writesW (zpD D m i) (1 + m + i * 4) (secsOf zeroP 4)).1 from rfl
    have hzb : bv Z = List.replicate 512 (.int .u8 0) := by rw [← hZ]; kernel_rfl
    have hwa := fun i => (writesW_aliveP (secsOf zeroP 4) (1 + m + i * 4) (zp_alive (s := m) ha i).1).1
    rw [hZ] at hzs hZl hwa
    refine W_skip ?_
    refine thenN ?_
    refine W_seq ?_
    refine W_seq ?_
    refine W_region ?_
    refine WR_val rfl (rn_move) ?_
    refine WR_val rfl (rn_move) ?_
    refine WR_ent rfl (rn_call (by kernel_rfl) rfl) (hC) ?_
    rintro _ _ ⟨rfl, rfl⟩
    refine WR_val rfl (rn_move) ?_
    refine WR_nil ?_
    refine thenN ?_
    refine W_block ?_
    refine W_loop (α := Nat) 0 (fun i => [(17, .int .i64 (i : Nat)), (16, .int .i64 (c : Int)), (0, .pointer (some ⟨g, 0, none⟩)), (1, .int .i64 (m : Int))])
      (fun i w' => i ≤ c ∧ Two (DZ g (zpD D m i)) Y lo L w' ∧ LoL lo L w w') (fun i => c - i)
      ⟨rfl, rfl, rfl, rfl, rfl⟩ ⟨Nat.zero_le _, hD, hLL⟩ ?_
    clear hD hLL
    rintro i f wr ⟨hi, hD, hLL⟩
    have hal := zp_alive (s := m) ha i
    refine W_seq ?_
    refine W_region ?_
    refine WR_val rfl (rn_lss rfl rfl) ?_
    refine WR_nil ?_
    refine thenN ?_
    refine W_seq ?_
    refine W_ifp rfl (fun hlt => ?_) (fun hlt => ?_)
    ·
      refine W_skip ?_
      refine thenN ?_
      refine W_seq ?_
      refine W_block ?_
      refine W_seq ?_
      refine W_region ?_
      refine WR_val rfl (rn_move) ?_
      refine WR_val rfl (rn_assign) ?_
      refine WR_nil ?_
      refine thenN ?_
      refine W_seq ?_
      refine W_region ?_
      refine WR_val rfl (rn_move) ?_
      refine WR_val rfl (rn_move) ?_
      refine WR_val rfl (rn_move) ?_
      refine WR_val rfl (rn_zeroed (bv Z) (by rw [hzb]; kernel_rfl)) ?_
      have hw := writeP hD m i Z hZl (by omega) (by omega) (short_of hal.1.short (by omega))
      rw [hwa i, if_pos rfl, ← hzs] at hw
      refine WR_ent rfl (rn_call (by kernel_rfl) rfl) (hw) ?_
      rintro _ w24 ⟨rfl, hD, hb24⟩
      replace hLL := hLL.ll hb24 (by first | (intro b hb; exact hb) | (intro b hb; simp [hb]; done) | simp)
      refine WR_val rfl (rn_assign) ?_
      refine WR_nil ?_
      refine thenN ?_
      refine W_seq ?_
      refine W_region ?_
      refine WR_val rfl (rn_move) ?_
      refine WR_val rfl (rn_neq rfl rfl) ?_
      refine WR_nil ?_
      refine thenN ?_
      refine W_fp rfl ((by omega)) ?_
      refine W_skip ?_
      refine blockN ?_
      refine thenN ?_
      refine W_region ?_
      refine WR_val rfl (rn_add rfl rfl (Coup.w64 (by omega))) ?_
      refine WR_val rfl (rn_move) ?_
      refine WR_nil ?_
      refine loopN ⟨i + 1, by omega, ⟨by go_num, rfl, rfl, rfl, rfl⟩, by omega, hD, hLL⟩
    ·
      have him : i = c := by omega
      subst him
      refine W_exit ?_
      refine thenX ?_
      refine loopX ?_
      refine blockX ?_
      refine thenN ?_
      refine W_seq ?_
      refine W_region ?_
      refine WR_val rfl (rn_move) ?_
      refine WR_val rfl (rn_move) ?_
      have hfm := format26 hD (m : Int) ⟨by omega, by omega⟩ (hal.1.weak (by omega))
      rw [hal.2, show fitsN D.V.length (m : Int) = true from decide_eq_true (by omega), if_pos rfl, if_pos rfl, Int.toNat_natCast] at hfm
      refine WR_ent rfl (rn_call (by kernel_rfl) rfl) (hfm) ?_
      rintro _ w31 ⟨rfl, hD, hb31⟩
      replace hLL := hLL.ll hb31 (by first | (intro b hb; exact hb) | (intro b hb; simp [hb]; done) | simp)
      refine WR_val rfl (rn_assign) ?_
      refine WR_nil ?_
      refine thenN ?_
      refine W_ret ?_
      refine ret_ret [_] ⟨rfl, trivial⟩ ?_
      exact ⟨rfl, hD, hLL⟩
end
end Go.Proofs.YtielfpkjoidomaaGreat
namespace Go.Proofs.YtielfpkjoidomaaGreat
open Go Go.RowKit Coup
set_option maxRecDepth 20000 in
theorem isA (c : Ch) (b : Nat) (n : Int) (w : World) (hb : row w b [.int .i64 n] 3) : Calls Tryz.prog 59 [.agg (chV c).toArray, .pointer (some ⟨b, 0, none⟩)].toArray w (Ret fun v w' => v = .bool (decide (c.num = n)) ∧ Below w.heap.size w w') := by
  have hB := Below.refl w.heap.size w
  refine calls_W (fn := Tryz.f59) (rs := [.tmp 3]) (n := 8) Tryz.func59 rfl rfl Tryz.ntmps59 (by kernel_rfl) rfl ?_
  refine W_seq ?_
  refine W_region ?_
  refine WR_mk rfl (mk_box (chV c) rfl (fun g2 w2 hg2 hr2 hb2 => ?_))
  have ge_hB_g2 := Nat.le_trans hB.size hg2
  have lt_b_g2 : b < g2 := Nat.lt_of_lt_of_le hb.lt hg2
  replace hb := hb.new hb2
  replace hB := hB.acc hb2
  refine WR_val rfl (rn_assign) ?_
  refine WR_nil ?_
  refine thenN ?_
  refine W_seq ?_
  refine W_region ?_
  refine WR_val rfl (rn_fieldAddr (off := 0) (by kernel_rfl) rfl) ?_
  refine WR_val rfl (rn_load rfl (Ld.row1 hr2 (by kernel_rfl) rfl)) ?_
  refine WR_val rfl (rn_load rfl (Ld.row1 hb (by kernel_rfl) rfl)) ?_
  refine WR_val rfl (rn_eql rfl rfl) ?_
  refine WR_val rfl (rn_assign) ?_
  refine WR_nil ?_
  refine thenN ?_
  refine W_ret ?_
  refine ret_ret [_] ⟨rfl, trivial⟩ ?_
  exact ⟨rfl, hB⟩
set_option maxRecDepth 20000 in
theorem isB (c : Ch) (b : Nat) (n : Int) (w : World) (hb : row w b [.int .i64 n] 3) : Calls Tryz.prog 73 [.agg (chV c).toArray, .pointer (some ⟨b, 0, none⟩)].toArray w (Ret fun v w' => v = .bool (decide (c.num = n)) ∧ Below w.heap.size w w') := by
  have hB := Below.refl w.heap.size w
  refine calls_W (fn := Tryz.f73) (rs := [.tmp 3]) (n := 8) Tryz.func73 rfl rfl Tryz.ntmps73 (by kernel_rfl) rfl ?_
  refine W_seq ?_
  refine W_region ?_
  refine WR_mk rfl (mk_box (chV c) rfl (fun g2 w2 hg2 hr2 hb2 => ?_))
  have ge_hB_g2 := Nat.le_trans hB.size hg2
  have lt_b_g2 : b < g2 := Nat.lt_of_lt_of_le hb.lt hg2
  replace hb := hb.new hb2
  replace hB := hB.acc hb2
  refine WR_val rfl (rn_assign) ?_
  refine WR_nil ?_
  refine thenN ?_
  refine W_seq ?_
  refine W_region ?_
  refine WR_val rfl (rn_fieldAddr (off := 0) (by kernel_rfl) rfl) ?_
  refine WR_val rfl (rn_load rfl (Ld.row1 hr2 (by kernel_rfl) rfl)) ?_
  refine WR_val rfl (rn_load rfl (Ld.row1 hb (by kernel_rfl) rfl)) ?_
  refine WR_val rfl (rn_eql rfl rfl) ?_
  refine WR_val rfl (rn_assign) ?_
  refine WR_nil ?_
  refine thenN ?_
  refine W_ret ?_
  refine ret_ret [_] ⟨rfl, trivial⟩ ?_
  exact ⟨rfl, hB⟩
def idxC (R : Rec) (n : Int) : Nat := R.findIdx fun c => decide (c.num = n)
theorem idxC_is {R : Rec} {n : Int} {i : Nat} {c : Ch} (h : R[i]? = some c) (hi : i ≤ idxC R n) (hc : c.num = n) : idxC R n = i := by
  obtain ⟨h1, h2⟩ := List.getElem?_eq_some_iff.1 h
  by_cases he : i = idxC R n
  · exact he.symm
  · have hlt : i < List.findIdx (fun c : Ch => decide (c.num = n)) R := by
      have : i < idxC R n := by omega
      exact this
    have := List.not_of_lt_findIdx hlt
    rw [h2] at this
    simp [hc] at this
theorem idxC_gt {R : Rec} {n : Int} {i : Nat} {c : Ch} (h : R[i]? = some c) (hi : i ≤ idxC R n) (hc : ¬ c.num = n) : i + 1 ≤ idxC R n := by
  obtain ⟨h1, h2⟩ := List.getElem?_eq_some_iff.1 h
  by_cases he : i = idxC R n
  · exfalso
    have := List.findIdx_getElem (p := fun c : Ch => decide (c.num = n)) (xs := R) (w := by rw [← show i = List.findIdx _ R from he]; exact h1)
    have e : R[idxC R n]? = some c := by rw [← he]; exact h
    have e2 := (List.getElem?_eq_some_iff.1 e).2
    unfold idxC at e2
    rw [e2] at this
    simp [hc] at this
  · omega
set_option maxRecDepth 20000 in
set_option maxHeartbeats 1000000 in
theorem indexA (R : Rec) (hR : chsOk R) (p : Option Addr) (c m : Nat) (hm : m = R.length) (b : Nat) (n : Int) (w : World) (h : SlAt w p m 513 (chsV R)) (hb : row w b [.int .i64 n] 3) :
    Calls Tryz.prog 58 [.slice p m c, .func (.func 59) #[] #[.pointer (some ⟨b, 0, none⟩)]].toArray w (Ret fun v w' => v = .int .i64 (if idxC R n < m then (idxC R n : Int) else -1) ∧ Below w.heap.size w w') := by
  have hB := Below.refl w.heap.size w
  have hml : maxLen = 9223372036854775807 := by decide
  have hmax := h.max
  refine calls_W (fn := Tryz.f58) (rs := [.tmp 4]) (n := 19) Tryz.func58 rfl rfl Tryz.ntmps58 (by kernel_rfl) rfl ?_
  refine W_seq ?_
  refine W_region ?_
  refine WR_val rfl (rn_assign) ?_
  refine WR_nil ?_
  refine thenN ?_
  refine W_seq ?_
  refine W_seq ?_
  refine W_region ?_
  refine WR_val rfl (rn_move) ?_
  refine WR_val rfl (rn_lenSl (e := 73) (sz := 513) (by kernel_rfl) rfl rfl) ?_
  refine WR_val rfl (rn_move) ?_
  refine WR_nil ?_
  refine thenN ?_
  refine W_block ?_
  refine W_loop (α := Nat) 0 (fun k => [(8, .int .i64 (k : Nat)), (7, .int .i64 (m : Nat)), (0, .slice p m c), (1, .func (.func 59) #[] #[.pointer (some ⟨b, 0, none⟩)])]) (fun k w' => k ≤ m ∧ k ≤ idxC R n ∧ Below w.heap.size w w') (fun k => m - k)
    ⟨rfl, rfl, rfl, rfl, rfl⟩ ⟨Nat.zero_le _, Nat.zero_le _, hB⟩ ?_
  rintro i f wr ⟨hi, hfr, hB⟩
  refine W_seq ?_
  refine W_region ?_
  refine WR_val rfl (rn_lss rfl rfl) ?_
  refine WR_nil ?_
  refine thenN ?_
  refine W_seq ?_
  refine W_ifp rfl (fun hlt => ?_) (fun hlt => ?_)
  ·
    refine W_skip ?_
    refine thenN ?_
    refine W_seq ?_
    refine W_block ?_
    refine W_seq ?_
    refine W_region ?_
    refine WR_val rfl (rn_move) ?_
    refine WR_val rfl (rn_assign) ?_
    refine WR_nil ?_
    refine thenN ?_
    refine W_seq ?_
    have hci : ∃ ch, R[i]? = some ch := ⟨_, List.getElem?_eq_getElem (by omega)⟩
    obtain ⟨ch, hci⟩ := hci
    have hobt := h.some (by omega)
    obtain ⟨gp, off, rfl, hgp⟩ := hobt
    have hbB := hb.new hB
    refine W_region ?_
    refine WR_val rfl (rn_move) ?_
    refine WR_val rfl (rn_move) ?_
    refine WR_val rfl (rn_move) ?_
    refine WR_val rfl (rn_indexSl (e := 73) (sz := 513) (by kernel_rfl) rfl rfl (i) (by omega) (by omega)) ?_
    refine WR_val rfl (rn_load rfl (ld_ch (h.below hB (Nat.le_refl _)) hR hci)) ?_
    refine WR_ent rfl (rn_callc (by kernel_rfl) rfl rfl) (isA ch b n wr hbB) ?_
    rintro _ w16 ⟨rfl, hb16⟩
    replace hB := hB.acc hb16
    refine WR_nil ?_
    refine thenN ?_
    refine W_if rfl (fun hq => ?_) (fun hq => ?_)
    ·
      refine W_seq ?_
      refine W_region ?_
      refine WR_val rfl (rn_move) ?_
      refine WR_val rfl (rn_assign) ?_
      refine WR_nil ?_
      refine thenN ?_
      refine W_ret ?_
      refine blockR ?_
      refine thenR ?_
      refine loopR ?_
      refine blockR ?_
      refine thenR ?_
      refine ret_ret [_] ⟨rfl, trivial⟩ ?_
      have hfi := idxC_is hci hfr (of_decide_eq_true hq)
      refine ⟨?_, hB⟩
      rw [if_pos (by omega), hfi]; rfl
    ·
      have hfg := idxC_gt hci hfr (of_decide_eq_false hq)
      refine W_skip ?_
      refine blockN ?_
      refine thenN ?_
      refine W_region ?_
      refine WR_val rfl (rn_add rfl rfl (Coup.w64 (by omega))) ?_
      refine WR_val rfl (rn_move) ?_
      refine WR_nil ?_
      refine loopN ⟨i + 1, by omega, ⟨rfl, rfl, rfl, rfl, rfl⟩, by omega, hfg, hB⟩
  ·
    obtain rfl : i = m := by omega
    refine W_exit ?_
    refine thenX ?_
    refine loopX ?_
    refine blockX ?_
    refine thenN ?_
    refine W_seq ?_
    refine W_region ?_
    refine WR_val rfl (rn_assign) ?_
    refine WR_nil ?_
    refine thenN ?_
    refine W_ret ?_
    refine ret_ret [_] ⟨rfl, trivial⟩ ?_
    refine ⟨?_, hB⟩
    rw [if_neg (by omega)]; rfl
set_option maxRecDepth 20000 in
set_option maxHeartbeats 1000000 in
theorem indexB (R : Rec) (hR : chsOk R) (p : Option Addr) (c m : Nat) (hm : m = R.length) (b : Nat) (n : Int) (w : World) (h : SlAt w p m 513 (chsV R)) (hb : row w b [.int .i64 n] 3) :
    Calls Tryz.prog 58 [.slice p m c, .func (.func 73) #[] #[.pointer (some ⟨b, 0, none⟩)]].toArray w (Ret fun v w' => v = .int .i64 (if idxC R n < m then (idxC R n : Int) else -1) ∧ Below w.heap.size w w') := by
  have hB := Below.refl w.heap.size w
  have hml : maxLen = 9223372036854775807 := by decide
  have hmax := h.max
  refine calls_W (fn := Tryz.f58) (rs := [.tmp 4]) (n := 19) Tryz.func58 rfl rfl Tryz.ntmps58 (by kernel_rfl) rfl ?_
  refine W_seq ?_
  refine W_region ?_
  refine WR_val rfl (rn_assign) ?_
  refine WR_nil ?_
  refine thenN ?_
  refine W_seq ?_
  refine W_seq ?_
  refine W_region ?_
  refine WR_val rfl (rn_move) ?_
  refine WR_val rfl (rn_lenSl (e := 73) (sz := 513) (by kernel_rfl) rfl rfl) ?_
  refine WR_val rfl (rn_move) ?_
  refine WR_nil ?_
  refine thenN ?_
  refine W_block ?_
  refine W_loop (α := Nat) 0 (fun k => [(8, .int .i64 (k : Nat)), (7, .int .i64 (m : Nat)), (0, .slice p m c), (1, .func (.func 73) #[] #[.pointer (some ⟨b, 0, none⟩)])]) (fun k w' => k ≤ m ∧ k ≤ idxC R n ∧ Below w.heap.size w w') (fun k => m - k)
    ⟨rfl, rfl, rfl, rfl, rfl⟩ ⟨Nat.zero_le _, Nat.zero_le _, hB⟩ ?_
  rintro i f wr ⟨hi, hfr, hB⟩
  refine W_seq ?_
  refine W_region ?_
  refine WR_val rfl (rn_lss rfl rfl) ?_
  refine WR_nil ?_
  refine thenN ?_
  refine W_seq ?_
  refine W_ifp rfl (fun hlt => ?_) (fun hlt => ?_)
  ·
    refine W_skip ?_
    refine thenN ?_
    refine W_seq ?_
    refine W_block ?_
    refine W_seq ?_
    refine W_region ?_
    refine WR_val rfl (rn_move) ?_
    refine WR_val rfl (rn_assign) ?_
    refine WR_nil ?_
    refine thenN ?_
    refine W_seq ?_
    have hci : ∃ ch, R[i]? = some ch := ⟨_, List.getElem?_eq_getElem (by omega)⟩
    obtain ⟨ch, hci⟩ := hci
    have hobt := h.some (by omega)
    obtain ⟨gp, off, rfl, hgp⟩ := hobt
    have hbB := hb.new hB
    refine W_region ?_
    refine WR_val rfl (rn_move) ?_
    refine WR_val rfl (rn_move) ?_
    refine WR_val rfl (rn_move) ?_
    refine WR_val rfl (rn_indexSl (e := 73) (sz := 513) (by kernel_rfl) rfl rfl (i) (by omega) (by omega)) ?_
    refine WR_val rfl (rn_load rfl (ld_ch (h.below hB (Nat.le_refl _)) hR hci)) ?_
    refine WR_ent rfl (rn_callc (by kernel_rfl) rfl rfl) (isB ch b n wr hbB) ?_
    rintro _ w16 ⟨rfl, hb16⟩
    replace hB := hB.acc hb16
    refine WR_nil ?_
    refine thenN ?_
    refine W_if rfl (fun hq => ?_) (fun hq => ?_)
    ·
      refine W_seq ?_
      refine W_region ?_
      refine WR_val rfl (rn_move) ?_
      refine WR_val rfl (rn_assign) ?_
      refine WR_nil ?_
      refine thenN ?_
      refine W_ret ?_
      refine blockR ?_
      refine thenR ?_
      refine loopR ?_
      refine blockR ?_
      refine thenR ?_
      refine ret_ret [_] ⟨rfl, trivial⟩ ?_
      have hfi := idxC_is hci hfr (of_decide_eq_true hq)
      refine ⟨?_, hB⟩
      rw [if_pos (by omega), hfi]; rfl
    ·
      have hfg := idxC_gt hci hfr (of_decide_eq_false hq)
      refine W_skip ?_
      refine blockN ?_
      refine thenN ?_
      refine W_region ?_
      refine WR_val rfl (rn_add rfl rfl (Coup.w64 (by omega))) ?_
      refine WR_val rfl (rn_move) ?_
      refine WR_nil ?_
      refine loopN ⟨i + 1, by omega, ⟨rfl, rfl, rfl, rfl, rfl⟩, by omega, hfg, hB⟩
  ·
    obtain rfl : i = m := by omega
    refine W_exit ?_
    refine thenX ?_
    refine loopX ?_
    refine blockX ?_
    refine thenN ?_
    refine W_seq ?_
    refine W_region ?_
    refine WR_val rfl (rn_assign) ?_
    refine WR_nil ?_
    refine thenN ?_
    refine W_ret ?_
    refine ret_ret [_] ⟨rfl, trivial⟩ ?_
    refine ⟨?_, hB⟩
    rw [if_neg (by omega)]; rfl
end Go.Proofs.YtielfpkjoidomaaGreat
