/- A page's records: read, laid, put; its next one. -/
import Derived.Test.YtjdcopfnhkfimaaPageH
namespace Go.Proofs.Ytjdcopfnhkfimaa
open Go Go.RowKit Coup
theorem zeroQ : ∃ Z, zeroP = Z ∧ List.replicate 512 (Value.int .u8 0) = bv Z ∧ (bv Z).length = 512 := ⟨_, rfl, bv_zeroP, zeroP_len⟩
theorem freeV_le (S : List (Option (List UInt8))) : freeV S ≤ S.length := List.findIdx_le_length
theorem get17 (V : View) (k : Int) (w : World) (hV : Good V) : Calls Try.prog 17 [.agg (bv (bytesV V)).toArray, .int .i64 k].toArray w
    (Ret fun v w' => (∃ q c, v = .tuple #[.slice q (getR V.slots k).length c, .int .i64 (if hasV V.slots k then 0 else 6)] ∧ SlAt w' q (getR V.slots k).length 1 (bv (getR V.slots k))) ∧ Below w.heap.size w w') := by
  have hB := Below.refl w.heap.size w
  have hbl := bytes_len hV
  refine calls_W (fn := Try.f17) (rs := [.tmp 4, .tmp 5]) (n := 26) Try.func17 rfl rfl Try.ntmps17 (by kernel_rfl) rfl ?_
  refine W_seq ?_
  refine W_region ?_
  refine WR_mk rfl (mk_box ((bv (bytesV V))) rfl (fun g2 w2 hg2 hr2 hb2 => ?_))
  have ge_hB_g2 := Nat.le_trans hB.size hg2
  replace hB := hB.acc hb2
  refine WR_val rfl (rn_assign) ?_
  refine WR_val rfl (rn_assign) ?_
  refine WR_nil ?_
  refine thenN ?_
  refine W_seq ?_
  refine W_region ?_
  refine WR_val rfl (rn_load rfl (Ld.rowA (k := 512) hr2 (by kernel_rfl) (by kernel_rfl) (by first | (simp; done) | (simp [bv_length, *]; done) | assumption))) ?_
  refine WR_ent rfl (rn_call (by kernel_rfl) rfl) (read22' V w2 hV) ?_
  rintro _ w10 ⟨p, c, vs, rfl, hv, hb10⟩
  replace hr2 := hr2.new hb10
  replace hB := hB.acc hb10
  refine WR_val rfl (rn_move) ?_
  refine WR_val rfl (rn_extract rfl rfl) ?_
  refine WR_val rfl (rn_extract rfl rfl) ?_
  have hv0 := hv
  refine WR_mk rfl (mk_alloc ([Value.int .i64 0, Value.int .i64 0, Value.slice none 0 0]) (by kernel_rfl) (fun g6 w6 hg6 hr6 hb6 => ?_))
  have ge_hB_g6 := Nat.le_trans hB.size hg6
  have lt_g2_g6 : g2 < g6 := Nat.lt_of_lt_of_le hr2.lt hg6
  replace hr2 := hr2.new hb6
  replace hv := hv.new hb6
  replace hB := hB.acc hb6
  replace hv := (hv0.cons hg6).new hb6
  refine WR_sk rfl (sk_storeA 3 (vw V p c) rfl rfl hr6 (by kernel_rfl) (by first | assumption | (simp; done) | (simp [bv_length, *]; done)) (by first | assumption | (simp; done) | (simp [bv_length, *]; done) | rfl) (by first | exact bv_one _ | assumption | (simp [Value.oneCell']; done)) (fun w901 hr6 ho901 => ?_))
  replace hr2 := hr2.only ho901 (Nat.ne_of_lt lt_g2_g6)
  replace hv := hv.only ho901 (by simp)
  replace hB := ho901.below hB ge_hB_g6
  refine WR_val rfl (rn_assign) ?_
  refine WR_nil ?_
  refine thenN ?_
  refine W_seq ?_
  refine W_block ?_
  refine W_seq ?_
  refine W_region ?_
  refine WR_val rfl (rn_move) ?_
  refine WR_val rfl (rn_not rfl) ?_
  refine WR_val rfl (rn_assign) ?_
  refine WR_nil ?_
  refine thenN ?_
  refine W_fnb rfl (rfl) ?_
  refine W_seq ?_
  refine W_region ?_
  refine WR_val rfl (rn_load rfl (Ld.rowA (k := 3) hr6 (by kernel_rfl) (by kernel_rfl) (by first | (simp; done) | (simp [bv_length, *]; done) | assumption))) ?_
  refine WR_val rfl (rn_move) ?_
  refine WR_ent rfl (rn_call (by kernel_rfl) rfl) (has26 V p c vs k w901 _ _ hv.own.sl hv.slts) ?_
  rintro _ w19 ⟨rfl, hb19⟩
  replace hr2 := hr2.new hb19
  replace hv := hv.new hb19
  replace hr6 := hr6.new hb19
  replace hB := hB.acc hb19
  refine WR_val rfl (rn_not rfl) ?_
  refine WR_val rfl (rn_assign) ?_
  refine WR_nil ?_
  refine thenN ?_
  refine W_ifnb rfl (fun hh => ?_) (fun hh => ?_)
  ·
    refine W_seq ?_
    refine W_region ?_
    refine WR_val rfl (rn_assign) ?_
    refine WR_val rfl (rn_assign) ?_
    refine WR_nil ?_
    refine thenN ?_
    refine W_ret ?_
    refine blockR ?_
    refine thenR ?_
    refine ret_ret [_, _] ⟨rfl, rfl, trivial⟩ ?_
    refine ⟨⟨none, 0, ?_, ?_⟩, hB⟩
    · rw [getR, hh]; rfl
    · rw [getR, hh]; exact SlAt.nil _ _ _
  ·
    obtain ⟨i, rfl⟩ : ∃ i : Nat, k = i := ⟨k.toNat, by unfold hasV at hh; simp at hh; omega⟩
    obtain ⟨s, hsi⟩ : ∃ s, V.slots[i]? = some s := by
      refine ⟨_, List.getElem?_eq_getElem ?_⟩
      unfold hasV at hh
      simp only [Bool.and_eq_true] at hh
      have h2 := hh.2
      rw [Int.toNat_natCast, List.getD_eq_getElem?_getD] at h2
      rcases Nat.lt_or_ge i V.slots.length with h | h
      · exact h
      · rw [List.getElem?_eq_none h] at h2; cases h2
    have hil := (List.getElem?_eq_some_iff.1 hsi).1
    have hvv := hv.slts.val hsi
    obtain ⟨q, cq, hv1, hq, hqn⟩ := hvv
    have hgr : getR V.slots (i : Int) = bod s := by rw [getR, hh, if_pos rfl, Int.toNat_natCast, List.getD_eq_getElem?_getD, hsi]; rfl
    have hsm := hv.some (by omega)
    obtain ⟨g, o, rfl, _, _⟩ := hsm
    refine W_skip ?_
    refine blockN ?_
    refine thenN ?_
    refine W_seq ?_
    refine W_region ?_
    refine WR_val rfl (rn_fieldAddr (off := 2) (by kernel_rfl) rfl) ?_
    refine WR_val rfl (rn_load rfl (Ld.row1 hr6 (by kernel_rfl) rfl)) ?_
    refine WR_val rfl (rn_move) ?_
    refine WR_val rfl (rn_indexSl1 (e := 29) (by kernel_rfl) rfl rfl (i) (by omega) (by omega)) ?_
    refine WR_val rfl (rn_load rfl (Ld.sl1 hv.own.sl (by kernel_rfl) hv1)) ?_
    refine WR_val rfl (rn_assign) ?_
    refine WR_val rfl (rn_assign) ?_
    refine WR_nil ?_
    refine thenN ?_
    refine W_ret ?_
    refine ret_ret [_, _] ⟨rfl, rfl, trivial⟩ ?_
    refine ⟨⟨q, cq, ?_, ?_⟩, hB⟩
    · rw [hgr, hh]; rfl
    · rw [hgr]; exact hq
def roomV (V : View) : Int := max (min (512 - (sizeV V : Int) - (if freeV V.slots = V.slots.length then 4 else 0)) 400) (-1)
theorem room10 (V : View) (w : World) (hV : Good V) : Calls Try.prog 10 [.agg (bv (bytesV V)).toArray].toArray w (Ret fun v w' => v = .int .i64 (roomV V) ∧ Below w.heap.size w w') := by
  have hB := Below.refl w.heap.size w
  have hbl := bytes_len hV
  have hz := hV.size
  refine calls_W (fn := Try.f10) (rs := [.tmp 2]) (n := 27) Try.func10 rfl rfl Try.ntmps10 (by kernel_rfl) rfl ?_
  refine W_seq ?_
  refine W_region ?_
  refine WR_mk rfl (mk_box ((bv (bytesV V))) rfl (fun g1 w1 hg1 hr1 hb1 => ?_))
  have ge_hB_g1 := Nat.le_trans hB.size hg1
  replace hB := hB.acc hb1
  refine WR_val rfl (rn_assign) ?_
  refine WR_nil ?_
  refine thenN ?_
  refine W_seq ?_
  refine W_region ?_
  refine WR_val rfl (rn_load rfl (Ld.rowA (k := 512) hr1 (by kernel_rfl) (by kernel_rfl) (by first | (simp; done) | (simp [bv_length, *]; done) | assumption))) ?_
  refine WR_ent rfl (rn_call (by kernel_rfl) rfl) (read22' V w1 hV) ?_
  rintro _ w8 ⟨p, c, vs, rfl, hv, hb8⟩
  replace hr1 := hr1.new hb8
  replace hB := hB.acc hb8
  refine WR_val rfl (rn_move) ?_
  refine WR_val rfl (rn_extract rfl rfl) ?_
  refine WR_val rfl (rn_extract rfl rfl) ?_
  have hv0 := hv
  refine WR_mk rfl (mk_alloc ([Value.int .i64 0, Value.int .i64 0, Value.slice none 0 0]) (by kernel_rfl) (fun g3 w3 hg3 hr3 hb3 => ?_))
  have ge_hB_g3 := Nat.le_trans hB.size hg3
  have lt_g1_g3 : g1 < g3 := Nat.lt_of_lt_of_le hr1.lt hg3
  replace hr1 := hr1.new hb3
  replace hv := hv.new hb3
  replace hB := hB.acc hb3
  replace hv := (hv0.cons hg3).new hb3
  refine WR_sk rfl (sk_storeA 3 (vw V p c) rfl rfl hr3 (by kernel_rfl) (by first | assumption | (simp; done) | (simp [bv_length, *]; done)) (by first | assumption | (simp; done) | (simp [bv_length, *]; done) | rfl) (by first | exact bv_one _ | assumption | (simp [Value.oneCell']; done)) (fun w901 hr3 ho901 => ?_))
  replace hr1 := hr1.only ho901 (Nat.ne_of_lt lt_g1_g3)
  replace hv := hv.only ho901 (by simp)
  replace hB := ho901.below hB ge_hB_g3
  refine WR_val rfl (rn_assign) ?_
  refine WR_nil ?_
  refine thenN ?_
  refine W_seq ?_
  refine W_seq ?_
  refine W_region ?_
  refine WR_val rfl (rn_move) ?_
  refine WR_val rfl (rn_not rfl) ?_
  refine WR_nil ?_
  refine thenN ?_
  refine W_fnb rfl (rfl) ?_
  refine W_skip ?_
  refine thenN ?_
  refine W_seq ?_
  refine W_region ?_
  refine WR_val rfl (rn_load rfl (Ld.rowA (k := 3) hr3 (by kernel_rfl) (by kernel_rfl) (by first | (simp; done) | (simp [bv_length, *]; done) | assumption))) ?_
  refine WR_ent rfl (rn_call (by kernel_rfl) rfl) (size25 V p c vs w901 _ _ hv.own.sl hv.slts (by omega)) ?_
  rintro _ w14 ⟨rfl, hb14⟩
  replace hr1 := hr1.new hb14
  replace hv := hv.new hb14
  replace hr3 := hr3.new hb14
  replace hB := hB.acc hb14
  refine WR_val rfl (rn_sub rfl rfl (Coup.w64 (by omega))) ?_
  refine WR_val rfl (rn_assign) ?_
  refine WR_nil ?_
  refine thenN ?_
  refine W_seq ?_
  refine W_seq ?_
  refine W_draw' [] (by kernel_rfl) ?_
  intro w902 hb902 hS902
  replace hr1 := hr1.new hb902
  replace hv := hv.new hb902
  replace hr3 := hr3.new hb902
  replace hB := hB.acc hb902
  have hr1_d902 := hr1
  have hv_d902 := hv
  have hr3_d902 := hr3
  have hB_d902 := hB
  refine WA_take 0 (by kernel_rfl) rfl (fun w' hS' => rn_load rfl (Ld.rowA (k := 3) (hr3_d902.kpd hS' (by first | (simp; done) | (simp; omega) | (simp [*]; done))) (by kernel_rfl) (by kernel_rfl) (by first | (simp; done) | (simp [bv_length, *]; done) | assumption))) ?_
  refine WA_take 2 (by kernel_rfl) rfl (fun _ _ => rn_fieldAddr (off := 2) (by kernel_rfl) rfl) ?_
  refine WA_take 3 (by kernel_rfl) rfl (fun w' hS' => rn_load rfl (Ld.row1 (hr3_d902.kpd hS' (by first | (simp; done) | (simp; omega) | (simp [*]; done))) (by kernel_rfl) rfl)) ?_
  refine WA_take 4 (by kernel_rfl) rfl (fun _ _ => rn_lenSl (e := 29) (sz := 1) (by kernel_rfl) rfl rfl) ?_
  refine WA_one 1 (by kernel_rfl) ?_
  refine WO_ent rfl rfl (rn_call (by kernel_rfl) rfl) (free23 V p c vs w902 _ _ hv.own.sl hv.slts) ?_
  rintro _ w17 ⟨rfl, hb17⟩
  have hS903 := hS902.add0 hb17
  refine ⟨hS903, ?_⟩
  replace hr1 := hr1.new hb17
  replace hv := hv.new hb17
  replace hr3 := hr3.new hb17
  replace hB := hB.acc hb17
  refine WA_take 5 (by kernel_rfl) rfl (fun _ _ => rn_eql rfl rfl) ?_
  refine WA_done (by kernel_rfl) ?_
  refine thenN ?_
  refine W_ifp rfl (fun hf => ?_) (fun hf => ?_)
  ·
    refine W_region ?_
    refine WR_val rfl (rn_move) ?_
    refine WR_val rfl (rn_sub rfl rfl (Coup.w64 (by omega))) ?_
    refine WR_val rfl (rn_assign) ?_
    refine WR_nil ?_
    refine thenN ?_
    refine W_seq ?_
    refine W_region ?_
    refine WR_val rfl (rn_move) ?_
    refine WR_val rfl (rn_min2 rfl rfl) ?_
    refine WR_val rfl (rn_max2 rfl rfl) ?_
    refine WR_val rfl (rn_assign) ?_
    refine WR_nil ?_
    refine thenN ?_
    refine W_ret ?_
    refine ret_ret [_] ⟨rfl, trivial⟩ ?_
    refine ⟨vi ?_, hB⟩
    rw [roomV, if_pos (by omega)]
  ·
    refine W_skip ?_
    refine thenN ?_
    refine W_seq ?_
    refine W_region ?_
    refine WR_val rfl (rn_move) ?_
    refine WR_val rfl (rn_min2 rfl rfl) ?_
    refine WR_val rfl (rn_max2 rfl rfl) ?_
    refine WR_val rfl (rn_assign) ?_
    refine WR_nil ?_
    refine thenN ?_
    refine W_ret ?_
    refine ret_ret [_] ⟨rfl, trivial⟩ ?_
    refine ⟨vi ?_, hB⟩
    rw [roomV, if_neg (by omega), Int.sub_zero]
def linkV (V : View) (k : Int) : View := { V with next := k.toNat }
def linkP (V : View) (k : Int) : List UInt8 := if 0 ≤ k ∧ k < 2147483648 then bytesV (linkV V k) else zeroP
set_option maxHeartbeats 1000000 in
theorem link9a (V : View) (m : Nat) (w : World) (hV : Good V) (hm : m < 2147483648) : Calls Try.prog 9 [.agg (bv (bytesV V)).toArray, .int .i64 (m : Int)].toArray w
    (Ret fun v w' => v = .tuple #[.agg (bv (bytesV { V with next := m })).toArray, .int .i64 0] ∧ Below w.heap.size w w') := by
  have hB := Below.refl w.heap.size w
  have hkd := hV.kind
  have hPg := fun w' p c vs lo o h hs => page21 { V with next := m } p c vs w' lo o h hs (by show V.kind < 256; omega) hm hV.size
  have hql : (bv (bytesV { V with next := m })).length = 512 := by rw [bv_length]; exact bytesV_len _ hV.size
  generalize bytesV { V with next := m } = Q at hPg hql ⊢
  have hbl := bytes_len hV
  have hR := read22' V
  generalize bytesV V = Q0 at hR hbl ⊢
  obtain ⟨Z, hzz, hzb, hzl⟩ := zeroQ
  refine calls_W (fn := Try.f9) (rs := [.cell 4 23, .tmp 5]) (n := 29) Try.func9 rfl rfl Try.ntmps9 (by kernel_rfl) rfl ?_
  refine W_seq ?_
  refine W_region ?_
  refine WR_mk rfl (mk_box ((bv Q0)) rfl (fun g2 w2 hg2 hr2 hb2 => ?_))
  have ge_hB_g2 := Nat.le_trans hB.size hg2
  replace hB := hB.acc hb2
  refine WR_mk rfl (mk_alloc (List.replicate 512 (Value.int .u8 0)) (by kernel_rfl) (fun g4 w4 hg4 hr4 hb4 => ?_))
  have ge_hB_g4 := Nat.le_trans hB.size hg4
  have lt_g2_g4 : g2 < g4 := Nat.lt_of_lt_of_le hr2.lt hg4
  replace hr2 := hr2.new hb4
  replace hB := hB.acc hb4
  rw [hzb] at hr4
  refine WR_val rfl (rn_assign) ?_
  refine WR_nil ?_
  refine thenN ?_
  refine W_seq ?_
  refine W_region ?_
  refine WR_val rfl (rn_load rfl (Ld.rowA (k := 512) hr2 (by kernel_rfl) (by kernel_rfl) (by first | (simp; done) | (simp [bv_length, *]; done) | assumption))) ?_
  refine WR_ent rfl (rn_call (by kernel_rfl) rfl) (hR w4 hV) ?_
  rintro _ w10 ⟨p, c, vs, rfl, hv, hb10⟩
  replace hr2 := hr2.new hb10
  replace hr4 := hr4.new hb10
  replace hB := hB.acc hb10
  refine WR_val rfl (rn_move) ?_
  refine WR_val rfl (rn_extract rfl rfl) ?_
  refine WR_val rfl (rn_extract rfl rfl) ?_
  have hv0 := hv
  refine WR_mk rfl (mk_alloc ([Value.int .i64 0, Value.int .i64 0, Value.slice none 0 0]) (by kernel_rfl) (fun g6 w6 hg6 hr6 hb6 => ?_))
  have ge_hB_g6 := Nat.le_trans hB.size hg6
  have lt_g2_g6 : g2 < g6 := Nat.lt_of_lt_of_le hr2.lt hg6
  have lt_g4_g6 : g4 < g6 := Nat.lt_of_lt_of_le hr4.lt hg6
  replace hr2 := hr2.new hb6
  replace hr4 := hr4.new hb6
  replace hv := hv.new hb6
  replace hB := hB.acc hb6
  replace hv := (hv0.cons hg6).new hb6
  refine WR_sk rfl (sk_storeA 3 (vw V p c) rfl rfl hr6 (by kernel_rfl) (by first | assumption | (simp; done) | (simp [bv_length, *]; done)) (by first | assumption | (simp; done) | (simp [bv_length, *]; done) | rfl) (by first | exact bv_one _ | assumption | (simp [Value.oneCell']; done)) (fun w901 hr6 ho901 => ?_))
  replace hr2 := hr2.only ho901 (Nat.ne_of_lt lt_g2_g6)
  replace hr4 := hr4.only ho901 (Nat.ne_of_lt lt_g4_g6)
  replace hv := hv.only ho901 (by simp)
  replace hB := ho901.below hB ge_hB_g6
  refine WR_val rfl (rn_assign) ?_
  refine WR_nil ?_
  refine thenN ?_
  refine W_seq ?_
  refine W_block ?_
  refine W_seq ?_
  refine W_region ?_
  refine WR_val rfl (rn_move) ?_
  refine WR_val rfl (rn_not rfl) ?_
  refine WR_val rfl (rn_assign) ?_
  refine WR_nil ?_
  refine thenN ?_
  refine W_fnb rfl (rfl) ?_
  refine W_seq ?_
  refine W_region ?_
  refine WR_val rfl (rn_move) ?_
  refine WR_val rfl (rn_lss rfl rfl) ?_
  refine WR_val rfl (rn_move) ?_
  refine WR_fp 20 rfl ((by omega)) ?_
  refine WR_yes rfl ?_
  refine WR_val rfl (rn_move) ?_
  refine WR_yes rfl ?_
  refine WR_val rfl (rn_geq rfl rfl) ?_
  refine WR_val rfl (rn_pick_f rfl) ?_
  refine WR_val rfl (rn_assign) ?_
  refine WR_nil ?_
  refine thenN ?_
  refine W_fp rfl ((by omega)) ?_
  refine W_skip ?_
  refine blockN ?_
  refine thenN ?_
  refine W_seq ?_
  refine W_region ?_
  refine WR_val rfl (rn_move) ?_
  refine WR_val rfl (rn_fieldAddr (off := 1) (by kernel_rfl) rfl) ?_
  refine WR_sk rfl (sk_store1 rfl rfl rfl rfl hr6 (by kernel_rfl) (by first | (simp only [List.length_replicate]; omega) | (simp only [iv_length]; omega) | (simp only [bv_length, List.length_set]; omega) | simp) (fun w902 hr6 ho902 => ?_))
  replace hr2 := hr2.only ho902 (Nat.ne_of_lt lt_g2_g6)
  replace hr4 := hr4.only ho902 (Nat.ne_of_lt lt_g4_g6)
  replace hv := hv.only ho902 (by simp)
  replace hB := ho902.below hB ge_hB_g6
  refine WR_nil ?_
  refine thenN ?_
  refine W_seq ?_
  refine W_region ?_
  refine WR_val rfl (rn_load rfl (Ld.rowA (k := 3) hr6 (by kernel_rfl) (by kernel_rfl) (by first | (simp; done) | (simp [bv_length, *]; done) | assumption))) ?_
  refine WR_ent rfl (rn_call (by kernel_rfl) rfl) (hPg w902 p c vs _ _ hv.own.sl hv.slts) ?_
  rintro _ w28 ⟨rfl, hb28⟩
  replace hr2 := hr2.new hb28
  replace hr4 := hr4.new hb28
  replace hv := hv.new hb28
  replace hr6 := hr6.new hb28
  replace hB := hB.acc hb28
  refine WR_sk rfl (sk_storeA 512 (bv Q) rfl rfl hr4 (by kernel_rfl) (by first | assumption | (simp; done) | (simp [bv_length, *]; done)) (by first | assumption | (simp; done) | (simp [bv_length, *]; done) | rfl) (by first | exact bv_one _ | assumption | (simp [Value.oneCell']; done)) (fun w903 hr4 ho903 => ?_))
  replace hr2 := hr2.only ho903 (Nat.ne_of_lt lt_g2_g4)
  replace hr6 := hr6.only ho903 (Nat.ne_of_gt lt_g4_g6)
  replace hB := ho903.below hB ge_hB_g4
  refine WR_val rfl (rn_assign) ?_
  refine WR_nil ?_
  refine thenN ?_
  refine W_ret ?_
  refine ret_ret [_, _] ⟨⟨_, rfl, Ld.rowA (k := 512) hr4 (by kernel_rfl) (by kernel_rfl) (by first | (simp; done) | (simp [bv_length, *]; done) | assumption)⟩, rfl, trivial⟩ ?_
  exact ⟨rfl, hB⟩
set_option maxHeartbeats 1000000 in
theorem link9b (V : View) (k : Int) (w : World) (hV : Good V) (hk : ¬ (0 ≤ k ∧ k < 2147483648)) : Calls Try.prog 9 [.agg (bv (bytesV V)).toArray, .int .i64 k].toArray w
    (Ret fun v w' => v = .tuple #[.agg (bv zeroP).toArray, .int .i64 2] ∧ Below w.heap.size w w') := by
  have hB := Below.refl w.heap.size w
  have hR := read22' V
  have hbl := bytes_len hV
  generalize bytesV V = Q at hR hbl ⊢
  obtain ⟨Z, hzz, hzb, hzl⟩ := zeroQ
  rw [hzz]
  refine calls_W (fn := Try.f9) (rs := [.cell 4 23, .tmp 5]) (n := 29) Try.func9 rfl rfl Try.ntmps9 (by kernel_rfl) rfl ?_
  refine W_seq ?_
  refine W_region ?_
  refine WR_mk rfl (mk_box ((bv Q)) rfl (fun g2 w2 hg2 hr2 hb2 => ?_))
  have ge_hB_g2 := Nat.le_trans hB.size hg2
  replace hB := hB.acc hb2
  refine WR_mk rfl (mk_alloc (List.replicate 512 (Value.int .u8 0)) (by kernel_rfl) (fun g4 w4 hg4 hr4 hb4 => ?_))
  have ge_hB_g4 := Nat.le_trans hB.size hg4
  have lt_g2_g4 : g2 < g4 := Nat.lt_of_lt_of_le hr2.lt hg4
  replace hr2 := hr2.new hb4
  replace hB := hB.acc hb4
  rw [hzb] at hr4
  refine WR_val rfl (rn_assign) ?_
  refine WR_nil ?_
  refine thenN ?_
  refine W_seq ?_
  refine W_region ?_
  refine WR_val rfl (rn_load rfl (Ld.rowA (k := 512) hr2 (by kernel_rfl) (by kernel_rfl) (by first | (simp; done) | (simp [bv_length, *]; done) | assumption))) ?_
  refine WR_ent rfl (rn_call (by kernel_rfl) rfl) (hR w4 hV) ?_
  rintro _ w10 ⟨p, c, vs, rfl, hv, hb10⟩
  replace hr2 := hr2.new hb10
  replace hr4 := hr4.new hb10
  replace hB := hB.acc hb10
  refine WR_val rfl (rn_move) ?_
  refine WR_val rfl (rn_extract rfl rfl) ?_
  refine WR_val rfl (rn_extract rfl rfl) ?_
  have hv0 := hv
  refine WR_mk rfl (mk_alloc ([Value.int .i64 0, Value.int .i64 0, Value.slice none 0 0]) (by kernel_rfl) (fun g6 w6 hg6 hr6 hb6 => ?_))
  have ge_hB_g6 := Nat.le_trans hB.size hg6
  have lt_g2_g6 : g2 < g6 := Nat.lt_of_lt_of_le hr2.lt hg6
  have lt_g4_g6 : g4 < g6 := Nat.lt_of_lt_of_le hr4.lt hg6
  replace hr2 := hr2.new hb6
  replace hr4 := hr4.new hb6
  replace hv := hv.new hb6
  replace hB := hB.acc hb6
  replace hv := (hv0.cons hg6).new hb6
  refine WR_sk rfl (sk_storeA 3 (vw V p c) rfl rfl hr6 (by kernel_rfl) (by first | assumption | (simp; done) | (simp [bv_length, *]; done)) (by first | assumption | (simp; done) | (simp [bv_length, *]; done) | rfl) (by first | exact bv_one _ | assumption | (simp [Value.oneCell']; done)) (fun w901 hr6 ho901 => ?_))
  replace hr2 := hr2.only ho901 (Nat.ne_of_lt lt_g2_g6)
  replace hr4 := hr4.only ho901 (Nat.ne_of_lt lt_g4_g6)
  replace hv := hv.only ho901 (by simp)
  replace hB := ho901.below hB ge_hB_g6
  refine WR_val rfl (rn_assign) ?_
  refine WR_nil ?_
  refine thenN ?_
  refine W_seq ?_
  refine W_block ?_
  refine W_seq ?_
  refine W_region ?_
  refine WR_val rfl (rn_move) ?_
  refine WR_val rfl (rn_not rfl) ?_
  refine WR_val rfl (rn_assign) ?_
  refine WR_nil ?_
  refine thenN ?_
  refine W_fnb rfl (rfl) ?_
  refine W_seq ?_
  refine W_region ?_
  refine WR_val rfl (rn_move) ?_
  refine WR_val rfl (rn_lss rfl rfl) ?_
  refine WR_val rfl (rn_move) ?_
  refine WR_part 20 rfl (fun h0 => ?_) (fun h0 => ?_)
  ·
    refine WR_no rfl rfl ?_
    refine WR_no rfl rfl ?_
    refine WR_val rfl (rn_pick_t rfl) ?_
    refine WR_val rfl (rn_assign) ?_
    refine WR_nil ?_
    refine thenN ?_
    refine W_tb rfl (rfl) ?_
    refine W_seq ?_
    refine W_region ?_
    refine WR_val rfl (rn_zeroed (bv Z) (by rw [← hzb]; kernel_rfl)) ?_
    refine WR_sk rfl (sk_storeA 512 (bv Z) rfl rfl hr4 (by kernel_rfl) (by first | assumption | (simp; done) | (simp [bv_length, *]; done)) (by first | assumption | (simp; done) | (simp [bv_length, *]; done) | rfl) (by first | exact bv_one _ | assumption | (simp [Value.oneCell']; done)) (fun w902 hr4 ho902 => ?_))
    replace hr2 := hr2.only ho902 (Nat.ne_of_lt lt_g2_g4)
    replace hr6 := hr6.only ho902 (Nat.ne_of_gt lt_g4_g6)
    replace hB := ho902.below hB ge_hB_g4
    refine WR_val rfl (rn_assign) ?_
    refine WR_nil ?_
    refine thenN ?_
    refine W_ret ?_
    refine blockR ?_
    refine thenR ?_
    refine ret_ret [_, _] ⟨⟨_, rfl, Ld.rowA (k := 512) hr4 (by kernel_rfl) (by kernel_rfl) (by first | (simp; done) | (simp [bv_length, *]; done) | assumption)⟩, rfl, trivial⟩ ?_
    exact ⟨rfl, hB⟩
  ·
    refine WR_yes rfl ?_
    refine WR_val rfl (rn_move) ?_
    refine WR_yes rfl ?_
    refine WR_val rfl (rn_geq rfl rfl) ?_
    refine WR_val rfl (rn_pick_f rfl) ?_
    refine WR_val rfl (rn_assign) ?_
    refine WR_nil ?_
    refine thenN ?_
    refine W_tp rfl ((by omega)) ?_
    refine W_seq ?_
    refine W_region ?_
    refine WR_val rfl (rn_zeroed (bv Z) (by rw [← hzb]; kernel_rfl)) ?_
    refine WR_sk rfl (sk_storeA 512 (bv Z) rfl rfl hr4 (by kernel_rfl) (by first | assumption | (simp; done) | (simp [bv_length, *]; done)) (by first | assumption | (simp; done) | (simp [bv_length, *]; done) | rfl) (by first | exact bv_one _ | assumption | (simp [Value.oneCell']; done)) (fun w903 hr4 ho903 => ?_))
    replace hr2 := hr2.only ho903 (Nat.ne_of_lt lt_g2_g4)
    replace hr6 := hr6.only ho903 (Nat.ne_of_gt lt_g4_g6)
    replace hB := ho903.below hB ge_hB_g4
    refine WR_val rfl (rn_assign) ?_
    refine WR_nil ?_
    refine thenN ?_
    refine W_ret ?_
    refine blockR ?_
    refine thenR ?_
    refine ret_ret [_, _] ⟨⟨_, rfl, Ld.rowA (k := 512) hr4 (by kernel_rfl) (by kernel_rfl) (by first | (simp; done) | (simp [bv_length, *]; done) | assumption)⟩, rfl, trivial⟩ ?_
    exact ⟨rfl, hB⟩
theorem link9 (V : View) (k : Int) (w : World) (hV : Good V) : Calls Try.prog 9 [.agg (bv (bytesV V)).toArray, .int .i64 k].toArray w
    (Ret fun v w' => v = .tuple #[.agg (bv (linkP V k)).toArray, .int .i64 (if 0 ≤ k ∧ k < 2147483648 then 0 else 2)] ∧ Below w.heap.size w w') := by
  rcases Classical.em (0 ≤ k ∧ k < 2147483648) with hk | hk
  · obtain ⟨m, rfl⟩ : ∃ m : Nat, k = m := ⟨k.toNat, by omega⟩
    rw [linkP, if_pos hk, if_pos hk, linkV, Int.toNat_natCast]
    exact link9a V m w hV (by omega)
  · rw [linkP, if_neg hk, if_neg hk]
    exact link9b V k w hV hk
/-! ### Lay -/
def layE (V : View) (r : List UInt8) : Nat := if 400 < r.length then 3 else withE V (freeV V.slots) r
def layP (V : View) (r : List UInt8) : List UInt8 := if layE V r = 0 then bytesV (withV V (freeV V.slots) r) else zeroP
set_option maxHeartbeats 1000000 in
theorem lay8 (V : View) (pr : Option Addr) (cr : Nat) (r : List UInt8) (w : World) (hV : Good V) (hr : SlAt w pr r.length 1 (bv r)) : Calls Try.prog 8 [.agg (bv (bytesV V)).toArray, .slice pr r.length cr].toArray w
    (Ret fun v w' => v = .tuple #[.agg (bv (layP V r)).toArray, .int .i64 (if layE V r = 0 then freeV V.slots else 0 : Nat), .int .i64 (layE V r : Nat)] ∧ Below w.heap.size w w') := by
  have hB := Below.refl w.heap.size w
  have hR := read22' V
  have hbl := bytes_len hV
  have hfl := freeV_le V.slots
  obtain ⟨F, hF⟩ : ∃ F, freeV V.slots = F := ⟨_, rfl⟩
  have hFr := free23 V
  rw [hF] at hfl hFr
  have hW := with24' V
  have hWl := withP_len V F r
  have hPE : withE V F r = 0 ∨ withE V F r = 8 := by unfold withE; split <;> simp
  have hPE2 : withE V F r = 0 → withP V F r = bytesV (withV V F r) := by
    unfold withE withP; split
    · intro h; cases h
    · intro _; rfl
  rw [layP, layE, hF]
  obtain ⟨P, hP⟩ : ∃ P, withP V F r = P := ⟨_, rfl⟩
  obtain ⟨E, hE⟩ : ∃ E, withE V F r = E := ⟨_, rfl⟩
  obtain ⟨R, hRr⟩ : ∃ R, bytesV (withV V F r) = R := ⟨_, rfl⟩
  have hW2 := fun p c cr B vs w h1 h2 h3 h4 h5 => hW p pr c cr F B vs r w h1 h2 h3 h4 hfl h5 hV
  rw [hP, hE] at hW2
  rw [hP] at hWl
  rw [hE] at hPE
  rw [hP, hE, hRr] at hPE2
  rw [hE, hRr]
  clear hW hP hE hRr
  generalize bytesV V = Q at hR hbl ⊢
  obtain ⟨Z, hzz, hzb, hzl⟩ := zeroQ
  rw [hzz]
  refine calls_W (fn := Try.f8) (rs := [.cell 4 23, .tmp 5, .tmp 6]) (n := 41) Try.func8 rfl rfl Try.ntmps8 (by kernel_rfl) rfl ?_
  refine W_seq ?_
  refine W_region ?_
  refine WR_mk rfl (mk_box ((bv Q)) rfl (fun g2 w2 hg2 hr2 hb2 => ?_))
  have ge_hB_g2 := Nat.le_trans hB.size hg2
  replace hB := hB.acc hb2
  refine WR_mk rfl (mk_alloc (List.replicate 512 (Value.int .u8 0)) (by kernel_rfl) (fun g4 w4 hg4 hr4 hb4 => ?_))
  have ge_hB_g4 := Nat.le_trans hB.size hg4
  have lt_g2_g4 : g2 < g4 := Nat.lt_of_lt_of_le hr2.lt hg4
  replace hr2 := hr2.new hb4
  replace hB := hB.acc hb4
  rw [hzb] at hr4
  refine WR_val rfl (rn_assign) ?_
  refine WR_val rfl (rn_assign) ?_
  refine WR_nil ?_
  refine thenN ?_
  refine W_seq ?_
  refine W_region ?_
  refine WR_val rfl (rn_load rfl (Ld.rowA (k := 512) hr2 (by kernel_rfl) (by kernel_rfl) (by first | (simp; done) | (simp [bv_length, *]; done) | assumption))) ?_
  have hszlo := hB.size
  have l4 := hr4.lt
  have hBr := Below.refl w4.heap.size w4
  refine WR_ent rfl (rn_call (by kernel_rfl) rfl) (hR w4 hV) ?_
  rintro _ w14 ⟨p, c, vs, rfl, hv, hb14⟩
  replace hr2 := hr2.new hb14
  replace hr4 := hr4.new hb14
  replace hB := hB.acc hb14
  replace hBr := hBr.acc hb14
  refine WR_val rfl (rn_move) ?_
  refine WR_val rfl (rn_extract rfl rfl) ?_
  refine WR_val rfl (rn_extract rfl rfl) ?_
  have hv0 := hv
  refine WR_mk rfl (mk_alloc ([Value.int .i64 0, Value.int .i64 0, Value.slice none 0 0]) (by kernel_rfl) (fun g7 w7 hg7 hr7 hb7 => ?_))
  have ge_hB_g7 := Nat.le_trans hB.size hg7
  have ge_hBr_g7 := Nat.le_trans hBr.size hg7
  have lt_g2_g7 : g2 < g7 := Nat.lt_of_lt_of_le hr2.lt hg7
  have lt_g4_g7 : g4 < g7 := Nat.lt_of_lt_of_le hr4.lt hg7
  replace hr2 := hr2.new hb7
  replace hr4 := hr4.new hb7
  replace hv := hv.new hb7
  replace hB := hB.acc hb7
  replace hBr := hBr.acc hb7
  replace hv := (hv0.cons hg7).new hb7
  refine WR_sk rfl (sk_storeA 3 (vw V p c) rfl rfl hr7 (by kernel_rfl) (by first | assumption | (simp; done) | (simp [bv_length, *]; done)) (by first | assumption | (simp; done) | (simp [bv_length, *]; done) | rfl) (by first | exact bv_one _ | assumption | (simp [Value.oneCell']; done)) (fun w901 hr7 ho901 => ?_))
  replace hr2 := hr2.only ho901 (Nat.ne_of_lt lt_g2_g7)
  replace hr4 := hr4.only ho901 (Nat.ne_of_lt lt_g4_g7)
  replace hv := hv.only ho901 (by simp)
  replace hB := ho901.below hB ge_hB_g7
  replace hBr := ho901.below hBr ge_hBr_g7
  refine WR_val rfl (rn_assign) ?_
  refine WR_nil ?_
  refine thenN ?_
  refine W_seq ?_
  refine W_block ?_
  refine W_seq ?_
  refine W_region ?_
  refine WR_val rfl (rn_move) ?_
  refine WR_val rfl (rn_not rfl) ?_
  refine WR_val rfl (rn_assign) ?_
  refine WR_nil ?_
  refine thenN ?_
  refine W_fnb rfl (rfl) ?_
  refine W_seq ?_
  refine W_region ?_
  refine WR_val rfl (rn_move) ?_
  refine WR_val rfl (rn_lenSl (e := 5) (sz := 1) (by kernel_rfl) rfl rfl) ?_
  refine WR_val rfl (rn_gtr rfl rfl) ?_
  refine WR_val rfl (rn_assign) ?_
  refine WR_nil ?_
  refine thenN ?_
  refine W_ifp rfl (fun hlen => ?_) (fun hlen => ?_)
  ·
    refine W_seq ?_
    refine W_region ?_
    refine WR_val rfl (rn_zeroed (bv Z) (by rw [← hzb]; kernel_rfl)) ?_
    refine WR_sk rfl (sk_storeA 512 (bv Z) rfl rfl hr4 (by kernel_rfl) (by first | assumption | (simp; done) | (simp [bv_length, *]; done)) (by first | assumption | (simp; done) | (simp [bv_length, *]; done) | rfl) (by first | exact bv_one _ | assumption | (simp [Value.oneCell']; done)) (fun w902 hr4 ho902 => ?_))
    replace hr2 := hr2.only ho902 (Nat.ne_of_lt lt_g2_g4)
    replace hr7 := hr7.only ho902 (Nat.ne_of_gt lt_g4_g7)
    replace hB := ho902.below hB ge_hB_g4
    refine WR_val rfl (rn_assign) ?_
    refine WR_val rfl (rn_assign) ?_
    refine WR_nil ?_
    refine thenN ?_
    refine W_ret ?_
    refine blockR ?_
    refine thenR ?_
    refine ret_ret [_, _, _] ⟨⟨_, rfl, Ld.rowA (k := 512) hr4 (by kernel_rfl) (by kernel_rfl) (by first | (simp; done) | (simp [bv_length, *]; done) | assumption)⟩, rfl, rfl, trivial⟩ ?_
    have hE0 : (if 400 < r.length then 3 else E) = 3 := if_pos (by omega)
    rw [hE0]
    exact ⟨rfl, hB⟩
  ·
    have hE0 : (if 400 < r.length then 3 else E) = E := if_neg (by omega)
    rw [hE0]
    refine W_skip ?_
    refine blockN ?_
    refine thenN ?_
    refine W_seq ?_
    refine W_region ?_
    refine WR_val rfl (rn_load rfl (Ld.rowA (k := 3) hr7 (by kernel_rfl) (by kernel_rfl) (by first | (simp; done) | (simp [bv_length, *]; done) | assumption))) ?_
    refine WR_ent rfl (rn_call (by kernel_rfl) rfl) (hFr p c vs w901 _ _ hv.own.sl hv.slts) ?_
    rintro _ w27 ⟨rfl, hb27⟩
    replace hr2 := hr2.new hb27
    replace hr4 := hr4.new hb27
    replace hv := hv.new hb27
    replace hr7 := hr7.new hb27
    replace hB := hB.acc hb27
    replace hBr := hBr.acc hb27
    refine WR_val rfl (rn_assign) ?_
    refine WR_nil ?_
    refine thenN ?_
    refine W_seq ?_
    refine W_region ?_
    refine WR_val rfl (rn_load rfl (Ld.rowA (k := 3) hr7 (by kernel_rfl) (by kernel_rfl) (by first | (simp; done) | (simp [bv_length, *]; done) | assumption))) ?_
    refine WR_val rfl (rn_move) ?_
    refine WR_val rfl (rn_move) ?_
    have hrr := fun w' hb => hr.below (w' := w') (hB.trans (Below.mono hb hszlo)) (Nat.le_refl _)
    refine WR_ent rfl (rn_call (by kernel_rfl) rfl) (hW2 p c cr _ vs w27 hv.own hv.out hBr.size hrr (by omega)) ?_
    rintro _ w32 ⟨rfl, hb32⟩
    replace hB := hB.trans (hb32.mono hszlo)
    replace hr4 := hr4.below hb32 l4
    refine WR_val rfl (rn_move) ?_
    refine WR_val rfl (rn_extract rfl rfl) ?_
    refine WR_val rfl (rn_extract rfl rfl) ?_
    refine WR_mk rfl (mk_alloc (List.replicate 512 (Value.int .u8 0)) (by kernel_rfl) (fun g10 w10 hg10 hr10 hb10 => ?_))
    have ge_hB_g10 := Nat.le_trans hB.size hg10
    have lt_g4_g10 : g4 < g10 := Nat.lt_of_lt_of_le hr4.lt hg10
    replace hr4 := hr4.new hb10
    replace hB := hB.acc hb10
    rw [hzb] at hr10
    refine WR_sk rfl (sk_storeA 512 (bv P) rfl rfl hr10 (by kernel_rfl) (by first | assumption | (simp; done) | (simp [bv_length, *]; done)) (by first | assumption | (simp; done) | (simp [bv_length, *]; done) | rfl) (by first | exact bv_one _ | assumption | (simp [Value.oneCell']; done)) (fun w903 hr10 ho903 => ?_))
    replace hr4 := hr4.only ho903 (Nat.ne_of_lt lt_g4_g10)
    replace hB := ho903.below hB ge_hB_g10
    refine WR_val rfl (rn_assign) ?_
    refine WR_nil ?_
    refine thenN ?_
    refine W_seq ?_
    refine W_seq ?_
    refine W_region ?_
    refine WR_val rfl (rn_move) ?_
    refine WR_val rfl (rn_neq rfl rfl) ?_
    refine WR_nil ?_
    refine thenN ?_
    refine W_ifp rfl (fun hne => ?_) (fun hne => ?_)
    ·
      refine W_seq ?_
      refine W_region ?_
      refine WR_val rfl (rn_zeroed (bv Z) (by rw [← hzb]; kernel_rfl)) ?_
      refine WR_val rfl (rn_move) ?_
      refine WR_sk rfl (sk_storeA 512 (bv Z) rfl rfl hr4 (by kernel_rfl) (by first | assumption | (simp; done) | (simp [bv_length, *]; done)) (by first | assumption | (simp; done) | (simp [bv_length, *]; done) | rfl) (by first | exact bv_one _ | assumption | (simp [Value.oneCell']; done)) (fun w904 hr4 ho904 => ?_))
      replace hr10 := hr10.only ho904 (Nat.ne_of_gt lt_g4_g10)
      replace hB := ho904.below hB ge_hB_g4
      refine WR_val rfl (rn_assign) ?_
      refine WR_val rfl (rn_assign) ?_
      refine WR_nil ?_
      refine thenN ?_
      refine W_ret ?_
      refine thenR ?_
      refine ret_ret [_, _, _] ⟨⟨_, rfl, Ld.rowA (k := 512) hr4 (by kernel_rfl) (by kernel_rfl) (by first | (simp; done) | (simp [bv_length, *]; done) | assumption)⟩, rfl, rfl, trivial⟩ ?_
      rw [if_neg (by omega), if_neg (by omega)]
      exact ⟨rfl, hB⟩
    ·
      refine W_skip ?_
      refine thenN ?_
      refine W_seq ?_
      refine W_region ?_
      refine WR_val rfl (rn_load rfl (Ld.rowA (k := 512) hr10 (by kernel_rfl) (by kernel_rfl) (by first | (simp; done) | (simp [bv_length, *]; done) | assumption))) ?_
      refine WR_val rfl (rn_move) ?_
      refine WR_sk rfl (sk_storeA 512 (bv P) rfl rfl hr4 (by kernel_rfl) (by first | assumption | (simp; done) | (simp [bv_length, *]; done)) (by first | assumption | (simp; done) | (simp [bv_length, *]; done) | rfl) (by first | exact bv_one _ | assumption | (simp [Value.oneCell']; done)) (fun w905 hr4 ho905 => ?_))
      replace hr10 := hr10.only ho905 (Nat.ne_of_gt lt_g4_g10)
      replace hB := ho905.below hB ge_hB_g4
      refine WR_val rfl (rn_assign) ?_
      refine WR_val rfl (rn_assign) ?_
      refine WR_nil ?_
      refine thenN ?_
      refine W_ret ?_
      refine ret_ret [_, _, _] ⟨⟨_, rfl, Ld.rowA (k := 512) hr4 (by kernel_rfl) (by kernel_rfl) (by first | (simp; done) | (simp [bv_length, *]; done) | assumption)⟩, rfl, rfl, trivial⟩ ?_
      have hE1 : E = 0 := by omega
      have hP1 := hPE2 hE1
      refine ⟨?_, hB⟩
      show Value.tuple #[.agg (bv P).toArray, .int .i64 (F : Nat), .int .i64 (0 : Nat)] = _
      rw [if_pos hE1, if_pos hE1, hP1, hE1]
end Go.Proofs.Ytjdcopfnhkfimaa
