/- A record taken out. -/
import Derived.Test.YtjdcopfnhkfimaaPageJ
namespace Go.Proofs.Ytjdcopfnhkfimaa
open Go Go.RowKit Coup

/-- Without the empty slots behind. -/
def trimS (S : List (Option (List UInt8))) : List (Option (List UInt8)) := (S.reverse.dropWhile Option.isNone).reverse
theorem trimS_nil : trimS [] = [] := rfl
theorem trimS_no (S : List (Option (List UInt8))) : trimS (S ++ [none]) = trimS S := by simp [trimS]
theorem trimS_yes (S : List (Option (List UInt8))) (r : List UInt8) : trimS (S ++ [some r]) = S ++ [some r] := by simp [trimS]
theorem trimS_id {S : List (Option (List UInt8))} (h : S.getLast? ≠ some none) : trimS S = S := by
  rcases List.eq_nil_or_concat S with rfl | ⟨T, s, rfl⟩
  · rfl
  · cases s with
    | none => simp at h
    | some r => rw [List.concat_eq_append, trimS_yes]
theorem trimS_pre (S : List (Option (List UInt8))) : ∃ k, k ≤ S.length ∧ trimS S = S.take k ∧ (S.take k).getLast? ≠ some none ∧ lenS (S.take k) = lenS S := by
  induction hn : S.length generalizing S with
  | zero => exact ⟨0, Nat.zero_le _, by rw [List.eq_nil_of_length_eq_zero hn]; rfl, by simp, by rw [List.eq_nil_of_length_eq_zero hn]; rfl⟩
  | succ n ih =>
    rcases List.eq_nil_or_concat S with rfl | ⟨T, s, rfl⟩
    · simp at hn
    · rw [List.concat_eq_append] at hn ⊢
      have hT : T.length = n := by simp at hn; omega
      cases s with
      | none =>
        obtain ⟨k, h1, h2, h3, h4⟩ := ih T hT
        refine ⟨k, by omega, ?_, ?_, ?_⟩
        · rw [trimS_no, h2, List.take_append_of_le_length (by omega)]
        · rwa [List.take_append_of_le_length (by omega)]
        · rw [List.take_append_of_le_length (by omega), h4, lenS_app]; simp [lenS, bod]
      | some r =>
        refine ⟨n + 1, Nat.le_refl _, ?_, ?_, ?_⟩
        · rw [trimS_yes, List.take_of_length_le (by simp; omega)]
        · rw [List.take_of_length_le (by simp; omega)]; simp
        · rw [List.take_of_length_le (by simp; omega)]
def wtV (V : View) (i : Nat) : View := { V with slots := trimS (V.slots.set i none) }
def takeP (V : View) (k : Int) : List UInt8 := if hasV V.slots k then bytesV (wtV V k.toNat) else zeroP
theorem lenS_setN : ∀ (S : List (Option (List UInt8))) (i : Nat), lenS (S.set i none) ≤ lenS S
  | [], i => by simp
  | t :: S, 0 => by simp [lenS, bod]
  | t :: S, i + 1 => by simp only [List.set_cons_succ, lenS]; have := lenS_setN S i; omega
theorem wtV_size (V : View) (i : Nat) : sizeV (wtV V i) ≤ sizeV V := by
  obtain ⟨k, h1, h2, _, h4⟩ := trimS_pre (V.slots.set i none)
  have h5 := lenS_setN V.slots i
  rw [List.length_set] at h1
  unfold sizeV wtV
  dsimp only
  rw [h2, h4, List.length_take, List.length_set]
  omega
set_option maxHeartbeats 1000000 in
theorem take11a (V : View) (k : Int) (w : World) (hV : Good V) (hk : hasV V.slots k = false) : Calls Try.prog 11 [.agg (bv (bytesV V)).toArray, .int .i64 k].toArray w
    (Ret fun v w' => v = .tuple #[.agg (bv zeroP).toArray, .int .i64 6] ∧ Below w.heap.size w w') := by
  have hB := Below.refl w.heap.size w
  have hR := read22' V
  have hbl := bytes_len hV
  generalize bytesV V = Q at hR hbl ⊢
  obtain ⟨Z, hzz, hzb, hzl⟩ := zeroQ
  rw [hzz]
  have h26 := fun p c vs w lo o h1 h2 => has26 V p c vs k w lo o h1 h2
  rw [hk] at h26
  refine calls_W (fn := Try.f11) (rs := [.cell 4 23, .tmp 5]) (n := 52) Try.func11 rfl rfl Try.ntmps11 (by kernel_rfl) rfl ?_
  refine W_seq ?_
  refine W_region ?_
  refine WR_mk rfl (mk_box ((bv Q)) rfl (fun g2 w2 hg2 hr2 hb2 => ?_))
  have ge_hB_g2 := Nat.le_trans hB.size hg2
  replace hB := hB.acc hb2
  refine WR_mk rfl (mk_alloc (List.replicate 512 (Value.int .u8 0)) (by kernel_rfl) (fun g4 w4 hg4 hr4 hb4 => ?_))
  have ge_hB_g4 := Nat.le_trans hB.size hg4
  have lt_g2_g4 : g2 < g4 := Nat.lt_of_lt_of_le hr2.lt hg4
  replace hr2 := hr2.new hb4
  replace hB := hB.acc hb4
  rw [hzb] at hr4
  refine WR_val rfl (rn_assign) ?_
  refine WR_nil ?_
  refine thenN ?_
  refine W_seq ?_
  refine W_region ?_
  refine WR_val rfl (rn_load rfl (Ld.rowA (k := 512) hr2 (by kernel_rfl) (by kernel_rfl) (by first | (simp; done) | (simp [bv_length, *]; done) | assumption))) ?_
  refine WR_ent rfl (rn_call (by kernel_rfl) rfl) (hR w4 hV) ?_
  rintro _ w10 ⟨p, c, vs, rfl, hv, hb10⟩
  replace hr2 := hr2.new hb10
  replace hr4 := hr4.new hb10
  replace hB := hB.acc hb10
  refine WR_val rfl (rn_move) ?_
  refine WR_val rfl (rn_extract rfl rfl) ?_
  refine WR_val rfl (rn_extract rfl rfl) ?_
  have hv0 := hv
  refine WR_mk rfl (mk_alloc ([Value.int .i64 0, Value.int .i64 0, Value.slice none 0 0]) (by kernel_rfl) (fun g6 w6 hg6 hr6 hb6 => ?_))
  have ge_hB_g6 := Nat.le_trans hB.size hg6
  have lt_g2_g6 : g2 < g6 := Nat.lt_of_lt_of_le hr2.lt hg6
  have lt_g4_g6 : g4 < g6 := Nat.lt_of_lt_of_le hr4.lt hg6
  replace hr2 := hr2.new hb6
  replace hr4 := hr4.new hb6
  replace hv := hv.new hb6
  replace hB := hB.acc hb6
  replace hv := (hv0.cons hg6).new hb6
  refine WR_sk rfl (sk_storeA 3 (vw V p c) rfl rfl hr6 (by kernel_rfl) (by first | assumption | (simp; done) | (simp [bv_length, *]; done)) (by first | assumption | (simp; done) | (simp [bv_length, *]; done) | rfl) (by first | exact bv_one _ | assumption | (simp [Value.oneCell']; done)) (fun w901 hr6 ho901 => ?_))
  replace hr2 := hr2.only ho901 (Nat.ne_of_lt lt_g2_g6)
  replace hr4 := hr4.only ho901 (Nat.ne_of_lt lt_g4_g6)
  replace hv := hv.only ho901 (by simp)
  replace hB := ho901.below hB ge_hB_g6
  refine WR_val rfl (rn_assign) ?_
  refine WR_nil ?_
  refine thenN ?_
  refine W_seq ?_
  refine W_block ?_
  refine W_seq ?_
  refine W_region ?_
  refine WR_val rfl (rn_move) ?_
  refine WR_val rfl (rn_not rfl) ?_
  refine WR_val rfl (rn_assign) ?_
  refine WR_nil ?_
  refine thenN ?_
  refine W_fnb rfl (rfl) ?_
  refine W_seq ?_
  refine W_region ?_
  refine WR_val rfl (rn_load rfl (Ld.rowA (k := 3) hr6 (by kernel_rfl) (by kernel_rfl) (by first | (simp; done) | (simp [bv_length, *]; done) | assumption))) ?_
  refine WR_val rfl (rn_move) ?_
  refine WR_ent rfl (rn_call (by kernel_rfl) rfl) (h26 p c vs w901 _ _ hv.own.sl hv.slts) ?_
  rintro _ w20 ⟨rfl, hb20⟩
  replace hr2 := hr2.new hb20
  replace hr4 := hr4.new hb20
  replace hv := hv.new hb20
  replace hr6 := hr6.new hb20
  replace hB := hB.acc hb20
  refine WR_val rfl (rn_not rfl) ?_
  refine WR_val rfl (rn_assign) ?_
  refine WR_nil ?_
  refine thenN ?_
  refine W_tnb rfl (rfl) ?_
  refine W_seq ?_
  refine W_region ?_
  refine WR_val rfl (rn_zeroed (bv Z) (by rw [← hzb]; kernel_rfl)) ?_
  refine WR_sk rfl (sk_storeA 512 (bv Z) rfl rfl hr4 (by kernel_rfl) (by first | assumption | (simp; done) | (simp [bv_length, *]; done)) (by first | assumption | (simp; done) | (simp [bv_length, *]; done) | rfl) (by first | exact bv_one _ | assumption | (simp [Value.oneCell']; done)) (fun w902 hr4 ho902 => ?_))
  replace hr2 := hr2.only ho902 (Nat.ne_of_lt lt_g2_g4)
  replace hr6 := hr6.only ho902 (Nat.ne_of_gt lt_g4_g6)
  replace hB := ho902.below hB ge_hB_g4
  refine WR_val rfl (rn_assign) ?_
  refine WR_nil ?_
  refine thenN ?_
  refine W_ret ?_
  refine blockR ?_
  refine thenR ?_
  refine ret_ret [_, _] ⟨⟨_, rfl, Ld.rowA (k := 512) hr4 (by kernel_rfl) (by kernel_rfl) (by first | (simp; done) | (simp [bv_length, *]; done) | assumption)⟩, rfl, trivial⟩ ?_
  exact ⟨rfl, hB⟩
set_option maxHeartbeats 2000000 in
theorem take11b (V : View) (i : Nat) (r : List UInt8) (w : World) (hV : Good V) (hi : V.slots[i]? = some (some r)) : Calls Try.prog 11 [.agg (bv (bytesV V)).toArray, .int .i64 (i : Int)].toArray w
    (Ret fun v w' => v = .tuple #[.agg (bv (bytesV (wtV V i))).toArray, .int .i64 0] ∧ Below w.heap.size w w') := by
  have hB := Below.refl w.heap.size w
  have hml : maxLen = 9223372036854775807 := by decide
  have hR := read22' V
  have hbl := bytes_len hV
  have hil := (List.getElem?_eq_some_iff.1 hi).1
  have hws := wtV_size V i
  have hVs := hV.size
  have hVs2 := hV.size
  unfold sizeV at hVs2
  have hkd := hV.kind
  have hnx := hV.next
  have hql : (bv (bytesV (wtV V i))).length = 512 := by rw [bv_length]; exact bytesV_len _ (by omega)
  have hPg := fun w' p c vs lo o h1 h2 => page21 (wtV V i) p c vs w' lo o h1 h2 (by show V.kind < 256; omega) hnx (by omega)
  obtain ⟨T, hT⟩ : ∃ T, trimS (V.slots.set i none) = T := ⟨_, rfl⟩
  have hT2 : (wtV V i).slots = T := hT
  rw [hT2] at hPg
  generalize bytesV (wtV V i) = Y at hPg hql ⊢
  generalize bytesV V = Q at hR hbl ⊢
  obtain ⟨Z, hzz, hzb, hzl⟩ := zeroQ
  clear hzz
  have h26 := fun p c vs w lo o h1 h2 => has26 V p c vs (i : Int) w lo o h1 h2
  rw [hasV_of hi] at h26
  refine calls_W (fn := Try.f11) (rs := [.cell 4 23, .tmp 5]) (n := 52) Try.func11 rfl rfl Try.ntmps11 (by kernel_rfl) rfl ?_
  refine W_seq ?_
  refine W_region ?_
  refine WR_mk rfl (mk_box ((bv Q)) rfl (fun g2 w2 hg2 hr2 hb2 => ?_))
  have ge_hB_g2 := Nat.le_trans hB.size hg2
  replace hB := hB.acc hb2
  refine WR_mk rfl (mk_alloc (List.replicate 512 (Value.int .u8 0)) (by kernel_rfl) (fun g4 w4 hg4 hr4 hb4 => ?_))
  have ge_hB_g4 := Nat.le_trans hB.size hg4
  have lt_g2_g4 : g2 < g4 := Nat.lt_of_lt_of_le hr2.lt hg4
  replace hr2 := hr2.new hb4
  replace hB := hB.acc hb4
  rw [hzb] at hr4
  refine WR_val rfl (rn_assign) ?_
  refine WR_nil ?_
  refine thenN ?_
  refine W_seq ?_
  refine W_region ?_
  refine WR_val rfl (rn_load rfl (Ld.rowA (k := 512) hr2 (by kernel_rfl) (by kernel_rfl) (by first | (simp; done) | (simp [bv_length, *]; done) | assumption))) ?_
  have hszlo := hB.size
  have l4 := hr4.lt
  have hBr := Below.refl w4.heap.size w4
  refine WR_ent rfl (rn_call (by kernel_rfl) rfl) (hR w4 hV) ?_
  rintro _ w10 ⟨p, c, vs, rfl, hv, hb10⟩
  replace hr2 := hr2.new hb10
  replace hr4 := hr4.new hb10
  replace hB := hB.acc hb10
  replace hBr := hBr.acc hb10
  refine WR_val rfl (rn_move) ?_
  refine WR_val rfl (rn_extract rfl rfl) ?_
  refine WR_val rfl (rn_extract rfl rfl) ?_
  have hv0 := hv
  refine WR_mk rfl (mk_alloc ([Value.int .i64 0, Value.int .i64 0, Value.slice none 0 0]) (by kernel_rfl) (fun g6 w6 hg6 hr6 hb6 => ?_))
  have ge_hB_g6 := Nat.le_trans hB.size hg6
  have ge_hBr_g6 := Nat.le_trans hBr.size hg6
  have lt_g2_g6 : g2 < g6 := Nat.lt_of_lt_of_le hr2.lt hg6
  have lt_g4_g6 : g4 < g6 := Nat.lt_of_lt_of_le hr4.lt hg6
  replace hr2 := hr2.new hb6
  replace hr4 := hr4.new hb6
  replace hv := hv.new hb6
  replace hB := hB.acc hb6
  replace hBr := hBr.acc hb6
  replace hv := (hv0.cons hg6).new hb6
  refine WR_sk rfl (sk_storeA 3 (vw V p c) rfl rfl hr6 (by kernel_rfl) (by first | assumption | (simp; done) | (simp [bv_length, *]; done)) (by first | assumption | (simp; done) | (simp [bv_length, *]; done) | rfl) (by first | exact bv_one _ | assumption | (simp [Value.oneCell']; done)) (fun w901 hr6 ho901 => ?_))
  replace hr2 := hr2.only ho901 (Nat.ne_of_lt lt_g2_g6)
  replace hr4 := hr4.only ho901 (Nat.ne_of_lt lt_g4_g6)
  replace hv := hv.only ho901 (by simp)
  replace hB := ho901.below hB ge_hB_g6
  replace hBr := ho901.below hBr ge_hBr_g6
  refine WR_val rfl (rn_assign) ?_
  refine WR_nil ?_
  refine thenN ?_
  refine W_seq ?_
  refine W_block ?_
  refine W_seq ?_
  refine W_region ?_
  refine WR_val rfl (rn_move) ?_
  refine WR_val rfl (rn_not rfl) ?_
  refine WR_val rfl (rn_assign) ?_
  refine WR_nil ?_
  refine thenN ?_
  refine W_fnb rfl (rfl) ?_
  refine W_seq ?_
  refine W_region ?_
  refine WR_val rfl (rn_load rfl (Ld.rowA (k := 3) hr6 (by kernel_rfl) (by kernel_rfl) (by first | (simp; done) | (simp [bv_length, *]; done) | assumption))) ?_
  refine WR_val rfl (rn_move) ?_
  refine WR_ent rfl (rn_call (by kernel_rfl) rfl) (h26 p c vs w901 _ _ hv.own.sl hv.slts) ?_
  rintro _ w20 ⟨rfl, hb20⟩
  replace hr2 := hr2.new hb20
  replace hr4 := hr4.new hb20
  replace hv := hv.new hb20
  replace hr6 := hr6.new hb20
  replace hB := hB.acc hb20
  replace hBr := hBr.acc hb20
  refine WR_val rfl (rn_not rfl) ?_
  refine WR_val rfl (rn_assign) ?_
  refine WR_nil ?_
  refine thenN ?_
  refine W_fnb rfl (rfl) ?_
  refine W_skip ?_
  refine blockN ?_
  refine thenN ?_
  refine W_seq ?_
  refine W_region ?_
  refine WR_val rfl (rn_fieldAddr (off := 2) (by kernel_rfl) rfl) ?_
  refine WR_val rfl (rn_load rfl (Ld.row1 hr6 (by kernel_rfl) rfl)) ?_
  have hsm := hv.some (by omega)
  obtain ⟨g, o, rfl, hBg, hgl⟩ := hsm
  have hne6 : g ≠ g6 := fun e => hv.ne g6 (by simp) (by rw [e]; rfl)
  have hG : OwnG w20 w4.heap.size 29 1 g o V.slots.length c vs := hv.own
  have hs : SltsAt w20 w4.heap.size [g, g6] vs V.slots := hv.slts
  have hvl := hv.len
  refine WR_val rfl (rn_move) ?_
  refine WR_val rfl (rn_indexSl1 (e := 29) (by kernel_rfl) rfl rfl (i) (by omega) (by omega)) ?_
  refine WR_sk rfl (sk_storeO ([.slice none 0 0]) (i) hG rfl rfl (by kernel_rfl) (by first | (simp only [iv_length, List.length_cons, List.length_nil]; omega) | omega | (simp; omega)) (by simp [Value.oneCell']) (fun w902 hG ho902 => ?_))
  replace hr4 := hr4.only ho902 (by omega)
  replace hr6 := hr6.only ho902 (by omega)
  replace hs := hs.only ho902 (by simp)
  replace hB := ho902.below hB (by omega)
  replace hBr := ho902.below hBr (by omega)
  rw [splice_set (by omega)] at hG
  replace hs := hs.setN (i := i)
  refine WR_nil ?_
  refine thenN ?_
  refine W_seq ?_
  refine W_block ?_
  obtain ⟨S2, hS2⟩ : ∃ S2, V.slots.set i none = S2 := ⟨_, rfl⟩
  obtain ⟨v2, hv2⟩ : ∃ v2, vs.set i (.slice none 0 0) = v2 := ⟨_, rfl⟩
  obtain ⟨n, hn⟩ : ∃ n, V.slots.length = n := ⟨_, rfl⟩
  rw [hn] at hVs2
  have hS2l : S2.length = n := by rw [← hS2, List.length_set, hn]
  have hv2l : v2.length = n := by rw [← hv2, List.length_set, hvl, hn]
  rw [hS2] at hs hT
  rw [hv2] at hs hG
  rw [hn] at hG
  replace hr6 : row w902 g6 [.int .i64 (V.kind : Int), .int .i64 (V.next : Int), .slice (some ⟨g, o, none⟩) n c] 48 := by rw [← hn]; exact hr6
  clear hv0 h26 hR hv
  refine W_loop (α := Nat) n (fun _ => [(6, .pointer (some ⟨g6, 0, none⟩)), (4, .pointer (some ⟨g4, 0, none⟩))])
    (fun m w' => m ≤ n ∧ trimS (S2.take m) = T ∧ row w' g6 [.int .i64 (V.kind : Int), .int .i64 (V.next : Int), .slice (some ⟨g, o, none⟩) m c] 48 ∧ row w' g4 (bv Z) 23 ∧ OwnG w' w4.heap.size 29 1 g o m c (v2.take m) ∧ SltsAt w' w4.heap.size [g, g6] (v2.take m) (S2.take m) ∧ Below w.heap.size w w') (fun m => m)
    ⟨rfl, rfl, rfl⟩ ⟨Nat.le_refl _, by rw [List.take_of_length_le (by omega)]; exact hT, hr6, hr4, by rw [List.take_of_length_le (by omega)]; exact hG, by rw [List.take_of_length_le (by omega), List.take_of_length_le (by omega)]; exact hs, hB⟩ ?_
  clear hr4 hr6 hG hs hB
  rintro m f wr ⟨hm, htr, hr6, hr4, hG, hs, hB⟩
  have hcl := hG.len
  refine W_seq ?_
  refine W_seq ?_
  refine W_region ?_
  refine WR_val rfl (rn_fieldAddr (off := 2) (by kernel_rfl) rfl) ?_
  refine WR_val rfl (rn_load rfl (Ld.row1 hr6 (by kernel_rfl) rfl)) ?_
  refine WR_val rfl (rn_lenSl (e := 29) (sz := 1) (by kernel_rfl) rfl rfl) ?_
  refine WR_val rfl (rn_gtr rfl rfl) ?_
  refine WR_val rfl (rn_move) ?_
  refine WR_part 31 rfl (fun hm0 => ?_) (fun hm0 => ?_)
  ·
    refine WR_yes rfl ?_
    refine WR_val rfl (rn_fieldAddr (off := 2) (by kernel_rfl) rfl) ?_
    refine WR_yes rfl ?_
    have hobt : ∃ s, (S2.take m)[m - 1]? = some s := ⟨_, List.getElem?_eq_getElem (by rw [List.length_take]; omega)⟩
    obtain ⟨s, hsi⟩ := hobt
    have hvv := hs.val hsi
    obtain ⟨q, cq, hv1, hq, hqn⟩ := hvv
    have hsp : S2.take m = S2.take (m - 1) ++ [s] := by
      rw [List.getElem?_take_of_lt (by omega)] at hsi
      conv => lhs; rw [show m = m - 1 + 1 by omega]
      rw [List.take_add_one, hsi]; rfl
    have hmf := ownsAt.form' hG (by omega)
    obtain ⟨_, _, cc, e0, _, _, hmc⟩ := hmf
    injection e0 with _ _ e3
    rw [← e3] at hmc
    refine WR_val rfl (rn_load rfl (Ld.row1 hr6 (by kernel_rfl) rfl)) ?_
    refine WR_yes rfl ?_
    refine WR_val rfl (rn_fieldAddr (off := 2) (by kernel_rfl) rfl) ?_
    refine WR_yes rfl ?_
    refine WR_val rfl (rn_load rfl (Ld.row1 hr6 (by kernel_rfl) rfl)) ?_
    refine WR_yes rfl ?_
    refine WR_val rfl (rn_lenSl (e := 29) (sz := 1) (by kernel_rfl) rfl rfl) ?_
    refine WR_yes rfl ?_
    refine WR_val rfl (rn_sub rfl rfl (Coup.w64 (by omega))) ?_
    refine WR_yes rfl ?_
    refine WR_val rfl (rn_indexSl1 (e := 29) (by kernel_rfl) rfl rfl (m - 1) (by omega) (by omega)) ?_
    refine WR_yes rfl ?_
    refine WR_val rfl (rn_load rfl (Ld.sl1 hG.sl (by kernel_rfl) hv1)) ?_
    refine WR_yes rfl ?_
    refine WR_val rfl (rn_eqlNil (e := 5) (by kernel_rfl) rfl rfl) ?_
    refine WR_val rfl (rn_pick_t rfl) ?_
    refine WR_nil ?_
    refine thenN ?_
    refine W_if rfl (fun hq0 => ?_) (fun hq0 => ?_)
    ·
      refine W_skip ?_
      refine thenN ?_
      refine W_block ?_
      refine W_region ?_
      refine WR_val rfl (rn_fieldAddr (off := 2) (by kernel_rfl) rfl) ?_
      refine WR_val rfl (rn_load rfl (Ld.row1 hr6 (by kernel_rfl) rfl)) ?_
      refine WR_val rfl (rn_fieldAddr (off := 2) (by kernel_rfl) rfl) ?_
      refine WR_val rfl (rn_load rfl (Ld.row1 hr6 (by kernel_rfl) rfl)) ?_
      refine WR_val rfl (rn_lenSl (e := 29) (sz := 1) (by kernel_rfl) rfl rfl) ?_
      refine WR_val rfl (rn_sub rfl rfl (Coup.w64 (by omega))) ?_
      refine WR_val rfl (rn_sliceUp (e := 29) (sz := 1) (m - 1) (by kernel_rfl) rfl ⟨_, _, rfl, by omega⟩ (by omega)) ?_
      refine WR_val rfl (rn_fieldAddr (off := 2) (by kernel_rfl) rfl) ?_
      refine WR_sk rfl (sk_store1 rfl rfl rfl rfl hr6 (by kernel_rfl) (by first | (simp only [List.length_replicate]; omega) | (simp only [iv_length]; omega) | (simp only [bv_length, List.length_set]; omega) | simp) (fun w903 hr6 ho903 => ?_))
      replace hr4 := hr4.only ho903 (Nat.ne_of_lt lt_g4_g6)
      replace hG := hG.only ho903 (by omega)
      replace hs := hs.only ho903 (by simp)
      replace hB := ho903.below hB ge_hB_g6
      refine WR_nil ?_
      refine blockN ?_
      have hs0 : s = none := by rw [hqn]; cases q with | none => rfl | some a => simp at hq0
      subst hs0
      have hGc := ownsAt.cut hG (m - 1) (by omega)
      have hsc := hs.cutS (i := m - 1) (by rw [List.length_take]; omega)
      rw [Nat.mul_one, List.take_take, Nat.min_eq_left (by omega)] at hGc
      rw [List.take_take, List.take_take, Nat.min_eq_left (by omega)] at hsc
      refine loopN ⟨m - 1, by omega, ⟨rfl, rfl, rfl⟩, by omega, by rw [← htr, hsp, trimS_no], hr6, hr4, hGc, hsc, hB⟩
    ·
      obtain ⟨r1, rfl⟩ : ∃ r, s = some r := by
        cases s with
        | none => rw [hqn.1 rfl] at hq0; simp at hq0
        | some r => exact ⟨r, rfl⟩
      have hTm : T = S2.take m := by rw [← htr, hsp, trimS_yes]
      have hTl : T.length = m := by rw [hTm, List.length_take]; omega
      rw [hTl] at hPg
      rw [← hTm] at hs
      refine W_exit ?_
      refine thenX ?_
      refine loopX ?_
      refine blockX ?_
      refine thenN ?_
      refine W_seq ?_
      refine W_region ?_
      refine WR_val rfl (rn_load rfl (Ld.rowA (k := 3) hr6 (by kernel_rfl) (by kernel_rfl) (by first | (simp; done) | (simp [bv_length, *]; done) | assumption))) ?_
      refine WR_ent rfl (rn_call (by kernel_rfl) rfl) (hPg wr (some ⟨g, o, none⟩) c _ _ _ hG.sl hs) ?_
      rintro _ w51 ⟨rfl, hb51⟩
      replace hr4 := hr4.new hb51
      replace hr6 := hr6.new hb51
      replace hG := hG.new hb51
      replace hs := hs.new hb51
      replace hB := hB.acc hb51
      refine WR_sk rfl (sk_storeA 512 (bv Y) rfl rfl hr4 (by kernel_rfl) (by first | assumption | (simp; done) | (simp [bv_length, *]; done)) (by first | assumption | (simp; done) | (simp [bv_length, *]; done) | rfl) (by first | exact bv_one _ | assumption | (simp [Value.oneCell']; done)) (fun w904 hr4 ho904 => ?_))
      replace hr6 := hr6.only ho904 (Nat.ne_of_gt lt_g4_g6)
      replace hB := ho904.below hB ge_hB_g4
      refine WR_val rfl (rn_assign) ?_
      refine WR_nil ?_
      refine thenN ?_
      refine W_ret ?_
      refine ret_ret [_, _] ⟨⟨_, rfl, Ld.rowA (k := 512) hr4 (by kernel_rfl) (by kernel_rfl) (by first | (simp; done) | (simp [bv_length, *]; done) | assumption)⟩, rfl, trivial⟩ ?_
      exact ⟨rfl, hB⟩
  ·
    obtain rfl : m = 0 := by omega
    have hTm : T = S2.take 0 := by rw [← htr]; rfl
    have hTl : T.length = 0 := by rw [hTm]; rfl
    rw [hTl] at hPg
    rw [← hTm] at hs
    refine WR_no rfl rfl ?_
    refine WR_no rfl rfl ?_
    refine WR_no rfl rfl ?_
    refine WR_no rfl rfl ?_
    refine WR_no rfl rfl ?_
    refine WR_no rfl rfl ?_
    refine WR_no rfl rfl ?_
    refine WR_no rfl rfl ?_
    refine WR_no rfl rfl ?_
    refine WR_val rfl (rn_pick_f rfl) ?_
    refine WR_nil ?_
    refine thenN ?_
    refine W_f rfl ?_
    refine W_exit ?_
    refine thenX ?_
    refine loopX ?_
    refine blockX ?_
    refine thenN ?_
    refine W_seq ?_
    refine W_region ?_
    refine WR_val rfl (rn_load rfl (Ld.rowA (k := 3) hr6 (by kernel_rfl) (by kernel_rfl) (by first | (simp; done) | (simp [bv_length, *]; done) | assumption))) ?_
    refine WR_ent rfl (rn_call (by kernel_rfl) rfl) (hPg wr (some ⟨g, o, none⟩) c _ _ _ hG.sl hs) ?_
    rintro _ w51 ⟨rfl, hb51⟩
    replace hr4 := hr4.new hb51
    replace hr6 := hr6.new hb51
    replace hG := hG.new hb51
    replace hs := hs.new hb51
    replace hB := hB.acc hb51
    refine WR_sk rfl (sk_storeA 512 (bv Y) rfl rfl hr4 (by kernel_rfl) (by first | assumption | (simp; done) | (simp [bv_length, *]; done)) (by first | assumption | (simp; done) | (simp [bv_length, *]; done) | rfl) (by first | exact bv_one _ | assumption | (simp [Value.oneCell']; done)) (fun w905 hr4 ho905 => ?_))
    replace hr6 := hr6.only ho905 (Nat.ne_of_gt lt_g4_g6)
    replace hB := ho905.below hB ge_hB_g4
    refine WR_val rfl (rn_assign) ?_
    refine WR_nil ?_
    refine thenN ?_
    refine W_ret ?_
    refine ret_ret [_, _] ⟨⟨_, rfl, Ld.rowA (k := 512) hr4 (by kernel_rfl) (by kernel_rfl) (by first | (simp; done) | (simp [bv_length, *]; done) | assumption)⟩, rfl, trivial⟩ ?_
    exact ⟨rfl, hB⟩
theorem take11 (V : View) (k : Int) (w : World) (hV : Good V) : Calls Try.prog 11 [.agg (bv (bytesV V)).toArray, .int .i64 k].toArray w
    (Ret fun v w' => v = .tuple #[.agg (bv (takeP V k)).toArray, .int .i64 (if hasV V.slots k then 0 else 6)] ∧ Below w.heap.size w w') := by
  cases hk : hasV V.slots k with
  | false => rw [takeP, hk]; exact take11a V k w hV hk
  | true =>
    obtain ⟨i, r, rfl, hi⟩ := hasV_some hk
    rw [takeP, hk, if_pos rfl, Int.toNat_natCast]
    exact take11b V i r w hV hi
end Go.Proofs.Ytjdcopfnhkfimaa
