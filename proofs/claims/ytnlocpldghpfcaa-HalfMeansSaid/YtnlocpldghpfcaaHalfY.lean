/- A row is read as it is, whatever stands behind it; of a mixture one row is told whole, or none: the law HalfMeans. -/
import Derived.Test.YtnlocpldghpfcaaHalfX
namespace Go.Proofs.Ytnlocpldghpfcaa
open Go Go.RowKit Coup

set_option maxHeartbeats 4000000 in
theorem meansC (p : Option Addr) (n cp : Nat) (R : List RowD) (p2 : Option Addr) (n2 cp2 : Nat) (picks : List Int) (p3 : Option Addr) (nb cb : Nat) (lb : List UInt8) (w : World)
    (h : RowsAt w p n R) (hp : SlAt w p2 n2 1 (iv picks)) (hok : okI picks) (hbh : SlAt w p3 nb 128 (bv lb)) :
    Calls Try.prog 4 [.slice p n cp, .slice p2 n2 cp2, .slice p3 nb cb].toArray w (Ret fun v w' => v = .bool true ∧ Below w.heap.size w w') := by
  have hB := Below.refl w.heap.size w
  have hRl := h.1
  have hpl : picks.length = n2 := by simpa [iv_length] using hp.len
  have hlb : lb.length = nb * 128 := by simpa [bv_length] using hbh.len
  have hml : maxLen = 9223372036854775807 := by decide
  refine calls_W (fn := Try.f4) (rs := [.tmp 6]) (n := 166) Try.func4 rfl rfl Try.ntmps4 (by kernel_rfl) rfl ?_
  refine W_seq ?_
  refine W_region ?_
  refine WR_val rfl (rn_assign) ?_
  refine WR_nil ?_
  refine thenN ?_
  refine W_seq ?_
  refine W_seq ?_
  refine W_region ?_
  refine WR_val rfl (rn_move) ?_
  refine WR_ent rfl (rn_call (by kernel_rfl) rfl) (rowsC p n cp R w h) ?_
  rintro _ w22 ⟨B, rfl, hgood, hb22⟩
  replace hB := hB.acc hb22
  refine WR_val rfl (rn_not rfl) ?_
  refine WR_val rfl (rn_move) ?_
  refine WR_partnb 24 rfl (fun hb => ?_) (fun hb => ?_)
  ·
    refine WR_no rfl rfl ?_
    refine WR_no rfl rfl ?_
    refine WR_no rfl rfl ?_
    refine WR_val rfl (rn_pick_t rfl) ?_
    refine WR_nil ?_
    refine thenN ?_
    refine W_t rfl ?_
    refine W_seq ?_
    refine W_region ?_
    refine WR_ent rfl (rn_call (by kernel_rfl) rfl) (knownC w22) ?_
    rintro _ w29 ⟨rfl, hb29⟩
    replace hB := hB.acc hb29
    refine WR_val rfl (rn_assign) ?_
    refine WR_nil ?_
    refine thenN ?_
    refine W_ret ?_
    refine thenR ?_
    refine ret_ret [_] ⟨rfl, trivial⟩ ?_
    exact ⟨rfl, hB⟩
  ·
    have hG := hgood hb
    have hfew := hG.few
    refine WR_yes rfl ?_
    refine WR_val rfl (rn_move) ?_
    refine WR_yes rfl ?_
    refine WR_val rfl (rn_lenSl (e := 48) (sz := 128) (by kernel_rfl) rfl rfl) ?_
    refine WR_yes rfl ?_
    refine WR_val rfl (rn_gtr rfl rfl) ?_
    refine WR_val rfl (rn_pick_f rfl) ?_
    refine WR_nil ?_
    refine thenN ?_
    refine W_ifp rfl (fun hbig => ?_) (fun hbig => ?_)
    ·
      refine W_seq ?_
      refine W_region ?_
      refine WR_ent rfl (rn_call (by kernel_rfl) rfl) (knownC w22) ?_
      rintro _ w29 ⟨rfl, hb29⟩
      replace hB := hB.acc hb29
      refine WR_val rfl (rn_assign) ?_
      refine WR_nil ?_
      refine thenN ?_
      refine W_ret ?_
      refine thenR ?_
      refine ret_ret [_] ⟨rfl, trivial⟩ ?_
      exact ⟨rfl, hB⟩
    ·
      refine W_skip ?_
      refine thenN ?_
      refine W_seq ?_
      refine W_seq ?_
      refine W_region ?_
      refine WR_val rfl (rn_assign) ?_
      refine WR_nil ?_
      refine thenN ?_
      refine W_block ?_
      refine W_loop (α := Nat) 0 (fun k => [(7, .int .i64 (k : Nat)), (2, .slice p3 nb cb), (1, .slice p2 n2 cp2), (0, .slice p n cp)])
        (fun k w' => k ≤ n ∧ Below w.heap.size w w') (fun k => n - k) ⟨rfl, rfl, rfl, rfl, rfl⟩ ⟨Nat.zero_le _, hB⟩ ?_
      rintro i f wr ⟨hi, hB⟩
      have hBi := Below.refl wr.heap.size wr
      have hszr := hB.size
      refine W_seq ?_
      refine W_seq ?_
      refine W_region ?_
      refine WR_val rfl (rn_move) ?_
      refine WR_val rfl (rn_move) ?_
      refine WR_val rfl (rn_lenSl (e := 40) (sz := 3) (by kernel_rfl) rfl rfl) ?_
      refine WR_val rfl (rn_lss rfl rfl) ?_
      refine WR_nil ?_
      refine thenN ?_
      refine W_ifp rfl (fun hlt => ?_) (fun hlt => ?_)
      ·
        refine W_skip ?_
        refine thenN ?_
        refine W_seq ?_
        refine W_block ?_
        refine W_seq ?_
        have hobt := h.get (i := i) (by omega)
        obtain ⟨c, k, l, hx⟩ := hobt
        have hobt := h.some (by omega)
        obtain ⟨g, o, rfl, hg⟩ := hobt
        have hobt := h.ldS hx
        obtain ⟨q, qc, hld, hq⟩ := hobt
        have hobt := hG.ok i _ hx
        obtain ⟨hm, hl3⟩ := hobt
        simp only at hm hl3
        have hmb := may_bounds hm
        have hobt : ∃ z : Nat, c = z := ⟨c.toNat, by omega⟩
        obtain ⟨c', rfl⟩ := hobt
        have hobt : ∃ z : Nat, k = z := ⟨k.toNat, by omega⟩
        obtain ⟨k', rfl⟩ := hobt
        refine W_draw' [] (by kernel_rfl) ?_
        intro w901 hb901 hS901
        replace hB := hB.acc hb901
        replace hBi := hBi.acc hb901
        have hB_d901 := hB
        have hBi_d901 := hBi
        refine WA_take 0 (by kernel_rfl) rfl (fun _ _ => rn_move) ?_
        refine WA_take 1 (by kernel_rfl) rfl (fun _ _ => rn_move) ?_
        refine WA_take 2 (by kernel_rfl) rfl (fun _ _ => rn_indexSl (e := 40) (sz := 3) (by kernel_rfl) rfl rfl (i) (by omega) (by omega)) ?_
        refine WA_take 3 (by kernel_rfl) rfl (fun _ _ => rn_fieldAddr (off := 0) (by kernel_rfl) rfl) ?_
        refine WA_take 4 (by kernel_rfl) rfl (fun w' hS' => rn_load rfl ((h.below (hB_d901.kpd hS' (by first | (simp; done) | (simp; omega)))).ldT hx)) ?_
        refine WA_take 5 (by kernel_rfl) rfl (fun _ _ => rn_move) ?_
        refine WA_take 6 (by kernel_rfl) rfl (fun _ _ => rn_move) ?_
        refine WA_take 7 (by kernel_rfl) rfl (fun _ _ => rn_indexSl (e := 40) (sz := 3) (by kernel_rfl) rfl rfl (i) (by omega) (by omega)) ?_
        refine WA_take 8 (by kernel_rfl) rfl (fun _ _ => rn_fieldAddr (off := 2) (by kernel_rfl) rfl) ?_
        refine WA_take 9 (by kernel_rfl) rfl (fun w' hS' => rn_load rfl (hld _ (hB_d901.kpd hS' (by first | (simp; done) | (simp; omega))))) ?_
        refine WA_one 10 (by kernel_rfl) ?_
        refine WO_ent rfl rfl (rn_call (by kernel_rfl) rfl) (split_yes c' k' hm l q l.length qc w901 (hq.below hB (Nat.le_refl _)) (by omega)) ?_
        rintro _ w47 ⟨gr, rfl, hgr, hrr, hb47⟩
        have ge_hS901_gr := Nat.le_trans hS901.size hgr
        have ge_hB_gr := Nat.le_trans hB.size hgr
        have ge_hBi_gr := Nat.le_trans hBi.size hgr
        have hS902 := hS901.add0 hb47
        refine ⟨hS902, ?_⟩
        replace hB := hB.acc hb47
        replace hBi := hBi.acc hb47
        refine WA_take 11 (by kernel_rfl) rfl (fun _ _ => rn_move) ?_
        refine WA_take 12 (by kernel_rfl) rfl (fun _ _ => rn_extract rfl rfl) ?_
        refine WA_take 13 (by kernel_rfl) rfl (fun _ _ => rn_extract rfl rfl) ?_
        refine WA_take 14 (by kernel_rfl) rfl (fun _ _ => rn_assign) ?_
        refine WA_take 15 (by kernel_rfl) rfl (fun _ _ => rn_assign) ?_
        refine WA_done (by kernel_rfl) ?_
        refine thenN ?_
        refine W_seq ?_
        refine W_region ?_
        refine WR_val rfl (rn_move) ?_
        have hrl := rowB_len c' k' l
        have hnb : needN l.length ≤ 32 := by unfold needN manyN; omega
        have hsr := hrr.slA (m := needN l.length) (sz := 128) (by rw [bv_length, hrl]; omega) (by unfold maxLen; omega)
        have sz47 := hB.size
        refine WR_mk rfl (mk_append (e := 48) (sz := 128) (bytes := 128) (z := .agg (List.replicate 128 (Value.int .u8 0)).toArray) (by kernel_rfl) rfl (by kernel_rfl) rfl (by decide) rfl (ownsAt_nil w47 w47.heap.size 48 128) rfl hsr (bv_one _) (by unfold maxLen; omega) (by omega) (fun _ => Nat.le_refl _) (fun v52 w52 hv52 hgr52 hfr52 => ?_))
        have hb52 := below_of_nil hgr52
        replace hrr := hrr.new hb52
        replace hB := hB.acc hb52
        refine WR_val rfl (rn_move) ?_
        have sz52 := hgr52.size
        have hsb := hbh.below hB (Nat.le_refl _)
        have sz_hB_54 := hB.size
        refine WR_mk rfl (mk_append (e := 48) (sz := 128) (bytes := 128) (z := .agg (List.replicate 128 (Value.int .u8 0)).toArray) (by kernel_rfl) rfl (by kernel_rfl) rfl (by decide) rfl hv52 rfl hsb (bv_one _) (by unfold maxLen; omega) (by omega) (fun hm0 => by omega) (fun v54 w54 hv54 hgr54 hfr54 => ?_))
        replace hB := hB.own hv52 hgr54 (by omega)
        obtain ⟨q54, c54, rfl⟩ := hv54.form
        have hs54 := hv54.sl
        have hl54 : (rowB c' k' l ++ lb).length = (0 + needN l.length + nb) * 128 := by rw [List.length_append, hrl, hlb]; omega
        have hT := told_row c' k' l lb (0 + needN l.length + nb) hm (by omega) (by omega) hl54
        rw [List.nil_append, ← bv_append] at hs54
        refine WR_ent rfl (rn_call (by kernel_rfl) rfl) (joinYes _ _ c54 c' k' l (rowB c' k' l ++ lb) w54 hs54 (by omega) hT) ?_
        rintro _ w55 ⟨sp, rfl, hsp, hb55⟩
        replace hB := hB.acc hb55
        have hBk := Below.refl w55.heap.size w55
        refine WR_val rfl (rn_move) ?_
        refine WR_val rfl (rn_extract rfl rfl) ?_
        refine WR_val rfl (rn_extract rfl rfl) ?_
        refine WR_val rfl (rn_extract rfl rfl) ?_
        refine WR_val rfl (rn_extract rfl rfl) ?_
        refine WR_mk rfl (mk_alloc ([Value.int .u64 0, Value.int .i64 0]) (by kernel_rfl) (fun g10 w10 hg10 hr10 hb10 => ?_))
        have ge_hB_g10 := Nat.le_trans hB.size hg10
        have ge_hBk_g10 := Nat.le_trans hBk.size hg10
        replace hB := hB.acc hb10
        replace hBk := hBk.acc hb10
        refine WR_sk rfl (sk_storeA 2 ([.int .u64 c', .int .i64 k']) rfl rfl hr10 (by kernel_rfl) (by first | assumption | (simp; done) | (simp [bv_length, *]; done)) (by first | (simp; done) | (simp [bv_length, *]; done) | rfl) (by first | exact bv_one _ | assumption | (simp [Value.oneCell']; done)) (fun w903 hr10 ho903 => ?_))
        replace hB := ho903.below hB ge_hB_g10
        replace hBk := ho903.below hBk ge_hBk_g10
        refine WR_val rfl (rn_assign) ?_
        refine WR_val rfl (rn_assign) ?_
        refine WR_val rfl (rn_assign) ?_
        refine WR_nil ?_
        refine thenN ?_
        refine W_seq ?_
        refine W_draw' [] (by kernel_rfl) ?_
        intro w904 hb904 hS904
        replace hr10 := hr10.new hb904
        replace hB := hB.acc hb904
        replace hBk := hBk.acc hb904
        have hr10_d904 := hr10
        have hB_d904 := hB
        have hBk_d904 := hBk
        refine WA_take 0 (by kernel_rfl) rfl (fun _ _ => rn_move) ?_
        refine WA_take 1 (by kernel_rfl) rfl (fun _ _ => rn_neq rfl rfl) ?_
        refine WA_take 2 (by kernel_rfl) rfl (fun _ _ => rn_move) ?_
        refine WA_fp 62 rfl ((by decide)) ?_
        refine WA_take 3 (by kernel_rfl) rfl (fun _ _ => rn_move) ?_
        refine WA_take 4 (by kernel_rfl) rfl (fun _ _ => rn_neq rfl rfl) ?_
        refine WA_take 5 (by kernel_rfl) rfl (fun _ _ => rn_pick_f rfl) ?_
        refine WA_take 6 (by kernel_rfl) rfl (fun _ _ => rn_move) ?_
        refine WA_fp 66 rfl ((by decide)) ?_
        refine WA_take 7 (by kernel_rfl) rfl (fun w' hS' => rn_load rfl (Ld.rowA (k := 2) (hr10_d904.kpd hS' (by first | (simp; done) | (simp; omega))) (by kernel_rfl) (by kernel_rfl) rfl)) ?_
        refine WA_take 8 (by kernel_rfl) rfl (fun _ _ => rn_move) ?_
        refine WA_take 9 (by kernel_rfl) rfl (fun _ _ => rn_move) ?_
        refine WA_take 10 (by kernel_rfl) rfl (fun _ _ => rn_indexSl (e := 40) (sz := 3) (by kernel_rfl) rfl rfl (i) (by omega) (by omega)) ?_
        refine WA_take 11 (by kernel_rfl) rfl (fun _ _ => rn_fieldAddr (off := 0) (by kernel_rfl) rfl) ?_
        refine WA_take 12 (by kernel_rfl) rfl (fun w' hS' => rn_load rfl ((h.below (hB_d904.kpd hS' (by first | (simp; done) | (simp; omega)))).ldT hx)) ?_
        refine WA_take 13 (by kernel_rfl) rfl (fun _ _ => rn_neqP (k0 := .u64) (k1 := .i64) (by kernel_rfl) rfl rfl) ?_
        refine WA_take 14 (by kernel_rfl) rfl (fun _ _ => rn_pick_f rfl) ?_
        refine WA_take 15 (by kernel_rfl) rfl (fun _ _ => rn_move) ?_
        refine WA_fb 75 rfl ((by simp)) ?_
        refine WA_take 16 (by kernel_rfl) rfl (fun _ _ => rn_move) ?_
        refine WA_take 17 (by kernel_rfl) rfl (fun w' hS' => rn_str (e := 5) (l := l) (by kernel_rfl) (by kernel_rfl) (by kernel_rfl) rfl (hsp.below (hBk_d904.kpd hS' (by first | (simp; done) | (simp; omega))) (Nat.le_refl _))) ?_
        refine WA_take 18 (by kernel_rfl) rfl (fun _ _ => rn_move) ?_
        refine WA_take 19 (by kernel_rfl) rfl (fun _ _ => rn_move) ?_
        refine WA_take 20 (by kernel_rfl) rfl (fun _ _ => rn_indexSl (e := 40) (sz := 3) (by kernel_rfl) rfl rfl (i) (by omega) (by omega)) ?_
        refine WA_take 21 (by kernel_rfl) rfl (fun _ _ => rn_fieldAddr (off := 2) (by kernel_rfl) rfl) ?_
        refine WA_take 22 (by kernel_rfl) rfl (fun w' hS' => rn_load rfl (hld _ (hB_d904.kpd hS' (by first | (simp; done) | (simp; omega))))) ?_
        refine WA_take 23 (by kernel_rfl) rfl (fun w' hS' => rn_str (e := 5) (l := l) (by kernel_rfl) (by kernel_rfl) (by kernel_rfl) rfl (hq.below (hB_d904.kpd hS' (by first | (simp; done) | (simp; omega))) (Nat.le_refl _))) ?_
        refine WA_take 24 (by kernel_rfl) rfl (fun _ _ => rn_neqS rfl rfl) ?_
        refine WA_take 25 (by kernel_rfl) rfl (fun _ _ => rn_pick_f rfl) ?_
        refine WA_take 26 (by kernel_rfl) rfl (fun _ _ => rn_move) ?_
        refine WA_fb 86 rfl ((by simp)) ?_
        refine WA_take 27 (by kernel_rfl) rfl (fun _ _ => rn_move) ?_
        refine WA_take 28 (by kernel_rfl) rfl (fun _ _ => rn_move) ?_
        refine WA_take 29 (by kernel_rfl) rfl (fun _ _ => rn_lenSl (e := 48) (sz := 128) (by kernel_rfl) rfl rfl) ?_
        refine WA_take 30 (by kernel_rfl) rfl (fun _ _ => rn_neq rfl rfl) ?_
        refine WA_take 31 (by kernel_rfl) rfl (fun _ _ => rn_pick_f rfl) ?_
        refine WA_done (by kernel_rfl) ?_
        refine thenN ?_
        refine W_fp rfl ((by omega)) ?_
        refine W_skip ?_
        refine blockN ?_
        refine thenN ?_
        refine W_region ?_
        refine WR_val rfl (rn_move) ?_
        refine WR_val rfl (rn_add rfl rfl (Coup.w64 (by omega))) ?_
        refine WR_val rfl (rn_assign) ?_
        refine WR_nil ?_
        refine loopN ⟨i + 1, by omega, ⟨rfl, rfl, rfl, rfl, rfl⟩, by omega, hB⟩
      ·
        obtain rfl : i = n := by omega
        have hMost := hG.most
        cases hj : joinIs (secs (mixL R picks)) ((mostR R + 1) / 2) with
        | false =>
          refine W_exit ?_
          refine thenX ?_
          refine loopX ?_
          refine blockX ?_
          refine thenN ?_
          refine W_seq ?_
          refine W_region ?_
          refine WR_val rfl (rn_move) ?_
          refine WR_val rfl (rn_move) ?_
          refine WR_ent rfl (rn_call (by kernel_rfl) rfl) (mixedC p i cp R p2 n2 cp2 picks wr (h.below hB) hG (hp.below hB (Nat.le_refl _)) hok) ?_
          rintro _ w95 ⟨hv95, hb95⟩
          replace hB := hB.acc hb95
          replace hBi := hBi.acc hb95
          obtain ⟨q95, c95, rfl⟩ := hv95.form
          refine WR_ent rfl (rn_call (by kernel_rfl) rfl) (joinNot q95 _ c95 _ w95 hv95.sl (by omega) hj) ?_
          rintro _ w96 ⟨rfl, hb96⟩
          replace hB := hB.acc hb96
          replace hBi := hBi.acc hb96
          refine WR_val rfl (rn_move) ?_
          refine WR_val rfl (rn_extract rfl rfl) ?_
          refine WR_val rfl (rn_extract rfl rfl) ?_
          refine WR_val rfl (rn_extract rfl rfl) ?_
          refine WR_val rfl (rn_extract rfl rfl) ?_
          refine WR_mk rfl (mk_alloc ([Value.int .u64 0, Value.int .i64 0]) (by kernel_rfl) (fun g14 w14 hg14 hr14 hb14 => ?_))
          have ge_hB_g14 := Nat.le_trans hB.size hg14
          have ge_hBi_g14 := Nat.le_trans hBi.size hg14
          replace hB := hB.acc hb14
          replace hBi := hBi.acc hb14
          refine WR_sk rfl (sk_storeA 2 ([.int .u64 0, .int .i64 0]) rfl rfl hr14 (by kernel_rfl) (by first | assumption | (simp; done) | (simp [bv_length, *]; done)) (by first | (simp; done) | (simp [bv_length, *]; done) | rfl) (by first | exact bv_one _ | assumption | (simp [Value.oneCell']; done)) (fun w905 hr14 ho905 => ?_))
          replace hB := ho905.below hB ge_hB_g14
          replace hBi := ho905.below hBi ge_hBi_g14
          refine WR_val rfl (rn_assign) ?_
          refine WR_val rfl (rn_assign) ?_
          refine WR_val rfl (rn_assign) ?_
          refine WR_nil ?_
          refine thenN ?_
          refine W_seq ?_
          refine W_seq ?_
          refine W_region ?_
          refine WR_val rfl (rn_move) ?_
          refine WR_val rfl (rn_neq rfl rfl) ?_
          refine WR_nil ?_
          refine thenN ?_
          refine W_tp rfl ((by decide)) ?_
          refine W_seq ?_
          refine W_region ?_
          refine WR_val rfl (rn_move) ?_
          refine WR_val rfl (rn_eql rfl rfl) ?_
          refine WR_val rfl (rn_move) ?_
          refine WR_tp 105 rfl ((by decide)) ?_
          refine WR_yes rfl ?_
          refine WR_ent rfl (rn_call (by kernel_rfl) rfl) (knownC w905) ?_
          rintro _ w106 ⟨rfl, hb106⟩
          replace hr14 := hr14.new hb106
          replace hB := hB.acc hb106
          replace hBi := hBi.acc hb106
          refine WR_val rfl (rn_pick_t rfl) ?_
          refine WR_val rfl (rn_assign) ?_
          refine WR_nil ?_
          refine thenN ?_
          refine W_ret ?_
          refine thenR ?_
          refine ret_ret [_] ⟨rfl, trivial⟩ ?_
          exact ⟨rfl, hB⟩
        | true =>
          obtain ⟨r, ⟨c0, k0, l⟩, hx, hc, hn, hbl, hpk⟩ := mix_told R picks _ hG rfl hj
          simp only at hc hn hbl hpk
          obtain ⟨hm, hl3⟩ := hG.ok r _ hx
          simp only at hm hl3
          have hmb := may_bounds hm
          obtain ⟨c', rfl⟩ : ∃ z : Nat, c0 = z := ⟨c0.toNat, by omega⟩
          obtain ⟨k', rfl⟩ : ∃ z : Nat, k0 = z := ⟨k0.toNat, by omega⟩
          rw [Int.toNat_natCast] at hc hn
          have hT : Told (secs (mixL R picks)) ((mostR R + 1) / 2) c' k' l := ⟨hj, hc, hn, hbl⟩
          have hrl := (List.getElem?_eq_some_iff.1 hx).1
          have hmanl : manyN l.length ≤ 63 := by unfold manyN; omega
          have hnz : needZ l.length = (needN l.length : Nat) := needZ_nat (by omega)
          clear hc hn hbl
          refine W_exit ?_
          refine thenX ?_
          refine loopX ?_
          refine blockX ?_
          refine thenN ?_
          refine W_seq ?_
          refine W_region ?_
          refine WR_val rfl (rn_move) ?_
          refine WR_val rfl (rn_move) ?_
          refine WR_ent rfl (rn_call (by kernel_rfl) rfl) (mixedC p i cp R p2 n2 cp2 picks wr (h.below hB) hG (hp.below hB (Nat.le_refl _)) hok) ?_
          rintro _ w95 ⟨hv95, hb95⟩
          replace hB := hB.acc hb95
          replace hBi := hBi.acc hb95
          obtain ⟨q95, c95, rfl⟩ := hv95.form
          refine WR_ent rfl (rn_call (by kernel_rfl) rfl) (joinYes q95 _ c95 c' k' l _ w95 hv95.sl (by omega) hT) ?_
          rintro _ w96 ⟨sp, rfl, hsp, hb96⟩
          replace hB := hB.acc hb96
          replace hBi := hBi.acc hb96
          have hBk := Below.refl w96.heap.size w96
          refine WR_val rfl (rn_move) ?_
          refine WR_val rfl (rn_extract rfl rfl) ?_
          refine WR_val rfl (rn_extract rfl rfl) ?_
          refine WR_val rfl (rn_extract rfl rfl) ?_
          refine WR_val rfl (rn_extract rfl rfl) ?_
          refine WR_mk rfl (mk_alloc ([Value.int .u64 0, Value.int .i64 0]) (by kernel_rfl) (fun g14 w14 hg14 hr14 hb14 => ?_))
          have ge_hB_g14 := Nat.le_trans hB.size hg14
          have ge_hBk_g14 := Nat.le_trans hBk.size hg14
          replace hB := hB.acc hb14
          replace hBk := hBk.acc hb14
          refine WR_sk rfl (sk_storeA 2 ([.int .u64 c', .int .i64 k']) rfl rfl hr14 (by kernel_rfl) (by first | assumption | (simp; done) | (simp [bv_length, *]; done)) (by first | (simp; done) | (simp [bv_length, *]; done) | rfl) (by first | exact bv_one _ | assumption | (simp [Value.oneCell']; done)) (fun w906 hr14 ho906 => ?_))
          replace hB := ho906.below hB ge_hB_g14
          replace hBk := ho906.below hBk ge_hBk_g14
          refine WR_val rfl (rn_assign) ?_
          refine WR_val rfl (rn_assign) ?_
          refine WR_val rfl (rn_assign) ?_
          refine WR_nil ?_
          refine thenN ?_
          refine W_seq ?_
          refine W_seq ?_
          refine W_region ?_
          refine WR_val rfl (rn_move) ?_
          refine WR_val rfl (rn_neq rfl rfl) ?_
          refine WR_nil ?_
          refine thenN ?_
          refine W_fp rfl ((by decide)) ?_
          refine W_skip ?_
          refine thenN ?_
          refine W_seq ?_
          refine W_seq ?_
          refine W_region ?_
          refine WR_val rfl (rn_assign) ?_
          refine WR_nil ?_
          refine thenN ?_
          refine W_block ?_
          have hsp := hsp.below hBk (Nat.le_refl _)
          refine W_loop (α := Nat) 0 (fun j => [(18, .int .i64 (j : Nat)), (16, .int .i64 (needN l.length : Nat)), (15, .slice sp l.length l.length), (14, .pointer (some ⟨g14, 0, none⟩)), (1, .slice p2 n2 cp2), (0, .slice p i cp)])
            (fun j w' => j ≤ r ∧ Below w906.heap.size w906 w') (fun j => i - j) ⟨rfl, rfl, rfl, rfl, rfl, rfl, rfl⟩ ⟨Nat.zero_le _, Below.refl _ _⟩ ?_
          rintro j f2 wz ⟨hjr, hBl⟩
          replace hB := hB.acc hBl
          have hr14 := hr14.new hBl
          have hsp := hsp.below hBl (Nat.le_refl _)
          have hBj := Below.refl wz.heap.size wz
          obtain ⟨g, o, rfl, hg⟩ := h.some (by omega)
          by_cases hlt2 : j < r
          · obtain ⟨c2, k2, l2, hx2⟩ := h.get (i := j) (by omega)
            have hun := hG.un r j _ _ hlt2 hx hx2
            simp only at hun
            refine W_seq ?_
            refine W_seq ?_
            refine W_region ?_
            refine WR_val rfl (rn_move) ?_
            refine WR_val rfl (rn_move) ?_
            refine WR_val rfl (rn_lenSl (e := 40) (sz := 3) (by kernel_rfl) rfl rfl) ?_
            refine WR_val rfl (rn_lss rfl rfl) ?_
            refine WR_nil ?_
            refine thenN ?_
            refine W_tp rfl ((by omega)) ?_
            refine W_skip ?_
            refine thenN ?_
            refine W_seq ?_
            refine W_block ?_
            refine W_seq ?_
            refine W_seq ?_
            refine W_draw' [] (by kernel_rfl) ?_
            intro w907 hb907 hS907
            replace hr14 := hr14.new hb907
            replace hB := hB.acc hb907
            replace hBj := hBj.acc hb907
            have hr14_d907 := hr14
            have hB_d907 := hB
            have hBj_d907 := hBj
            refine WA_take 0 (by kernel_rfl) rfl (fun _ _ => rn_move) ?_
            refine WA_take 1 (by kernel_rfl) rfl (fun _ _ => rn_move) ?_
            refine WA_take 2 (by kernel_rfl) rfl (fun _ _ => rn_indexSl (e := 40) (sz := 3) (by kernel_rfl) rfl rfl (j) (by omega) (by omega)) ?_
            refine WA_take 3 (by kernel_rfl) rfl (fun _ _ => rn_fieldAddr (off := 0) (by kernel_rfl) rfl) ?_
            refine WA_take 4 (by kernel_rfl) rfl (fun w' hS' => rn_load rfl ((h.below (hB_d907.kpd hS' (by first | (simp; done) | (simp; omega)))).ldT hx2)) ?_
            refine WA_take 5 (by kernel_rfl) rfl (fun w' hS' => rn_load rfl (Ld.rowA (k := 2) (hr14_d907.kpd hS' (by first | (simp; done) | (simp; omega))) (by kernel_rfl) (by kernel_rfl) rfl)) ?_
            refine WA_take 6 (by kernel_rfl) rfl (fun _ _ => rn_neqP (k0 := .u64) (k1 := .i64) (by kernel_rfl) rfl rfl) ?_
            refine WA_done (by kernel_rfl) ?_
            refine thenN ?_
            refine W_tb rfl ((by simp; omega)) ?_
            refine W_exit ?_
            refine thenX ?_
            refine blockX ?_
            refine thenN ?_
            refine W_region ?_
            refine WR_val rfl (rn_move) ?_
            refine WR_val rfl (rn_add rfl rfl (Coup.w64 (by omega))) ?_
            refine WR_val rfl (rn_assign) ?_
            refine WR_nil ?_
            refine loopN ⟨j + 1, by omega, ⟨rfl, rfl, rfl, rfl, rfl, rfl, rfl⟩, by omega, hBl.acc hBj⟩
          · obtain rfl : j = r := by omega
            obtain ⟨q, qc, hld, hq⟩ := h.ldS hx
            refine W_seq ?_
            refine W_seq ?_
            refine W_region ?_
            refine WR_val rfl (rn_move) ?_
            refine WR_val rfl (rn_move) ?_
            refine WR_val rfl (rn_lenSl (e := 40) (sz := 3) (by kernel_rfl) rfl rfl) ?_
            refine WR_val rfl (rn_lss rfl rfl) ?_
            refine WR_nil ?_
            refine thenN ?_
            refine W_tp rfl ((by omega)) ?_
            refine W_skip ?_
            refine thenN ?_
            refine W_seq ?_
            refine W_block ?_
            refine W_seq ?_
            refine W_seq ?_
            refine W_draw' [] (by kernel_rfl) ?_
            intro w908 hb908 hS908
            replace hr14 := hr14.new hb908
            replace hB := hB.acc hb908
            replace hBj := hBj.acc hb908
            have hr14_d908 := hr14
            have hB_d908 := hB
            have hBj_d908 := hBj
            refine WA_take 0 (by kernel_rfl) rfl (fun _ _ => rn_move) ?_
            refine WA_take 1 (by kernel_rfl) rfl (fun _ _ => rn_move) ?_
            refine WA_take 2 (by kernel_rfl) rfl (fun _ _ => rn_indexSl (e := 40) (sz := 3) (by kernel_rfl) rfl rfl (j) (by omega) (by omega)) ?_
            refine WA_take 3 (by kernel_rfl) rfl (fun _ _ => rn_fieldAddr (off := 0) (by kernel_rfl) rfl) ?_
            refine WA_take 4 (by kernel_rfl) rfl (fun w' hS' => rn_load rfl ((h.below (hB_d908.kpd hS' (by first | (simp; done) | (simp; omega)))).ldT hx)) ?_
            refine WA_take 5 (by kernel_rfl) rfl (fun w' hS' => rn_load rfl (Ld.rowA (k := 2) (hr14_d908.kpd hS' (by first | (simp; done) | (simp; omega))) (by kernel_rfl) (by kernel_rfl) rfl)) ?_
            refine WA_take 6 (by kernel_rfl) rfl (fun _ _ => rn_neqP (k0 := .u64) (k1 := .i64) (by kernel_rfl) rfl rfl) ?_
            refine WA_done (by kernel_rfl) ?_
            refine thenN ?_
            refine W_fb rfl ((by simp)) ?_
            refine W_skip ?_
            refine thenN ?_
            refine W_seq ?_
            refine W_draw' [] (by kernel_rfl) ?_
            intro w909 hb909 hS909
            replace hr14 := hr14.new hb909
            replace hB := hB.acc hb909
            replace hBj := hBj.acc hb909
            have hr14_d909 := hr14
            have hB_d909 := hB
            have hBj_d909 := hBj
            refine WA_take 0 (by kernel_rfl) rfl (fun w' hS' => rn_load rfl (Ld.rowA (k := 2) (hr14_d909.kpd hS' (by first | (simp; done) | (simp; omega))) (by kernel_rfl) (by kernel_rfl) rfl)) ?_
            refine WA_take 1 (by kernel_rfl) rfl (fun _ _ => rn_move) ?_
            refine WA_take 2 (by kernel_rfl) rfl (fun _ _ => rn_move) ?_
            refine WA_take 3 (by kernel_rfl) rfl (fun _ _ => rn_indexSl (e := 40) (sz := 3) (by kernel_rfl) rfl rfl (j) (by omega) (by omega)) ?_
            refine WA_take 4 (by kernel_rfl) rfl (fun _ _ => rn_fieldAddr (off := 2) (by kernel_rfl) rfl) ?_
            refine WA_take 5 (by kernel_rfl) rfl (fun w' hS' => rn_load rfl (hld _ (hB_d909.kpd hS' (by first | (simp; done) | (simp; omega))))) ?_
            refine WA_one 6 (by kernel_rfl) ?_
            refine WO_ent rfl rfl (rn_call (by kernel_rfl) rfl) (halves19F c' k' l q l.length qc w909 (hq.below hB (Nat.le_refl _)) (by omega) (by omega) (by omega)) ?_
            rintro _ w127 ⟨ws, gh, oh, ch, rfl, hsw, hslw, hgh, hghl, hch, hb127⟩
            have hS910 := hS909.add0 hb127
            refine ⟨hS910, ?_⟩
            replace hr14 := hr14.new hb127
            replace hB := hB.acc hb127
            replace hBj := hBj.acc hb127
            refine WA_take 7 (by kernel_rfl) rfl (fun _ _ => rn_lenSl (e := 25) (sz := 1) (by kernel_rfl) rfl rfl) ?_
            refine WA_take 8 (by kernel_rfl) rfl (fun _ _ => rn_assign) ?_
            refine WA_done (by kernel_rfl) ?_
            refine thenN ?_
            refine W_seq ?_
            refine W_seq ?_
            refine W_region ?_
            refine WR_val rfl (rn_assign) ?_
            refine WR_nil ?_
            refine thenN ?_
            refine W_block ?_
            refine W_loop (α := Nat) 0 (fun k => [(20, .int .i64 (k : Nat)), (19, .int .i64 (manyN l.length : Nat)), (18, .int .i64 (j : Nat)), (16, .int .i64 (needN l.length : Nat)), (15, .slice sp l.length l.length), (14, .pointer (some ⟨g14, 0, none⟩)), (1, .slice p2 n2 cp2), (0, .slice (some ⟨g, o, none⟩) i cp)])
              (fun k w' => k ≤ manyN l.length ∧ Below w127.heap.size w127 w') (fun k => manyN l.length - k) ⟨rfl, rfl, rfl, rfl, rfl, rfl, rfl, rfl, rfl⟩ ⟨Nat.zero_le _, Below.refl _ _⟩ ?_
            rintro k f3 wy ⟨hk, hBy⟩
            replace hB := hB.acc hBy
            replace hBj := hBj.acc hBy
            have hBk := Below.refl wy.heap.size wy
            refine W_seq ?_
            refine W_seq ?_
            refine W_region ?_
            refine WR_val rfl (rn_move) ?_
            refine WR_val rfl (rn_move) ?_
            refine WR_val rfl (rn_lss rfl rfl) ?_
            refine WR_nil ?_
            refine thenN ?_
            refine W_ifp rfl (fun hlt3 => ?_) (fun hlt3 => ?_)
            ·
              refine W_skip ?_
              refine thenN ?_
              refine W_seq ?_
              refine W_block ?_
              refine W_seq ?_
              have hpkk := hpk k (by omega)
              have hkl := (List.getElem?_eq_some_iff.1 hpkk).1
              have hobt := hp.some (by omega)
              obtain ⟨gp, op, rfl, hgp⟩ := hobt
              have hpz := hp.below hB (Nat.le_refl _)
              refine W_region ?_
              refine WR_val rfl (rn_move) ?_
              refine WR_val rfl (rn_move) ?_
              refine WR_val rfl (rn_lenSl (e := 3) (sz := 1) (by kernel_rfl) rfl rfl) ?_
              refine WR_val rfl (rn_geq rfl rfl) ?_
              refine WR_val rfl (rn_move) ?_
              refine WR_fp 138 rfl ((by omega)) ?_
              refine WR_yes rfl ?_
              refine WR_val rfl (rn_move) ?_
              refine WR_yes rfl ?_
              refine WR_val rfl (rn_move) ?_
              refine WR_yes rfl ?_
              refine WR_val rfl (rn_indexSl1 (e := 3) (by kernel_rfl) rfl rfl (k) (by omega) (by omega)) ?_
              refine WR_yes rfl ?_
              refine WR_val rfl (rn_load rfl (Ld.sl1 hpz (by kernel_rfl) (iv_some hpkk))) ?_
              refine WR_yes rfl ?_
              refine WR_val rfl (rn_move) ?_
              refine WR_yes rfl ?_
              refine WR_val rfl (rn_add rfl rfl (Coup.w64 (by omega))) ?_
              refine WR_yes rfl ?_
              refine WR_val rfl (rn_neq rfl rfl) ?_
              refine WR_val rfl (rn_pick_f rfl) ?_
              refine WR_nil ?_
              refine thenN ?_
              refine W_fp rfl ((by simp)) ?_
              refine W_skip ?_
              refine blockN ?_
              refine thenN ?_
              refine W_region ?_
              refine WR_val rfl (rn_move) ?_
              refine WR_val rfl (rn_add rfl rfl (Coup.w64 (by omega))) ?_
              refine WR_val rfl (rn_assign) ?_
              refine WR_nil ?_
              refine loopN ⟨k + 1, by omega, ⟨rfl, rfl, rfl, rfl, rfl, rfl, rfl, rfl, rfl⟩, by omega, hBy.acc hBk⟩
            ·
              refine W_exit ?_
              refine thenX ?_
              refine loopX ?_
              refine blockX ?_
              refine thenN ?_
              refine W_seq ?_
              refine W_draw' [] (by kernel_rfl) ?_
              intro w911 hb911 hS911
              replace hB := hB.acc hb911
              replace hBj := hBj.acc hb911
              replace hBk := hBk.acc hb911
              have hB_d911 := hB
              have hBj_d911 := hBj
              have hBk_d911 := hBk
              refine WA_take 0 (by kernel_rfl) rfl (fun _ _ => rn_move) ?_
              refine WA_take 1 (by kernel_rfl) rfl (fun w' hS' => rn_str (e := 5) (l := l) (by kernel_rfl) (by kernel_rfl) (by kernel_rfl) rfl (hsp.below (hBj_d911.kpd hS' (by first | (simp; done) | (simp; omega))) (Nat.le_refl _))) ?_
              refine WA_take 2 (by kernel_rfl) rfl (fun _ _ => rn_move) ?_
              refine WA_take 3 (by kernel_rfl) rfl (fun _ _ => rn_move) ?_
              refine WA_take 4 (by kernel_rfl) rfl (fun _ _ => rn_indexSl (e := 40) (sz := 3) (by kernel_rfl) rfl rfl (j) (by omega) (by omega)) ?_
              refine WA_take 5 (by kernel_rfl) rfl (fun _ _ => rn_fieldAddr (off := 2) (by kernel_rfl) rfl) ?_
              refine WA_take 6 (by kernel_rfl) rfl (fun w' hS' => rn_load rfl (hld _ (hB_d911.kpd hS' (by first | (simp; done) | (simp; omega))))) ?_
              refine WA_take 7 (by kernel_rfl) rfl (fun w' hS' => rn_str (e := 5) (l := l) (by kernel_rfl) (by kernel_rfl) (by kernel_rfl) rfl (hq.below (hB_d911.kpd hS' (by first | (simp; done) | (simp; omega))) (Nat.le_refl _))) ?_
              refine WA_take 8 (by kernel_rfl) rfl (fun _ _ => rn_eqlS rfl rfl) ?_
              refine WA_take 9 (by kernel_rfl) rfl (fun _ _ => rn_move) ?_
              refine WA_tb 156 rfl ((by simp)) ?_
              refine WA_take 10 (by kernel_rfl) rfl (fun _ _ => rn_move) ?_
              refine WA_take 11 (by kernel_rfl) rfl (fun _ _ => rn_move) ?_
              refine WA_take 12 (by kernel_rfl) rfl (fun _ _ => rn_lenSl (e := 5) (sz := 1) (by kernel_rfl) rfl rfl) ?_
              refine WA_call 13 (by kernel_rfl) rfl (fun _ => rn_call (by kernel_rfl) rfl) (fun w' hS' => need12r l.length w') ?_
              refine WA_take 14 (by kernel_rfl) rfl (fun _ _ => rn_eql rfl rfl) ?_
              refine WA_take 15 (by kernel_rfl) rfl (fun _ _ => rn_pick_t rfl) ?_
              refine WA_take 16 (by kernel_rfl) rfl (fun _ _ => rn_move) ?_
              refine WA_tp 163 rfl (hnz.symm) ?_
              refine WA_one 17 (by kernel_rfl) ?_
              refine WO_ent rfl rfl (rn_call (by kernel_rfl) rfl) (knownC w911) ?_
              rintro _ w164 ⟨rfl, hb164⟩
              have hS912 := hS911.add0 hb164
              refine ⟨hS912, ?_⟩
              replace hB := hB.acc hb164
              replace hBj := hBj.acc hb164
              replace hBk := hBk.acc hb164
              refine WA_take 18 (by kernel_rfl) rfl (fun _ _ => rn_pick_t rfl) ?_
              refine WA_take 19 (by kernel_rfl) rfl (fun _ _ => rn_assign) ?_
              refine WA_done (by kernel_rfl) ?_
              refine thenN ?_
              refine W_ret ?_
              refine blockR ?_
              refine thenR ?_
              refine loopR ?_
              refine blockR ?_
              refine thenR ?_
              refine ret_ret [_] ⟨rfl, trivial⟩ ?_
              exact ⟨rfl, hB⟩
end Go.Proofs.Ytnlocpldghpfcaa
