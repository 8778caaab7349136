/- The halves of a row, as the reference makes them. -/
import Derived.Test.YtnlocpldghpfcaaVm6
import Derived.Test.YtnlocpldghpfcaaHalf9
namespace Go.Proofs.Ytnlocpldghpfcaa
open Go Go.RowKit Coup

/-- All bytes of a row: how many there are, they themselves, noughts behind. -/
def allB (b : List UInt8) : List UInt8 := beB 4 b.length ++ b ++ zerosB (48 * manyN b.length - (4 + b.length))
def pieceB (b : List UInt8) (i : Nat) : List UInt8 := ((allB b).drop (48 * i)).take 48
def halvesL (c n : Nat) (b : List UInt8) : List (List UInt8) := (List.range (manyN b.length)).map fun i => halfB c n i (manyN b.length) (pieceB b i)
theorem manyN_le (n : Nat) : 4 + n ≤ 48 * manyN n := by unfold manyN; omega
theorem allB_length (b : List UInt8) : (allB b).length = 48 * manyN b.length := by
  have := manyN_le b.length
  simp [allB, beB_length, zerosB]; omega
theorem pieceB_length (b : List UInt8) (i : Nat) (h : i < manyN b.length) : (pieceB b i).length = 48 := by
  simp [pieceB, allB_length]; omega
theorem put34r (x : Nat) (hx : x < 18446744073709551616) (n : Nat) (hn : n ≤ 8) (w : World) : Calls Try.prog 34 [.int .u64 x, .int .i64 n].toArray w (Ret fun v w' => ∃ g, v = .slice (some ⟨g, 0, none⟩) n n ∧ w.heap.size ≤ g ∧ row w' g (bv (beB n x)) 5 ∧ Below w.heap.size w w') :=
  (put34 x hx n hn w).mono (by rintro e w' ⟨g, rfl, h⟩; exact ⟨_, rfl, g, rfl, h⟩)
theorem many28r (n : Nat) (hn : n ≤ 1000000) (w : World) : Calls Try.prog 28 [.int .i64 n].toArray w (Ret fun v w' => v = .int .i64 (manyN n) ∧ w = w') := calls_ret (many28 n hn w)
theorem lenV (n : Nat) (x : Nat) : (bv (beB n x)).length = n * 1 := by simp [bv_length, beB_length]

theorem halves19 (c nn : Nat) (b : List UInt8) (p : Option Addr) (n cp : Nat) (w : World) (h : SlAt w p n 1 (bv b)) (hn : n ≤ 1000000) (hc : c < 18446744073709551616) (hnn : nn < 9223372036854775808) :
    Calls Try.prog 19 [.agg [.int .u64 c, .int .i64 nn].toArray, .slice p n cp].toArray w
      (Ret fun v w' => ∃ vs, ownsAt w' w.heap.size 25 1 v (manyN b.length) vs ∧ SlsAt w' w.heap.size v.ownBlock vs (halvesL c nn b) ∧ Below w.heap.size w w') := by
  have hl : b.length = n := by simpa [bv_length] using h.len
  have hB := Below.refl w.heap.size w
  have hm1 := manyN_le n
  have hm2 : 48 * manyN n ≤ n + 51 := by unfold manyN; omega
  refine calls_W (fn := Try.f19) (rs := [.tmp 4]) (n := 62) Try.func19 rfl rfl Try.ntmps19 (by kernel_rfl) rfl ?_
  refine W_seq ?_
  refine W_region ?_
  refine WR_mk rfl (mk_box ([.int .u64 c, .int .i64 nn]) rfl (fun g2 w2 hg2 hr2 hb2 => ?_))
  have ge_hB_g2 := Nat.le_trans hB.size hg2
  replace hB := hB.acc hb2
  refine WR_val rfl (rn_assign) ?_
  refine WR_nil ?_
  refine thenN ?_
  refine W_seq ?_
  refine W_region ?_
  refine WR_val rfl (rn_move) ?_
  refine WR_val rfl (rn_lenSl (e := 5) (sz := 1) (by kernel_rfl) rfl rfl) ?_
  refine WR_val rfl (rn_conv (k := .u64) (by kernel_rfl) (by kernel_rfl) rfl (wu64 (by omega))) ?_
  refine WR_ent rfl (rn_call (by kernel_rfl) rfl) (put34r n (by omega) 4 (by omega) w2) ?_
  rintro _ w13 ⟨g13, rfl, hg13, hr13, hb13⟩
  have ge_hB_g13 := Nat.le_trans hB.size hg13
  have lt_g2_g13 : g2 < g13 := Nat.lt_of_lt_of_le hr2.lt hg13
  replace hr2 := hr2.new hb13
  replace hB := hB.acc hb13
  refine WR_val rfl (rn_move) ?_
  have hv13 := hr13.owns (base := g13) (m := 4) (sz := 1) (Nat.le_refl _) (lenV 4 n) (by unfold maxLen; omega)
  have q13 := hr13.lt
  have sz_hB_15 := hB.size
  refine WR_mk rfl (mk_append (e := 5) (sz := 1) (bytes := 1) (z := Value.int .u8 0) (by kernel_rfl) rfl (by kernel_rfl) rfl (by decide) rfl hv13 rfl (h.below hB (Nat.le_refl _)) (bv_one _) (by unfold maxLen; omega) (by omega) (fun hm0 => by omega) (fun v15 w15 hv15 hgr15 hfr15 => ?_))
  replace hr2 := hr2.own hv13 hgr15 (by omega)
  replace hB := hB.own hv13 hgr15 (by omega)
  refine WR_val rfl (rn_assign) ?_
  refine WR_nil ?_
  refine thenN ?_
  refine W_seq ?_
  refine W_region ?_
  refine WR_val rfl (rn_move) ?_
  refine WR_val rfl (rn_lenSl (e := 5) (sz := 1) (by kernel_rfl) rfl rfl) ?_
  refine WR_ent rfl (rn_call (by kernel_rfl) rfl) (many28r n hn w15) ?_
  rintro _ _ ⟨rfl, rfl⟩
  refine WR_val rfl (rn_assign) ?_
  refine WR_nil ?_
  refine thenN ?_
  refine W_seq ?_
  refine W_block ?_
  refine W_loop (α := Nat × Value) (0, v15) (fun k => [(5, k.2), (6, .int .i64 (manyN n : Nat)), (2, .pointer (some ⟨g2, 0, none⟩))])
    (fun k w' => 4 + n + k.1 ≤ 48 * manyN n ∧ ownsAt w' g13 5 1 k.2 (4 + n + k.1) (bv (beB 4 n ++ b ++ zerosB k.1)) ∧ row w' g2 [.int .u64 c, .int .i64 nn] 24 ∧ Below w.heap.size w w' ∧ g13 < w'.heap.size) (fun k => 48 * manyN n - k.1)
    ⟨rfl, rfl, rfl, rfl⟩ ⟨by omega, by simpa [zerosB, bv_append] using hv15, hr2, hB, by have := hgr15.size; omega⟩ ?_
  rintro ⟨k, v5⟩ ρ' w4 ⟨hk, hv5, hr2, hB, q13⟩
  simp only at hk hv5
  obtain ⟨p5, c5, rfl⟩ := hv5.form
  refine W_seq ?_
  refine W_seq ?_
  refine W_region ?_
  refine WR_val rfl (rn_move) ?_
  refine WR_val rfl (rn_lenSl (e := 5) (sz := 1) (by kernel_rfl) rfl rfl) ?_
  refine WR_val rfl (rn_move) ?_
  refine WR_val rfl (rn_mul rfl rfl (w64 (by omega))) ?_
  refine WR_val rfl (rn_lss rfl rfl) ?_
  refine WR_nil ?_
  refine thenN ?_
  refine W_ifp rfl (fun hlt => ?_) (fun hlt => ?_)
  ·
    refine W_skip ?_
    refine thenN ?_
    refine W_block ?_
    refine W_region ?_
    refine WR_val rfl (rn_move) ?_
    refine WR_mk rfl (mk_one (e := 5) (Value.int .u8 0) ([Value.int .u8 0]) ([Value.int .u8 0]) 1 (by kernel_rfl) (by kernel_rfl) rfl rfl rfl ⟨by decide, by decide⟩ (fun g25 w25 hg25 hr25 hb25 => ?_))
    have ge_hB_g25 := Nat.le_trans hB.size hg25
    have lt_g2_g25 : g2 < g25 := Nat.lt_of_lt_of_le hr2.lt hg25
    replace hr2 := hr2.new hb25
    replace hB := hB.acc hb25
    have hs25 := hr25.slA (m := 1) (sz := 1) rfl (by unfold maxLen; omega)
    replace hv5 := hv5.new hb25
    have sz_hB_26 := hB.size
    refine WR_mk rfl (mk_append (e := 5) (sz := 1) (bytes := 1) (z := Value.int .u8 0) (by kernel_rfl) rfl (by kernel_rfl) rfl (by decide) rfl hv5 rfl hs25 (by simp [Value.oneCell']) (by unfold maxLen; omega) (by omega) (fun hm0 => by omega) (fun v26 w26 hv26 hgr26 hfr26 => ?_))
    replace hr2 := hr2.own hv5 hgr26 (by omega)
    replace hB := hB.own hv5 hgr26 (by omega)
    refine WR_val rfl (rn_assign) ?_
    refine WR_nil ?_
    refine blockN ?_
    refine loopN ⟨(k + 1, v26), by simp only; omega, ⟨rfl, rfl, rfl, rfl⟩, by simp only; omega, ?_, hr2, hB, by have := hgr26.size; have := hb25.size; omega⟩
    have e : bv (beB 4 n ++ b ++ zerosB (k + 1)) = bv (beB 4 n ++ b ++ zerosB k) ++ [.int .u8 0] := by
      simp [bv, zerosB, List.replicate_succ', byteV]
    rw [e]
    exact hv26
  ·
    refine W_exit ?_
    refine thenX ?_
    refine loopX ?_
    refine blockX ?_
    refine thenN ?_
    refine W_seq ?_
    refine W_region ?_
    refine WR_val rfl (rn_assign) ?_
    refine WR_nil ?_
    refine thenN ?_
    refine W_seq ?_
    refine W_seq ?_
    refine W_region ?_
    refine WR_val rfl (rn_assign) ?_
    refine WR_nil ?_
    refine thenN ?_
    refine W_block ?_
    obtain rfl : k = 48 * manyN n - (4 + n) := by omega
    have hall : beB 4 n ++ b ++ zerosB (48 * manyN n - (4 + n)) = allB b := by rw [allB, hl]
    rw [hall] at hv5
    have hn4 : 4 + n + (48 * manyN n - (4 + n)) = 48 * manyN n := by omega
    rw [hn4] at hv5 ⊢
    obtain ⟨g5, o5, cap5, he5, hg5, hs5, hc5⟩ := hv5.form' (by omega)
    cases he5
    have ha5 := hv5.sl
    refine W_loop (α := Nat × Value × List Value) (0, .slice none 0 0, []) (fun k => [(7, k.2.1), (8, .int .i64 (k.1 : Nat)), (5, .slice (some ⟨g5, o5, none⟩) (48 * manyN n) c5), (6, .int .i64 (manyN n : Nat)), (2, .pointer (some ⟨g2, 0, none⟩))])
      (fun k w' => k.1 ≤ manyN n ∧ ownsAt w' w4.heap.size 25 1 k.2.1 k.1 k.2.2 ∧ SlsAt w' w4.heap.size k.2.1.ownBlock k.2.2 ((halvesL c nn b).take k.1) ∧ Below w4.heap.size w4 w') (fun k => manyN n - k.1)
      ⟨rfl, rfl, rfl, rfl, rfl, rfl⟩ ⟨Nat.zero_le _, ownsAt_nil _ _ _ _, SlsAt.nil _ _ _, Below.refl _ _⟩ ?_
    rintro ⟨i, v7, vs⟩ ρ2 w6 ⟨hi, hv7, hsl, hB6⟩
    simp only at hi hv7 hsl
    have hBi := Below.refl w6.heap.size w6
    have hr2i := hr2.new hB6
    have ha5i := ha5.new hB6
    have qq := hr2i.lt
    refine W_seq ?_
    refine W_seq ?_
    refine W_region ?_
    refine WR_val rfl (rn_move) ?_
    refine WR_val rfl (rn_move) ?_
    refine WR_val rfl (rn_lss rfl rfl) ?_
    refine WR_nil ?_
    refine thenN ?_
    refine W_ifp rfl (fun hlt => ?_) (fun hlt => ?_)
    ·
      refine W_skip ?_
      refine thenN ?_
      refine W_seq ?_
      refine W_block ?_
      refine W_seq ?_
      refine W_draw' [] (by kernel_rfl) ?_
      intro w901 hb901 hS901
      replace hBi := hBi.acc hb901
      have hBi_d901 := hBi
      refine WA_take 0 (by kernel_rfl) rfl (fun _ _ => rn_fieldAddr (off := 0) (by kernel_rfl) rfl) ?_
      refine WA_take 1 (by kernel_rfl) rfl (fun w' hS' => rn_load rfl (Ld.row1 (hr2i.new (hBi_d901.kpd hS' (by first | (simp; done) | (simp; omega)))) (by kernel_rfl) rfl)) ?_
      refine WA_take 3 (by kernel_rfl) rfl (fun _ _ => rn_fieldAddr (off := 1) (by kernel_rfl) rfl) ?_
      refine WA_take 4 (by kernel_rfl) rfl (fun w' hS' => rn_load rfl (Ld.row1 (hr2i.new (hBi_d901.kpd hS' (by first | (simp; done) | (simp; omega)))) (by kernel_rfl) rfl)) ?_
      refine WA_take 5 (by kernel_rfl) rfl (fun _ _ => rn_conv (k := .u64) (by kernel_rfl) (by kernel_rfl) rfl (wu64 (by omega))) ?_
      refine WA_one 2 (by kernel_rfl) ?_
      refine WO_ent rfl rfl (rn_call (by kernel_rfl) rfl) (put34r c (by omega) 8 (by omega) w901) ?_
      rintro _ w34 ⟨g34, rfl, hg34, hr34, hb34⟩
      have ge_hS901_g34 := Nat.le_trans hS901.size hg34
      have ge_hBi_g34 := Nat.le_trans hBi.size hg34
      have hS902 := hS901.add0 hb34
      refine ⟨hS902, ?_⟩
      replace hBi := hBi.acc hb34
      refine WA_one 6 (by kernel_rfl) ?_
      refine WO_ent rfl rfl (rn_call (by kernel_rfl) rfl) (put34r nn (by omega) 4 (by omega) w34) ?_
      rintro _ w38 ⟨g38, rfl, hg38, hr38, hb38⟩
      have ge_hS902_g38 := Nat.le_trans hS902.size hg38
      have ge_hBi_g38 := Nat.le_trans hBi.size hg38
      have lt_g34_g38 : g34 < g38 := Nat.lt_of_lt_of_le hr34.lt hg38
      have hS903 := hS902.add0 hb38
      refine ⟨hS903, ?_⟩
      replace hr34 := hr34.new hb38
      replace hBi := hBi.acc hb38
      refine WA_one 7 (by kernel_rfl) ?_
      have hv34 := hr34.owns (base := g34) (m := 8) (sz := 1) (Nat.le_refl _) (lenV 8 c) (by unfold maxLen; omega)
      have hs38 := hr38.slA (m := 4) (sz := 1) (lenV 4 nn) (by unfold maxLen; omega)
      have q34 := hr34.lt
      have sz_hBi_39 := hBi.size
      refine WO_mk rfl rfl (mk_append (e := 5) (sz := 1) (bytes := 1) (z := Value.int .u8 0) (by kernel_rfl) rfl (by kernel_rfl) rfl (by decide) rfl hv34 rfl hs38 (bv_one _) (by unfold maxLen; omega) (by omega) (fun hm0 => by omega) (fun v39 w39 hv39 hgr39 hfr39 => ?_))
      have hS904 := hS903.ownS hv34 hgr39 (by first | (left; omega) | exact Or.inr (fun _ h => h))
      refine ⟨hS904, ?_⟩
      replace hBi := hBi.own hv34 hgr39 (by omega)
      refine WA_take 8 (by kernel_rfl) rfl (fun _ _ => rn_assign) ?_
      refine WA_done (by kernel_rfl) ?_
      refine thenN ?_
      refine W_seq ?_
      refine W_region ?_
      refine WR_val rfl (rn_move) ?_
      refine WR_val rfl (rn_move) ?_
      refine WR_val rfl (rn_conv (k := .u64) (by kernel_rfl) (by kernel_rfl) rfl (wu64 (by omega))) ?_
      have l39 := hv39.form' (by omega)
      obtain ⟨ga, oa, ca, ea, -, la, -⟩ := l39
      refine WR_ent rfl (rn_call (by kernel_rfl) rfl) (put34r i (by omega) 2 (by omega) w39) ?_
      rintro _ w43 ⟨g43, rfl, hg43, hr43, hb43⟩
      have ge_hBi_g43 := Nat.le_trans hBi.size hg43
      replace hv39 := hv39.new hb43
      replace hBi := hBi.acc hb43
      have hs43 := hr43.slA (m := 2) (sz := 1) (lenV 2 i) (by unfold maxLen; omega)
      have sz_hBi_44 := hBi.size
      refine WR_mk rfl (mk_append (e := 5) (sz := 1) (bytes := 1) (z := Value.int .u8 0) (by kernel_rfl) rfl (by kernel_rfl) rfl (by decide) rfl hv39 rfl hs43 (bv_one _) (by unfold maxLen; omega) (by omega) (fun hm0 => by omega) (fun v44 w44 hv44 hgr44 hfr44 => ?_))
      replace hBi := hBi.own hv39 hgr44 (by omega)
      refine WR_val rfl (rn_move) ?_
      refine WR_val rfl (rn_conv (k := .u64) (by kernel_rfl) (by kernel_rfl) rfl (wu64 (by omega))) ?_
      refine WR_ent rfl (rn_call (by kernel_rfl) rfl) (put34r (manyN n) (by omega) 2 (by omega) w44) ?_
      rintro _ w47 ⟨g47, rfl, hg47, hr47, hb47⟩
      have ge_hBi_g47 := Nat.le_trans hBi.size hg47
      replace hv44 := hv44.new hb47
      replace hBi := hBi.acc hb47
      have hs47 := hr47.slA (m := 2) (sz := 1) (lenV 2 (manyN n)) (by unfold maxLen; omega)
      have sz_hBi_48 := hBi.size
      refine WR_mk rfl (mk_append (e := 5) (sz := 1) (bytes := 1) (z := Value.int .u8 0) (by kernel_rfl) rfl (by kernel_rfl) rfl (by decide) rfl hv44 rfl hs47 (bv_one _) (by unfold maxLen; omega) (by omega) (fun hm0 => by omega) (fun v48 w48 hv48 hgr48 hfr48 => ?_))
      replace hBi := hBi.own hv44 hgr48 (by omega)
      refine WR_val rfl (rn_assign) ?_
      refine WR_nil ?_
      refine thenN ?_
      refine W_region ?_
      refine WR_val rfl (rn_move) ?_
      refine WR_val rfl (rn_move) ?_
      refine WR_val rfl (rn_move) ?_
      refine WR_val rfl (rn_move) ?_
      refine WR_val rfl (rn_mul rfl rfl (Coup.w64 (by omega))) ?_
      refine WR_val rfl (rn_move) ?_
      refine WR_val rfl (rn_mul rfl rfl (Coup.w64 (by omega))) ?_
      refine WR_val rfl (rn_add rfl rfl (Coup.w64 (by omega))) ?_
      refine WR_val rfl (rn_sliceSl1' (e := 5) (48 * i) (48 * i + 48) (_) (48) (by kernel_rfl) rfl ⟨_, _, rfl, by omega⟩ ⟨_, _, rfl, by omega⟩ rfl (by simp) (by omega) (by omega) (by omega) (by omega) (by omega)) ?_
      have hs57 := (ha5i.new hBi).subB (48 * i) 48 (by omega)
      have sz_hBi_58 := hBi.size
      refine WR_mk rfl (mk_append (e := 5) (sz := 1) (bytes := 1) (z := Value.int .u8 0) (by kernel_rfl) rfl (by kernel_rfl) rfl (by decide) rfl hv48 rfl hs57 (bv_one _) (by unfold maxLen; omega) (by omega) (fun hm0 => by omega) (fun v58 w58 hv58 hgr58 hfr58 => ?_))
      replace hBi := hBi.own hv48 hgr58 (by omega)
      have hobt := hv58.form' (by omega)
      obtain ⟨g58, o58, c58, rfl, b58, l58, hc58⟩ := hobt
      have hx58 := hv58.sl
      refine WR_mk rfl (mk_one (e := 25) (Value.slice (some ⟨g58, o58, none⟩) (8 + 4 + 2 + 2 + 48) c58) ([Value.slice (some ⟨g58, o58, none⟩) (8 + 4 + 2 + 2 + 48) c58]) ([Value.slice none 0 0]) 1 (by kernel_rfl) (by kernel_rfl) rfl rfl rfl ⟨by decide, by decide⟩ (fun g59 w59 hg59 hr59 hb59 => ?_))
      have ge_hBi_g59 := Nat.le_trans hBi.size hg59
      replace hv58 := hv58.new hb59
      replace hBi := hBi.acc hb59
      have hs59 := hr59.slA (m := 1) (sz := 1) rfl (by unfold maxLen; omega)
      have hx58 := hx58.new hb59
      have hy7 := hv7.new hBi
      have hsl1 := hsl.new hBi
      have hlt7 := hv7.lt
      have hln := hBi.size
      have hl6 := hB6.size
      have hB7 := hB6.acc hBi
      have sz_hB7_60 := hB7.size
      refine WR_mk rfl (mk_append (e := 25) (sz := 1) (bytes := 24) (z := Value.slice none 0 0) (by kernel_rfl) rfl (by kernel_rfl) rfl (by decide) rfl hy7 rfl hs59 (by simp [Value.oneCell']) (by unfold maxLen; omega) (by omega) (fun hm0 => by omega) (fun v60 w60 hv60 hgr60 hfr60 => ?_))
      replace hB7 := hB7.own hy7 hgr60 (by omega)
      refine WR_val rfl (rn_assign) ?_
      refine WR_nil ?_
      refine blockN ?_
      refine thenN ?_
      refine W_region ?_
      refine WR_val rfl (rn_move) ?_
      refine WR_val rfl (rn_add rfl rfl (Coup.w64 (by omega))) ?_
      refine WR_val rfl (rn_assign) ?_
      refine WR_nil ?_
      have hne : some g58 ≠ v7.ownBlock := fun e => by have := (hlt7 g58 e.symm).2; omega
      have hpi := pieceB_length b i (by rw [hl]; omega)
      have hz : bv (beB 8 c) ++ bv (beB 4 nn) ++ bv (beB 2 i) ++ bv (beB 2 (manyN n)) ++ bv (((allB b).drop (48 * i)).take 48) = bv (halfB c nn i (manyN n) (pieceB b i)) := by
        simp only [halfB, bv_append, pieceB, List.append_assoc]
      rw [hz] at hx58
      have hlz : (halfB c nn i (manyN n) (pieceB b i)).length = 8 + 4 + 2 + 2 + 48 := by rw [halfB_length, hpi]
      rw [← hlz] at hx58
      have hx58' := hx58.kpd (Kp.of_grown hgr60) (fun b' o' e hm => by
        cases e
        simp only [Option.mem_toList] at hm
        exact hne hm.symm)
      have hsl2 := (hsl1.grow hgr60 hfr60).snoc (c := c58) hx58' (by have := hgr60.size; have := hb59.size; omega) (fun e => (hfr60 g58 e.symm).elim (fun e' => hne e'.symm) (fun e' => by have := hb59.size; omega)) (by omega) (by omega)
      refine loopN ⟨(i + 1, v60, vs ++ [.slice (some ⟨g58, o58, none⟩) (8 + 4 + 2 + 2 + 48) c58]), by simp only; omega, ⟨rfl, by go_num, rfl, rfl, rfl, rfl⟩, by simp only; omega, hv60, ?_, hB7⟩
      have htk : (halvesL c nn b).take (i + 1) = (halvesL c nn b).take i ++ [halfB c nn i (manyN n) (pieceB b i)] := by
        rw [List.take_add_one, halvesL, hl, List.getElem?_map, List.getElem?_range (by omega)]
        rfl
      rw [htk, ← hlz]
      exact hsl2
    ·
      refine W_exit ?_
      refine thenX ?_
      refine loopX ?_
      refine blockX ?_
      refine thenN ?_
      refine W_seq ?_
      refine W_region ?_
      refine WR_val rfl (rn_move) ?_
      refine WR_val rfl (rn_assign) ?_
      refine WR_nil ?_
      refine thenN ?_
      refine W_ret ?_
      refine ret_ret [_] ⟨rfl, trivial⟩ ?_
      obtain rfl : i = manyN n := by omega
      refine ⟨vs, ?_, ?_, hB.acc hB6⟩
      · rw [hl]; exact hv7.mono hB.size
      · rw [List.take_of_length_le (by simp [halvesL, hl])] at hsl; exact hsl.mono hB.size
end Go.Proofs.Ytnlocpldghpfcaa
