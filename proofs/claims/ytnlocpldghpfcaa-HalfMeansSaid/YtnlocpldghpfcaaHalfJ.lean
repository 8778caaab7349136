/- Tags and torn sectors, of the code and of the reference. -/
import Derived.Test.YtnlocpldghpfcaaHalfI
import Derived.Test.YtnlocpldghpfcaaVm7
namespace Go.Proofs.Ytnlocpldghpfcaa
open Go Go.RowKit Coup

theorem get36r (p : Option Addr) (n c : Nat) (l : List UInt8) (w : World) (h : SlAt w p n 1 (bv l)) (hn : n ≤ 8) : Calls Try.prog 36 [.slice p n c].toArray w (Ret fun v w' => v = .int .u64 (numB l) ∧ w = w') := calls_ret (get36 p n c l w h hn)
theorem may11r (c n : Int) (w : World) : Calls Try.prog 11 [.agg #[.int .u64 c, .int .i64 n]].toArray w (Ret fun v w' => v = .bool (mayT c n) ∧ Below w.heap.size w w') := calls_ret (may11 c n w)
theorem need13r (n : Int) (w : World) : Calls Try.prog 13 [.int .i64 n].toArray w (Ret fun v w' => v = .int .i64 (needZ n) ∧ w = w') := calls_ret (need13 n w)
theorem parts35r (l : List UInt8) (p : Option Addr) (n cp : Nat) (w : World) (h : SlAt w p n 128 (bv l)) (hn : n ≤ 100000) :
    Calls Try.prog 35 [.slice p n cp].toArray w (Ret fun v w' => ∃ vs q cq, v = .slice q (2 * n) cq ∧ SlAt w' q (2 * n) 1 vs ∧ SlsAt w' w.heap.size v.ownBlock vs (partsL l (2 * n)) ∧ (∀ g o, q = some ⟨g, o, none⟩ → w.heap.size ≤ g) ∧ Below w.heap.size w w') :=
  (parts35 l p n cp w h hn).to fun v w' ⟨vs, h1, h2, h3⟩ => by
    obtain ⟨q, cq, rfl⟩ := h1.form
    exact ⟨vs, q, cq, rfl, h1.sl, h2, fun g o hq => (h1.lt g (by subst hq; rfl)).1, h3⟩

theorem sectors29s (L : List (List UInt8)) (hL : ∀ l, l ∈ L → l.length = 64) {lo : Nat} (o : Option Nat) (vs : List Value) (p : Option Addr) (m cp : Nat) (w : World) (h : SlAt w p m 1 vs) (hs : SlsAt w lo o vs L) (hm : L.length = m) (hmax : m ≤ 100000) (h0 : 0 < m) :
    Calls Try.prog 29 [.slice p m cp].toArray w (Ret fun v w' => ∃ g o c, v = .slice (some ⟨g, o, none⟩) ((m + 1) / 2) c ∧ w.heap.size ≤ g ∧ SlAt w' (some ⟨g, o, none⟩) ((m + 1) / 2) 128 (bv (secs L)) ∧ Below w.heap.size w w') :=
  (sectors29 L hL o vs p m cp w h hs hm hmax).to fun v w' ⟨h1, h2⟩ => by
    obtain ⟨g, o, c, rfl, h3, _, _⟩ := h1.form' (by omega)
    exact ⟨g, o, c, rfl, h3, h1.sl, h2⟩
theorem _root_.Coup.SlAt.ltB {w : World} {g o m sz : Nat} {cs : List Value} (h : SlAt w (some ⟨g, o, none⟩) m sz cs) (h0 : 0 < m * sz) : g < w.heap.size := by
  obtain ⟨b, _, he, hb⟩ := h.some h0
  cases he; exact hb
theorem tag25 (h : List UInt8) (hl : h.length = 64) (g o cp : Nat) (w : World) (hs : SlAt w (some ⟨g, o, none⟩) 64 1 (bv h)) (hcp : 64 ≤ cp) :
    Calls Try.prog 22 [.slice (some ⟨g, o, none⟩) 64 cp].toArray w (Ret fun v w' => v = .agg #[.int .u64 (tagC h), .int .i64 (tagN h)] ∧ Below w.heap.size w w') := by
  have hB := Below.refl w.heap.size w
  have hBi := Below.refl w.heap.size w
  have h8 := hs.subB 0 8 (by omega)
  have h12 := hs.subB 8 4 (by omega)
  have g8 : ∀ q c w', SlAt w' q 8 1 (bv ((h.drop 0).take 8)) → Calls Try.prog 36 [.slice q 8 c].toArray w' (Ret fun v w2 => v = .int .u64 (hCount h) ∧ w' = w2) := fun q c w' hq => get36r q 8 c _ w' hq (by omega)
  have g4 : ∀ q c w', SlAt w' q 4 1 (bv ((h.drop 8).take 4)) → Calls Try.prog 36 [.slice q 4 c].toArray w' (Ret fun v w2 => v = .int .u64 (hNum h) ∧ w' = w2) := fun q c w' hq => get36r q 4 c _ w' hq (by omega)
  have hnb : hNum h < 4294967296 := numB_lt_of _ 4 (by simp; omega)
  have hT1 : ∀ b, mayT (hCount h) (hNum h) = b → tagC h = (bif b then hCount h else 0) ∧ tagN h = (bif b then hNum h else 0) := fun b hb => ⟨by rw [tagC, hb], by rw [tagN, hb]⟩
  generalize tagC h = tc at *
  generalize tagN h = tn at *
  generalize hCount h = c at *
  generalize hNum h = nn at *
  refine calls_W (fn := Try.f22) (rs := [.cell 2 24]) (n := 17) Try.func22 rfl rfl Try.ntmps22 (by kernel_rfl) rfl ?_
  refine W_seq ?_
  refine W_region ?_
  refine WR_mk rfl (mk_alloc ([.int .u64 0, .int .i64 0]) (by kernel_rfl) (fun g2 w2 hg2 hr2 hb2 => ?_))
  have ge_hB_g2 := Nat.le_trans hB.size hg2
  have ge_hBi_g2 := Nat.le_trans hBi.size hg2
  replace hB := hB.acc hb2
  replace hBi := hBi.acc hb2
  refine WR_nil ?_
  refine thenN ?_
  refine W_seq ?_
  refine W_draw' [] (by kernel_rfl) ?_
  intro w901 hb901 hS901
  replace hr2 := hr2.new hb901
  replace hB := hB.acc hb901
  replace hBi := hBi.acc hb901
  have hr2_d901 := hr2
  have hB_d901 := hB
  have hBi_d901 := hBi
  refine WA_take 0 (by kernel_rfl) rfl (fun _ _ => rn_move) ?_
  refine WA_take 1 (by kernel_rfl) rfl (fun _ _ => rn_sliceSl1' (e := 5) (0) (8) (_) (8) (by kernel_rfl) rfl rfl ⟨_, _, rfl, rfl⟩ rfl (by simp) (by omega) (by omega) (by omega) (by omega) (by omega)) ?_
  refine WA_call 2 (by kernel_rfl) rfl (fun _ => rn_call (by kernel_rfl) rfl) (fun w' hS' => g8 _ _ w' (h8.below (hBi_d901.kpd hS' (by first | (simp; done) | (simp; omega))) (Nat.le_refl _))) ?_
  refine WA_take 3 (by kernel_rfl) rfl (fun _ _ => rn_move) ?_
  refine WA_take 4 (by kernel_rfl) rfl (fun _ _ => rn_sliceSl1' (e := 5) (8) (12) (_) (4) (by kernel_rfl) rfl ⟨_, _, rfl, rfl⟩ ⟨_, _, rfl, rfl⟩ rfl (by simp) (by omega) (by omega) (by omega) (by omega) (by omega)) ?_
  refine WA_call 5 (by kernel_rfl) rfl (fun _ => rn_call (by kernel_rfl) rfl) (fun w' hS' => g4 _ _ w' (h12.below (hBi_d901.kpd hS' (by first | (simp; done) | (simp; omega))) (Nat.le_refl _))) ?_
  refine WA_take 6 (by kernel_rfl) rfl (fun _ _ => rn_conv (k := .i64) (by kernel_rfl) (by kernel_rfl) rfl (w64 (by omega))) ?_
  refine WA_take 7 (by kernel_rfl) rfl (fun _ _ => rn_pair (k0 := .u64) (k1 := .i64) (by kernel_rfl) (by kernel_rfl) rfl rfl) ?_
  refine WA_one 8 (by kernel_rfl) ?_
  refine WO_mk rfl rfl (mk_alloc ([.int .u64 0, .int .i64 0]) (by kernel_rfl) (fun g3 w3 hg3 hr3 hb3 => ?_))
  have hS902 := hS901.add0 hb3
  refine ⟨hS902, ?_⟩
  have ge_hS901_g3 := Nat.le_trans hS901.size hg3
  have ge_hB_g3 := Nat.le_trans hB.size hg3
  have ge_hBi_g3 := Nat.le_trans hBi.size hg3
  have lt_g2_g3 : g2 < g3 := Nat.lt_of_lt_of_le hr2.lt hg3
  replace hr2 := hr2.new hb3
  replace hB := hB.acc hb3
  replace hBi := hBi.acc hb3
  refine WA_one 9 (by kernel_rfl) ?_
  refine WO_sk rfl rfl (sk_storeA 2 ([.int .u64 c, .int .i64 nn]) rfl rfl hr3 (by kernel_rfl) (by first | assumption | (simp; done) | (simp [bv_length, *]; done)) (by first | (simp; done) | (simp [bv_length, *]; done) | rfl) (by first | exact bv_one _ | assumption | (simp [Value.oneCell']; done)) (fun w904 hr3 ho904 => ?_))
  have hS903 := hS902.add1 ho904 (by first | (left; omega) | (right; simp; done) | (right; simp; omega))
  refine ⟨hS903, ?_⟩
  replace hr2 := hr2.only ho904 (Nat.ne_of_lt lt_g2_g3)
  replace hB := ho904.below hB ge_hB_g3
  replace hBi := ho904.below hBi ge_hBi_g3
  refine WA_done (by kernel_rfl) ?_
  refine thenN ?_
  refine W_seq ?_
  refine W_seq ?_
  refine W_region ?_
  refine WR_val rfl (rn_load rfl (Ld.rowA (k := 2) hr3 (by kernel_rfl) (by kernel_rfl) rfl)) ?_
  refine WR_ent rfl (rn_call (by kernel_rfl) rfl) (may11r c nn w904) ?_
  rintro _ w13 ⟨rfl, hb13⟩
  replace hr2 := hr2.new hb13
  replace hr3 := hr3.new hb13
  replace hB := hB.acc hb13
  replace hBi := hBi.acc hb13
  refine WR_val rfl (rn_not rfl) ?_
  refine WR_nil ?_
  refine thenN ?_
  refine W_ifnb rfl (fun hm => ?_) (fun hm => ?_)
  ·
    refine W_seq ?_
    refine W_region ?_
    refine WR_val rfl (rn_zeroed ([Value.int .u64 0, Value.int .i64 0]) (by kernel_rfl)) ?_
    refine WR_sk rfl (sk_storeA 2 ([.int .u64 0, .int .i64 0]) rfl rfl hr2 (by kernel_rfl) (by first | assumption | (simp; done) | (simp [bv_length, *]; done)) (by first | (simp; done) | (simp [bv_length, *]; done) | rfl) (by first | exact bv_one _ | assumption | (simp [Value.oneCell']; done)) (fun w905 hr2 ho905 => ?_))
    replace hr3 := hr3.only ho905 (Nat.ne_of_gt lt_g2_g3)
    replace hB := ho905.below hB ge_hB_g2
    replace hBi := ho905.below hBi ge_hBi_g2
    refine WR_nil ?_
    refine thenN ?_
    refine W_ret ?_
    refine thenR ?_
    refine ret_ret [_] ⟨⟨_, rfl, Ld.rowA (k := 2) hr2 (by kernel_rfl) (by kernel_rfl) (by first | (simp; done) | (simp [bv_length, *]; done))⟩, trivial⟩ ?_
    obtain ⟨rfl, rfl⟩ := hT1 _ hm
    exact ⟨rfl, hB⟩
  ·
    refine W_skip ?_
    refine thenN ?_
    refine W_seq ?_
    refine W_region ?_
    refine WR_val rfl (rn_load rfl (Ld.rowA (k := 2) hr3 (by kernel_rfl) (by kernel_rfl) rfl)) ?_
    refine WR_sk rfl (sk_storeA 2 ([.int .u64 c, .int .i64 nn]) rfl rfl hr2 (by kernel_rfl) (by first | assumption | (simp; done) | (simp [bv_length, *]; done)) (by first | (simp; done) | (simp [bv_length, *]; done) | rfl) (by first | exact bv_one _ | assumption | (simp [Value.oneCell']; done)) (fun w906 hr2 ho906 => ?_))
    replace hr3 := hr3.only ho906 (Nat.ne_of_gt lt_g2_g3)
    replace hB := ho906.below hB ge_hB_g2
    replace hBi := ho906.below hBi ge_hBi_g2
    refine WR_nil ?_
    refine thenN ?_
    refine W_ret ?_
    refine ret_ret [_] ⟨⟨_, rfl, Ld.rowA (k := 2) hr2 (by kernel_rfl) (by kernel_rfl) (by first | (simp; done) | (simp [bv_length, *]; done))⟩, trivial⟩ ?_
    obtain ⟨rfl, rfl⟩ := hT1 _ hm
    exact ⟨rfl, hB⟩

theorem torn35 (a b : List UInt8) (ha : a.length = 128) (hb : b.length = 128) (w : World) :
    Calls Try.prog 24 [.agg (bv a).toArray, .agg (bv b).toArray].toArray w (Ret fun v w' => v = .agg (bv (a.take 64 ++ b.drop 64)).toArray ∧ Below w.heap.size w w') := by
  have hB := Below.refl w.heap.size w
  have hBi := Below.refl w.heap.size w
  refine calls_W (fn := Try.f24) (rs := [.cell 4 48]) (n := 20) Try.func24 rfl rfl Try.ntmps24 (by kernel_rfl) rfl ?_
  refine W_seq ?_
  refine W_region ?_
  refine WR_mk rfl (mk_box (bv a) rfl (fun g2 w2 hg2 hr2 hb2 => ?_))
  have ge_hB_g2 := Nat.le_trans hB.size hg2
  have ge_hBi_g2 := Nat.le_trans hBi.size hg2
  replace hB := hB.acc hb2
  replace hBi := hBi.acc hb2
  refine WR_mk rfl (mk_box (bv b) rfl (fun g3 w3 hg3 hr3 hb3 => ?_))
  have ge_hB_g3 := Nat.le_trans hB.size hg3
  have ge_hBi_g3 := Nat.le_trans hBi.size hg3
  have lt_g2_g3 : g2 < g3 := Nat.lt_of_lt_of_le hr2.lt hg3
  replace hr2 := hr2.new hb3
  replace hB := hB.acc hb3
  replace hBi := hBi.acc hb3
  refine WR_mk rfl (mk_alloc (List.replicate 128 (byteV 0)) (by kernel_rfl) (fun g4 w4 hg4 hr4 hb4 => ?_))
  have ge_hB_g4 := Nat.le_trans hB.size hg4
  have ge_hBi_g4 := Nat.le_trans hBi.size hg4
  have lt_g2_g4 : g2 < g4 := Nat.lt_of_lt_of_le hr2.lt hg4
  have lt_g3_g4 : g3 < g4 := Nat.lt_of_lt_of_le hr3.lt hg4
  replace hr2 := hr2.new hb4
  replace hr3 := hr3.new hb4
  replace hB := hB.acc hb4
  replace hBi := hBi.acc hb4
  refine WR_nil ?_
  refine thenN ?_
  refine W_seq ?_
  refine W_region ?_
  refine WR_val rfl (rn_load rfl (Ld.rowA (k := 128) hr2 (by kernel_rfl) (by kernel_rfl) (by rw [bv_length, ha]))) ?_
  refine WR_val rfl (rn_load rfl (Ld.rowA (k := 128) hr3 (by kernel_rfl) (by kernel_rfl) (by rw [bv_length, hb]))) ?_
  refine WR_mk rfl (mk_two (e := 48) (.agg (bv a).toArray) (.agg (bv b).toArray) (bv a) (bv b) (List.replicate 128 (Value.int .u8 0)) 128 (by kernel_rfl) (by kernel_rfl) rfl rfl rfl rfl (by first | rfl | (simp; done) | (simp [bv_length, *]; done)) (by first | rfl | (simp; done) | (simp [bv_length, *]; done)) ⟨by decide, by decide⟩ (fun g8 w8 hg8 hr8 hb8 => ?_))
  have ge_hB_g8 := Nat.le_trans hB.size hg8
  have ge_hBi_g8 := Nat.le_trans hBi.size hg8
  have lt_g2_g8 : g2 < g8 := Nat.lt_of_lt_of_le hr2.lt hg8
  have lt_g3_g8 : g3 < g8 := Nat.lt_of_lt_of_le hr3.lt hg8
  have lt_g4_g8 : g4 < g8 := Nat.lt_of_lt_of_le hr4.lt hg8
  replace hr2 := hr2.new hb8
  replace hr3 := hr3.new hb8
  replace hr4 := hr4.new hb8
  replace hB := hB.acc hb8
  replace hBi := hBi.acc hb8
  have q4 := hr4.lt
  have hs8 := hr8.slA (m := 2) (sz := 128) (by rw [List.length_append, bv_length, bv_length, ha, hb]) (by unfold maxLen; omega)
  rw [← bv_append] at hs8
  refine WR_ent rfl (rn_call (by kernel_rfl) rfl) (parts35r (a ++ b) _ 2 _ w8 hs8 (by omega)) ?_
  rintro _ w9 ⟨vs, q, cq, rfl, hq, hsl, hqb, hb9⟩
  replace hr2 := hr2.new hb9
  replace hr3 := hr3.new hb9
  replace hr4 := hr4.new hb9
  replace hr8 := hr8.new hb9
  replace hB := hB.acc hb9
  replace hBi := hBi.acc hb9
  refine WR_val rfl (rn_assign) ?_
  refine WR_nil ?_
  refine thenN ?_
  refine W_seq ?_
  have hobt := hq.some (by omega)
  obtain ⟨gq, oq, rfl, hgq⟩ := hobt
  have hqb := hqb gq oq rfl
  have hobt := hsl.get 0 (partsL_get (a ++ b) _ 0 (by omega))
  obtain ⟨b0, o0, c0, hv0, hs0, hb0, hcb0⟩ := hobt
  have hobt := hsl.get 3 (partsL_get (a ++ b) _ 3 (by omega))
  obtain ⟨b3, o3, c3, hv3, hs3, hb3, hcb3⟩ := hobt
  have e0 : halfAt (a ++ b) 0 = a.take 64 := by rw [halfAt, Nat.mul_zero, List.drop_zero, List.take_append_of_le_length (by omega)]
  have e3 : halfAt (a ++ b) 3 = b.drop 64 := by rw [halfAt, List.drop_append, ha, List.drop_of_length_le (by omega), List.nil_append, List.take_of_length_le (by simp; omega)]
  have l0 : (halfAt (a ++ b) 0).length = 64 := by rw [e0, List.length_take, ha]; rfl
  have l3 : (halfAt (a ++ b) 3).length = 64 := by rw [e3, List.length_drop, hb]
  rw [l0] at hv0 hs0
  rw [l3] at hv3 hs3
  rw [e0] at hs0
  rw [e3] at hs3
  refine W_draw' [g4] (by kernel_rfl) ?_
  intro w901 hb901 hS901
  replace hr2 := hr2.new hb901
  replace hr3 := hr3.new hb901
  replace hr4 := hr4.new hb901
  replace hr8 := hr8.new hb901
  replace hq := hq.new hb901
  replace hs0 := hs0.new hb901
  replace hs3 := hs3.new hb901
  replace hB := hB.acc hb901
  replace hBi := hBi.acc hb901
  have hr2_d901 := hr2
  have hr3_d901 := hr3
  have hr4_d901 := hr4
  have hr8_d901 := hr8
  have hq_d901 := hq
  have hs0_d901 := hs0
  have hs3_d901 := hs3
  have hB_d901 := hB
  have hBi_d901 := hBi
  refine WA_take 0 (by kernel_rfl) rfl (fun _ _ => rn_move) ?_
  refine WA_take 1 (by kernel_rfl) rfl (fun _ _ => rn_indexSl1 (e := 25) (by kernel_rfl) rfl rfl (0) (by omega) (by omega)) ?_
  refine WA_take 2 (by kernel_rfl) rfl (fun w' hS' => rn_load rfl (Ld.sl1 (hq_d901.kpd hS' (by first | (simp; done) | (simp; omega))) (by kernel_rfl) hv0)) ?_
  refine WA_take 3 (by kernel_rfl) rfl (fun _ _ => rn_move) ?_
  refine WA_take 4 (by kernel_rfl) rfl (fun _ _ => rn_indexSl1 (e := 25) (by kernel_rfl) rfl rfl (3) (by omega) (by omega)) ?_
  refine WA_take 5 (by kernel_rfl) rfl (fun w' hS' => rn_load rfl (Ld.sl1 (hq_d901.kpd hS' (by first | (simp; done) | (simp; omega))) (by kernel_rfl) hv3)) ?_
  refine WA_one 6 (by kernel_rfl) ?_
  refine WO_mk rfl rfl (mk_two (e := 25) (.slice (some ⟨b0, o0, none⟩) 64 c0) (.slice (some ⟨b3, o3, none⟩) 64 c3) ([.slice (some ⟨b0, o0, none⟩) 64 c0]) ([.slice (some ⟨b3, o3, none⟩) 64 c3]) ([Value.slice none 0 0]) 1 (by kernel_rfl) (by kernel_rfl) rfl rfl rfl rfl (by first | rfl | (simp; done) | (simp [bv_length, *]; done)) (by first | rfl | (simp; done) | (simp [bv_length, *]; done)) ⟨by decide, by decide⟩ (fun g16 w16 hg16 hr16 hb16 => ?_))
  have hS902 := hS901.add0 hb16
  refine ⟨hS902, ?_⟩
  have ge_hS901_g16 := Nat.le_trans hS901.size hg16
  have ge_hB_g16 := Nat.le_trans hB.size hg16
  have ge_hBi_g16 := Nat.le_trans hBi.size hg16
  have lt_g2_g16 : g2 < g16 := Nat.lt_of_lt_of_le hr2.lt hg16
  have lt_g3_g16 : g3 < g16 := Nat.lt_of_lt_of_le hr3.lt hg16
  have lt_g4_g16 : g4 < g16 := Nat.lt_of_lt_of_le hr4.lt hg16
  have lt_g8_g16 : g8 < g16 := Nat.lt_of_lt_of_le hr8.lt hg16
  replace hr2 := hr2.new hb16
  replace hr3 := hr3.new hb16
  replace hr4 := hr4.new hb16
  replace hr8 := hr8.new hb16
  replace hq := hq.new hb16
  replace hs0 := hs0.new hb16
  replace hs3 := hs3.new hb16
  replace hB := hB.acc hb16
  replace hBi := hBi.acc hb16
  refine WA_one 7 (by kernel_rfl) ?_
  have q4' := hr4.lt
  have hs16 := hr16.slA (m := 2) (sz := 1) rfl (by unfold maxLen; omega)
  have lz0 : (a.take 64).length = 64 := by rw [List.length_take, ha]; rfl
  have lz3 : (b.drop 64).length = 64 := by rw [List.length_drop, hb]
  have hL2 : ∀ l, l ∈ [a.take 64, b.drop 64] → l.length = 64 := by intro l hl; simp only [List.mem_cons, List.not_mem_nil, or_false] at hl; rcases hl with rfl | rfl <;> assumption
  have hb0 := hs0.ltB (by omega)
  have hb3 := hs3.ltB (by omega)
  have hls : SlsAt w16 0 none [.slice (some ⟨b0, o0, none⟩) 64 c0, .slice (some ⟨b3, o3, none⟩) 64 c3] [a.take 64, b.drop 64] := by
    have q := ((SlsAt.nil w16 0 none).snoc (b := b0) (off := o0) (c := c0) (l := a.take 64) (by rw [lz0]; exact hs0) (by omega) (by simp) (by omega) (Nat.zero_le _)).snoc (b := b3) (off := o3) (c := c3) (l := b.drop 64) (by rw [lz3]; exact hs3) (by omega) (by simp) (by omega) (Nat.zero_le _)
    rw [lz0, lz3] at q; exact q
  refine WO_ent rfl rfl (rn_call (by kernel_rfl) rfl) (sectors29s [a.take 64, b.drop 64] hL2 none _ _ 2 _ w16 hs16 hls rfl (by omega) (by omega)) ?_
  rintro _ w17 ⟨g17, o17, c17, rfl, hg17, hx17, hb17⟩
  have hS903 := hS902.add0 hb17
  refine ⟨hS903, ?_⟩
  replace hr2 := hr2.new hb17
  replace hr3 := hr3.new hb17
  replace hr4 := hr4.new hb17
  replace hr8 := hr8.new hb17
  replace hq := hq.new hb17
  replace hs0 := hs0.new hb17
  replace hs3 := hs3.new hb17
  replace hr16 := hr16.new hb17
  replace hB := hB.acc hb17
  replace hBi := hBi.acc hb17
  have hz17 : secs [a.take 64, b.drop 64] = a.take 64 ++ b.drop 64 := by simp [secs]
  rw [hz17] at hx17
  have hz18 : (a.take 64 ++ b.drop 64).length = 128 := by rw [List.length_append, lz0, lz3]
  have hbl : (bv (a.take 64 ++ b.drop 64)).length = 128 := by rw [bv_length, hz18]
  have hld : ((bv (a.take 64 ++ b.drop 64)).drop (0 * 128)).take 128 = bv (a.take 64 ++ b.drop 64) := by rw [Nat.zero_mul, List.drop_zero, List.take_of_length_le (by rw [bv_length, hz18]; omega)]
  refine WA_take 8 (by kernel_rfl) rfl (fun _ _ => rn_indexSl (e := 48) (sz := 128) (by kernel_rfl) rfl rfl (0) rfl (by omega)) ?_
  refine WA_one 9 (by kernel_rfl) ?_
  refine WO_val rfl rfl (rn_load rfl (hld ▸ Ld.slN hx17 (by kernel_rfl) (by kernel_rfl) (by omega))) hS903 ?_
  refine WA_one 10 (by kernel_rfl) ?_
  refine WO_sk rfl rfl (sk_storeA 128 (bv (a.take 64 ++ b.drop 64)) rfl rfl hr4 (by kernel_rfl) (by first | assumption | (simp; done) | (simp [bv_length, *]; done)) (by first | (simp; done) | (simp [bv_length, *]; done) | rfl) (by first | exact bv_one _ | assumption | (simp [Value.oneCell']; done)) (fun w906 hr4 ho906 => ?_))
  have hS905 := hS903.add1 ho906 (by first | (left; omega) | (right; simp; done) | (right; simp; omega))
  refine ⟨hS905, ?_⟩
  replace hr2 := hr2.only ho906 (Nat.ne_of_lt lt_g2_g4)
  replace hr3 := hr3.only ho906 (Nat.ne_of_lt lt_g3_g4)
  replace hr8 := hr8.only ho906 (Nat.ne_of_gt lt_g4_g8)
  replace hr16 := hr16.only ho906 (Nat.ne_of_gt lt_g4_g16)
  replace hx17 := hx17.only ho906 (by omega)
  replace hB := ho906.below hB ge_hB_g4
  replace hBi := ho906.below hBi ge_hBi_g4
  refine WA_done (by kernel_rfl) ?_
  refine thenN ?_
  refine W_ret ?_
  refine ret_ret [_] ⟨⟨_, rfl, Ld.rowA (k := 128) hr4 (by kernel_rfl) (by kernel_rfl) (by first | (simp; done) | (simp [bv_length, *]; done))⟩, trivial⟩ ?_
  exact ⟨rfl, hB⟩
end Go.Proofs.Ytnlocpldghpfcaa
