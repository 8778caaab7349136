/- The row that sectors begin with, as the reference tells it. -/
import Derived.Test.YtnlocpldghpfcaaHalfJ
namespace Go.Proofs.Ytnlocpldghpfcaa
open Go Go.RowKit Coup

/-- What the reference asks. -/
def refOk (l : List UInt8) (m : Nat) : Bool := (List.range m).all fun i => decide ((halvesL (tagC (halfAt l 0)) (tagN (halfAt l 0)) (joinB l))[i]? = some (halfAt l i))
def refK (l : List UInt8) : Nat := numB (((halfAt l 0).drop 16).take 4)
def refIs (l : List UInt8) (n : Nat) : Bool :=
  decide (0 < n) && mayT (tagC (halfAt l 0)) (tagN (halfAt l 0)) && decide (1 ≤ hMany (halfAt l 0) ∧ hMany (halfAt l 0) ≤ 2 * n) && decide (refK l ≤ 32768 ∧ manyN (refK l) = hMany (halfAt l 0)) && refOk l (hMany (halfAt l 0))
def noneR : Value := .tuple #[.agg #[.int .u64 0, .int .i64 0], .slice none 0 0, .int .i64 0, .bool false]
def RR (l : List UInt8) (n : Nat) (w : World) (v : Value) (w' : World) : Prop :=
  Below w.heap.size w w' ∧ ((refIs l n = false ∧ v = noneR) ∨ (refIs l n = true ∧ ∃ sp c, v = .tuple #[.agg #[.int .u64 (tagC (halfAt l 0)), .int .i64 (tagN (halfAt l 0))], .slice sp (joinB l).length c, .int .i64 (needN (joinB l).length : Nat), .bool true] ∧
    SlAt w' sp (joinB l).length 1 (bv (joinB l))))

theorem refJoin0 (p : Option Addr) (cp : Nat) (l : List UInt8) (w : World) (h : SlAt w p 0 128 (bv l)) : Calls Try.prog 20 [.slice p 0 cp].toArray w (Ret fun v w' => RR l 0 w v w') := by
  have hB := Below.refl w.heap.size w
  have hJ : refIs l 0 = false := by simp [refIs]
  have hBi := Below.refl w.heap.size w
  refine calls_W (fn := Try.f20) (rs := [.cell 2 24, .tmp 3, .tmp 4, .tmp 5]) (n := 99) Try.func20 rfl rfl Try.ntmps20 (by kernel_rfl) rfl ?_
  refine W_seq ?_
  refine W_region ?_
  refine WR_mk rfl (mk_alloc ([Value.int .u64 0, Value.int .i64 0]) (by kernel_rfl) (fun g2 w2 hg2 hr2 hb2 => ?_))
  have ge_hB_g2 := Nat.le_trans hB.size hg2
  have ge_hBi_g2 := Nat.le_trans hBi.size hg2
  replace hB := hB.acc hb2
  replace hBi := hBi.acc hb2
  refine WR_val rfl (rn_assign) ?_
  refine WR_val rfl (rn_assign) ?_
  refine WR_val rfl (rn_assign) ?_
  refine WR_nil ?_
  refine thenN ?_
  refine W_seq ?_
  refine W_region ?_
  refine WR_val rfl (rn_move) ?_
  refine WR_ent rfl (rn_call (by kernel_rfl) rfl) (parts35r l p 0 cp w2 (h.below hBi (Nat.le_refl _)) (by omega)) ?_
  rintro _ w15 ⟨vs, q, cq, rfl, hq, hsl, hqb, hb15⟩
  replace hr2 := hr2.new hb15
  replace hB := hB.acc hb15
  replace hBi := hBi.acc hb15
  refine WR_val rfl (rn_assign) ?_
  refine WR_nil ?_
  refine thenN ?_
  refine W_seq ?_
  refine W_seq ?_
  refine W_region ?_
  refine WR_val rfl (rn_move) ?_
  refine WR_val rfl (rn_lenSl (e := 25) (sz := 1) (by kernel_rfl) rfl rfl) ?_
  refine WR_val rfl (rn_eql rfl rfl) ?_
  refine WR_nil ?_
  refine thenN ?_
  refine W_tp rfl (rfl) ?_
  refine W_seq ?_
  refine W_region ?_
  refine WR_val rfl (rn_zeroed ([Value.int .u64 0, Value.int .i64 0]) (by kernel_rfl)) ?_
  refine WR_sk rfl (sk_storeA 2 ([.int .u64 0, .int .i64 0]) rfl rfl hr2 (by kernel_rfl) (by first | assumption | (simp; done) | (simp [bv_length, *]; done)) (by first | (simp; done) | (simp [bv_length, *]; done) | rfl) (by first | exact bv_one _ | assumption | (simp [Value.oneCell']; done)) (fun w901 hr2 ho901 => ?_))
  replace hB := ho901.below hB ge_hB_g2
  replace hBi := ho901.below hBi ge_hBi_g2
  refine WR_val rfl (rn_assign) ?_
  refine WR_val rfl (rn_assign) ?_
  refine WR_val rfl (rn_assign) ?_
  refine WR_nil ?_
  refine thenN ?_
  refine W_ret ?_
  refine thenR ?_
  refine ret_ret [_, _, _, _] ⟨⟨_, rfl, Ld.rowA (k := 2) hr2 (by kernel_rfl) (by kernel_rfl) (by first | (simp; done) | (simp [bv_length, *]; done))⟩, rfl, rfl, rfl, trivial⟩ ?_
  exact ⟨hB, .inl ⟨hJ, rfl⟩⟩

set_option maxHeartbeats 2000000 in
theorem refJoin (p : Option Addr) (n cp : Nat) (l : List UInt8) (w : World) (h : SlAt w p n 128 (bv l)) (hn : n ≤ 100000) (h0 : 0 < n) :
    Calls Try.prog 20 [.slice p n cp].toArray w (Ret fun v w' => RR l n w v w') := by
  have hB := Below.refl w.heap.size w
  have hBi := Below.refl w.heap.size w
  have hl : l.length = n * 128 := by simpa [bv_length] using h.len
  have hd : (halfAt l 0).length = 64 := halfAt_length _ _ (by omega)
  have hRR : ∀ v w', RR l n w v w' = (Below w.heap.size w w' ∧ ((refIs l n = false ∧ v = noneR) ∨ (refIs l n = true ∧ ∃ sp c, v = .tuple #[.agg #[.int .u64 (tagC (halfAt l 0)), .int .i64 (tagN (halfAt l 0))], .slice sp (joinB l).length c, .int .i64 (needN (joinB l).length : Nat), .bool true] ∧
    SlAt w' sp (joinB l).length 1 (bv (joinB l))))) := fun _ _ => rfl
  have hRI : refIs l n = (decide (0 < n) && mayT (tagC (halfAt l 0)) (tagN (halfAt l 0)) && decide (1 ≤ hMany (halfAt l 0) ∧ hMany (halfAt l 0) ≤ 2 * n) && decide (refK l ≤ 32768 ∧ manyN (refK l) = hMany (halfAt l 0)) && refOk l (hMany (halfAt l 0))) := rfl
  have hRO : refOk l (hMany (halfAt l 0)) = (List.range (hMany (halfAt l 0))).all fun i => decide ((halvesL (tagC (halfAt l 0)) (tagN (halfAt l 0)) (joinB l))[i]? = some (halfAt l i)) := rfl
  have hmb : hMany (halfAt l 0) < 65536 := numB_lt_of _ 2 (by simp; omega)
  have hkb : refK l < 4294967296 := numB_lt_of _ 4 (by simp; omega)
  have hJB : 1 ≤ hMany (halfAt l 0) → hMany (halfAt l 0) ≤ 2 * n → joinB l = ((bodies l (hMany (halfAt l 0))).drop 4).take (refK l) := by
    intro h1 h2
    have e : (bodies l (hMany (halfAt l 0))).take 4 = ((halfAt l 0).drop 16).take 4 := by
      obtain ⟨m, hm⟩ : ∃ m, hMany (halfAt l 0) = m + 1 := ⟨hMany (halfAt l 0) - 1, by omega⟩
      rw [hm, bodies, List.range_succ_eq_map, List.flatMap_cons, List.take_append_of_le_length (by rw [hBody, List.length_drop, hd]; omega)]
      rfl
    rw [joinB, joinK, e]; rfl
  have gm : ∀ q c w', SlAt w' q 2 1 (bv (((halfAt l 0).drop 14).take 2)) → Calls Try.prog 36 [.slice q 2 c].toArray w' (Ret fun v w2 => v = .int .u64 (hMany (halfAt l 0)) ∧ w' = w2) := fun q c w' hq => get36r q 2 c _ w' hq (by omega)
  have gk : ∀ q c w', SlAt w' q 4 1 (bv (((halfAt l 0).drop 16).take 4)) → Calls Try.prog 36 [.slice q 4 c].toArray w' (Ret fun v w2 => v = .int .u64 (refK l) ∧ w' = w2) := fun q c w' hq => get36r q 4 c _ w' hq (by omega)
  have gt := fun g o cp w' => tag25 (halfAt l 0) hd g o cp w'
  simp only [hRR]
  clear hRR
  generalize hMany (halfAt l 0) = m at *
  generalize refK l = K at *
  generalize tagC (halfAt l 0) = tc at *
  generalize tagN (halfAt l 0) = tn at *
  generalize refIs l n = J at *
  generalize refOk l m = O at *
  refine calls_W (fn := Try.f20) (rs := [.cell 2 24, .tmp 3, .tmp 4, .tmp 5]) (n := 99) Try.func20 rfl rfl Try.ntmps20 (by kernel_rfl) rfl ?_
  refine W_seq ?_
  refine W_region ?_
  refine WR_mk rfl (mk_alloc ([Value.int .u64 0, Value.int .i64 0]) (by kernel_rfl) (fun g2 w2 hg2 hr2 hb2 => ?_))
  have ge_hB_g2 := Nat.le_trans hB.size hg2
  have ge_hBi_g2 := Nat.le_trans hBi.size hg2
  replace hB := hB.acc hb2
  replace hBi := hBi.acc hb2
  refine WR_val rfl (rn_assign) ?_
  refine WR_val rfl (rn_assign) ?_
  refine WR_val rfl (rn_assign) ?_
  refine WR_nil ?_
  refine thenN ?_
  refine W_seq ?_
  refine W_region ?_
  refine WR_val rfl (rn_move) ?_
  have q2 := hr2.lt
  refine WR_ent rfl (rn_call (by kernel_rfl) rfl) (parts35r l p n cp w2 (h.below hBi (Nat.le_refl _)) (by omega)) ?_
  rintro _ w15 ⟨vs, q, cq, rfl, hq, hsl, hqb, hb15⟩
  replace hr2 := hr2.new hb15
  replace hB := hB.acc hb15
  replace hBi := hBi.acc hb15
  have hobt := hq.some (by omega)
  obtain ⟨gq, oq, rfl, hgq⟩ := hobt
  have hqb := hqb gq oq rfl
  have hobt := hsl.get 0 (partsL_get l _ 0 (by omega))
  obtain ⟨b0, o0, c0, hv0, hs0, hb0, hcb0⟩ := hobt
  rw [hd] at hv0 hs0 hcb0
  have hBp := Below.refl w15.heap.size w15
  refine WR_val rfl (rn_assign) ?_
  refine WR_nil ?_
  refine thenN ?_
  refine W_seq ?_
  refine W_seq ?_
  refine W_region ?_
  refine WR_val rfl (rn_move) ?_
  refine WR_val rfl (rn_lenSl (e := 25) (sz := 1) (by kernel_rfl) rfl rfl) ?_
  refine WR_val rfl (rn_eql rfl rfl) ?_
  refine WR_nil ?_
  refine thenN ?_
  refine W_fp rfl ((by omega)) ?_
  refine W_skip ?_
  refine thenN ?_
  refine W_cut (α := Nat) (fun g7 => [(7, .pointer (some ⟨g7, 0, none⟩)), (8, .int .i64 m), (6, .slice (some ⟨gq, oq, none⟩) (2 * n) cq), (2, .pointer (some ⟨g2, 0, none⟩))]) (fun g7 w' => row w' g7 [.int .u64 tc, .int .i64 tn] 24 ∧ row w' g2 [.int .u64 0, .int .i64 0] 24 ∧ Below w.heap.size w w' ∧ Below w15.heap.size w15 w' ∧ w15.heap.size ≤ g7) ?_ ?_
  ·
    refine W_draw' [] (by kernel_rfl) ?_
    intro w901 hb901 hS901
    replace hr2 := hr2.new hb901
    replace hq := hq.new hb901
    replace hs0 := hs0.new hb901
    replace hB := hB.acc hb901
    replace hBi := hBi.acc hb901
    replace hBp := hBp.acc hb901
    have hr2_d901 := hr2
    have hq_d901 := hq
    have hs0_d901 := hs0
    have hB_d901 := hB
    have hBi_d901 := hBi
    have hBp_d901 := hBp
    refine WA_take 0 (by kernel_rfl) rfl (fun _ _ => rn_move) ?_
    refine WA_take 1 (by kernel_rfl) rfl (fun _ _ => rn_indexSl1 (e := 25) (by kernel_rfl) rfl rfl (0) rfl (by omega)) ?_
    refine WA_take 2 (by kernel_rfl) rfl (fun w' hS' => rn_load rfl (Ld.sl1 (hq_d901.kpd hS' (by first | (simp; done) | (simp; omega))) (by kernel_rfl) hv0)) ?_
    refine WA_take 4 (by kernel_rfl) rfl (fun _ _ => rn_move) ?_
    refine WA_take 5 (by kernel_rfl) rfl (fun _ _ => rn_indexSl1 (e := 25) (by kernel_rfl) rfl rfl (0) rfl (by omega)) ?_
    refine WA_take 6 (by kernel_rfl) rfl (fun w' hS' => rn_load rfl (Ld.sl1 (hq_d901.kpd hS' (by first | (simp; done) | (simp; omega))) (by kernel_rfl) hv0)) ?_
    refine WA_take 7 (by kernel_rfl) rfl (fun _ _ => rn_sliceSl1' (e := 5) (14) (16) (_) (2) (by kernel_rfl) rfl ⟨_, _, rfl, rfl⟩ ⟨_, _, rfl, rfl⟩ rfl (by simp) (by omega) (by omega) (by omega) (by omega) (by omega)) ?_
    refine WA_two 3 10 (by kernel_rfl) ?_ ?_
    ·
      refine WO_ent rfl rfl (rn_call (by kernel_rfl) rfl) (gt _ _ _ w901 hs0 (by omega)) ?_
      rintro _ w23 ⟨rfl, hb23⟩
      have hS902 := hS901.add0 hb23
      refine ⟨hS902, ?_⟩
      replace hr2 := hr2.new hb23
      replace hq := hq.new hb23
      replace hs0 := hs0.new hb23
      replace hB := hB.acc hb23
      replace hBi := hBi.acc hb23
      replace hBp := hBp.acc hb23
      refine WA_call 8 (by kernel_rfl) rfl (fun _ => rn_call (by kernel_rfl) rfl) (fun w' hS' => gm _ _ w' ((hs0_d901.kpd hS' (by first | (simp; done) | (simp; omega))).subB 14 2 (by omega))) ?_
      refine WA_take 9 (by kernel_rfl) rfl (fun _ _ => rn_conv (k := .i64) (by kernel_rfl) (by kernel_rfl) rfl (w64 (by omega))) ?_
      refine WA_one 10 (by kernel_rfl) ?_
      have zb0 := hs0.ltB (by omega)
      have zgq := hq.ltB (by omega)
      have zBp := hBp.size
      refine WO_mk rfl rfl (mk_alloc ([Value.int .u64 0, Value.int .i64 0]) (by kernel_rfl) (fun g7 w7 hg7 hr7 hb7 => ?_))
      have hS903 := hS902.add0 hb7
      refine ⟨hS903, ?_⟩
      have ge_hS902_g7 := Nat.le_trans hS902.size hg7
      have ge_hB_g7 := Nat.le_trans hB.size hg7
      have ge_hBi_g7 := Nat.le_trans hBi.size hg7
      have ge_hBp_g7 := Nat.le_trans hBp.size hg7
      have lt_g2_g7 : g2 < g7 := Nat.lt_of_lt_of_le hr2.lt hg7
      replace hr2 := hr2.new hb7
      replace hq := hq.new hb7
      replace hs0 := hs0.new hb7
      replace hB := hB.acc hb7
      replace hBi := hBi.acc hb7
      replace hBp := hBp.acc hb7
      refine WA_one 11 (by kernel_rfl) ?_
      refine WO_sk rfl rfl (sk_storeA 2 ([.int .u64 tc, .int .i64 tn]) rfl rfl hr7 (by kernel_rfl) (by first | assumption | (simp; done) | (simp [bv_length, *]; done)) (by first | (simp; done) | (simp [bv_length, *]; done) | rfl) (by first | exact bv_one _ | assumption | (simp [Value.oneCell']; done)) (fun w905 hr7 ho905 => ?_))
      have hS904 := hS903.add1 ho905 (by first | (left; omega) | (right; simp; done) | (right; simp; omega))
      refine ⟨hS904, ?_⟩
      replace hr2 := hr2.only ho905 (Nat.ne_of_lt lt_g2_g7)
      replace hq := hq.only ho905 (by omega)
      replace hs0 := hs0.only ho905 (by omega)
      replace hB := ho905.below hB ge_hB_g7
      replace hBi := ho905.below hBi ge_hBi_g7
      replace hBp := ho905.below hBp ge_hBp_g7
      refine WA_take 12 (by kernel_rfl) rfl (fun _ _ => rn_assign) ?_
      refine WA_done (by kernel_rfl) ?_
      exact loopN ⟨g7, ⟨rfl, rfl, rfl, rfl, rfl⟩, hr7, hr2, hB, hBp, by omega⟩
    ·
      have zb0 := hs0.ltB (by omega)
      have zgq := hq.ltB (by omega)
      have zBp := hBp.size
      refine WO_mk rfl rfl (mk_alloc ([Value.int .u64 0, Value.int .i64 0]) (by kernel_rfl) (fun g7 w7 hg7 hr7 hb7 => ?_))
      have hS906 := hS901.add0 hb7
      refine ⟨hS906, ?_⟩
      have ge_hS901_g7 := Nat.le_trans hS901.size hg7
      have ge_hB_g7 := Nat.le_trans hB.size hg7
      have ge_hBi_g7 := Nat.le_trans hBi.size hg7
      have ge_hBp_g7 := Nat.le_trans hBp.size hg7
      have lt_g2_g7 : g2 < g7 := Nat.lt_of_lt_of_le hr2.lt hg7
      replace hr2 := hr2.new hb7
      replace hq := hq.new hb7
      replace hs0 := hs0.new hb7
      replace hB := hB.acc hb7
      replace hBi := hBi.acc hb7
      replace hBp := hBp.acc hb7
      refine WA_one 3 (by kernel_rfl) ?_
      refine WO_ent rfl rfl (rn_call (by kernel_rfl) rfl) (gt _ _ _ w7 hs0 (by omega)) ?_
      rintro _ w23 ⟨rfl, hb23⟩
      have hS907 := hS906.add0 hb23
      refine ⟨hS907, ?_⟩
      replace hr2 := hr2.new hb23
      replace hq := hq.new hb23
      replace hs0 := hs0.new hb23
      replace hr7 := hr7.new hb23
      replace hB := hB.acc hb23
      replace hBi := hBi.acc hb23
      replace hBp := hBp.acc hb23
      refine WA_call 8 (by kernel_rfl) rfl (fun _ => rn_call (by kernel_rfl) rfl) (fun w' hS' => gm _ _ w' ((hs0_d901.kpd hS' (by first | (simp; done) | (simp; omega))).subB 14 2 (by omega))) ?_
      refine WA_take 9 (by kernel_rfl) rfl (fun _ _ => rn_conv (k := .i64) (by kernel_rfl) (by kernel_rfl) rfl (w64 (by omega))) ?_
      refine WA_one 11 (by kernel_rfl) ?_
      refine WO_sk rfl rfl (sk_storeA 2 ([.int .u64 tc, .int .i64 tn]) rfl rfl hr7 (by kernel_rfl) (by first | assumption | (simp; done) | (simp [bv_length, *]; done)) (by first | (simp; done) | (simp [bv_length, *]; done) | rfl) (by first | exact bv_one _ | assumption | (simp [Value.oneCell']; done)) (fun w909 hr7 ho909 => ?_))
      have hS908 := hS907.add1 ho909 (by first | (left; omega) | (right; simp; done) | (right; simp; omega))
      refine ⟨hS908, ?_⟩
      replace hr2 := hr2.only ho909 (Nat.ne_of_lt lt_g2_g7)
      replace hq := hq.only ho909 (by omega)
      replace hs0 := hs0.only ho909 (by omega)
      replace hB := ho909.below hB ge_hB_g7
      replace hBi := ho909.below hBi ge_hBi_g7
      replace hBp := ho909.below hBp ge_hBp_g7
      refine WA_take 12 (by kernel_rfl) rfl (fun _ _ => rn_assign) ?_
      refine WA_done (by kernel_rfl) ?_
      exact loopN ⟨g7, ⟨rfl, rfl, rfl, rfl, rfl⟩, hr7, hr2, hB, hBp, by omega⟩
  ·
    rintro g7 f4 w4 ⟨hr7, hr2, hB, hBp, hg7⟩
    have hq := hq.below hBp (Nat.le_refl _)
    have hs0 := hs0.below hBp (Nat.le_refl _)
    refine W_seq ?_
    refine W_seq ?_
    refine W_region ?_
    refine WR_val rfl (rn_load rfl (Ld.rowA (k := 2) hr7 (by kernel_rfl) (by kernel_rfl) rfl)) ?_
    refine WR_ent rfl (rn_call (by kernel_rfl) rfl) (may11r tc tn w4) ?_
    rintro _ w31 ⟨rfl, hb31⟩
    replace hr2 := hr2.new hb31
    replace hq := hq.new hb31
    replace hs0 := hs0.new hb31
    replace hr7 := hr7.new hb31
    replace hB := hB.acc hb31
    replace hBp := hBp.acc hb31
    refine WR_val rfl (rn_not rfl) ?_
    refine WR_val rfl (rn_move) ?_
    refine WR_partnb 33 rfl (fun hm1 => ?_) (fun hm1 => ?_)
    ·
      refine WR_no rfl rfl ?_
      refine WR_no rfl rfl ?_
      refine WR_val rfl (rn_pick_t rfl) ?_
      refine WR_val rfl (rn_move) ?_
      refine WR_no rfl rfl ?_
      refine WR_no rfl rfl ?_
      refine WR_no rfl rfl ?_
      refine WR_no rfl rfl ?_
      refine WR_val rfl (rn_pick_t rfl) ?_
      refine WR_nil ?_
      refine thenN ?_
      refine W_t rfl ?_
      refine W_seq ?_
      refine W_region ?_
      refine WR_val rfl (rn_zeroed ([Value.int .u64 0, Value.int .i64 0]) (by kernel_rfl)) ?_
      refine WR_sk rfl (sk_storeA 2 ([.int .u64 0, .int .i64 0]) rfl rfl hr2 (by kernel_rfl) (by first | assumption | (simp; done) | (simp [bv_length, *]; done)) (by first | (simp; done) | (simp [bv_length, *]; done) | rfl) (by first | exact bv_one _ | assumption | (simp [Value.oneCell']; done)) (fun w910 hr2 ho910 => ?_))
      replace hr7 := hr7.only ho910 (by omega)
      replace hB := ho910.below hB ge_hB_g2
      refine WR_val rfl (rn_assign) ?_
      refine WR_val rfl (rn_assign) ?_
      refine WR_val rfl (rn_assign) ?_
      refine WR_nil ?_
      refine thenN ?_
      refine W_ret ?_
      refine thenR ?_
      refine ret_ret [_, _, _, _] ⟨⟨_, rfl, Ld.rowA (k := 2) hr2 (by kernel_rfl) (by kernel_rfl) (by first | (simp; done) | (simp [bv_length, *]; done))⟩, rfl, rfl, rfl, trivial⟩ ?_
      · exact ⟨hB, .inl ⟨by rw [hRI, hm1]; simp, rfl⟩⟩
    ·
      have hmb2 := may_bounds hm1
      refine WR_yes rfl ?_
      refine WR_val rfl (rn_move) ?_
      refine WR_yes rfl ?_
      refine WR_val rfl (rn_lss rfl rfl) ?_
      refine WR_val rfl (rn_pick_f rfl) ?_
      refine WR_val rfl (rn_move) ?_
      refine WR_part 37 rfl (fun hc1 => ?_) (fun hc1 => ?_)
      ·
        refine WR_no rfl rfl ?_
        refine WR_no rfl rfl ?_
        refine WR_no rfl rfl ?_
        refine WR_no rfl rfl ?_
        refine WR_val rfl (rn_pick_t rfl) ?_
        refine WR_nil ?_
        refine thenN ?_
        refine W_t rfl ?_
        refine W_seq ?_
        refine W_region ?_
        refine WR_val rfl (rn_zeroed ([Value.int .u64 0, Value.int .i64 0]) (by kernel_rfl)) ?_
        refine WR_sk rfl (sk_storeA 2 ([.int .u64 0, .int .i64 0]) rfl rfl hr2 (by kernel_rfl) (by first | assumption | (simp; done) | (simp [bv_length, *]; done)) (by first | (simp; done) | (simp [bv_length, *]; done) | rfl) (by first | exact bv_one _ | assumption | (simp [Value.oneCell']; done)) (fun w911 hr2 ho911 => ?_))
        replace hr7 := hr7.only ho911 (by omega)
        replace hB := ho911.below hB ge_hB_g2
        refine WR_val rfl (rn_assign) ?_
        refine WR_val rfl (rn_assign) ?_
        refine WR_val rfl (rn_assign) ?_
        refine WR_nil ?_
        refine thenN ?_
        refine W_ret ?_
        refine thenR ?_
        refine ret_ret [_, _, _, _] ⟨⟨_, rfl, Ld.rowA (k := 2) hr2 (by kernel_rfl) (by kernel_rfl) (by first | (simp; done) | (simp [bv_length, *]; done))⟩, rfl, rfl, rfl, trivial⟩ ?_
        · exact ⟨hB, .inl ⟨by rw [hRI, decide_eq_false (by omega : ¬ (1 ≤ m ∧ m ≤ 2 * n))]; simp, rfl⟩⟩
      ·
        refine WR_yes rfl ?_
        refine WR_val rfl (rn_move) ?_
        refine WR_yes rfl ?_
        refine WR_val rfl (rn_move) ?_
        refine WR_yes rfl ?_
        refine WR_val rfl (rn_lenSl (e := 25) (sz := 1) (by kernel_rfl) rfl rfl) ?_
        refine WR_yes rfl ?_
        refine WR_val rfl (rn_gtr rfl rfl) ?_
        refine WR_val rfl (rn_pick_f rfl) ?_
        refine WR_nil ?_
        refine thenN ?_
        refine W_ifp rfl (fun hc2 => ?_) (fun hc2 => ?_)
        ·
          refine W_seq ?_
          refine W_region ?_
          refine WR_val rfl (rn_zeroed ([Value.int .u64 0, Value.int .i64 0]) (by kernel_rfl)) ?_
          refine WR_sk rfl (sk_storeA 2 ([.int .u64 0, .int .i64 0]) rfl rfl hr2 (by kernel_rfl) (by first | assumption | (simp; done) | (simp [bv_length, *]; done)) (by first | (simp; done) | (simp [bv_length, *]; done) | rfl) (by first | exact bv_one _ | assumption | (simp [Value.oneCell']; done)) (fun w912 hr2 ho912 => ?_))
          replace hr7 := hr7.only ho912 (by omega)
          replace hB := ho912.below hB ge_hB_g2
          refine WR_val rfl (rn_assign) ?_
          refine WR_val rfl (rn_assign) ?_
          refine WR_val rfl (rn_assign) ?_
          refine WR_nil ?_
          refine thenN ?_
          refine W_ret ?_
          refine thenR ?_
          refine ret_ret [_, _, _, _] ⟨⟨_, rfl, Ld.rowA (k := 2) hr2 (by kernel_rfl) (by kernel_rfl) (by first | (simp; done) | (simp [bv_length, *]; done))⟩, rfl, rfl, rfl, trivial⟩ ?_
          · exact ⟨hB, .inl ⟨by rw [hRI, decide_eq_false (by omega : ¬ (1 ≤ m ∧ m ≤ 2 * n))]; simp, rfl⟩⟩
        ·
          have hJB := hJB (by omega) (by omega)
          refine W_skip ?_
          refine thenN ?_
          refine W_seq ?_
          refine W_region ?_
          refine WR_val rfl (rn_move) ?_
          refine WR_val rfl (rn_indexSl1 (e := 25) (by kernel_rfl) rfl rfl (0) rfl (by omega)) ?_
          refine WR_val rfl (rn_load rfl (Ld.sl1 hq (by kernel_rfl) hv0)) ?_
          refine WR_val rfl (rn_sliceSl1' (e := 5) (16) (20) (_) (4) (by kernel_rfl) rfl ⟨_, _, rfl, rfl⟩ ⟨_, _, rfl, rfl⟩ rfl (by simp) (by omega) (by omega) (by omega) (by omega) (by omega)) ?_
          refine WR_ent rfl (rn_call (by kernel_rfl) rfl) (gk _ _ w31 (hs0.subB 16 4 (by omega))) ?_
          rintro _ _ ⟨rfl, rfl⟩
          refine WR_val rfl (rn_conv (k := .i64) (by kernel_rfl) (by kernel_rfl) rfl (w64 (by omega))) ?_
          refine WR_val rfl (rn_assign) ?_
          refine WR_nil ?_
          refine thenN ?_
          refine W_seq ?_
          refine W_seq ?_
          refine W_region ?_
          refine WR_val rfl (rn_move) ?_
          refine WR_val rfl (rn_gtr rfl rfl) ?_
          refine WR_val rfl (rn_move) ?_
          refine WR_part 52 rfl (fun hk1 => ?_) (fun hk1 => ?_)
          ·
            refine WR_no rfl rfl ?_
            refine WR_no rfl rfl ?_
            refine WR_no rfl rfl ?_
            refine WR_no rfl rfl ?_
            refine WR_val rfl (rn_pick_t rfl) ?_
            refine WR_nil ?_
            refine thenN ?_
            refine W_t rfl ?_
            refine W_seq ?_
            refine W_region ?_
            refine WR_val rfl (rn_zeroed ([Value.int .u64 0, Value.int .i64 0]) (by kernel_rfl)) ?_
            refine WR_sk rfl (sk_storeA 2 ([.int .u64 0, .int .i64 0]) rfl rfl hr2 (by kernel_rfl) (by first | assumption | (simp; done) | (simp [bv_length, *]; done)) (by first | (simp; done) | (simp [bv_length, *]; done) | rfl) (by first | exact bv_one _ | assumption | (simp [Value.oneCell']; done)) (fun w913 hr2 ho913 => ?_))
            replace hr7 := hr7.only ho913 (by omega)
            replace hB := ho913.below hB ge_hB_g2
            refine WR_val rfl (rn_assign) ?_
            refine WR_val rfl (rn_assign) ?_
            refine WR_val rfl (rn_assign) ?_
            refine WR_nil ?_
            refine thenN ?_
            refine W_ret ?_
            refine thenR ?_
            refine ret_ret [_, _, _, _] ⟨⟨_, rfl, Ld.rowA (k := 2) hr2 (by kernel_rfl) (by kernel_rfl) (by first | (simp; done) | (simp [bv_length, *]; done))⟩, rfl, rfl, rfl, trivial⟩ ?_
            · exact ⟨hB, .inl ⟨by rw [hRI, decide_eq_false (by omega : ¬ (K ≤ 32768 ∧ manyN K = m))]; simp, rfl⟩⟩
          ·
            refine WR_yes rfl ?_
            refine WR_val rfl (rn_move) ?_
            refine WR_yes rfl ?_
            refine WR_ent rfl (rn_call (by kernel_rfl) rfl) (many28r K (by omega) w31) ?_
            rintro _ _ ⟨rfl, rfl⟩
            refine WR_yes rfl ?_
            refine WR_val rfl (rn_move) ?_
            refine WR_yes rfl ?_
            refine WR_val rfl (rn_neq rfl rfl) ?_
            refine WR_val rfl (rn_pick_f rfl) ?_
            refine WR_nil ?_
            refine thenN ?_
            refine W_ifp rfl (fun hk2 => ?_) (fun hk2 => ?_)
            ·
              refine W_seq ?_
              refine W_region ?_
              refine WR_val rfl (rn_zeroed ([Value.int .u64 0, Value.int .i64 0]) (by kernel_rfl)) ?_
              refine WR_sk rfl (sk_storeA 2 ([.int .u64 0, .int .i64 0]) rfl rfl hr2 (by kernel_rfl) (by first | assumption | (simp; done) | (simp [bv_length, *]; done)) (by first | (simp; done) | (simp [bv_length, *]; done) | rfl) (by first | exact bv_one _ | assumption | (simp [Value.oneCell']; done)) (fun w914 hr2 ho914 => ?_))
              replace hr7 := hr7.only ho914 (by omega)
              replace hB := ho914.below hB ge_hB_g2
              refine WR_val rfl (rn_assign) ?_
              refine WR_val rfl (rn_assign) ?_
              refine WR_val rfl (rn_assign) ?_
              refine WR_nil ?_
              refine thenN ?_
              refine W_ret ?_
              refine thenR ?_
              refine ret_ret [_, _, _, _] ⟨⟨_, rfl, Ld.rowA (k := 2) hr2 (by kernel_rfl) (by kernel_rfl) (by first | (simp; done) | (simp [bv_length, *]; done))⟩, rfl, rfl, rfl, trivial⟩ ?_
              · exact ⟨hB, .inl ⟨by rw [hRI, decide_eq_false (by omega : ¬ (K ≤ 32768 ∧ manyN K = m))]; simp, rfl⟩⟩
            ·
              have hmk : manyN K = m := by omega
              have hmle := manyN_le K
              rw [hmk] at hmle
              have hRI2 : J = O := by rw [hRI, hm1, decide_eq_true h0, decide_eq_true (by omega : 1 ≤ m ∧ m ≤ 2 * n), decide_eq_true (by omega : K ≤ 32768 ∧ manyN K = m)]; simp
              refine W_skip ?_
              refine thenN ?_
              refine W_seq ?_
              refine W_region ?_
              refine WR_val rfl (rn_assign) ?_
              refine WR_nil ?_
              refine thenN ?_
              refine W_seq ?_
              refine W_seq ?_
              refine W_region ?_
              refine WR_val rfl (rn_assign) ?_
              refine WR_nil ?_
              refine thenN ?_
              refine W_block ?_
              have hsl0 := hsl.new hBp
              have q2L := hr2.lt
              have hB0 := Below.refl w31.heap.size w31
              refine W_loop (α := Nat × Value) (0, .slice none 0 0) (fun k => [(10, k.2), (11, .int .i64 (k.1 : Nat)), (8, .int .i64 m), (6, .slice (some ⟨gq, oq, none⟩) (2 * n) cq), (9, .int .i64 K), (7, .pointer (some ⟨g7, 0, none⟩)), (2, .pointer (some ⟨g2, 0, none⟩))])
                (fun k w' => k.1 ≤ m ∧ ownsAt w' w31.heap.size 5 1 k.2 (48 * k.1) (bv (bodies l k.1)) ∧ Below w31.heap.size w31 w') (fun k => m - k.1)
                ⟨rfl, rfl, rfl, rfl, rfl, rfl, rfl, rfl⟩ ⟨Nat.zero_le _, ownsAt_nil _ _ _ _, hB0⟩ ?_
              rintro ⟨i, v10⟩ f wr ⟨hi, hv10, hBL⟩
              simp only at hi hv10
              have hszr := hBL.size
              refine W_seq ?_
              refine W_seq ?_
              refine W_region ?_
              refine WR_val rfl (rn_move) ?_
              refine WR_val rfl (rn_move) ?_
              refine WR_val rfl (rn_lss rfl rfl) ?_
              refine WR_nil ?_
              refine thenN ?_
              refine W_ifp rfl (fun hlt => ?_) (fun hlt => ?_)
              ·
                refine W_skip ?_
                refine thenN ?_
                refine W_seq ?_
                refine W_block ?_
                refine W_region ?_
                refine WR_val rfl (rn_move) ?_
                refine WR_val rfl (rn_move) ?_
                refine WR_val rfl (rn_move) ?_
                have hli : (halfAt l i).length = 64 := halfAt_length _ _ (by omega)
                have hobt := hsl0.get i (partsL_get l _ i (by omega))
                obtain ⟨bi, oi, ci, hvi, hsi, hbi, hci⟩ := hobt
                rw [hli] at hvi hsi hci
                have hs70 := (hsi.below hBL (Nat.le_refl _)).subB 16 48 (by omega)
                rw [show ((halfAt l i).drop 16).take 48 = hBody (halfAt l i) from List.take_of_length_le (by rw [List.length_drop, hli]; omega)] at hs70
                refine WR_val rfl (rn_indexSl1 (e := 25) (by kernel_rfl) rfl rfl (i) (by omega) (by omega)) ?_
                refine WR_val rfl (rn_load rfl (Ld.sl1 (hq.below hBL (Nat.le_refl _)) (by kernel_rfl) hvi)) ?_
                refine WR_val rfl (rn_sliceSl1' (e := 5) (16) (_) (_) (48) (by kernel_rfl) rfl ⟨_, _, rfl, rfl⟩ rfl rfl (by simp) (by omega) (by omega) (by omega) (by omega) (by omega)) ?_
                have sz_hBL_70 := hBL.size
                refine WR_mk rfl (mk_append (e := 5) (sz := 1) (bytes := 1) (z := Value.int .u8 0) (by kernel_rfl) rfl (by kernel_rfl) rfl (by decide) rfl hv10 rfl hs70 (bv_one _) (by unfold maxLen; omega) (by omega) (fun hm0 => by omega) (fun v70 w70 hv70 hgr70 hfr70 => ?_))
                replace hBL := hBL.own hv10 hgr70 (by omega)
                refine WR_val rfl (rn_assign) ?_
                refine WR_nil ?_
                refine blockN ?_
                refine thenN ?_
                refine W_region ?_
                refine WR_val rfl (rn_move) ?_
                refine WR_val rfl (rn_add rfl rfl (Coup.w64 (by omega))) ?_
                refine WR_val rfl (rn_assign) ?_
                refine WR_nil ?_
                refine loopN ⟨(i + 1, v70), by simp only; omega, ⟨rfl, by go_num, rfl, rfl, rfl, rfl, rfl, rfl⟩, by simp only; omega, ?_, hBL⟩
                simp only
                rw [bodies_succ, bv_append, show 48 * (i + 1) = 48 * i + 48 by omega]
                exact hv70
              ·
                obtain rfl : i = m := by omega
                obtain ⟨g10, o10, c10, rfl, b10, l10, hc10⟩ := hv10.form' (by omega)
                have hx10 := hv10.sl
                have hbl := bodies_length l i (by omega)
                have hJl : (joinB l).length = K := by rw [hJB, List.length_take, List.length_drop, hbl]; omega
                have hxB := hx10.subB 4 K (by omega)
                rw [← hJB] at hxB
                have hq := hq.below hBL (Nat.le_refl _)
                have hr2 := hr2.new hBL
                have hr7 := hr7.new hBL
                have hsl := hsl0.new hBL
                have hB := hB.acc hBL
                have hBq := Below.refl wr.heap.size wr
                refine W_exit ?_
                refine thenX ?_
                refine loopX ?_
                refine blockX ?_
                refine thenN ?_
                refine W_seq ?_
                refine W_region ?_
                refine WR_val rfl (rn_move) ?_
                refine WR_val rfl (rn_move) ?_
                refine WR_val rfl (rn_add rfl rfl (w64 (by omega))) ?_
                refine WR_val rfl (rn_sliceSl1' (e := 5) (4) (4 + K) (_) (K) (by kernel_rfl) rfl ⟨_, _, rfl, rfl⟩ ⟨_, _, rfl, by omega⟩ rfl (by simp) (by omega) (by omega) (by omega) (by omega) (by omega)) ?_
                refine WR_val rfl (rn_assign) ?_
                refine WR_nil ?_
                refine thenN ?_
                refine W_seq ?_
                refine W_region ?_
                refine WR_val rfl (rn_load rfl (Ld.rowA (k := 2) hr7 (by kernel_rfl) (by kernel_rfl) (by first | (simp; done) | (simp [bv_length, *]; done)))) ?_
                refine WR_val rfl (rn_move) ?_
                refine WR_ent rfl (rn_call (by kernel_rfl) rfl) (halves19r tc tn (joinB l) _ K _ wr hxB (by omega) (by omega) (by omega)) ?_
                rintro _ w77 ⟨vs2, q2, cq2, rfl, hq2, hsl2, hb77⟩
                replace hq := hq.new hb77
                replace hr2 := hr2.new hb77
                replace hr7 := hr7.new hb77
                replace hxB := hxB.new hb77
                replace hB := hB.acc hb77
                replace hBq := hBq.acc hb77
                refine WR_val rfl (rn_assign) ?_
                refine WR_nil ?_
                refine thenN ?_
                refine W_seq ?_
                refine W_seq ?_
                refine W_region ?_
                refine WR_val rfl (rn_assign) ?_
                refine WR_nil ?_
                refine thenN ?_
                refine W_block ?_
                have hml : manyN (joinB l).length = i := by rw [hJl, hmk]
                rw [hml] at hq2
                obtain ⟨gw, ow, rfl, hgw⟩ := hq2.some (by omega)
                have hsl1 := hsl.new hBq
                have hB0' := Below.refl w77.heap.size w77
                refine W_loop (α := Nat) 0 (fun j => [(13, .int .i64 (j : Nat)), (12, .slice (some ⟨gw, ow, none⟩) (manyN (joinB l).length) cq2), (8, .int .i64 i), (6, .slice (some ⟨gq, oq, none⟩) (2 * n) cq), (9, .int .i64 K), (7, .pointer (some ⟨g7, 0, none⟩)), (2, .pointer (some ⟨g2, 0, none⟩)), (10, .slice (some ⟨g10, o10 + 4, none⟩) K (c10 - 4))])
                  (fun j w' => j ≤ i ∧ (∀ x, x < j → (halvesL tc tn (joinB l))[x]? = some (halfAt l x)) ∧ Below w77.heap.size w77 w') (fun j => i - j)
                  ⟨rfl, rfl, rfl, rfl, rfl, rfl, rfl, rfl, rfl⟩ ⟨Nat.zero_le _, (by intro x hx; exact absurd hx (Nat.not_lt_zero _)), hB0'⟩ ?_
                rintro j f2 wz ⟨hj, hall, hB2⟩
                have hszz := hB2.size
                refine W_seq ?_
                refine W_seq ?_
                refine W_region ?_
                refine WR_val rfl (rn_move) ?_
                refine WR_val rfl (rn_move) ?_
                refine WR_val rfl (rn_lss rfl rfl) ?_
                refine WR_nil ?_
                refine thenN ?_
                refine W_ifp rfl (fun hlt2 => ?_) (fun hlt2 => ?_)
                ·
                  refine W_skip ?_
                  refine thenN ?_
                  refine W_seq ?_
                  refine W_block ?_
                  refine W_seq ?_
                  have hlj : (halfAt l j).length = 64 := halfAt_length _ _ (by omega)
                  have hobt := hsl1.get j (partsL_get l _ j (by omega))
                  obtain ⟨bi, oi, ci, hvi, hsi, hbi, hci⟩ := hobt
                  have hobt : ∃ X, (halvesL tc tn (joinB l))[j]? = some X := ⟨_, List.getElem?_eq_getElem (by rw [halvesL_len, hJl, hmk]; omega)⟩
                  obtain ⟨X, hX⟩ := hobt
                  have hobt := hsl2.get j hX
                  obtain ⟨bj, oj, cj, hvj, hsj, hbj, hcj⟩ := hobt
                  have hqa := hq.below hB2 (Nat.le_refl _)
                  have hqb := hq2.below hB2 (Nat.le_refl _)
                  have hsia := hsi.below hB2 (Nat.le_refl _)
                  have hsja := hsj.below hB2 (Nat.le_refl _)
                  refine W_draw' [] (by kernel_rfl) ?_
                  intro w915 hb915 hS915
                  replace hqa := hqa.new hb915
                  replace hqb := hqb.new hb915
                  replace hsia := hsia.new hb915
                  replace hsja := hsja.new hb915
                  replace hB2 := hB2.acc hb915
                  have hqa_d915 := hqa
                  have hqb_d915 := hqb
                  have hsia_d915 := hsia
                  have hsja_d915 := hsja
                  have hB2_d915 := hB2
                  refine WA_take 0 (by kernel_rfl) rfl (fun _ _ => rn_move) ?_
                  refine WA_take 1 (by kernel_rfl) rfl (fun _ _ => rn_move) ?_
                  refine WA_take 2 (by kernel_rfl) rfl (fun _ _ => rn_indexSl1 (e := 25) (by kernel_rfl) rfl rfl (j) (by omega) (by omega)) ?_
                  refine WA_take 3 (by kernel_rfl) rfl (fun w' hS' => rn_load rfl (Ld.sl1 (hqb_d915.kpd hS' (by first | (simp; done) | (simp; omega))) (by kernel_rfl) hvj)) ?_
                  refine WA_take 4 (by kernel_rfl) rfl (fun w' hS' => rn_str (e := 5) (by kernel_rfl) (by kernel_rfl) (by kernel_rfl) rfl (hsja_d915.kpd hS' (by first | (simp; done) | (simp; omega)))) ?_
                  refine WA_take 5 (by kernel_rfl) rfl (fun _ _ => rn_move) ?_
                  refine WA_take 6 (by kernel_rfl) rfl (fun _ _ => rn_move) ?_
                  refine WA_take 7 (by kernel_rfl) rfl (fun _ _ => rn_indexSl1 (e := 25) (by kernel_rfl) rfl rfl (j) (by omega) (by omega)) ?_
                  refine WA_take 8 (by kernel_rfl) rfl (fun w' hS' => rn_load rfl (Ld.sl1 (hqa_d915.kpd hS' (by first | (simp; done) | (simp; omega))) (by kernel_rfl) hvi)) ?_
                  refine WA_take 9 (by kernel_rfl) rfl (fun w' hS' => rn_str (e := 5) (by kernel_rfl) (by kernel_rfl) (by kernel_rfl) rfl (hsia_d915.kpd hS' (by first | (simp; done) | (simp; omega)))) ?_
                  refine WA_take 10 (by kernel_rfl) rfl (fun _ _ => rn_neqS rfl rfl) ?_
                  refine WA_done (by kernel_rfl) ?_
                  refine thenN ?_
                  refine W_if rfl (fun hne => ?_) (fun hne => ?_)
                  ·
                    refine W_seq ?_
                    refine W_region ?_
                    refine WR_val rfl (rn_zeroed ([Value.int .u64 0, Value.int .i64 0]) (by kernel_rfl)) ?_
                    have hr2 := hr2.new hB2
                    have hB := hB.acc hB2
                    refine WR_sk rfl (sk_storeA 2 ([.int .u64 0, .int .i64 0]) rfl rfl hr2 (by kernel_rfl) (by first | assumption | (simp; done) | (simp [bv_length, *]; done)) (by first | (simp; done) | (simp [bv_length, *]; done) | rfl) (by first | exact bv_one _ | assumption | (simp [Value.oneCell']; done)) (fun w916 hr2 ho916 => ?_))
                    replace hB := ho916.below hB ge_hB_g2
                    refine WR_val rfl (rn_assign) ?_
                    refine WR_val rfl (rn_assign) ?_
                    refine WR_val rfl (rn_assign) ?_
                    refine WR_nil ?_
                    refine thenN ?_
                    refine W_ret ?_
                    refine blockR ?_
                    refine thenR ?_
                    refine loopR ?_
                    refine blockR ?_
                    refine thenR ?_
                    refine ret_ret [_, _, _, _] ⟨⟨_, rfl, Ld.rowA (k := 2) hr2 (by kernel_rfl) (by kernel_rfl) (by first | (simp; done) | (simp [bv_length, *]; done))⟩, rfl, rfl, rfl, trivial⟩ ?_
                    simp only [Bool.not_eq_true', decide_eq_false_iff_not] at hne
                    have hO : O = false := by
                      rw [hRO]
                      exact List.all_eq_false.2 ⟨j, List.mem_range.2 (by omega), by rw [hX]; simpa using hne⟩
                    exact ⟨hB, .inl ⟨by rw [hRI2, hO], rfl⟩⟩
                  ·
                    simp only [Bool.not_eq_false', decide_eq_true_eq] at hne
                    refine W_skip ?_
                    refine blockN ?_
                    refine thenN ?_
                    refine W_region ?_
                    refine WR_val rfl (rn_move) ?_
                    refine WR_val rfl (rn_add rfl rfl (Coup.w64 (by omega))) ?_
                    refine WR_val rfl (rn_assign) ?_
                    refine WR_nil ?_
                    refine loopN ⟨j + 1, by omega, ⟨rfl, rfl, rfl, rfl, rfl, rfl, rfl, rfl, rfl⟩, by omega, ?_, hB2⟩
                    intro x hx
                    rcases Nat.lt_or_ge x j with hx' | hx'
                    · exact hall x hx'
                    · obtain rfl : x = j := by omega
                      rw [hX, hne]
                ·
                  have hO : O = true := by
                    rw [hRO]
                    exact List.all_eq_true.2 fun x hx => decide_eq_true (hall x (by have := List.mem_range.1 hx; omega))
                  have hnz : needZ K = (needN K : Nat) := needZ_nat (by omega)
                  have hr2 := hr2.new hB2
                  have hr7 := hr7.new hB2
                  have hxB := hxB.below hB2 (Nat.le_refl _)
                  have hB := hB.acc hB2
                  have q2 := hr2.lt
                  refine W_exit ?_
                  refine thenX ?_
                  refine loopX ?_
                  refine blockX ?_
                  refine thenN ?_
                  refine W_seq ?_
                  refine W_draw' [g2] (by kernel_rfl) ?_
                  intro w917 hb917 hS917
                  replace hr2 := hr2.new hb917
                  replace hr7 := hr7.new hb917
                  replace hxB := hxB.new hb917
                  replace hB := hB.acc hb917
                  have hr2_d917 := hr2
                  have hr7_d917 := hr7
                  have hxB_d917 := hxB
                  have hB_d917 := hB
                  refine WA_take 0 (by kernel_rfl) rfl (fun w' hS' => rn_load rfl (Ld.rowA (k := 2) (hr7_d917.kpd hS' (by first | (simp; done) | (simp; omega))) (by kernel_rfl) (by kernel_rfl) rfl)) ?_
                  refine WA_take 1 (by kernel_rfl) rfl (fun _ _ => rn_move) ?_
                  refine WA_take 2 (by kernel_rfl) rfl (fun _ _ => rn_move) ?_
                  refine WA_call 3 (by kernel_rfl) rfl (fun _ => rn_call (by kernel_rfl) rfl) (fun w' hS' => need13r K w') ?_
                  refine WA_one 4 (by kernel_rfl) ?_
                  refine WO_sk rfl rfl (sk_storeA 2 ([.int .u64 tc, .int .i64 tn]) rfl rfl hr2 (by kernel_rfl) (by first | assumption | (simp; done) | (simp [bv_length, *]; done)) (by first | (simp; done) | (simp [bv_length, *]; done) | rfl) (by first | exact bv_one _ | assumption | (simp [Value.oneCell']; done)) (fun w919 hr2 ho919 => ?_))
                  have hS918 := hS917.add1 ho919 (by first | (left; omega) | (right; simp; done) | (right; simp; omega))
                  refine ⟨hS918, ?_⟩
                  replace hr7 := hr7.only ho919 (by omega)
                  replace hxB := hxB.only ho919 (by omega)
                  replace hB := ho919.below hB ge_hB_g2
                  refine WA_take 5 (by kernel_rfl) rfl (fun _ _ => rn_assign) ?_
                  refine WA_take 6 (by kernel_rfl) rfl (fun _ _ => rn_assign) ?_
                  refine WA_take 7 (by kernel_rfl) rfl (fun _ _ => rn_assign) ?_
                  refine WA_done (by kernel_rfl) ?_
                  refine thenN ?_
                  refine W_ret ?_
                  refine ret_ret [_, _, _, _] ⟨⟨_, rfl, Ld.rowA (k := 2) hr2 (by kernel_rfl) (by kernel_rfl) (by first | (simp; done) | (simp [bv_length, *]; done))⟩, rfl, rfl, rfl, trivial⟩ ?_
                  refine ⟨hB, .inr ⟨by rw [hRI2, hO], some ⟨g10, o10 + 4, none⟩, c10 - 4, ?_, by rw [hJl]; exact hxB⟩⟩
                  have e : Value.tuple #[.agg #[.int .u64 tc, .int .i64 tn], .slice (some ⟨g10, o10 + 4, none⟩) K (c10 - 4), .int .i64 (needZ K), .bool true] = Value.tuple #[.agg #[.int .u64 tc, .int .i64 tn], .slice (some ⟨g10, o10 + 4, none⟩) (joinB l).length (c10 - 4), .int .i64 (needN (joinB l).length : Nat), .bool true] := by
                    rw [hnz, hJl]
                  exact e
end Go.Proofs.Ytnlocpldghpfcaa
