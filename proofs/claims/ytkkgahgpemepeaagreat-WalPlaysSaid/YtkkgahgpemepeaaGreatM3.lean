import Derived.Test.YtkkgahgpemepeaaGreatM2
import Derived.Test.YtkkgahgpemepeaaGreatM0
import Derived.Test.YtkkgahgpemepeaaGreatM1
import Derived.Lib.BufferWrite
namespace Go.Proofs.YtkkgahgpemepeaaGreat
open Go Go.RowKit Coup
def refOk (l : List UInt8) (m : Nat) : Bool := (List.range m).all fun i => decide ((halvesL (tagC (halfAt l 0)) (tagN (halfAt l 0)) (joinB l))[i]? = some (halfAt l i))
def refK (l : List UInt8) : Nat := numB (((halfAt l 0).drop 16).take 4)
def refIs (l : List UInt8) (n : Nat) : Bool :=
  decide (0 < n) && mayT (tagC (halfAt l 0)) (tagN (halfAt l 0)) && decide (1 ≤ hMany (halfAt l 0) ∧ hMany (halfAt l 0) ≤ 2 * n) && decide (refK l ≤ 32768 ∧ manyN (refK l) = hMany (halfAt l 0)) && refOk l (hMany (halfAt l 0))
def noneR : Value := .tuple #[.agg #[.int .u64 0, .int .i64 0], .slice none 0 0, .int .i64 0, .bool false]
def RR (l : List UInt8) (n : Nat) (w : World) (v : Value) (w' : World) : Prop :=
  Below w.heap.size w w' ∧ ((refIs l n = false ∧ v = noneR) ∨ (refIs l n = true ∧ ∃ sp c, v = .tuple #[.agg #[.int .u64 (tagC (halfAt l 0)), .int .i64 (tagN (halfAt l 0))], .slice sp (joinB l).length c, .int .i64 (needN (joinB l).length : Nat), .bool true] ∧
    SlAt w' sp (joinB l).length 1 (bv (joinB l)) ∧ (joinB l).length ≤ c))
set_option maxRecDepth 20000 in
theorem refJoin0 (p : Option Addr) (cp : Nat) (l : List UInt8) (w : World) (h : SlAt w p 0 128 (bv l)) : Calls Tryz.prog 46 [.slice p 0 cp].toArray w (Ret fun v w' => RR l 0 w v w') := by
  have hB := Below.refl w.heap.size w
  have hJ : refIs l 0 = false := by simp [refIs]
  have hBi := Below.refl w.heap.size w
  refine calls_W (fn := Tryz.f46) (rs := [.cell 2 86, .tmp 3, .tmp 4, .tmp 5]) (n := 99) Tryz.func46 rfl rfl Tryz.ntmps46 (by kernel_rfl) rfl ?_
  refine W_seq ?_
  refine W_region ?_
  refine WR_mk rfl (mk_alloc ([Value.int .u64 0, Value.int .i64 0]) (by kernel_rfl) (fun g2 w2 hg2 hr2 hb2 => ?_))
  have ge_hB_g2 := Nat.le_trans hB.size hg2
  have ge_hBi_g2 := Nat.le_trans hBi.size hg2
  replace hB := hB.acc hb2
  replace hBi := hBi.acc hb2
  refine WR_val rfl (rn_assign) ?_
  refine WR_val rfl (rn_assign) ?_
  refine WR_val rfl (rn_assign) ?_
  refine WR_nil ?_
  refine thenN ?_
  refine W_seq ?_
  refine W_region ?_
  refine WR_val rfl (rn_move) ?_
  refine WR_ent rfl (rn_call (by kernel_rfl) rfl) (parts35r l p 0 cp w2 (h.below hBi (Nat.le_refl _)) (by omega)) ?_
  rintro _ w15 ⟨vs, q, cq, rfl, hq, hsl, hqb, hb15⟩
  replace hr2 := hr2.new hb15
  replace hB := hB.acc hb15
  replace hBi := hBi.acc hb15
  refine WR_val rfl (rn_assign) ?_
  refine WR_nil ?_
  refine thenN ?_
  refine W_seq ?_
  refine W_seq ?_
  refine W_region ?_
  refine WR_val rfl (rn_move) ?_
  refine WR_val rfl (rn_lenSl (e := 67) (sz := 1) (by kernel_rfl) rfl rfl) ?_
  refine WR_val rfl (rn_eql rfl rfl) ?_
  refine WR_nil ?_
  refine thenN ?_
  refine W_tp rfl (rfl) ?_
  refine W_seq ?_
  refine W_region ?_
  refine WR_val rfl (rn_zeroed ([Value.int .u64 0, Value.int .i64 0]) (by kernel_rfl)) ?_
  refine WR_sk rfl (sk_storeA 2 ([.int .u64 0, .int .i64 0]) rfl rfl hr2 (by kernel_rfl) (by first | assumption | (simp; done) | (simp [bv_length, *]; done)) (by first | assumption | (simp; done) | (simp [bv_length, *]; done) | rfl) (by first | exact bv_one _ | assumption | (simp [Value.oneCell']; done)) (fun w901 hr2 ho901 => ?_))
  replace hB := ho901.below hB ge_hB_g2
  replace hBi := ho901.below hBi ge_hBi_g2
  refine WR_val rfl (rn_assign) ?_
  refine WR_val rfl (rn_assign) ?_
  refine WR_val rfl (rn_assign) ?_
  refine WR_nil ?_
  refine thenN ?_
  refine W_ret ?_
  refine thenR ?_
  refine ret_ret [_, _, _, _] ⟨⟨_, rfl, Ld.rowA (k := 2) hr2 (by kernel_rfl) (by kernel_rfl) (by first | (simp; done) | (simp [bv_length, *]; done) | assumption)⟩, rfl, rfl, rfl, trivial⟩ ?_
  exact ⟨hB, .inl ⟨hJ, rfl⟩⟩
set_option maxRecDepth 20000 in
set_option maxHeartbeats 2000000 in
theorem refJoin (p : Option Addr) (n cp : Nat) (l : List UInt8) (w : World) (h : SlAt w p n 128 (bv l)) (hn : n ≤ 100000) (h0 : 0 < n) :
    Calls Tryz.prog 46 [.slice p n cp].toArray w (Ret fun v w' => RR l n w v w') := by
  have hB := Below.refl w.heap.size w
  have hBi := Below.refl w.heap.size w
  have hl : l.length = n * 128 := by simpa [bv_length] using h.len
  have hd : (halfAt l 0).length = 64 := halfAt_length _ _ (by omega)
  have hRR : ∀ v w', RR l n w v w' = (Below w.heap.size w w' ∧ ((refIs l n = false ∧ v = noneR) ∨ (refIs l n = true ∧ ∃ sp c, v = .tuple #[.agg #[.int .u64 (tagC (halfAt l 0)), .int .i64 (tagN (halfAt l 0))], .slice sp (joinB l).length c, .int .i64 (needN (joinB l).length : Nat), .bool true] ∧
    SlAt w' sp (joinB l).length 1 (bv (joinB l)) ∧ (joinB l).length ≤ c))) := fun _ _ => rfl
  have hRI : refIs l n = (decide (0 < n) && mayT (tagC (halfAt l 0)) (tagN (halfAt l 0)) && decide (1 ≤ hMany (halfAt l 0) ∧ hMany (halfAt l 0) ≤ 2 * n) && decide (refK l ≤ 32768 ∧ manyN (refK l) = hMany (halfAt l 0)) && refOk l (hMany (halfAt l 0))) := rfl
  have hRO : refOk l (hMany (halfAt l 0)) = (List.range (hMany (halfAt l 0))).all fun i => decide ((halvesL (tagC (halfAt l 0)) (tagN (halfAt l 0)) (joinB l))[i]? = some (halfAt l i)) := rfl
  have hmb : hMany (halfAt l 0) < 65536 := numB_lt_of _ 2 (by simp; omega)
  have hkb : refK l < 4294967296 := numB_lt_of _ 4 (by simp; omega)
  have hJB : 1 ≤ hMany (halfAt l 0) → hMany (halfAt l 0) ≤ 2 * n → joinB l = ((bodies l (hMany (halfAt l 0))).drop 4).take (refK l) := by
    intro h1 h2
    have e : (bodies l (hMany (halfAt l 0))).take 4 = ((halfAt l 0).drop 16).take 4 := by
      obtain ⟨m, hm⟩ : ∃ m, hMany (halfAt l 0) = m + 1 := ⟨hMany (halfAt l 0) - 1, by omega⟩
      rw [hm, bodies, List.range_succ_eq_map, List.flatMap_cons, List.take_append_of_le_length (by rw [hBody, List.length_drop, hd]; omega)]
      rfl
    rw [joinB, joinK, e]; rfl
  have gm : ∀ q c w', SlAt w' q 2 1 (bv (((halfAt l 0).drop 14).take 2)) → Calls Tryz.prog 75 [.slice q 2 c].toArray w' (Ret fun v w2 => v = .int .u64 (hMany (halfAt l 0)) ∧ w' = w2) := fun q c w' hq => get36r q 2 c _ w' hq (by omega)
  have gk : ∀ q c w', SlAt w' q 4 1 (bv (((halfAt l 0).drop 16).take 4)) → Calls Tryz.prog 75 [.slice q 4 c].toArray w' (Ret fun v w2 => v = .int .u64 (refK l) ∧ w' = w2) := fun q c w' hq => get36r q 4 c _ w' hq (by omega)
  have gt := fun g o cp w' => tag25 (halfAt l 0) hd g o cp w'
  simp only [hRR]
  clear hRR
  generalize hMany (halfAt l 0) = m at *
  generalize refK l = K at *
  generalize tagC (halfAt l 0) = tc at *
  generalize tagN (halfAt l 0) = tn at *
  generalize refIs l n = J at *
  generalize refOk l m = O at *
  refine calls_W (fn := Tryz.f46) (rs := [.cell 2 86, .tmp 3, .tmp 4, .tmp 5]) (n := 99) Tryz.func46 rfl rfl Tryz.ntmps46 (by kernel_rfl) rfl ?_
  refine W_seq ?_
  refine W_region ?_
  refine WR_mk rfl (mk_alloc ([Value.int .u64 0, Value.int .i64 0]) (by kernel_rfl) (fun g2 w2 hg2 hr2 hb2 => ?_))
  have ge_hB_g2 := Nat.le_trans hB.size hg2
  have ge_hBi_g2 := Nat.le_trans hBi.size hg2
  replace hB := hB.acc hb2
  replace hBi := hBi.acc hb2
  refine WR_val rfl (rn_assign) ?_
  refine WR_val rfl (rn_assign) ?_
  refine WR_val rfl (rn_assign) ?_
  refine WR_nil ?_
  refine thenN ?_
  refine W_seq ?_
  refine W_region ?_
  refine WR_val rfl (rn_move) ?_
  have q2 := hr2.lt
  refine WR_ent rfl (rn_call (by kernel_rfl) rfl) (parts35r l p n cp w2 (h.below hBi (Nat.le_refl _)) (by omega)) ?_
  rintro _ w15 ⟨vs, q, cq, rfl, hq, hsl, hqb, hb15⟩
  replace hr2 := hr2.new hb15
  replace hB := hB.acc hb15
  replace hBi := hBi.acc hb15
  have hobt := hq.some (by omega)
  obtain ⟨gq, oq, rfl, hgq⟩ := hobt
  have hqb := hqb gq oq rfl
  have hobt := hsl.get 0 (partsL_get l _ 0 (by omega))
  obtain ⟨b0, o0, c0, hv0, hs0, hb0, hcb0⟩ := hobt
  rw [hd] at hv0 hs0 hcb0
  have hBp := Below.refl w15.heap.size w15
  refine WR_val rfl (rn_assign) ?_
  refine WR_nil ?_
  refine thenN ?_
  refine W_seq ?_
  refine W_seq ?_
  refine W_region ?_
  refine WR_val rfl (rn_move) ?_
  refine WR_val rfl (rn_lenSl (e := 67) (sz := 1) (by kernel_rfl) rfl rfl) ?_
  refine WR_val rfl (rn_eql rfl rfl) ?_
  refine WR_nil ?_
  refine thenN ?_
  refine W_fp rfl ((by omega)) ?_
  refine W_skip ?_
  refine thenN ?_
  refine W_cut (α := Nat) (fun g7 => [(7, .pointer (some ⟨g7, 0, none⟩)), (8, .int .i64 m), (6, .slice (some ⟨gq, oq, none⟩) (2 * n) cq), (2, .pointer (some ⟨g2, 0, none⟩))]) (fun g7 w' => row w' g7 [.int .u64 tc, .int .i64 tn] 86 ∧ row w' g2 [.int .u64 0, .int .i64 0] 86 ∧ Below w.heap.size w w' ∧ Below w15.heap.size w15 w' ∧ w15.heap.size ≤ g7) ?_ ?_
  ·
    refine W_draw' [] (by kernel_rfl) ?_
    intro w901 hb901 hS901
    replace hr2 := hr2.new hb901
    replace hq := hq.new hb901
    replace hs0 := hs0.new hb901
    replace hB := hB.acc hb901
    replace hBi := hBi.acc hb901
    replace hBp := hBp.acc hb901
    have hr2_d901 := hr2
    have hq_d901 := hq
    have hs0_d901 := hs0
    have hB_d901 := hB
    have hBi_d901 := hBi
    have hBp_d901 := hBp
    refine WA_take 0 (by kernel_rfl) rfl (fun _ _ => rn_move) ?_
    refine WA_take 1 (by kernel_rfl) rfl (fun _ _ => rn_indexSl1 (e := 67) (by kernel_rfl) rfl rfl (0) rfl (by omega)) ?_
    refine WA_take 2 (by kernel_rfl) rfl (fun w' hS' => rn_load rfl (Ld.sl1 (hq_d901.kpd hS' (by first | (simp; done) | (simp; omega) | (simp [*]; done) | exact notLL (Or.inl (by omega)) | exact notLL (Or.inr (by simp)) | exact fun g hm => Nat.le_trans (by omega) (inLL hm).1 | (intro b o e; cases e; exact notLL (Or.inl (by omega))) | (intro b hm; have := (hu.lt b (Option.mem_toList.1 hm)).1; omega) | (intro b o e; cases e; intro hm; have := (hu.lt _ (Option.mem_toList.1 hm)).1; omega))) (by kernel_rfl) hv0)) ?_
    refine WA_take 4 (by kernel_rfl) rfl (fun _ _ => rn_move) ?_
    refine WA_take 5 (by kernel_rfl) rfl (fun _ _ => rn_indexSl1 (e := 67) (by kernel_rfl) rfl rfl (0) rfl (by omega)) ?_
    refine WA_take 6 (by kernel_rfl) rfl (fun w' hS' => rn_load rfl (Ld.sl1 (hq_d901.kpd hS' (by first | (simp; done) | (simp; omega) | (simp [*]; done) | exact notLL (Or.inl (by omega)) | exact notLL (Or.inr (by simp)) | exact fun g hm => Nat.le_trans (by omega) (inLL hm).1 | (intro b o e; cases e; exact notLL (Or.inl (by omega))) | (intro b hm; have := (hu.lt b (Option.mem_toList.1 hm)).1; omega) | (intro b o e; cases e; intro hm; have := (hu.lt _ (Option.mem_toList.1 hm)).1; omega))) (by kernel_rfl) hv0)) ?_
    refine WA_take 7 (by kernel_rfl) rfl (fun _ _ => rn_sliceSl1' (e := 5) (14) (16) (_) (2) (by kernel_rfl) rfl ⟨_, _, rfl, rfl⟩ ⟨_, _, rfl, rfl⟩ rfl (by simp) (by omega) (by omega) (by omega) (by omega) (by omega)) ?_
    refine WA_two 3 10 (by kernel_rfl) ?_ ?_
    ·
      refine WO_ent rfl rfl (rn_call (by kernel_rfl) rfl) (gt _ _ _ w901 hs0 (by omega)) ?_
      rintro _ w23 ⟨rfl, hb23⟩
      have hS902 := hS901.add0 hb23
      refine ⟨hS902, ?_⟩
      replace hr2 := hr2.new hb23
      replace hq := hq.new hb23
      replace hs0 := hs0.new hb23
      replace hB := hB.acc hb23
      replace hBi := hBi.acc hb23
      replace hBp := hBp.acc hb23
      refine WA_call 8 (by kernel_rfl) rfl (fun _ => rn_call (by kernel_rfl) rfl) (fun w' hS' => gm _ _ w' ((hs0_d901.kpd hS' (by first | (simp; done) | (simp; omega) | (simp [*]; done) | exact notLL (Or.inl (by omega)) | exact notLL (Or.inr (by simp)) | exact fun g hm => Nat.le_trans (by omega) (inLL hm).1 | (intro b o e; cases e; exact notLL (Or.inl (by omega))) | (intro b hm; have := (hu.lt b (Option.mem_toList.1 hm)).1; omega) | (intro b o e; cases e; intro hm; have := (hu.lt _ (Option.mem_toList.1 hm)).1; omega))).subB 14 2 (by omega))) ?_
      refine WA_take 9 (by kernel_rfl) rfl (fun _ _ => rn_conv (k := .i64) (by kernel_rfl) (by kernel_rfl) rfl (w64 (by omega))) ?_
      refine WA_one 10 (by kernel_rfl) ?_
      have zb0 := hs0.ltB (by omega)
      have zgq := hq.ltB (by omega)
      have zBp := hBp.size
      refine WO_mk rfl rfl (mk_alloc ([Value.int .u64 0, Value.int .i64 0]) (by kernel_rfl) (fun g7 w7 hg7 hr7 hb7 => ?_))
      have hS903 := hS902.add0 hb7
      refine ⟨hS903, ?_⟩
      have ge_hS902_g7 := Nat.le_trans hS902.size hg7
      have ge_hB_g7 := Nat.le_trans hB.size hg7
      have ge_hBi_g7 := Nat.le_trans hBi.size hg7
      have ge_hBp_g7 := Nat.le_trans hBp.size hg7
      have lt_g2_g7 : g2 < g7 := Nat.lt_of_lt_of_le hr2.lt hg7
      replace hr2 := hr2.new hb7
      replace hq := hq.new hb7
      replace hs0 := hs0.new hb7
      replace hB := hB.acc hb7
      replace hBi := hBi.acc hb7
      replace hBp := hBp.acc hb7
      refine WA_one 11 (by kernel_rfl) ?_
      refine WO_sk rfl rfl (sk_storeA 2 ([.int .u64 tc, .int .i64 tn]) rfl rfl hr7 (by kernel_rfl) (by first | assumption | (simp; done) | (simp [bv_length, *]; done)) (by first | assumption | (simp; done) | (simp [bv_length, *]; done) | rfl) (by first | exact bv_one _ | assumption | (simp [Value.oneCell']; done)) (fun w905 hr7 ho905 => ?_))
      have hS904 := hS903.add1 ho905 (by first | (left; omega) | (right; simp; done) | (right; simp; omega))
      refine ⟨hS904, ?_⟩
      replace hr2 := hr2.only ho905 (Nat.ne_of_lt lt_g2_g7)
      replace hq := hq.only ho905 (by omega)
      replace hs0 := hs0.only ho905 (by omega)
      replace hB := ho905.below hB ge_hB_g7
      replace hBi := ho905.below hBi ge_hBi_g7
      replace hBp := ho905.below hBp ge_hBp_g7
      refine WA_take 12 (by kernel_rfl) rfl (fun _ _ => rn_assign) ?_
      refine WA_done (by kernel_rfl) ?_
      exact loopN ⟨g7, ⟨rfl, rfl, rfl, rfl, rfl⟩, hr7, hr2, hB, hBp, by omega⟩
    ·
      have zb0 := hs0.ltB (by omega)
      have zgq := hq.ltB (by omega)
      have zBp := hBp.size
      refine WO_mk rfl rfl (mk_alloc ([Value.int .u64 0, Value.int .i64 0]) (by kernel_rfl) (fun g7 w7 hg7 hr7 hb7 => ?_))
      have hS906 := hS901.add0 hb7
      refine ⟨hS906, ?_⟩
      have ge_hS901_g7 := Nat.le_trans hS901.size hg7
      have ge_hB_g7 := Nat.le_trans hB.size hg7
      have ge_hBi_g7 := Nat.le_trans hBi.size hg7
      have ge_hBp_g7 := Nat.le_trans hBp.size hg7
      have lt_g2_g7 : g2 < g7 := Nat.lt_of_lt_of_le hr2.lt hg7
      replace hr2 := hr2.new hb7
      replace hq := hq.new hb7
      replace hs0 := hs0.new hb7
      replace hB := hB.acc hb7
      replace hBi := hBi.acc hb7
      replace hBp := hBp.acc hb7
      refine WA_one 3 (by kernel_rfl) ?_
      refine WO_ent rfl rfl (rn_call (by kernel_rfl) rfl) (gt _ _ _ w7 hs0 (by omega)) ?_
      rintro _ w23 ⟨rfl, hb23⟩
      have hS907 := hS906.add0 hb23
      refine ⟨hS907, ?_⟩
      replace hr2 := hr2.new hb23
      replace hq := hq.new hb23
      replace hs0 := hs0.new hb23
      replace hr7 := hr7.new hb23
      replace hB := hB.acc hb23
      replace hBi := hBi.acc hb23
      replace hBp := hBp.acc hb23
      refine WA_call 8 (by kernel_rfl) rfl (fun _ => rn_call (by kernel_rfl) rfl) (fun w' hS' => gm _ _ w' ((hs0_d901.kpd hS' (by first | (simp; done) | (simp; omega) | (simp [*]; done) | exact notLL (Or.inl (by omega)) | exact notLL (Or.inr (by simp)) | exact fun g hm => Nat.le_trans (by omega) (inLL hm).1 | (intro b o e; cases e; exact notLL (Or.inl (by omega))) | (intro b hm; have := (hu.lt b (Option.mem_toList.1 hm)).1; omega) | (intro b o e; cases e; intro hm; have := (hu.lt _ (Option.mem_toList.1 hm)).1; omega))).subB 14 2 (by omega))) ?_
      refine WA_take 9 (by kernel_rfl) rfl (fun _ _ => rn_conv (k := .i64) (by kernel_rfl) (by kernel_rfl) rfl (w64 (by omega))) ?_
      refine WA_one 11 (by kernel_rfl) ?_
      refine WO_sk rfl rfl (sk_storeA 2 ([.int .u64 tc, .int .i64 tn]) rfl rfl hr7 (by kernel_rfl) (by first | assumption | (simp; done) | (simp [bv_length, *]; done)) (by first | assumption | (simp; done) | (simp [bv_length, *]; done) | rfl) (by first | exact bv_one _ | assumption | (simp [Value.oneCell']; done)) (fun w909 hr7 ho909 => ?_))
      have hS908 := hS907.add1 ho909 (by first | (left; omega) | (right; simp; done) | (right; simp; omega))
      refine ⟨hS908, ?_⟩
      replace hr2 := hr2.only ho909 (Nat.ne_of_lt lt_g2_g7)
      replace hq := hq.only ho909 (by omega)
      replace hs0 := hs0.only ho909 (by omega)
      replace hB := ho909.below hB ge_hB_g7
      replace hBi := ho909.below hBi ge_hBi_g7
      replace hBp := ho909.below hBp ge_hBp_g7
      refine WA_take 12 (by kernel_rfl) rfl (fun _ _ => rn_assign) ?_
      refine WA_done (by kernel_rfl) ?_
      exact loopN ⟨g7, ⟨rfl, rfl, rfl, rfl, rfl⟩, hr7, hr2, hB, hBp, by omega⟩
  ·
    rintro g7 f4 w4 ⟨hr7, hr2, hB, hBp, hg7⟩
    have hq := hq.below hBp (Nat.le_refl _)
    have hs0 := hs0.below hBp (Nat.le_refl _)
    refine W_seq ?_
    refine W_seq ?_
    refine W_region ?_
    refine WR_val rfl (rn_load rfl (Ld.rowA (k := 2) hr7 (by kernel_rfl) (by kernel_rfl) rfl)) ?_
    refine WR_ent rfl (rn_call (by kernel_rfl) rfl) (may11r tc tn w4) ?_
    rintro _ w31 ⟨rfl, hb31⟩
    replace hr2 := hr2.new hb31
    replace hq := hq.new hb31
    replace hs0 := hs0.new hb31
    replace hr7 := hr7.new hb31
    replace hB := hB.acc hb31
    replace hBp := hBp.acc hb31
    refine WR_val rfl (rn_not rfl) ?_
    refine WR_val rfl (rn_move) ?_
    refine WR_partnb 33 rfl (fun hm1 => ?_) (fun hm1 => ?_)
    ·
      refine WR_no rfl rfl ?_
      refine WR_no rfl rfl ?_
      refine WR_val rfl (rn_pick_t rfl) ?_
      refine WR_val rfl (rn_move) ?_
      refine WR_no rfl rfl ?_
      refine WR_no rfl rfl ?_
      refine WR_no rfl rfl ?_
      refine WR_no rfl rfl ?_
      refine WR_val rfl (rn_pick_t rfl) ?_
      refine WR_nil ?_
      refine thenN ?_
      refine W_t rfl ?_
      refine W_seq ?_
      refine W_region ?_
      refine WR_val rfl (rn_zeroed ([Value.int .u64 0, Value.int .i64 0]) (by kernel_rfl)) ?_
      refine WR_sk rfl (sk_storeA 2 ([.int .u64 0, .int .i64 0]) rfl rfl hr2 (by kernel_rfl) (by first | assumption | (simp; done) | (simp [bv_length, *]; done)) (by first | assumption | (simp; done) | (simp [bv_length, *]; done) | rfl) (by first | exact bv_one _ | assumption | (simp [Value.oneCell']; done)) (fun w910 hr2 ho910 => ?_))
      replace hr7 := hr7.only ho910 (by omega)
      replace hB := ho910.below hB ge_hB_g2
      refine WR_val rfl (rn_assign) ?_
      refine WR_val rfl (rn_assign) ?_
      refine WR_val rfl (rn_assign) ?_
      refine WR_nil ?_
      refine thenN ?_
      refine W_ret ?_
      refine thenR ?_
      refine ret_ret [_, _, _, _] ⟨⟨_, rfl, Ld.rowA (k := 2) hr2 (by kernel_rfl) (by kernel_rfl) (by first | (simp; done) | (simp [bv_length, *]; done) | assumption)⟩, rfl, rfl, rfl, trivial⟩ ?_
      · exact ⟨hB, .inl ⟨by rw [hRI, hm1]; simp, rfl⟩⟩
    ·
      have hmb2 := may_bounds hm1
      refine WR_yes rfl ?_
      refine WR_val rfl (rn_move) ?_
      refine WR_yes rfl ?_
      refine WR_val rfl (rn_lss rfl rfl) ?_
      refine WR_val rfl (rn_pick_f rfl) ?_
      refine WR_val rfl (rn_move) ?_
      refine WR_part 37 rfl (fun hc1 => ?_) (fun hc1 => ?_)
      ·
        refine WR_no rfl rfl ?_
        refine WR_no rfl rfl ?_
        refine WR_no rfl rfl ?_
        refine WR_no rfl rfl ?_
        refine WR_val rfl (rn_pick_t rfl) ?_
        refine WR_nil ?_
        refine thenN ?_
        refine W_t rfl ?_
        refine W_seq ?_
        refine W_region ?_
        refine WR_val rfl (rn_zeroed ([Value.int .u64 0, Value.int .i64 0]) (by kernel_rfl)) ?_
        refine WR_sk rfl (sk_storeA 2 ([.int .u64 0, .int .i64 0]) rfl rfl hr2 (by kernel_rfl) (by first | assumption | (simp; done) | (simp [bv_length, *]; done)) (by first | assumption | (simp; done) | (simp [bv_length, *]; done) | rfl) (by first | exact bv_one _ | assumption | (simp [Value.oneCell']; done)) (fun w911 hr2 ho911 => ?_))
        replace hr7 := hr7.only ho911 (by omega)
        replace hB := ho911.below hB ge_hB_g2
        refine WR_val rfl (rn_assign) ?_
        refine WR_val rfl (rn_assign) ?_
        refine WR_val rfl (rn_assign) ?_
        refine WR_nil ?_
        refine thenN ?_
        refine W_ret ?_
        refine thenR ?_
        refine ret_ret [_, _, _, _] ⟨⟨_, rfl, Ld.rowA (k := 2) hr2 (by kernel_rfl) (by kernel_rfl) (by first | (simp; done) | (simp [bv_length, *]; done) | assumption)⟩, rfl, rfl, rfl, trivial⟩ ?_
        · exact ⟨hB, .inl ⟨by rw [hRI, decide_eq_false (by omega : ¬ (1 ≤ m ∧ m ≤ 2 * n))]; simp, rfl⟩⟩
      ·
        refine WR_yes rfl ?_
        refine WR_val rfl (rn_move) ?_
        refine WR_yes rfl ?_
        refine WR_val rfl (rn_move) ?_
        refine WR_yes rfl ?_
        refine WR_val rfl (rn_lenSl (e := 67) (sz := 1) (by kernel_rfl) rfl rfl) ?_
        refine WR_yes rfl ?_
        refine WR_val rfl (rn_gtr rfl rfl) ?_
        refine WR_val rfl (rn_pick_f rfl) ?_
        refine WR_nil ?_
        refine thenN ?_
        refine W_ifp rfl (fun hc2 => ?_) (fun hc2 => ?_)
        ·
          refine W_seq ?_
          refine W_region ?_
          refine WR_val rfl (rn_zeroed ([Value.int .u64 0, Value.int .i64 0]) (by kernel_rfl)) ?_
          refine WR_sk rfl (sk_storeA 2 ([.int .u64 0, .int .i64 0]) rfl rfl hr2 (by kernel_rfl) (by first | assumption | (simp; done) | (simp [bv_length, *]; done)) (by first | assumption | (simp; done) | (simp [bv_length, *]; done) | rfl) (by first | exact bv_one _ | assumption | (simp [Value.oneCell']; done)) (fun w912 hr2 ho912 => ?_))
          replace hr7 := hr7.only ho912 (by omega)
          replace hB := ho912.below hB ge_hB_g2
          refine WR_val rfl (rn_assign) ?_
          refine WR_val rfl (rn_assign) ?_
          refine WR_val rfl (rn_assign) ?_
          refine WR_nil ?_
          refine thenN ?_
          refine W_ret ?_
          refine thenR ?_
          refine ret_ret [_, _, _, _] ⟨⟨_, rfl, Ld.rowA (k := 2) hr2 (by kernel_rfl) (by kernel_rfl) (by first | (simp; done) | (simp [bv_length, *]; done) | assumption)⟩, rfl, rfl, rfl, trivial⟩ ?_
          · exact ⟨hB, .inl ⟨by rw [hRI, decide_eq_false (by omega : ¬ (1 ≤ m ∧ m ≤ 2 * n))]; simp, rfl⟩⟩
        ·
          have hJB := hJB (by omega) (by omega)
          refine W_skip ?_
          refine thenN ?_
          refine W_seq ?_
          refine W_region ?_
          refine WR_val rfl (rn_move) ?_
          refine WR_val rfl (rn_indexSl1 (e := 67) (by kernel_rfl) rfl rfl (0) rfl (by omega)) ?_
          refine WR_val rfl (rn_load rfl (Ld.sl1 hq (by kernel_rfl) hv0)) ?_
          refine WR_val rfl (rn_sliceSl1' (e := 5) (16) (20) (_) (4) (by kernel_rfl) rfl ⟨_, _, rfl, rfl⟩ ⟨_, _, rfl, rfl⟩ rfl (by simp) (by omega) (by omega) (by omega) (by omega) (by omega)) ?_
          refine WR_ent rfl (rn_call (by kernel_rfl) rfl) (gk _ _ w31 (hs0.subB 16 4 (by omega))) ?_
          rintro _ _ ⟨rfl, rfl⟩
          refine WR_val rfl (rn_conv (k := .i64) (by kernel_rfl) (by kernel_rfl) rfl (w64 (by omega))) ?_
          refine WR_val rfl (rn_assign) ?_
          refine WR_nil ?_
          refine thenN ?_
          refine W_seq ?_
          refine W_seq ?_
          refine W_region ?_
          refine WR_val rfl (rn_move) ?_
          refine WR_val rfl (rn_gtr rfl rfl) ?_
          refine WR_val rfl (rn_move) ?_
          refine WR_part 52 rfl (fun hk1 => ?_) (fun hk1 => ?_)
          ·
            refine WR_no rfl rfl ?_
            refine WR_no rfl rfl ?_
            refine WR_no rfl rfl ?_
            refine WR_no rfl rfl ?_
            refine WR_val rfl (rn_pick_t rfl) ?_
            refine WR_nil ?_
            refine thenN ?_
            refine W_t rfl ?_
            refine W_seq ?_
            refine W_region ?_
            refine WR_val rfl (rn_zeroed ([Value.int .u64 0, Value.int .i64 0]) (by kernel_rfl)) ?_
            refine WR_sk rfl (sk_storeA 2 ([.int .u64 0, .int .i64 0]) rfl rfl hr2 (by kernel_rfl) (by first | assumption | (simp; done) | (simp [bv_length, *]; done)) (by first | assumption | (simp; done) | (simp [bv_length, *]; done) | rfl) (by first | exact bv_one _ | assumption | (simp [Value.oneCell']; done)) (fun w913 hr2 ho913 => ?_))
            replace hr7 := hr7.only ho913 (by omega)
            replace hB := ho913.below hB ge_hB_g2
            refine WR_val rfl (rn_assign) ?_
            refine WR_val rfl (rn_assign) ?_
            refine WR_val rfl (rn_assign) ?_
            refine WR_nil ?_
            refine thenN ?_
            refine W_ret ?_
            refine thenR ?_
            refine ret_ret [_, _, _, _] ⟨⟨_, rfl, Ld.rowA (k := 2) hr2 (by kernel_rfl) (by kernel_rfl) (by first | (simp; done) | (simp [bv_length, *]; done) | assumption)⟩, rfl, rfl, rfl, trivial⟩ ?_
            · exact ⟨hB, .inl ⟨by rw [hRI, decide_eq_false (by omega : ¬ (K ≤ 32768 ∧ manyN K = m))]; simp, rfl⟩⟩
          ·
            refine WR_yes rfl ?_
            refine WR_val rfl (rn_move) ?_
            refine WR_yes rfl ?_
            refine WR_ent rfl (rn_call (by kernel_rfl) rfl) (many28r K (by omega) w31) ?_
            rintro _ _ ⟨rfl, rfl⟩
            refine WR_yes rfl ?_
            refine WR_val rfl (rn_move) ?_
            refine WR_yes rfl ?_
            refine WR_val rfl (rn_neq rfl rfl) ?_
            refine WR_val rfl (rn_pick_f rfl) ?_
            refine WR_nil ?_
            refine thenN ?_
            refine W_ifp rfl (fun hk2 => ?_) (fun hk2 => ?_)
            ·
              refine W_seq ?_
              refine W_region ?_
              refine WR_val rfl (rn_zeroed ([Value.int .u64 0, Value.int .i64 0]) (by kernel_rfl)) ?_
              refine WR_sk rfl (sk_storeA 2 ([.int .u64 0, .int .i64 0]) rfl rfl hr2 (by kernel_rfl) (by first | assumption | (simp; done) | (simp [bv_length, *]; done)) (by first | assumption | (simp; done) | (simp [bv_length, *]; done) | rfl) (by first | exact bv_one _ | assumption | (simp [Value.oneCell']; done)) (fun w914 hr2 ho914 => ?_))
              replace hr7 := hr7.only ho914 (by omega)
              replace hB := ho914.below hB ge_hB_g2
              refine WR_val rfl (rn_assign) ?_
              refine WR_val rfl (rn_assign) ?_
              refine WR_val rfl (rn_assign) ?_
              refine WR_nil ?_
              refine thenN ?_
              refine W_ret ?_
              refine thenR ?_
              refine ret_ret [_, _, _, _] ⟨⟨_, rfl, Ld.rowA (k := 2) hr2 (by kernel_rfl) (by kernel_rfl) (by first | (simp; done) | (simp [bv_length, *]; done) | assumption)⟩, rfl, rfl, rfl, trivial⟩ ?_
              · exact ⟨hB, .inl ⟨by rw [hRI, decide_eq_false (by omega : ¬ (K ≤ 32768 ∧ manyN K = m))]; simp, rfl⟩⟩
            ·
              have hmk : manyN K = m := by omega
              have hmle := manyN_le K
              rw [hmk] at hmle
              have hRI2 : J = O := by rw [hRI, hm1, decide_eq_true h0, decide_eq_true (by omega : 1 ≤ m ∧ m ≤ 2 * n), decide_eq_true (by omega : K ≤ 32768 ∧ manyN K = m)]; simp
              refine W_skip ?_
              refine thenN ?_
              refine W_seq ?_
              refine W_region ?_
              refine WR_val rfl (rn_assign) ?_
              refine WR_nil ?_
              refine thenN ?_
              refine W_seq ?_
              refine W_seq ?_
              refine W_region ?_
              refine WR_val rfl (rn_assign) ?_
              refine WR_nil ?_
              refine thenN ?_
              refine W_block ?_
              have hsl0 := hsl.new hBp
              have q2L := hr2.lt
              have hB0 := Below.refl w31.heap.size w31
              refine W_loop (α := Nat × Value) (0, .slice none 0 0) (fun k => [(10, k.2), (11, .int .i64 (k.1 : Nat)), (8, .int .i64 m), (6, .slice (some ⟨gq, oq, none⟩) (2 * n) cq), (9, .int .i64 K), (7, .pointer (some ⟨g7, 0, none⟩)), (2, .pointer (some ⟨g2, 0, none⟩))])
                (fun k w' => k.1 ≤ m ∧ ownsAt w' w31.heap.size 5 1 k.2 (48 * k.1) (bv (bodies l k.1)) ∧ Below w31.heap.size w31 w') (fun k => m - k.1)
                ⟨rfl, rfl, rfl, rfl, rfl, rfl, rfl, rfl⟩ ⟨Nat.zero_le _, ownsAt_nil _ _ _ _, hB0⟩ ?_
              rintro ⟨i, v10⟩ f wr ⟨hi, hv10, hBL⟩
              simp only at hi hv10
              have hszr := hBL.size
              refine W_seq ?_
              refine W_seq ?_
              refine W_region ?_
              refine WR_val rfl (rn_move) ?_
              refine WR_val rfl (rn_move) ?_
              refine WR_val rfl (rn_lss rfl rfl) ?_
              refine WR_nil ?_
              refine thenN ?_
              refine W_ifp rfl (fun hlt => ?_) (fun hlt => ?_)
              ·
                refine W_skip ?_
                refine thenN ?_
                refine W_seq ?_
                refine W_block ?_
                refine W_region ?_
                refine WR_val rfl (rn_move) ?_
                refine WR_val rfl (rn_move) ?_
                refine WR_val rfl (rn_move) ?_
                have hli : (halfAt l i).length = 64 := halfAt_length _ _ (by omega)
                have hobt := hsl0.get i (partsL_get l _ i (by omega))
                obtain ⟨bi, oi, ci, hvi, hsi, hbi, hci⟩ := hobt
                rw [hli] at hvi hsi hci
                have hs70 := (hsi.below hBL (Nat.le_refl _)).subB 16 48 (by omega)
                rw [show ((halfAt l i).drop 16).take 48 = hBody (halfAt l i) from List.take_of_length_le (by rw [List.length_drop, hli]; omega)] at hs70
                refine WR_val rfl (rn_indexSl1 (e := 67) (by kernel_rfl) rfl rfl (i) (by omega) (by omega)) ?_
                refine WR_val rfl (rn_load rfl (Ld.sl1 (hq.below hBL (Nat.le_refl _)) (by kernel_rfl) hvi)) ?_
                refine WR_val rfl (rn_sliceSl1' (e := 5) (16) (_) (_) (48) (by kernel_rfl) rfl ⟨_, _, rfl, rfl⟩ rfl rfl (by simp) (by omega) (by omega) (by omega) (by omega) (by omega)) ?_
                have sz_hBL_70 := hBL.size
                refine WR_mk rfl (mk_append (e := 5) (sz := 1) (bytes := 1) (z := Value.int .u8 0) (by kernel_rfl) rfl (by kernel_rfl) rfl (by decide) rfl hv10 rfl hs70 (bv_one _) (by unfold maxLen; omega) (by omega) (fun hm0 => by omega) (fun v70 w70 hv70 hgr70 hfr70 => ?_))
                replace hBL := hBL.own hv10 hgr70 (by omega)
                refine WR_val rfl (rn_assign) ?_
                refine WR_nil ?_
                refine blockN ?_
                refine thenN ?_
                refine W_region ?_
                refine WR_val rfl (rn_move) ?_
                refine WR_val rfl (rn_add rfl rfl (Coup.w64 (by omega))) ?_
                refine WR_val rfl (rn_assign) ?_
                refine WR_nil ?_
                refine loopN ⟨(i + 1, v70), by simp only; omega, ⟨rfl, by go_num, rfl, rfl, rfl, rfl, rfl, rfl⟩, by simp only; omega, ?_, hBL⟩
                simp only
                rw [bodies_succ, bv_append, show 48 * (i + 1) = 48 * i + 48 by omega]
                exact hv70
              ·
                obtain rfl : i = m := by omega
                have hobt := hv10.form' (by omega)
                obtain ⟨g10, o10, c10, rfl, b10, l10, hc10⟩ := hobt
                have hx10 := hv10.sl
                have hbl := bodies_length l i (by omega)
                have hJl : (joinB l).length = K := by rw [hJB, List.length_take, List.length_drop, hbl]; omega
                have hxB := hx10.subB 4 K (by omega)
                rw [← hJB] at hxB
                have hq := hq.below hBL (Nat.le_refl _)
                have hr2 := hr2.new hBL
                have hr7 := hr7.new hBL
                have hsl := hsl0.new hBL
                have hB := hB.acc hBL
                have hBq := Below.refl wr.heap.size wr
                refine W_exit ?_
                refine thenX ?_
                refine loopX ?_
                refine blockX ?_
                refine thenN ?_
                refine W_seq ?_
                refine W_region ?_
                refine WR_val rfl (rn_move) ?_
                refine WR_val rfl (rn_move) ?_
                refine WR_val rfl (rn_add rfl rfl (w64 (by omega))) ?_
                refine WR_val rfl (rn_sliceSl1' (e := 5) (4) (4 + K) (_) (K) (by kernel_rfl) rfl ⟨_, _, rfl, rfl⟩ ⟨_, _, rfl, by omega⟩ rfl (by simp) (by omega) (by omega) (by omega) (by omega) (by omega)) ?_
                refine WR_val rfl (rn_assign) ?_
                refine WR_nil ?_
                refine thenN ?_
                refine W_seq ?_
                refine W_region ?_
                refine WR_val rfl (rn_load rfl (Ld.rowA (k := 2) hr7 (by kernel_rfl) (by kernel_rfl) (by first | (simp; done) | (simp [bv_length, *]; done) | assumption))) ?_
                refine WR_val rfl (rn_move) ?_
                refine WR_ent rfl (rn_call (by kernel_rfl) rfl) (halves19r tc tn (joinB l) _ K _ wr hxB (by omega) (by omega) (by omega)) ?_
                rintro _ w77 ⟨vs2, q2, cq2, rfl, hq2, hsl2, hb77⟩
                replace hq := hq.new hb77
                replace hr2 := hr2.new hb77
                replace hr7 := hr7.new hb77
                replace hxB := hxB.new hb77
                replace hB := hB.acc hb77
                replace hBq := hBq.acc hb77
                refine WR_val rfl (rn_assign) ?_
                refine WR_nil ?_
                refine thenN ?_
                refine W_seq ?_
                refine W_seq ?_
                refine W_region ?_
                refine WR_val rfl (rn_assign) ?_
                refine WR_nil ?_
                refine thenN ?_
                refine W_block ?_
                have hml : manyN (joinB l).length = i := by rw [hJl, hmk]
                rw [hml] at hq2
                have hobt := hq2.some (by omega)
                obtain ⟨gw, ow, rfl, hgw⟩ := hobt
                have hsl1 := hsl.new hBq
                have hB0' := Below.refl w77.heap.size w77
                refine W_loop (α := Nat) 0 (fun j => [(13, .int .i64 (j : Nat)), (12, .slice (some ⟨gw, ow, none⟩) (manyN (joinB l).length) cq2), (8, .int .i64 i), (6, .slice (some ⟨gq, oq, none⟩) (2 * n) cq), (9, .int .i64 K), (7, .pointer (some ⟨g7, 0, none⟩)), (2, .pointer (some ⟨g2, 0, none⟩)), (10, .slice (some ⟨g10, o10 + 4, none⟩) K (c10 - 4))])
                  (fun j w' => j ≤ i ∧ (∀ x, x < j → (halvesL tc tn (joinB l))[x]? = some (halfAt l x)) ∧ Below w77.heap.size w77 w') (fun j => i - j)
                  ⟨rfl, rfl, rfl, rfl, rfl, rfl, rfl, rfl, rfl⟩ ⟨Nat.zero_le _, (by intro x hx; exact absurd hx (Nat.not_lt_zero _)), hB0'⟩ ?_
                rintro j f2 wz ⟨hj, hall, hB2⟩
                have hszz := hB2.size
                refine W_seq ?_
                refine W_seq ?_
                refine W_region ?_
                refine WR_val rfl (rn_move) ?_
                refine WR_val rfl (rn_move) ?_
                refine WR_val rfl (rn_lss rfl rfl) ?_
                refine WR_nil ?_
                refine thenN ?_
                refine W_ifp rfl (fun hlt2 => ?_) (fun hlt2 => ?_)
                ·
                  refine W_skip ?_
                  refine thenN ?_
                  refine W_seq ?_
                  refine W_block ?_
                  refine W_seq ?_
                  have hlj : (halfAt l j).length = 64 := halfAt_length _ _ (by omega)
                  have hobt := hsl1.get j (partsL_get l _ j (by omega))
                  obtain ⟨bi, oi, ci, hvi, hsi, hbi, hci⟩ := hobt
                  have hobt : ∃ X, (halvesL tc tn (joinB l))[j]? = some X := ⟨_, List.getElem?_eq_getElem (by rw [halvesL_len, hJl, hmk]; omega)⟩
                  obtain ⟨X, hX⟩ := hobt
                  have hobt := hsl2.get j hX
                  obtain ⟨bj, oj, cj, hvj, hsj, hbj, hcj⟩ := hobt
                  have hqa := hq.below hB2 (Nat.le_refl _)
                  have hqb := hq2.below hB2 (Nat.le_refl _)
                  have hsia := hsi.below hB2 (Nat.le_refl _)
                  have hsja := hsj.below hB2 (Nat.le_refl _)
                  refine W_draw' [] (by kernel_rfl) ?_
                  intro w915 hb915 hS915
                  replace hqa := hqa.new hb915
                  replace hqb := hqb.new hb915
                  replace hsia := hsia.new hb915
                  replace hsja := hsja.new hb915
                  replace hB2 := hB2.acc hb915
                  have hqa_d915 := hqa
                  have hqb_d915 := hqb
                  have hsia_d915 := hsia
                  have hsja_d915 := hsja
                  have hB2_d915 := hB2
                  refine WA_take 0 (by kernel_rfl) rfl (fun _ _ => rn_move) ?_
                  refine WA_take 1 (by kernel_rfl) rfl (fun _ _ => rn_move) ?_
                  refine WA_take 2 (by kernel_rfl) rfl (fun _ _ => rn_indexSl1 (e := 67) (by kernel_rfl) rfl rfl (j) (by omega) (by omega)) ?_
                  refine WA_take 3 (by kernel_rfl) rfl (fun w' hS' => rn_load rfl (Ld.sl1 (hqb_d915.kpd hS' (by first | (simp; done) | (simp; omega) | (simp [*]; done) | exact notLL (Or.inl (by omega)) | exact notLL (Or.inr (by simp)) | exact fun g hm => Nat.le_trans (by omega) (inLL hm).1 | (intro b o e; cases e; exact notLL (Or.inl (by omega))) | (intro b hm; have := (hu.lt b (Option.mem_toList.1 hm)).1; omega) | (intro b o e; cases e; intro hm; have := (hu.lt _ (Option.mem_toList.1 hm)).1; omega))) (by kernel_rfl) hvj)) ?_
                  refine WA_take 4 (by kernel_rfl) rfl (fun w' hS' => rn_str (e := 5) (by kernel_rfl) (by kernel_rfl) (by kernel_rfl) rfl (hsja_d915.kpd hS' (by first | (simp; done) | (simp; omega) | (simp [*]; done) | exact notLL (Or.inl (by omega)) | exact notLL (Or.inr (by simp)) | exact fun g hm => Nat.le_trans (by omega) (inLL hm).1 | (intro b o e; cases e; exact notLL (Or.inl (by omega))) | (intro b hm; have := (hu.lt b (Option.mem_toList.1 hm)).1; omega) | (intro b o e; cases e; intro hm; have := (hu.lt _ (Option.mem_toList.1 hm)).1; omega)))) ?_
                  refine WA_take 5 (by kernel_rfl) rfl (fun _ _ => rn_move) ?_
                  refine WA_take 6 (by kernel_rfl) rfl (fun _ _ => rn_move) ?_
                  refine WA_take 7 (by kernel_rfl) rfl (fun _ _ => rn_indexSl1 (e := 67) (by kernel_rfl) rfl rfl (j) (by omega) (by omega)) ?_
                  refine WA_take 8 (by kernel_rfl) rfl (fun w' hS' => rn_load rfl (Ld.sl1 (hqa_d915.kpd hS' (by first | (simp; done) | (simp; omega) | (simp [*]; done) | exact notLL (Or.inl (by omega)) | exact notLL (Or.inr (by simp)) | exact fun g hm => Nat.le_trans (by omega) (inLL hm).1 | (intro b o e; cases e; exact notLL (Or.inl (by omega))) | (intro b hm; have := (hu.lt b (Option.mem_toList.1 hm)).1; omega) | (intro b o e; cases e; intro hm; have := (hu.lt _ (Option.mem_toList.1 hm)).1; omega))) (by kernel_rfl) hvi)) ?_
                  refine WA_take 9 (by kernel_rfl) rfl (fun w' hS' => rn_str (e := 5) (by kernel_rfl) (by kernel_rfl) (by kernel_rfl) rfl (hsia_d915.kpd hS' (by first | (simp; done) | (simp; omega) | (simp [*]; done) | exact notLL (Or.inl (by omega)) | exact notLL (Or.inr (by simp)) | exact fun g hm => Nat.le_trans (by omega) (inLL hm).1 | (intro b o e; cases e; exact notLL (Or.inl (by omega))) | (intro b hm; have := (hu.lt b (Option.mem_toList.1 hm)).1; omega) | (intro b o e; cases e; intro hm; have := (hu.lt _ (Option.mem_toList.1 hm)).1; omega)))) ?_
                  refine WA_take 10 (by kernel_rfl) rfl (fun _ _ => rn_neqS rfl rfl) ?_
                  refine WA_done (by kernel_rfl) ?_
                  refine thenN ?_
                  refine W_if rfl (fun hne => ?_) (fun hne => ?_)
                  ·
                    refine W_seq ?_
                    refine W_region ?_
                    refine WR_val rfl (rn_zeroed ([Value.int .u64 0, Value.int .i64 0]) (by kernel_rfl)) ?_
                    have hr2 := hr2.new hB2
                    have hB := hB.acc hB2
                    refine WR_sk rfl (sk_storeA 2 ([.int .u64 0, .int .i64 0]) rfl rfl hr2 (by kernel_rfl) (by first | assumption | (simp; done) | (simp [bv_length, *]; done)) (by first | assumption | (simp; done) | (simp [bv_length, *]; done) | rfl) (by first | exact bv_one _ | assumption | (simp [Value.oneCell']; done)) (fun w916 hr2 ho916 => ?_))
                    replace hB := ho916.below hB ge_hB_g2
                    refine WR_val rfl (rn_assign) ?_
                    refine WR_val rfl (rn_assign) ?_
                    refine WR_val rfl (rn_assign) ?_
                    refine WR_nil ?_
                    refine thenN ?_
                    refine W_ret ?_
                    refine blockR ?_
                    refine thenR ?_
                    refine loopR ?_
                    refine blockR ?_
                    refine thenR ?_
                    refine ret_ret [_, _, _, _] ⟨⟨_, rfl, Ld.rowA (k := 2) hr2 (by kernel_rfl) (by kernel_rfl) (by first | (simp; done) | (simp [bv_length, *]; done) | assumption)⟩, rfl, rfl, rfl, trivial⟩ ?_
                    simp only [Bool.not_eq_true', decide_eq_false_iff_not] at hne
                    have hO : O = false := by
                      rw [hRO]
                      exact List.all_eq_false.2 ⟨j, List.mem_range.2 (by omega), by rw [hX]; simpa using hne⟩
                    exact ⟨hB, .inl ⟨by rw [hRI2, hO], rfl⟩⟩
                  ·
                    simp only [Bool.not_eq_false', decide_eq_true_eq] at hne
                    refine W_skip ?_
                    refine blockN ?_
                    refine thenN ?_
                    refine W_region ?_
                    refine WR_val rfl (rn_move) ?_
                    refine WR_val rfl (rn_add rfl rfl (Coup.w64 (by omega))) ?_
                    refine WR_val rfl (rn_assign) ?_
                    refine WR_nil ?_
                    refine loopN ⟨j + 1, by omega, ⟨rfl, rfl, rfl, rfl, rfl, rfl, rfl, rfl, rfl⟩, by omega, ?_, hB2⟩
                    intro x hx
                    rcases Nat.lt_or_ge x j with hx' | hx'
                    · exact hall x hx'
                    · obtain rfl : x = j := by omega
                      rw [hX, hne]
                ·
                  have hO : O = true := by
                    rw [hRO]
                    exact List.all_eq_true.2 fun x hx => decide_eq_true (hall x (by have := List.mem_range.1 hx; omega))
                  have hnz : needZ K = (needN K : Nat) := needZ_nat (by omega)
                  have hr2 := hr2.new hB2
                  have hr7 := hr7.new hB2
                  have hxB := hxB.below hB2 (Nat.le_refl _)
                  have hB := hB.acc hB2
                  have q2 := hr2.lt
                  refine W_exit ?_
                  refine thenX ?_
                  refine loopX ?_
                  refine blockX ?_
                  refine thenN ?_
                  refine W_seq ?_
                  refine W_draw' [g2] (by kernel_rfl) ?_
                  intro w917 hb917 hS917
                  replace hr2 := hr2.new hb917
                  replace hr7 := hr7.new hb917
                  replace hxB := hxB.new hb917
                  replace hB := hB.acc hb917
                  have hr2_d917 := hr2
                  have hr7_d917 := hr7
                  have hxB_d917 := hxB
                  have hB_d917 := hB
                  refine WA_take 0 (by kernel_rfl) rfl (fun w' hS' => rn_load rfl (Ld.rowA (k := 2) (hr7_d917.kpd hS' (by first | (simp; done) | (simp; omega) | (simp [*]; done) | exact notLL (Or.inl (by omega)) | exact notLL (Or.inr (by simp)) | exact fun g hm => Nat.le_trans (by omega) (inLL hm).1 | (intro b o e; cases e; exact notLL (Or.inl (by omega))) | (intro b hm; have := (hu.lt b (Option.mem_toList.1 hm)).1; omega) | (intro b o e; cases e; intro hm; have := (hu.lt _ (Option.mem_toList.1 hm)).1; omega))) (by kernel_rfl) (by kernel_rfl) rfl)) ?_
                  refine WA_take 1 (by kernel_rfl) rfl (fun _ _ => rn_move) ?_
                  refine WA_take 2 (by kernel_rfl) rfl (fun _ _ => rn_move) ?_
                  refine WA_call 3 (by kernel_rfl) rfl (fun _ => rn_call (by kernel_rfl) rfl) (fun w' hS' => need13r K w') ?_
                  refine WA_one 4 (by kernel_rfl) ?_
                  refine WO_sk rfl rfl (sk_storeA 2 ([.int .u64 tc, .int .i64 tn]) rfl rfl hr2 (by kernel_rfl) (by first | assumption | (simp; done) | (simp [bv_length, *]; done)) (by first | assumption | (simp; done) | (simp [bv_length, *]; done) | rfl) (by first | exact bv_one _ | assumption | (simp [Value.oneCell']; done)) (fun w919 hr2 ho919 => ?_))
                  have hS918 := hS917.add1 ho919 (by first | (left; omega) | (right; simp; done) | (right; simp; omega))
                  refine ⟨hS918, ?_⟩
                  replace hr7 := hr7.only ho919 (by omega)
                  replace hxB := hxB.only ho919 (by omega)
                  replace hB := ho919.below hB ge_hB_g2
                  refine WA_take 5 (by kernel_rfl) rfl (fun _ _ => rn_assign) ?_
                  refine WA_take 6 (by kernel_rfl) rfl (fun _ _ => rn_assign) ?_
                  refine WA_take 7 (by kernel_rfl) rfl (fun _ _ => rn_assign) ?_
                  refine WA_done (by kernel_rfl) ?_
                  refine thenN ?_
                  refine W_ret ?_
                  refine ret_ret [_, _, _, _] ⟨⟨_, rfl, Ld.rowA (k := 2) hr2 (by kernel_rfl) (by kernel_rfl) (by first | (simp; done) | (simp [bv_length, *]; done) | assumption)⟩, rfl, rfl, rfl, trivial⟩ ?_
                  refine ⟨hB, .inr ⟨by rw [hRI2, hO], some ⟨g10, o10 + 4, none⟩, c10 - 4, ?_, by rw [hJl]; exact hxB, by
                    have := hmk
                    unfold manyN at this
                    omega⟩⟩
                  have e : Value.tuple #[.agg #[.int .u64 tc, .int .i64 tn], .slice (some ⟨g10, o10 + 4, none⟩) K (c10 - 4), .int .i64 (needZ K), .bool true] = Value.tuple #[.agg #[.int .u64 tc, .int .i64 tn], .slice (some ⟨g10, o10 + 4, none⟩) (joinB l).length (c10 - 4), .int .i64 (needN (joinB l).length : Nat), .bool true] := by
                    rw [hnz, hJl]
                  exact e
end Go.Proofs.YtkkgahgpemepeaaGreat
namespace Go.Proofs.YtkkgahgpemepeaaGreat
open Go Go.RowKit Coup
theorem half_ext (h : List UInt8) (hl : h.length = 64) : halfB (hCount h) (hNum h) (hPlace h) (hMany h) (hBody h) = h := by
  have e1 : beB 8 (hCount h) = h.take 8 := by
    have := beB_numB (h.take 8); rwa [show (h.take 8).length = 8 by simp; omega] at this
  have e2 : beB 4 (hNum h) = (h.drop 8).take 4 := by
    have := beB_numB ((h.drop 8).take 4); rwa [show ((h.drop 8).take 4).length = 4 by simp; omega] at this
  have e3 : beB 2 (hPlace h) = (h.drop 12).take 2 := by
    have := beB_numB ((h.drop 12).take 2); rwa [show ((h.drop 12).take 2).length = 2 by simp; omega] at this
  have e4 : beB 2 (hMany h) = (h.drop 14).take 2 := by
    have := beB_numB ((h.drop 14).take 2); rwa [show ((h.drop 14).take 2).length = 2 by simp; omega] at this
  rw [halfB, e1, e2, e3, e4, hBody]
  have s1 := List.take_append_drop 8 h
  have s2 := List.take_append_drop 4 (h.drop 8)
  have s3 := List.take_append_drop 2 (h.drop 12)
  have s4 := List.take_append_drop 2 (h.drop 14)
  rw [List.drop_drop] at s2 s3 s4
  rw [s4, s3, s2, s1]
theorem take_app {α : Type} (a b : List α) (k : Nat) (h : a.length = k) : (a ++ b).take k = a := by rw [List.take_append_of_le_length (by omega), List.take_of_length_le (by omega)]
theorem drop_app {α : Type} (a b : List α) (k : Nat) (h : a.length = k) : (a ++ b).drop k = b := by rw [List.drop_append_of_le_length (by omega), List.drop_of_length_le (by omega), List.nil_append]
theorem halfB_fields (c n p m : Nat) (b : List UInt8) : hCount (halfB c n p m b) = c % 256 ^ 8 ∧ hNum (halfB c n p m b) = n % 256 ^ 4 ∧ hPlace (halfB c n p m b) = p % 256 ^ 2 ∧ hMany (halfB c n p m b) = m % 256 ^ 2 ∧ hBody (halfB c n p m b) = b := by
  have d8 : (halfB c n p m b).drop 8 = beB 4 n ++ (beB 2 p ++ (beB 2 m ++ b)) := drop_app _ _ _ (beB_length _ _)
  have d12 : (halfB c n p m b).drop 12 = beB 2 p ++ (beB 2 m ++ b) := by
    have := drop_app (beB 4 n) (beB 2 p ++ (beB 2 m ++ b)) 4 (beB_length _ _)
    rw [← d8, List.drop_drop] at this; exact this
  have d14 : (halfB c n p m b).drop 14 = beB 2 m ++ b := by
    have := drop_app (beB 2 p) (beB 2 m ++ b) 2 (beB_length _ _)
    rw [← d12, List.drop_drop] at this; exact this
  have d16 : (halfB c n p m b).drop 16 = b := by
    have := drop_app (beB 2 m) b 2 (beB_length _ _)
    rw [← d14, List.drop_drop] at this; exact this
  refine ⟨?_, ?_, ?_, ?_, d16⟩
  · rw [hCount, halfB, take_app _ _ 8 (beB_length _ _), numB_beB]
  · rw [hNum, d8, take_app _ _ 4 (beB_length _ _), numB_beB]
  · rw [hPlace, d12, take_app _ _ 2 (beB_length _ _), numB_beB]
  · rw [hMany, d14, take_app _ _ 2 (beB_length _ _), numB_beB]
theorem chunks (X : List UInt8) : ∀ k, 48 * k ≤ X.length → ((List.range k).flatMap fun i => (X.drop (48 * i)).take 48) = X.take (48 * k)
  | 0, _ => rfl
  | k + 1, h => by
    rw [List.range_succ, List.flatMap_append, chunks X k (by omega)]
    simp only [List.flatMap_cons, List.flatMap_nil, List.append_nil]
    rw [show 48 * (k + 1) = 48 * k + 48 by omega, List.take_add]
theorem bodies_piece (l : List UInt8) (m i : Nat) (hl : 64 * m ≤ l.length) (hi : i < m) : ((bodies l m).drop (48 * i)).take 48 = hBody (halfAt l i) := by
  induction m with
  | zero => omega
  | succ m ih =>
    have hbl := bodies_length l m (by omega)
    rw [bodies_succ]
    by_cases h : i < m
    · rw [List.drop_append_of_le_length (by omega), List.take_append_of_le_length (by rw [List.length_drop]; omega)]
      exact ih (by omega) h
    · obtain rfl : i = m := by omega
      rw [drop_app _ _ _ hbl, List.take_of_length_le (by rw [hBody, List.length_drop, halfAt_length _ _ (by omega)]; omega)]
theorem bodies_eq (l X : List UInt8) (m : Nat) (hX : X.length = 48 * m) (h : ∀ i, i < m → hBody (halfAt l i) = (X.drop (48 * i)).take 48) : bodies l m = X := by
  have := chunks X m (by omega)
  rw [List.take_of_length_le (by omega)] at this
  rw [← this, bodies]
  have key : ∀ L : List Nat, (∀ i, i ∈ L → i < m) → (L.flatMap fun i => hBody (halfAt l i)) = L.flatMap fun i => (X.drop (48 * i)).take 48 := by
    intro L
    induction L with
    | nil => intro _; rfl
    | cons a L ih => intro hL; rw [List.flatMap_cons, List.flatMap_cons, h a (hL a (by simp)), ih fun i hi => hL i (by simp [hi])]
  exact key _ fun i hi => List.mem_range.1 hi
theorem mayT_tag (h : List UInt8) : mayT (tagC h) (tagN h) = mayT (hCount h) (hNum h) := by
  unfold tagC tagN
  cases hm : mayT (hCount h) (hNum h) with
  | true => simpa using hm
  | false => show mayT ((0 : Nat) : Int) ((0 : Nat) : Int) = false; decide
theorem all_zero (z : List UInt8) : z.all (· == 0) = true ↔ z = zerosB z.length := by
  rw [List.all_eq_true, zerosB]
  constructor
  · intro h
    exact List.eq_replicate_iff.2 ⟨rfl, fun x hx => by simpa using h x hx⟩
  · intro h x hx
    rw [h] at hx
    simpa using (List.mem_replicate.1 hx).2
theorem bodies_all (l : List UInt8) (m : Nat) (B : List UInt8) (hl : 64 * m ≤ l.length) (hm : manyN (joinK l m) = m) (hB : B = ((bodies l m).drop 4).take (joinK l m)) : bodies l m = allB B ↔ ((bodies l m).drop (4 + joinK l m)).all (· == 0) = true := by
  have hbl := bodies_length l m hl
  have hle := manyN_le (joinK l m)
  rw [hm] at hle
  have hBl : B.length = joinK l m := by rw [hB, List.length_take, List.length_drop, hbl]; omega
  have e4 : beB 4 (joinK l m) = (bodies l m).take 4 := by
    have := beB_numB ((bodies l m).take 4); rwa [show ((bodies l m).take 4).length = 4 by simp; omega] at this
  rw [all_zero, allB, hBl, hm, e4]
  have hsp : bodies l m = (bodies l m).take 4 ++ B ++ (bodies l m).drop (4 + joinK l m) := by
    rw [hB, List.append_assoc]
    have s2 := List.take_append_drop (joinK l m) ((bodies l m).drop 4)
    rw [List.drop_drop] at s2
    rw [s2, List.take_append_drop]
  have hz : ((bodies l m).drop (4 + joinK l m)).length = 48 * m - (4 + joinK l m) := by rw [List.length_drop, hbl]
  rw [hz]
  constructor
  · intro h
    have := hsp.symm.trans h
    exact List.append_cancel_left this
  · intro h
    rw [← h]; exact hsp
theorem refK_eq (l : List UInt8) (m : Nat) (hl : 64 * m ≤ l.length) (h1 : 1 ≤ m) : refK l = joinK l m := by
  have := bodies_piece l m 0 hl h1
  rw [joinK, refK]
  have e : (bodies l m).take 4 = (((bodies l m).drop (48 * 0)).take 48).take 4 := by rw [Nat.mul_zero, List.drop_zero, List.take_take]; rfl
  rw [e, this]; rfl
theorem tag_yes {h : List UInt8} (hm : mayT (hCount h) (hNum h) = true) : tagC h = hCount h ∧ tagN h = hNum h := by simp [tagC, tagN, hm]
theorem refIs_eq (l : List UInt8) (n : Nat) (hl : l.length = n * 128) : refIs l n = joinIs l n := by
  unfold refIs joinIs joinMay joinOk refOk
  rw [mayT_tag]
  by_cases h0 : 0 < n
  · cases hm : mayT (hCount (halfAt l 0)) (hNum (halfAt l 0)) with
    | false => simp
    | true =>
      obtain ⟨e1, e2⟩ := tag_yes hm
      rw [e1, e2]
      have hmb := may_bounds hm
      have hJB : joinB l = ((bodies l (hMany (halfAt l 0))).drop 4).take (joinK l (hMany (halfAt l 0))) := rfl
      have hmm : hMany (halfAt l 0) < 65536 := numB_lt_of _ 2 (by simp; omega)
      generalize hCount (halfAt l 0) = c at *
      generalize hNum (halfAt l 0) = nn at *
      generalize hMany (halfAt l 0) = m at *
      by_cases hm1 : 1 ≤ m ∧ m ≤ 2 * n
      · have hlm : 64 * m ≤ l.length := by omega
        rw [refK_eq l m hlm hm1.1]
        by_cases hk : joinK l m ≤ 32768 ∧ manyN (joinK l m) = m
        · have hm683 : m ≤ 683 := by have := hk.2; unfold manyN at this; omega
          have hba := bodies_all l m (joinB l) hlm hk.2 hJB
          have hbl := bodies_length l m hlm
          have hle := manyN_le (joinK l m)
          rw [hk.2] at hle
          have hBl : (joinB l).length = joinK l m := by rw [hJB, List.length_take, List.length_drop, hbl]; omega
          have hiff : (∀ i, i < m → (halvesL c nn (joinB l))[i]? = some (halfAt l i)) ↔ ((∀ i, i < m → goodH (halfAt l i) c nn i m = true) ∧ ((bodies l m).drop (4 + joinK l m)).all (· == 0) = true) := by
            have hget : ∀ i, i < m → (halvesL c nn (joinB l))[i]? = some (halfB c nn i m (pieceB (joinB l) i)) := fun i hi => by
              rw [halvesL_get c nn _ i (by rw [hBl, hk.2]; exact hi), hBl, hk.2]
            constructor
            · intro h
              have hh : ∀ i, i < m → halfB c nn i m (pieceB (joinB l) i) = halfAt l i := fun i hi => by
                have := h i hi; rw [hget i hi] at this; exact Option.some.inj this
              refine ⟨fun i hi => ?_, hba.1 (bodies_eq l _ m (by rw [allB_length, hBl, hk.2]) fun i hi => ?_)⟩
              · obtain ⟨f1, f2, f3, f4, -⟩ := halfB_fields c nn i m (pieceB (joinB l) i)
                rw [hh i hi] at f1 f2 f3 f4
                rw [goodH, f1, f2, f3, f4, Nat.mod_eq_of_lt (by omega), Nat.mod_eq_of_lt (by omega), Nat.mod_eq_of_lt (by omega), Nat.mod_eq_of_lt (by omega), hm]
                simp
              · obtain ⟨-, -, -, -, f5⟩ := halfB_fields c nn i m (pieceB (joinB l) i)
                rw [← hh i hi, f5]; rfl
            · rintro ⟨h1, h2⟩ i hi
              rw [hget i hi]
              have hg := h1 i hi
              simp only [goodH, Bool.and_eq_true, decide_eq_true_eq] at hg
              obtain ⟨⟨⟨-, g1, g2⟩, g3⟩, g4⟩ := hg
              have hp : pieceB (joinB l) i = hBody (halfAt l i) := by rw [pieceB, ← hba.2 h2, bodies_piece l m i hlm hi]
              have := half_ext (halfAt l i) (halfAt_length _ _ (by omega))
              rw [g1, g2, g3, g4] at this
              rw [hp, this]
          have hb : ((List.range m).all fun i => decide ((halvesL c nn (joinB l))[i]? = some (halfAt l i))) = ((List.range m).all (fun i => goodH (halfAt l i) c nn i m) && ((bodies l m).drop (4 + joinK l m)).all (· == 0)) := by
            rw [Bool.eq_iff_iff, Bool.and_eq_true, List.all_eq_true, List.all_eq_true]
            simp only [List.mem_range, decide_eq_true_eq]
            exact hiff
          rw [hb, decide_eq_true h0, decide_eq_true hm1, decide_eq_true hk, decide_eq_true hk.1, decide_eq_true hk.2, decide_eq_true hm1.1, decide_eq_true hm683, decide_eq_true (by omega : (m + 1) / 2 ≤ n)]
          simp
        · rw [decide_eq_false hk]
          rcases Classical.not_and_iff_not_or_not.1 hk with h | h
          · rw [decide_eq_false h]; simp
          · rw [decide_eq_false h]; simp
      · rw [decide_eq_false hm1]
        rcases Classical.not_and_iff_not_or_not.1 hm1 with h | h
        · rw [decide_eq_false h]; simp
        · rw [decide_eq_false (by omega : ¬ (m + 1) / 2 ≤ n)]; simp
  · rw [decide_eq_false h0]; simp
end Go.Proofs.YtkkgahgpemepeaaGreat
namespace Go.Proofs.YtkkgahgpemepeaaGreat
open Go Go.RowKit Coup
theorem half_flat (L : List (List UInt8)) (X : List UInt8) (h : ∀ l, l ∈ L → l.length = 64) (i : Nat) (hi : i < L.length) : L[i]? = some (halfAt (L.flatten ++ X) i) := by
  induction L generalizing i with
  | nil => simp at hi
  | cons a L ih =>
    have ha := h a (by simp)
    rw [halfAt, List.flatten_cons, List.append_assoc]
    cases i with
    | zero => rw [Nat.mul_zero, List.drop_zero, take_app _ _ 64 ha]; rfl
    | succ i =>
      have := ih (fun l hl => h l (by simp [hl])) i (by simpa using hi)
      rw [List.getElem?_cons_succ, this, halfAt, show 64 * (i + 1) = 64 + 64 * i by omega, ← List.drop_drop, drop_app _ _ 64 ha]
theorem row_half (c nn : Nat) (b X : List UInt8) (i : Nat) (hi : i < manyN b.length) : halfAt (rowB c nn b ++ X) i = halfB c nn i (manyN b.length) (pieceB b i) := by
  have h1 := half_flat (halvesL c nn b) (zerosB (128 * needN b.length - 64 * manyN b.length) ++ X) (halvesL_64 c nn b) i (by rw [halvesL_len]; exact hi)
  rw [halvesL_get c nn b i hi] at h1
  rw [rowB, List.append_assoc]
  exact (Option.some.inj h1).symm
theorem rowB_len (c nn : Nat) (b : List UInt8) : (rowB c nn b).length = 128 * needN b.length := by
  rw [rowB, List.length_append, flat64 _ (halvesL_64 c nn b), halvesL_len, zerosB, List.length_replicate]
  unfold needN; omega
theorem manyN_pos (n : Nat) : 1 ≤ manyN n := by unfold manyN; omega
theorem manyN_max {n : Nat} (h : n ≤ 32768) : manyN n ≤ 683 := by unfold manyN; omega
theorem allB_take (b : List UInt8) : (allB b).take 4 = beB 4 b.length := by rw [allB, List.append_assoc, take_app _ _ 4 (beB_length _ _)]
theorem allB_mid (b : List UInt8) : ((allB b).drop 4).take b.length = b := by rw [allB, List.append_assoc, drop_app _ _ 4 (beB_length _ _), take_app _ _ _ rfl]
structure Told (l : List UInt8) (n c nn : Nat) (b : List UInt8) : Prop where
  is : joinIs l n = true
  c : hCount (halfAt l 0) = c
  n : hNum (halfAt l 0) = nn
  b : joinB l = b
theorem told_row (c nn : Nat) (b X : List UInt8) (n : Nat) (hm : mayT c nn = true) (hb : b.length ≤ 32768) (hn : needN b.length ≤ n) (hl : (rowB c nn b ++ X).length = n * 128) : Told (rowB c nn b ++ X) n c nn b := by
  have hmb := may_bounds hm
  have hp := manyN_pos b.length
  have hmx := manyN_max hb
  have h0 := row_half c nn b X 0 (by omega)
  obtain ⟨f1, f2, -, f4, -⟩ := halfB_fields c nn 0 (manyN b.length) (pieceB b 0)
  rw [← h0, Nat.mod_eq_of_lt (by omega)] at f1
  rw [← h0, Nat.mod_eq_of_lt (by omega)] at f2
  rw [← h0, Nat.mod_eq_of_lt (by omega)] at f4
  have hml : 64 * manyN b.length ≤ (rowB c nn b ++ X).length := by rw [hl]; unfold needN at hn; omega
  have hbod : bodies (rowB c nn b ++ X) (manyN b.length) = allB b := bodies_eq _ _ _ (allB_length b) fun i hi => by
    rw [row_half c nn b X i hi, (halfB_fields c nn i _ _).2.2.2.2]; rfl
  have hK : joinK (rowB c nn b ++ X) (manyN b.length) = b.length := by
    rw [joinK, hbod, allB_take, numB_beB, Nat.mod_eq_of_lt (by omega)]
  have hJB : joinB (rowB c nn b ++ X) = b := by rw [joinB, f4, hK, hbod, allB_mid]
  refine ⟨?_, f1, f2, hJB⟩
  rw [← refIs_eq _ _ hl]
  have ht := tag_yes (h := halfAt (rowB c nn b ++ X) 0) (by rw [f1, f2]; exact hm)
  unfold refIs refOk
  rw [ht.1, ht.2, f1, f2, f4, hm, refK_eq _ _ hml hp, hK, hJB, decide_eq_true (by omega : 0 < n), decide_eq_true (by unfold needN at hn; omega : 1 ≤ manyN b.length ∧ manyN b.length ≤ 2 * n), decide_eq_true (by omega : b.length ≤ 32768 ∧ manyN b.length = manyN b.length)]
  simp only [Bool.true_and]
  refine List.all_eq_true.2 fun i hi => ?_
  have hi' := List.mem_range.1 hi
  rw [halvesL_get c nn b i hi', row_half c nn b X i hi']
  simp
end Go.Proofs.YtkkgahgpemepeaaGreat
namespace Coup
open Go Go.RowKit Go.ChangeShapes Go.WideShapes Go.Deep
section
variable {H : Type} {enc : TypeId × Value → H} {P : Program} {W : World} {base : Nat} {spare : Nat → Bool} {held : Bool}
def Opn (enc : TypeId × Value → H) (P : Program) (W : World) (base : Nat) (spare : Nat → Bool) (held : Bool) (e : TypeId) {α : Type} (Q : α → List Value → Prop) : Prop :=
  ∀ fuel cs x, DataW.trod enc P W base spare held fuel e cs = some x → ∃ r, Q r cs
theorem opn_int {e : TypeId} {k : IntKind} (he : P.underlying e = some (.int k)) : Opn enc P W base spare held e (fun (i : Int) cs => cs = [.int k i] ∧ (Lit.int k i).wf = true) := fun fuel cs x h => by
  obtain ⟨n, rfl, _, hw⟩ := DataW.trod_int he h
  exact ⟨n, rfl, hw⟩
def ElsAt {α : Type} (Q : α → List Value → Prop) (W : World) (n : Nat) (p : Option Addr) (len : Nat) (R : List α) : Prop :=
  R.length = len ∧ ∃ cs, SlAt W p len n cs ∧ ∀ (i : Nat) (r : α), R[i]? = some r → Q r ((cs.drop (i * n)).take n)
theorem opn_slice {t e : TypeId} {n : Nat} {α : Type} {Q : α → List Value → Prop} (ht : P.underlying t = some (.slice e)) (hC : P.cellsOf e = n) (hq : Opn enc P W base spare held e Q) :
    Opn enc P W base spare held t (fun (R : List α) cs => ∃ p cp, cs = [.slice p R.length cp] ∧ R.length ≤ cp ∧ ElsAt Q W n p R.length R) := fun fuel cs x h => by
  have hform : ∃ q m cp, cs = [.slice q m cp] := by
    rcases open_slice ht h with ⟨hcs, _⟩ | ⟨a', len', cap', m2, n', D, Pl, hcs, _⟩
    · exact ⟨_, _, _, hcs⟩
    · exact ⟨_, _, _, hcs⟩
  obtain ⟨q, m, cp, rfl⟩ := hform
  obtain ⟨⟨R, cs, h1, h2, h3⟩, h4⟩ := open_elems (enc := enc) (d := x.1) (p := x.2) (n := n) Q ht hC hq ⟨fuel, h⟩
  exact ⟨R, q, cp, by rw [h1], by rw [h1]; exact h4, by rw [h1]; exact ⟨h1, cs, h2, h3⟩⟩
theorem opn_flds {e : TypeId} {fs : Array Field} (hs : P.underlying e = some (.struct fs)) {fuel : Nat} {cs : List Value} {x : DataW H × List MemPlace} (h : DataW.trod enc P W base spare held fuel e cs = some x) :
    cs.length = P.cellsOf e ∧ ∃ m, ∀ (i : Nat) (f : Field), fs[i]? = some f → ∃ y, DataW.trod enc P W base spare held m f.type ((cs.drop f.offset).take (P.cellsOf f.type)) = some y := by
  obtain ⟨xs, m, rfl, _, hl, hx, hel⟩ := DataW.trod_struct hs h
  refine ⟨hl, m, fun i f hi => ?_⟩
  have h0 := hel i f hi
  have hlt : i < xs.length := by
    rw [hx]
    exact (Array.getElem?_eq_some_iff.1 hi).1
  rw [List.getElem?_eq_getElem hlt] at h0
  exact ⟨_, h0⟩
theorem fld {fs : Array Field} {m : Nat} {cs : List Value} (hf : ∀ (i : Nat) (f : Field), fs[i]? = some f → ∃ y, DataW.trod enc P W base spare held m f.type ((cs.drop f.offset).take (P.cellsOf f.type)) = some y) (i o k : Nat) {f : Field} (hi : fs[i]? = some f) (ho : f.offset = o) (hc : P.cellsOf f.type = k) :
    ∃ y, DataW.trod enc P W base spare held m f.type ((cs.drop o).take k) = some y := by
  subst ho; subst hc; exact hf i f hi
theorem opn_arg {t e : TypeId} {n : Nat} {α : Type} {Q : α → List Value → Prop} {a : Option Addr} {len cap : Nat} {d : DataW H} {p : List MemPlace} (ht : P.underlying t = some (.slice e)) (hC : P.cellsOf e = n) (hq : Opn enc P W base spare held e Q)
    (h : DataW.Trod enc P W base spare held t (.slice a len cap) d p) : (∃ R, ElsAt Q W n a len R) ∧ len ≤ cap := by
  obtain ⟨⟨R, cs, h1, h2, h3⟩, h4⟩ := open_elems (n := n) Q ht hC hq h
  exact ⟨⟨R, h1, cs, h2, h3⟩, h4⟩
end
namespace ElsAt
variable {α : Type} {Q Q' : α → List Value → Prop} {w w' : World} {n : Nat} {p : Option Addr} {len : Nat} {R : List α}
theorem some (h : ElsAt Q w n p len R) (h0 : 0 < len * n) : ∃ g o, p = Option.some ⟨g, o, none⟩ ∧ g < w.heap.size := by
  obtain ⟨_, cs, h2, _⟩ := h
  exact h2.some h0
theorem max (h : ElsAt Q w n p len R) : len ≤ maxLen := h.2.choose_spec.1.max
theorem get {i : Nat} (h : ElsAt Q w n p len R) (hi : i < len) : ∃ a, R[i]? = Option.some a := ⟨_, List.getElem?_eq_getElem (by have := h.1; omega)⟩
theorem to (h : ElsAt Q w n p len R) (hb : Below w.heap.size w w') (hq : ∀ r cs, Q r cs → Q' r cs) : ElsAt Q' w' n p len R := by
  obtain ⟨h1, cs, h2, h3⟩ := h
  exact ⟨h1, cs, h2.below hb (Nat.le_refl _), fun i r hi => hq r _ (h3 i r hi)⟩
theorem kpd {M : List Nat} (h : ElsAt Q w n p len R) (k : Kp M w w') (hM : ∀ b o, p = Option.some ⟨b, o, none⟩ → b ∉ M) : ElsAt Q w' n p len R := by
  obtain ⟨h1, cs, h2, h3⟩ := h
  exact ⟨h1, cs, h2.kpd k hM, h3⟩
theorem el {g o i : Nat} {a : α} (h : ElsAt Q w n (Option.some ⟨g, o, none⟩) len R) (hi : R[i]? = Option.some a) : ∃ cs, Q a cs ∧ cs.length = n ∧ ∀ j v, cs[j]? = Option.some v → w.cell? ⟨g, o + i * n + j, none⟩ = Option.some v := by
  obtain ⟨h1, cs, h2, h3⟩ := h
  have hn := (List.getElem?_eq_some_iff.1 hi).1
  have hl := h2.len
  have hle : i * n + n ≤ len * n := by rw [← Nat.succ_mul]; exact Nat.mul_le_mul_right _ (by omega)
  refine ⟨_, h3 i a hi, by rw [List.length_take, List.length_drop]; omega, fun j v hv => ?_⟩
  rw [List.getElem?_take] at hv
  split at hv
  · rw [List.getElem?_drop] at hv
    have := h2.cell _ hv
    rw [Nat.add_assoc]; exact this
  · cases hv
theorem ldB {P : Program} {t g o i : Nat} {a : α} (h : ElsAt Q w n (Option.some ⟨g, o, none⟩) len R) (ht : isRowT P t = true) (hs : sizeIs P t n = true) (hi : R[i]? = Option.some a) : ∃ cs, Q a cs ∧ cs.length = n ∧ ∀ w', Below w.heap.size w w' → Ld P w' t ⟨g, o + i * n, none⟩ (.agg cs.toArray) ∧ ∀ j v, cs[j]? = Option.some v → w'.cell? ⟨g, o + i * n + j, none⟩ = Option.some v := by
  obtain ⟨cs, h1, h2, h3⟩ := h.el hi
  have hlt : 0 < n → g < w.heap.size := fun h0 => by
    have hn := (List.getElem?_eq_some_iff.1 hi).1
    obtain ⟨g', o', e, hl⟩ := h.some (Nat.mul_pos (by have := h.1; omega) h0)
    cases e; exact hl
  refine ⟨cs, h1, h2, fun w' hb => ?_⟩
  have hc : ∀ j v, cs[j]? = Option.some v → w'.cell? ⟨g, o + i * n + j, none⟩ = Option.some v := fun j v hv => by
    have hj := (List.getElem?_eq_some_iff.1 hv).1
    rw [← h3 j v hv]
    simp only [World.cell?, hb.block g (hlt (by omega))]
  exact ⟨Ld.rng hc ht (by rw [h2]; exact hs), hc⟩
end ElsAt
theorem cut_at (cs : List Value) (o k : Nat) : cs.drop o = (cs.drop o).take k ++ cs.drop (o + k) := by
  rw [← List.drop_drop, List.take_append_drop]
theorem el_ints {W : World} {p : Option Addr} {len : Nat} {R : List Int} (h : ElsAt (fun (i : Int) cs => cs = [.int .i64 i] ∧ (Lit.int .i64 i).wf = true) W 1 p len R) : SlAt W p len 1 (iv R) ∧ okI R := by
  obtain ⟨h1, cs, h2, h3⟩ := h
  have hl := h2.len
  refine ⟨?_, fun x hx => ?_⟩
  · have : cs = iv R := by
      refine List.ext_getElem? fun i => ?_
      by_cases hi : i < R.length
      · have := (h3 i _ (List.getElem?_eq_getElem hi)).1
        have := congrArg (fun z => z[0]?) this
        rw [iv_get, List.getElem?_eq_getElem hi]
        simpa [List.getElem?_take, List.getElem?_drop] using this
      · rw [List.getElem?_eq_none (by omega), List.getElem?_eq_none (by rw [iv_length]; omega)]
    rw [← this]; exact h2
  · obtain ⟨i, hi⟩ := List.mem_iff_getElem?.1 hx
    exact i64_of_wf (h3 i x hi).2
theorem u8_of_els {W : World} {p : Option Addr} {len : Nat} {R : List Int} (h : ElsAt (fun (i : Int) cs => cs = [.int .u8 i] ∧ (Lit.int .u8 i).wf = true) W 1 p len R) : ∃ l : List UInt8, l.length = len ∧ SlAt W p len 1 (bv l) := by
  obtain ⟨h1, cs, h2, h3⟩ := h
  have hl := h2.len
  obtain ⟨l, rfl⟩ := bytes_of_cells cs fun i hi => by
    obtain ⟨h4, h5⟩ := h3 i _ (List.getElem?_eq_getElem (by omega : i < R.length))
    obtain ⟨b, hb⟩ := byte_of_wf h5
    refine ⟨b, ?_⟩
    have := congrArg (fun z => z[0]?) h4
    rw [hb] at this
    show cs[i]? = some (Value.int .u8 (b.toNat : Int))
    simpa [List.getElem?_take, List.getElem?_drop] using this
  exact ⟨l, by simpa [bv_length] using hl, h2⟩
end Coup
namespace Go.Proofs.YtkkgahgpemepeaaGreat
open Go Go.RowKit Coup
structure Ch where
  num : Int
  page : List UInt8
def chV (c : Ch) : List Value := .int .i64 c.num :: bv c.page
abbrev Rec := List Ch
def chsOk (R : Rec) : Prop := ∀ c ∈ R, c.page.length = 512
def chsV (R : Rec) : List Value := R.flatMap chV
theorem chV_len {c : Ch} (h : c.page.length = 512) : (chV c).length = 513 := by rw [chV, List.length_cons, bv_length, h]
theorem chsV_len {R : Rec} (h : chsOk R) : (chsV R).length = R.length * 513 := by
  induction R with
  | nil => rfl
  | cons c R ih =>
    rw [chsV, List.flatMap_cons, List.length_append, chV_len (h c (List.mem_cons_self ..)), List.length_cons]
    have := ih fun x hx => h x (List.mem_cons_of_mem _ hx)
    rw [chsV] at this
    omega
theorem chsV_at {R : Rec} (h : chsOk R) {i : Nat} {c : Ch} (hc : R[i]? = some c) : ((chsV R).drop (i * 513)).take 513 = chV c := by
  induction R generalizing i with
  | nil => simp at hc
  | cons d R ih =>
    have hd := chV_len (h d (List.mem_cons_self ..))
    cases i with
    | zero =>
      obtain rfl : d = c := by simpa using hc
      rw [Nat.zero_mul, List.drop_zero, chsV, List.flatMap_cons, List.take_left' hd]
    | succ i =>
      have hc' : R[i]? = some c := by simpa using hc
      rw [chsV, List.flatMap_cons, show (i + 1) * 513 = (chV d).length + i * 513 by omega, List.drop_append, List.drop_of_length_le (by omega), List.nil_append, show (chV d).length + i * 513 - (chV d).length = i * 513 by omega]
      exact ih (fun x hx => h x (List.mem_cons_of_mem _ hx)) hc'
theorem chsV_snoc (R : Rec) (c : Ch) : chsV (R ++ [c]) = chsV R ++ chV c := by rw [chsV, List.flatMap_append]; simp [chsV]
theorem chV_one (c : Ch) : ∀ v ∈ chV c, v.oneCell' = true := fun v hv => by
  rcases List.mem_cons.1 hv with rfl | hv
  · rfl
  · exact bv_one _ v hv
theorem chsV_one (R : Rec) : ∀ v ∈ chsV R, v.oneCell' = true := fun v hv => by
  obtain ⟨c, _, h⟩ := List.mem_flatMap.1 hv
  exact chV_one c v h
theorem ld_ch {w : World} {g o n : Nat} {R : Rec} (h : SlAt w (some ⟨g, o, none⟩) n 513 (chsV R)) (hR : chsOk R) {i : Nat} {c : Ch} (hc : R[i]? = some c) : Ld Tryz.prog w 112 ⟨g, o + i * 513, none⟩ (.agg (chV c).toArray) := by
  have hi := (List.getElem?_eq_some_iff.1 hc).1
  have hl := chsV_len hR
  have := Ld.slN (P := Tryz.prog) (t := 112) (j := i * 513) (k := 513) h (by kernel_rfl) (by kernel_rfl) (by omega)
  rw [chsV_at hR hc] at this
  exact this
def needW (n : Int) : Int := if 1 ≤ n ∧ n ≤ 60 then (needN (n.toNat * 516) : Nat) else 0
set_option maxRecDepth 20000 in
theorem need10 (n : Int) (w : World) : Calls Tryz.prog 32 [.int .i64 n].toArray w (Ret fun v w' => v = .int .i64 (needW n) ∧ w = w') := by
  refine calls_W (fn := Tryz.f32) (rs := [.tmp 2]) (n := 12) Tryz.func32 rfl rfl Tryz.ntmps32 (by kernel_rfl) rfl ?_
  refine W_seq ?_
  refine W_region ?_
  refine WR_val rfl (rn_assign) ?_
  refine WR_nil ?_
  refine thenN ?_
  refine W_seq ?_
  refine W_seq ?_
  refine W_region ?_
  refine WR_val rfl (rn_move) ?_
  refine WR_val rfl (rn_lss rfl rfl) ?_
  refine WR_val rfl (rn_move) ?_
  refine WR_part 5 rfl (fun h1 => ?_) (fun h1 => ?_)
  ·
    refine WR_no rfl rfl ?_
    refine WR_no rfl rfl ?_
    refine WR_val rfl (rn_pick_t rfl) ?_
    refine WR_nil ?_
    refine thenN ?_
    refine W_tb rfl (rfl) ?_
    refine W_seq ?_
    refine W_region ?_
    refine WR_val rfl (rn_assign) ?_
    refine WR_nil ?_
    refine thenN ?_
    refine W_ret ?_
    refine thenR ?_
    refine ret_ret [_] ⟨rfl, trivial⟩ ?_
    exact ⟨by rw [needW, if_neg (by omega)]; rfl, rfl⟩
  ·
    refine WR_yes rfl ?_
    refine WR_val rfl (rn_move) ?_
    refine WR_yes rfl ?_
    refine WR_val rfl (rn_gtr rfl rfl) ?_
    refine WR_val rfl (rn_pick_f rfl) ?_
    refine WR_nil ?_
    refine thenN ?_
    refine W_ifp rfl (fun h2 => ?_) (fun h2 => ?_)
    ·
      refine W_seq ?_
      refine W_region ?_
      refine WR_val rfl (rn_assign) ?_
      refine WR_nil ?_
      refine thenN ?_
      refine W_ret ?_
      refine thenR ?_
      refine ret_ret [_] ⟨rfl, trivial⟩ ?_
      exact ⟨by rw [needW, if_neg (by omega)]; rfl, rfl⟩
    ·
      refine W_skip ?_
      refine thenN ?_
      refine W_seq ?_
      refine W_region ?_
      refine WR_val rfl (rn_move) ?_
      refine WR_val rfl (rn_mul rfl rfl (Coup.w64 (by omega))) ?_
      refine WR_ent rfl (rn_call (by kernel_rfl) rfl) (need12r (n * 516) w) ?_
      rintro _ _ ⟨rfl, rfl⟩
      refine WR_val rfl (rn_assign) ?_
      refine WR_nil ?_
      refine thenN ?_
      refine W_ret ?_
      refine ret_ret [_] ⟨rfl, trivial⟩ ?_
      refine ⟨?_, rfl⟩
      show Value.int .i64 _ = _
      congr 1
      rw [needW, if_pos (by omega), needZ, if_pos (by omega), show (n * 516).toNat = n.toNat * 516 by omega]
      rfl
set_option maxRecDepth 20000 in
theorem rneed11 (n : Int) (w : World) : Calls Tryz.prog 54 [.int .i64 n].toArray w (Ret fun v w' => v = .int .i64 (needW n) ∧ w = w') := by
  refine calls_W (fn := Tryz.f54) (rs := [.tmp 2]) (n := 12) Tryz.func54 rfl rfl Tryz.ntmps54 (by kernel_rfl) rfl ?_
  refine W_seq ?_
  refine W_region ?_
  refine WR_val rfl (rn_assign) ?_
  refine WR_nil ?_
  refine thenN ?_
  refine W_seq ?_
  refine W_seq ?_
  refine W_region ?_
  refine WR_val rfl (rn_move) ?_
  refine WR_val rfl (rn_lss rfl rfl) ?_
  refine WR_val rfl (rn_move) ?_
  refine WR_part 5 rfl (fun h1 => ?_) (fun h1 => ?_)
  ·
    refine WR_no rfl rfl ?_
    refine WR_no rfl rfl ?_
    refine WR_val rfl (rn_pick_t rfl) ?_
    refine WR_nil ?_
    refine thenN ?_
    refine W_tb rfl (rfl) ?_
    refine W_seq ?_
    refine W_region ?_
    refine WR_val rfl (rn_assign) ?_
    refine WR_nil ?_
    refine thenN ?_
    refine W_ret ?_
    refine thenR ?_
    refine ret_ret [_] ⟨rfl, trivial⟩ ?_
    exact ⟨by rw [needW, if_neg (by omega)]; rfl, rfl⟩
  ·
    refine WR_yes rfl ?_
    refine WR_val rfl (rn_move) ?_
    refine WR_yes rfl ?_
    refine WR_val rfl (rn_gtr rfl rfl) ?_
    refine WR_val rfl (rn_pick_f rfl) ?_
    refine WR_nil ?_
    refine thenN ?_
    refine W_ifp rfl (fun h2 => ?_) (fun h2 => ?_)
    ·
      refine W_seq ?_
      refine W_region ?_
      refine WR_val rfl (rn_assign) ?_
      refine WR_nil ?_
      refine thenN ?_
      refine W_ret ?_
      refine thenR ?_
      refine ret_ret [_] ⟨rfl, trivial⟩ ?_
      exact ⟨by rw [needW, if_neg (by omega)]; rfl, rfl⟩
    ·
      refine W_skip ?_
      refine thenN ?_
      refine W_seq ?_
      refine W_region ?_
      refine WR_val rfl (rn_move) ?_
      refine WR_val rfl (rn_mul rfl rfl (Coup.w64 (by omega))) ?_
      refine WR_ent rfl (rn_call (by kernel_rfl) rfl) (need13r (516 * n) w) ?_
      rintro _ _ ⟨rfl, rfl⟩
      refine WR_val rfl (rn_assign) ?_
      refine WR_nil ?_
      refine thenN ?_
      refine W_ret ?_
      refine ret_ret [_] ⟨rfl, trivial⟩ ?_
      refine ⟨?_, rfl⟩
      show Value.int .i64 _ = _
      congr 1
      rw [needW, if_pos (by omega), needZ, if_pos (by omega), show (516 * n).toNat = n.toNat * 516 by omega]
      rfl
set_option maxRecDepth 20000 in
theorem number42 (p : Option Addr) (n c : Nat) (l : List UInt8) (w : World) (h : SlAt w p n 1 (bv l)) (hn : n ≤ 8) : Calls Tryz.prog 66 [.slice p n c].toArray w (Ret fun v w' => v = .int .u64 (numB l) ∧ w = w') := by
  have hl : l.length = n := by simpa [bv_length] using h.len
  refine calls_W (fn := Tryz.f66) (rs := [.tmp 2]) (n := 18) Tryz.func66 rfl rfl Tryz.ntmps66 (by kernel_rfl) rfl ?_
  refine W_seq ?_
  refine W_region ?_
  refine WR_val rfl (rn_assign) ?_
  refine WR_nil ?_
  refine thenN ?_
  refine W_seq ?_
  refine W_seq ?_
  refine W_region ?_
  refine WR_val rfl (rn_move) ?_
  refine WR_val rfl (rn_lenSl (e := 5) (sz := 1) (by kernel_rfl) rfl rfl) ?_
  refine WR_val rfl (rn_move) ?_
  refine WR_nil ?_
  refine thenN ?_
  refine W_block ?_
  refine W_loop (α := Nat) 0 (fun k => [(2, .int .u64 (numB (l.take k) : Nat)), (7, .int .i64 (k : Nat)), (6, .int .i64 (n : Int)), (5, .slice p n c)]) (fun k w' => k ≤ n ∧ w = w') (fun k => n - k)
    ⟨rfl, rfl, rfl, rfl, rfl⟩ ⟨Nat.zero_le _, rfl⟩ ?_
  rintro k f wr ⟨hk, rfl⟩
  refine W_seq ?_
  refine W_region ?_
  refine WR_val rfl (rn_lss rfl rfl) ?_
  refine WR_nil ?_
  refine thenN ?_
  refine W_seq ?_
  refine W_ifp rfl (fun hlt => ?_) (fun hlt => ?_)
  ·
    refine W_skip ?_
    refine thenN ?_
    refine W_seq ?_
    refine W_block ?_
    refine W_seq ?_
    have hobt : ∃ x, l[k]? = some x := ⟨_, List.getElem?_eq_getElem (by omega)⟩
    obtain ⟨x, hx⟩ := hobt
    have hobt := h.some (by omega)
    obtain ⟨g, o, rfl, hg⟩ := hobt
    have hsm := num_small l k (by omega)
    have hb := x.toNat_lt
    refine W_region ?_
    refine WR_val rfl (rn_indexSl1 (e := 5) (by kernel_rfl) rfl rfl (k) (by omega) (by omega)) ?_
    refine WR_val rfl (rn_load rfl (Ld.sl1 h (by kernel_rfl) (show (bv l)[k]? = some (.int .u8 (x.toNat : Int)) by rw [bv_get, hx]; rfl))) ?_
    refine WR_val rfl (rn_assign) ?_
    refine WR_nil ?_
    refine thenN ?_
    refine W_region ?_
    refine WR_val rfl (rn_move) ?_
    refine WR_val rfl (rn_shl rfl rfl (by omega) (show IntKind.u64.wrap (((numB (l.take k) : Nat) : Int) * 2 ^ (min (8 : Int).toNat IntKind.u64.bits)) = ((256 * numB (l.take k) : Nat) : Int) by rw [show (2 : Int) ^ (min (8 : Int).toNat IntKind.u64.bits) = 256 from rfl, wu64 (by omega)]; omega)) ?_
    refine WR_val rfl (rn_move) ?_
    refine WR_val rfl (rn_conv (k := .u64) (by kernel_rfl) (by kernel_rfl) rfl (wu64 (by omega))) ?_
    refine WR_val rfl (rn_or rfl rfl ((orU 8 (numB (l.take k) : Nat) (by omega) (by omega) (by omega) (by omega)).trans (show _ = ((numB (l.take (k + 1)) : Nat) : Int) by rw [take_num l k x hx]; omega))) ?_
    refine WR_val rfl (rn_assign) ?_
    refine WR_nil ?_
    refine blockN ?_
    refine thenN ?_
    refine W_region ?_
    refine WR_val rfl (rn_add rfl rfl (Coup.w64 (by omega))) ?_
    refine WR_val rfl (rn_move) ?_
    refine WR_nil ?_
    refine loopN ⟨k + 1, by omega, ⟨rfl, by go_num, rfl, rfl, rfl⟩, by omega, rfl⟩
  ·
    refine W_exit ?_
    refine thenX ?_
    refine loopX ?_
    refine blockX ?_
    refine thenN ?_
    refine W_seq ?_
    refine W_region ?_
    refine WR_val rfl (rn_move) ?_
    refine WR_val rfl (rn_assign) ?_
    refine WR_nil ?_
    refine thenN ?_
    refine W_ret ?_
    refine ret_ret [_] ⟨rfl, trivial⟩ ?_
    refine ⟨?_, rfl⟩
    rw [List.take_of_length_le (by omega)]
    rfl
end Go.Proofs.YtkkgahgpemepeaaGreat
namespace Go.Proofs.YtkkgahgpemepeaaGreat
open Go Go.RowKit Coup
theorem wrap_byte (x : Int) : ∃ b : UInt8, IntKind.u8.wrap x = (b.toNat : Int) := by
  have h : 0 ≤ IntKind.u8.wrap x ∧ IntKind.u8.wrap x < 256 := by rw [IntKind.wrap_u8]; omega
  refine ⟨UInt8.ofNat (IntKind.u8.wrap x).toNat, ?_⟩
  rw [UInt8.toNat_ofNat']
  omega
theorem four_bytes (n : Int) : ∃ l4 : List UInt8, l4.length = 4 ∧ (0 ≤ n → l4 = beB 4 n.toNat) ∧ [Value.int .u8 (IntKind.u8.wrap (n.fdiv (2 ^ (min (24 : Int).toNat IntKind.i64.bits)))), .int .u8 (IntKind.u8.wrap (n.fdiv (2 ^ (min (16 : Int).toNat IntKind.i64.bits)))), .int .u8 (IntKind.u8.wrap (n.fdiv (2 ^ (min (8 : Int).toNat IntKind.i64.bits)))), .int .u8 (IntKind.u8.wrap n)] = bv l4 := by
  show ∃ l4 : List UInt8, l4.length = 4 ∧ (0 ≤ n → l4 = beB 4 n.toNat) ∧ [Value.int .u8 (IntKind.u8.wrap (n.fdiv (2 ^ 24))), .int .u8 (IntKind.u8.wrap (n.fdiv (2 ^ 16))), .int .u8 (IntKind.u8.wrap (n.fdiv (2 ^ 8))), .int .u8 (IntKind.u8.wrap n)] = bv l4
  by_cases h : 0 ≤ n
  · obtain ⟨k, rfl⟩ : ∃ k : Nat, n = k := ⟨n.toNat, by omega⟩
    exact ⟨beB 4 k, beB_length _ _, fun _ => by rw [Int.toNat_natCast], bytes4 k⟩
  · obtain ⟨a, ha⟩ := wrap_byte (n.fdiv (2 ^ 24))
    obtain ⟨b, hb⟩ := wrap_byte (n.fdiv (2 ^ 16))
    obtain ⟨c, hc⟩ := wrap_byte (n.fdiv (2 ^ 8))
    obtain ⟨d, hd⟩ := wrap_byte n
    exact ⟨[a, b, c, d], rfl, fun h' => absurd h' h, by rw [ha, hb, hc, hd]; rfl⟩
def numOk (n : Int) : Bool := decide (0 ≤ n ∧ n < 2147483648)
set_option maxRecDepth 20000 in
theorem put39 (c : Ch) (hc : c.page.length = 512) (gb base m : Nat) (u : Value) (xs : List UInt8) (w : World) (hr : row w gb [u] 67) (hu : ownsAt w base 5 1 u m (bv xs)) (hgb : gb < base) (hbw : base ≤ w.heap.size) (hm : m ≤ 1000000) :
    Calls Tryz.prog 84 [.agg (chV c).toArray, .pointer (some ⟨gb, 0, none⟩)].toArray w (Ret fun v w' => v = .bool (numOk c.num) ∧ ∃ u' l4, l4.length = 4 ∧ (0 ≤ c.num → l4 = beB 4 c.num.toNat) ∧ row w' gb [u'] 67 ∧ ownsAt w' base 5 1 u' (m + 516) (bv (xs ++ (l4 ++ c.page))) ∧ Kp (gb :: u.ownBlock.toList) w w') := by
  have hml : maxLen = 9223372036854775807 := by decide
  have hgl := hr.lt
  have hchl := chV_len hc
  obtain ⟨l4, h41, h42, h43⟩ := four_bytes c.num
  have hu2 := fun b e => (hu.lt b e).2
  refine calls_W (fn := Tryz.f84) (rs := [.tmp 3]) (n := 30) Tryz.func84 rfl rfl Tryz.ntmps84 (by kernel_rfl) rfl ?_
  refine W_seq ?_
  refine W_region ?_
  refine WR_mk rfl (mk_box ((chV c)) rfl (fun g2 w2 hg2 hr2 hb2 => ?_))
  have lt_gb_g2 : gb < g2 := Nat.lt_of_lt_of_le hr.lt hg2
  replace hr := hr.new hb2
  replace hu := hu.new hb2
  refine WR_val rfl (rn_assign) ?_
  refine WR_nil ?_
  refine thenN ?_
  refine W_seq ?_
  refine W_region ?_
  refine WR_val rfl (rn_fieldAddr (off := 0) (by kernel_rfl) rfl) ?_
  refine WR_val rfl (rn_load rfl (Ld.row1 hr2 (by kernel_rfl) rfl)) ?_
  refine WR_val rfl (rn_assign) ?_
  refine WR_nil ?_
  refine thenN ?_
  refine W_seq ?_
  refine W_draw' (gb :: u.ownBlock.toList) (by kernel_rfl) ?_
  intro w901 hb901 hS901
  replace hr := hr.new hb901
  replace hu := hu.new hb901
  replace hr2 := hr2.new hb901
  have hr_d901 := hr
  have hu_d901 := hu
  have hr2_d901 := hr2
  refine WA_take 1 (by kernel_rfl) rfl (fun _ _ => rn_move) ?_
  refine WA_take 2 (by kernel_rfl) rfl (fun _ _ => rn_shr rfl rfl (by omega) rfl) ?_
  refine WA_take 3 (by kernel_rfl) rfl (fun _ _ => rn_conv (k := .u8) (by kernel_rfl) (by kernel_rfl) rfl rfl) ?_
  refine WA_take 4 (by kernel_rfl) rfl (fun _ _ => rn_move) ?_
  refine WA_take 5 (by kernel_rfl) rfl (fun _ _ => rn_shr rfl rfl (by omega) rfl) ?_
  refine WA_take 6 (by kernel_rfl) rfl (fun _ _ => rn_conv (k := .u8) (by kernel_rfl) (by kernel_rfl) rfl rfl) ?_
  refine WA_take 7 (by kernel_rfl) rfl (fun _ _ => rn_move) ?_
  refine WA_take 8 (by kernel_rfl) rfl (fun _ _ => rn_shr rfl rfl (by omega) rfl) ?_
  refine WA_take 9 (by kernel_rfl) rfl (fun _ _ => rn_conv (k := .u8) (by kernel_rfl) (by kernel_rfl) rfl rfl) ?_
  refine WA_take 10 (by kernel_rfl) rfl (fun _ _ => rn_move) ?_
  refine WA_take 11 (by kernel_rfl) rfl (fun _ _ => rn_conv (k := .u8) (by kernel_rfl) (by kernel_rfl) rfl rfl) ?_
  refine WA_take 14 (by kernel_rfl) rfl (fun _ _ => rn_fieldAddr (off := 1) (by kernel_rfl) rfl) ?_
  refine WA_take 15 (by kernel_rfl) rfl (fun _ _ => rn_sliceAr1' (e := 5) (n := 512) (0) (512) (512) (512) (by kernel_rfl) rfl rfl rfl rfl (by simp) (by omega) (by omega) (by omega) (by omega) (by omega)) ?_
  refine WA_two 0 12 (by kernel_rfl) ?_ ?_
  ·
    refine WO_val rfl rfl (rn_load rfl (Ld.row1 hr (by kernel_rfl) rfl)) hS901 ?_
    refine WA_one 12 (by kernel_rfl) ?_
    have z1 := hr.lt
    refine WO_mk rfl rfl (mk_buildSlice (e := 5) [(0, .int .u8 (IntKind.u8.wrap (c.num.fdiv (2 ^ (min (24 : Int).toNat IntKind.i64.bits))))), (1, .int .u8 (IntKind.u8.wrap (c.num.fdiv (2 ^ (min (16 : Int).toNat IntKind.i64.bits))))), (2, .int .u8 (IntKind.u8.wrap (c.num.fdiv (2 ^ (min (8 : Int).toNat IntKind.i64.bits))))), (3, .int .u8 (IntKind.u8.wrap c.num))] [.int .u8 0] 1 (by kernel_rfl) (by kernel_rfl) rfl (by omega) (by omega) (by intro i hi; rcases i with _ | _ | _ | _ | i <;> first | (simp [Value.cells]; done) | (exfalso; simp only [List.length_cons, List.length_nil] at hi; omega)) (by simp [Value.cells]) (fun g19 w19 hg19 hr19 hb19 => ?_))
    have hS903 := hS901.add0 hb19
    refine ⟨hS903, ?_⟩
    have ge_hS901_g19 := Nat.le_trans hS901.size hg19
    have lt_gb_g19 : gb < g19 := Nat.lt_of_lt_of_le hr.lt hg19
    have lt_g2_g19 : g2 < g19 := Nat.lt_of_lt_of_le hr2.lt hg19
    replace hr := hr.new hb19
    replace hu := hu.new hb19
    replace hr2 := hr2.new hb19
    replace hr19 : row w19 g19 (bv l4) 5 := by rw [← h43]; exact hr19
    refine WA_one 13 (by kernel_rfl) ?_
    have hs19 := hr19.slA (m := 4) (sz := 1) (by rw [bv_length, h41]) (by omega)
    have hu0 := fun b e => (hu.lt b e).1
    have z3 := hb2.size
    have z4 := hb901.size
    have z5 := hS903.size
    have hr20 := hr2
    refine WO_mk rfl rfl (mk_append (e := 5) (sz := 1) (bytes := 1) (z := Value.int .u8 0) (by kernel_rfl) rfl (by kernel_rfl) rfl (by decide) rfl hu rfl hs19 (bv_one _) (by unfold maxLen; omega) (by omega) (fun hm0 => by omega) (fun v20 w20 hv20 hgr20 hfr20 => ?_))
    have hS904 := hS903.ownS hu hgr20 (by first | (left; omega) | exact Or.inr (fun _ h => h) | exact Or.inr (fun _ h => List.mem_cons_of_mem _ h))
    refine ⟨hS904, ?_⟩
    have kG := Kp.of_grown hgr20
    replace hr2 := hr2.kpd kG (fun hm => by have := hu2 g2 (Option.mem_toList.1 hm); have := hu0 g2 (Option.mem_toList.1 hm); omega)
    replace hr := hr.kpd kG (fun hm => by have := hu0 gb (Option.mem_toList.1 hm); omega)
    refine WA_one 16 (by kernel_rfl) ?_
    have hp2 : SlAt w20 (some ⟨g2, 0 + 1, none⟩) 512 1 (bv c.page) := by have h9 := hr2.sl (m := 512) (sz := 1) (0 + 1) (by omega) (by omega); rw [show (chV c).drop (0 + 1) = bv c.page from rfl, List.take_of_length_le (by rw [bv_length, hc]; omega)] at h9; exact h9
    have hv0 := fun b e => (hv20.lt b e).1
    have hw0 := fun b e => (hv20.lt b e).2
    refine WO_mk rfl rfl (mk_append (e := 5) (sz := 1) (bytes := 1) (z := Value.int .u8 0) (by kernel_rfl) rfl (by kernel_rfl) rfl (by decide) rfl hv20 rfl hp2 (bv_one _) (by unfold maxLen; omega) (by omega) (fun hm0 => by omega) (fun v23 w23 hv23 hgr23 hfr23 => ?_))
    have hS905 := hS904.add (Kp.of_grown hgr23) (fun g hm => by first | exact Or.inr hm | exact Or.inr (List.mem_cons_of_mem _ hm) | (have := (hv20.lt g (Option.mem_toList.1 hm)).1; left; omega) | exact (hfr20 g (Option.mem_toList.1 hm)).elim (fun e => Or.inr (Option.mem_toList.2 e)) (fun e => Or.inl (by omega)) | exact (hfr20 g (Option.mem_toList.1 hm)).elim (fun e => Or.inr (List.mem_cons_of_mem _ (Option.mem_toList.2 e))) (fun e => Or.inl (by omega)))
    refine ⟨hS905, ?_⟩
    have kG2 := Kp.of_grown hgr23
    have hform := hv23.form
    obtain ⟨p23, c23, rfl⟩ := hform
    replace hr := hr.kpd kG2 (fun hm => by have := hv0 gb (Option.mem_toList.1 hm); omega)
    refine WA_one 17 (by kernel_rfl) ?_
    refine WO_sk rfl rfl (sk_store1 rfl rfl rfl rfl hr (by kernel_rfl) (by first | (simp only [List.length_replicate]; omega) | (simp only [iv_length]; omega) | (simp only [bv_length, List.length_set]; omega) | simp) (fun w907 hr ho907 => ?_))
    have hS906 := hS905.add1 ho907 (by first | (left; omega) | (right; simp; done) | (right; simp; omega))
    refine ⟨hS906, ?_⟩
    have hfin := hS906
    have hv24 := hv23.only ho907 (by omega)
    refine WA_done (by kernel_rfl) ?_
    refine thenN ?_
    refine W_seq ?_
    refine W_region ?_
    refine WR_val rfl (rn_move) ?_
    refine WR_val rfl (rn_geq rfl rfl) ?_
    refine WR_val rfl (rn_move) ?_
    have hres : ownsAt w907 base 5 1 (.slice p23 (m + 4 + 512) c23) (m + 516) (bv (xs ++ (l4 ++ c.page))) := by
      rw [← bv_append, ← bv_append, List.append_assoc] at hv24
      rw [show m + 516 = m + 4 + 512 by omega]
      exact hv24
    have hkf : Kp (gb :: u.ownBlock.toList) w w907 := (Kp.of_below' hb2).trans ((Kp.of_below' hb901).trans hfin)
    refine WR_part 26 rfl (fun hn0 => ?_) (fun hn0 => ?_)
    ·
      refine WR_yes rfl ?_
      refine WR_val rfl (rn_move) ?_
      refine WR_yes rfl ?_
      refine WR_val rfl (rn_lss rfl rfl) ?_
      refine WR_val rfl (rn_pick_t rfl) ?_
      refine WR_val rfl (rn_assign) ?_
      refine WR_nil ?_
      refine thenN ?_
      refine W_ret ?_
      refine ret_ret [_] ⟨rfl, trivial⟩ ?_
      refine ⟨?_, _, l4, h41, h42, hr, hres, hkf⟩
      show Value.bool (decide _) = _
      congr 1
      unfold numOk
      by_cases h1 : c.num < 2147483648 <;> simp [hn0, h1]
    ·
      refine WR_no rfl rfl ?_
      refine WR_no rfl rfl ?_
      refine WR_val rfl (rn_pick_f rfl) ?_
      refine WR_val rfl (rn_assign) ?_
      refine WR_nil ?_
      refine thenN ?_
      refine W_ret ?_
      refine ret_ret [_] ⟨rfl, trivial⟩ ?_
      refine ⟨?_, _, l4, h41, h42, hr, hres, hkf⟩
      show Value.bool false = _
      congr 1
      unfold numOk
      rw [decide_eq_false (by omega)]
  ·
    have z1 := hr.lt
    refine WO_mk rfl rfl (mk_buildSlice (e := 5) [(0, .int .u8 (IntKind.u8.wrap (c.num.fdiv (2 ^ (min (24 : Int).toNat IntKind.i64.bits))))), (1, .int .u8 (IntKind.u8.wrap (c.num.fdiv (2 ^ (min (16 : Int).toNat IntKind.i64.bits))))), (2, .int .u8 (IntKind.u8.wrap (c.num.fdiv (2 ^ (min (8 : Int).toNat IntKind.i64.bits))))), (3, .int .u8 (IntKind.u8.wrap c.num))] [.int .u8 0] 1 (by kernel_rfl) (by kernel_rfl) rfl (by omega) (by omega) (by intro i hi; rcases i with _ | _ | _ | _ | i <;> first | (simp [Value.cells]; done) | (exfalso; simp only [List.length_cons, List.length_nil] at hi; omega)) (by simp [Value.cells]) (fun g19 w19 hg19 hr19 hb19 => ?_))
    have hS908 := hS901.add0 hb19
    refine ⟨hS908, ?_⟩
    have ge_hS901_g19 := Nat.le_trans hS901.size hg19
    have lt_gb_g19 : gb < g19 := Nat.lt_of_lt_of_le hr.lt hg19
    have lt_g2_g19 : g2 < g19 := Nat.lt_of_lt_of_le hr2.lt hg19
    replace hr := hr.new hb19
    replace hu := hu.new hb19
    replace hr2 := hr2.new hb19
    replace hr19 : row w19 g19 (bv l4) 5 := by rw [← h43]; exact hr19
    refine WA_one 0 (by kernel_rfl) ?_
    refine WO_val rfl rfl (rn_load rfl (Ld.row1 hr (by kernel_rfl) rfl)) hS908 ?_
    refine WA_one 13 (by kernel_rfl) ?_
    have hs19 := hr19.slA (m := 4) (sz := 1) (by rw [bv_length, h41]) (by omega)
    have hu0 := fun b e => (hu.lt b e).1
    have z3 := hb2.size
    have z4 := hb901.size
    have z5 := hS908.size
    have hr20 := hr2
    refine WO_mk rfl rfl (mk_append (e := 5) (sz := 1) (bytes := 1) (z := Value.int .u8 0) (by kernel_rfl) rfl (by kernel_rfl) rfl (by decide) rfl hu rfl hs19 (bv_one _) (by unfold maxLen; omega) (by omega) (fun hm0 => by omega) (fun v20 w20 hv20 hgr20 hfr20 => ?_))
    have hS910 := hS908.ownS hu hgr20 (by first | (left; omega) | exact Or.inr (fun _ h => h) | exact Or.inr (fun _ h => List.mem_cons_of_mem _ h))
    refine ⟨hS910, ?_⟩
    have kG := Kp.of_grown hgr20
    replace hr2 := hr2.kpd kG (fun hm => by have := hu2 g2 (Option.mem_toList.1 hm); have := hu0 g2 (Option.mem_toList.1 hm); omega)
    replace hr := hr.kpd kG (fun hm => by have := hu0 gb (Option.mem_toList.1 hm); omega)
    refine WA_one 16 (by kernel_rfl) ?_
    have hp2 : SlAt w20 (some ⟨g2, 0 + 1, none⟩) 512 1 (bv c.page) := by have h9 := hr2.sl (m := 512) (sz := 1) (0 + 1) (by omega) (by omega); rw [show (chV c).drop (0 + 1) = bv c.page from rfl, List.take_of_length_le (by rw [bv_length, hc]; omega)] at h9; exact h9
    have hv0 := fun b e => (hv20.lt b e).1
    have hw0 := fun b e => (hv20.lt b e).2
    refine WO_mk rfl rfl (mk_append (e := 5) (sz := 1) (bytes := 1) (z := Value.int .u8 0) (by kernel_rfl) rfl (by kernel_rfl) rfl (by decide) rfl hv20 rfl hp2 (bv_one _) (by unfold maxLen; omega) (by omega) (fun hm0 => by omega) (fun v23 w23 hv23 hgr23 hfr23 => ?_))
    have hS911 := hS910.add (Kp.of_grown hgr23) (fun g hm => by first | exact Or.inr hm | exact Or.inr (List.mem_cons_of_mem _ hm) | (have := (hv20.lt g (Option.mem_toList.1 hm)).1; left; omega) | exact (hfr20 g (Option.mem_toList.1 hm)).elim (fun e => Or.inr (Option.mem_toList.2 e)) (fun e => Or.inl (by omega)) | exact (hfr20 g (Option.mem_toList.1 hm)).elim (fun e => Or.inr (List.mem_cons_of_mem _ (Option.mem_toList.2 e))) (fun e => Or.inl (by omega)))
    refine ⟨hS911, ?_⟩
    have kG2 := Kp.of_grown hgr23
    have hform := hv23.form
    obtain ⟨p23, c23, rfl⟩ := hform
    replace hr := hr.kpd kG2 (fun hm => by have := hv0 gb (Option.mem_toList.1 hm); omega)
    refine WA_one 17 (by kernel_rfl) ?_
    refine WO_sk rfl rfl (sk_store1 rfl rfl rfl rfl hr (by kernel_rfl) (by first | (simp only [List.length_replicate]; omega) | (simp only [iv_length]; omega) | (simp only [bv_length, List.length_set]; omega) | simp) (fun w913 hr ho913 => ?_))
    have hS912 := hS911.add1 ho913 (by first | (left; omega) | (right; simp; done) | (right; simp; omega))
    refine ⟨hS912, ?_⟩
    have hfin := hS912
    have hv24 := hv23.only ho913 (by omega)
    refine WA_done (by kernel_rfl) ?_
    refine thenN ?_
    refine W_seq ?_
    refine W_region ?_
    refine WR_val rfl (rn_move) ?_
    refine WR_val rfl (rn_geq rfl rfl) ?_
    refine WR_val rfl (rn_move) ?_
    have hres : ownsAt w913 base 5 1 (.slice p23 (m + 4 + 512) c23) (m + 516) (bv (xs ++ (l4 ++ c.page))) := by
      rw [← bv_append, ← bv_append, List.append_assoc] at hv24
      rw [show m + 516 = m + 4 + 512 by omega]
      exact hv24
    have hkf : Kp (gb :: u.ownBlock.toList) w w913 := (Kp.of_below' hb2).trans ((Kp.of_below' hb901).trans hfin)
    refine WR_part 26 rfl (fun hn0 => ?_) (fun hn0 => ?_)
    ·
      refine WR_yes rfl ?_
      refine WR_val rfl (rn_move) ?_
      refine WR_yes rfl ?_
      refine WR_val rfl (rn_lss rfl rfl) ?_
      refine WR_val rfl (rn_pick_t rfl) ?_
      refine WR_val rfl (rn_assign) ?_
      refine WR_nil ?_
      refine thenN ?_
      refine W_ret ?_
      refine ret_ret [_] ⟨rfl, trivial⟩ ?_
      refine ⟨?_, _, l4, h41, h42, hr, hres, hkf⟩
      show Value.bool (decide _) = _
      congr 1
      unfold numOk
      by_cases h1 : c.num < 2147483648 <;> simp [hn0, h1]
    ·
      refine WR_no rfl rfl ?_
      refine WR_no rfl rfl ?_
      refine WR_val rfl (rn_pick_f rfl) ?_
      refine WR_val rfl (rn_assign) ?_
      refine WR_nil ?_
      refine thenN ?_
      refine W_ret ?_
      refine ret_ret [_] ⟨rfl, trivial⟩ ?_
      refine ⟨?_, _, l4, h41, h42, hr, hres, hkf⟩
      show Value.bool false = _
      congr 1
      unfold numOk
      rw [decide_eq_false (by omega)]
theorem put39b (c : Ch) (hc : c.page.length = 512) (gb base m : Nat) (u : Value) (xs : List UInt8) (w : World) (hr : row w gb [u] 67) (hu : ownsAt w base 5 1 u m (bv xs)) (hgb : gb < base) (hbw : base ≤ w.heap.size) (hm : m ≤ 1000000) :
    Calls Tryz.prog 84 [.agg (chV c).toArray, .pointer (some ⟨gb, 0, none⟩)].toArray w (Ret fun v w' => v = .bool (numOk c.num) ∧ (∃ u' l4, l4.length = 4 ∧ (0 ≤ c.num → l4 = beB 4 c.num.toNat) ∧ row w' gb [u'] 67 ∧ ownsAt w' base 5 1 u' (m + 516) (bv (xs ++ (l4 ++ c.page)))) ∧ Below gb w w') :=
  (put39 c hc gb base m u xs w hr hu hgb hbw hm).to fun v w' ⟨h1, u', l4, h2, h3, h4, h5, h6⟩ => ⟨h1, ⟨u', l4, h2, h3, h4, h5⟩, h6.os, h6.tape, h6.output, h6.size, fun i hi => h6.block i (Nat.lt_trans hi hr.lt) fun hm => by
    rcases List.mem_cons.1 hm with e | e
    · omega
    · have := (hu.lt i (Option.mem_toList.1 e)).1
      omega⟩
def recB (R : Rec) : List UInt8 := R.flatMap fun c => beB 4 c.num.toNat ++ c.page
theorem recB_len {R : Rec} (h : chsOk R) : (recB R).length = 516 * R.length := by
  induction R with
  | nil => rfl
  | cons c R ih =>
    rw [recB, List.flatMap_cons, List.length_append, List.length_append, beB_length, h c (List.mem_cons_self ..), List.length_cons]
    have := ih fun x hx => h x (List.mem_cons_of_mem _ hx)
    rw [recB] at this
    omega
theorem recB_snoc (R : Rec) (c : Ch) : recB (R ++ [c]) = recB R ++ (beB 4 c.num.toNat ++ c.page) := by rw [recB, List.flatMap_append]; simp [recB]
def mayR (R : Rec) : Bool := decide (1 ≤ R.length ∧ R.length ≤ 60) && R.all fun c => numOk c.num
theorem needW_pos {n : Nat} (h : 1 ≤ n ∧ n ≤ 60) : needW n = (needN (516 * n) : Nat) ∧ 0 < needN (516 * n) := by
  rw [needW, if_pos (by omega), Int.toNat_natCast, Nat.mul_comm n 516]
  exact ⟨rfl, by unfold needN manyN; omega⟩
theorem needW_none {n : Nat} (h : ¬ (1 ≤ n ∧ n ≤ 60)) : needW n = 0 := by rw [needW, if_neg (by omega)]
set_option maxRecDepth 20000 in
set_option maxHeartbeats 1000000 in
theorem bytes9 (R : Rec) (hR : chsOk R) (p : Option Addr) (n cp : Nat) (w : World) (h : SlAt w p n 513 (chsV R)) (hn : R.length = n) (hn2 : n ≤ 1000000) :
    Calls Tryz.prog 61 [.slice p n cp].toArray w (Ret fun v w' => ((mayR R = true ∧ ∃ g o c, v = .tuple #[.slice (some ⟨g, o, none⟩) (516 * n) c, .int .i64 0] ∧ w.heap.size ≤ g ∧ 516 * n ≤ c ∧ SlAt w' (some ⟨g, o, none⟩) (516 * n) 1 (bv (recB R))) ∨ (mayR R = false ∧ v = .tuple #[.slice none 0 0, .int .i64 2])) ∧ Below w.heap.size w w') := by
  have hB := Below.refl w.heap.size w
  have hml : maxLen = 9223372036854775807 := by decide
  refine calls_W (fn := Tryz.f61) (rs := [.tmp 2, .tmp 3]) (n := 25) Tryz.func61 rfl rfl Tryz.ntmps61 (by kernel_rfl) rfl ?_
  refine W_seq ?_
  refine W_region ?_
  refine WR_val rfl (rn_assign) ?_
  refine WR_val rfl (rn_assign) ?_
  refine WR_nil ?_
  refine thenN ?_
  refine W_seq ?_
  refine W_seq ?_
  refine W_region ?_
  refine WR_val rfl (rn_move) ?_
  refine WR_val rfl (rn_lenSl (e := 112) (sz := 513) (by kernel_rfl) rfl rfl) ?_
  refine WR_ent rfl (rn_call (by kernel_rfl) rfl) (need10 (n : Int) w) ?_
  rintro _ _ ⟨rfl, rfl⟩
  refine WR_val rfl (rn_eql rfl rfl) ?_
  refine WR_nil ?_
  refine thenN ?_
  refine W_ifp rfl (fun h0 => ?_) (fun h0 => ?_)
  ·
    refine W_seq ?_
    refine W_region ?_
    refine WR_val rfl (rn_assign) ?_
    refine WR_val rfl (rn_assign) ?_
    refine WR_nil ?_
    refine thenN ?_
    refine W_ret ?_
    refine thenR ?_
    refine ret_ret [_, _] ⟨rfl, rfl, trivial⟩ ?_
    have hno : ¬ (1 ≤ n ∧ n ≤ 60) := fun hc => by have := needW_pos hc; omega
    exact ⟨.inr ⟨by rw [mayR, hn, decide_eq_false hno]; rfl, rfl⟩, hB⟩
  ·
    have hyes : 1 ≤ n ∧ n ≤ 60 := by
      by_cases hc : 1 ≤ n ∧ n ≤ 60
      · exact hc
      · exact absurd (needW_none hc) h0
    refine W_skip ?_
    refine thenN ?_
    refine W_seq ?_
    refine W_region ?_
    refine WR_mk rfl (mk_alloc ([Value.slice none 0 0]) (by kernel_rfl) (fun g4 w4 hg4 hr4 hb4 => ?_))
    have ge_hB_g4 := Nat.le_trans hB.size hg4
    replace hB := hB.acc hb4
    refine WR_nil ?_
    refine thenN ?_
    refine W_seq ?_
    refine W_region ?_
    refine WR_val rfl (rn_makeFunc) ?_
    refine WR_val rfl (rn_assign) ?_
    refine WR_nil ?_
    refine thenN ?_
    refine W_seq ?_
    refine W_seq ?_
    refine W_region ?_
    refine WR_val rfl (rn_move) ?_
    refine WR_val rfl (rn_lenSl (e := 112) (sz := 513) (by kernel_rfl) rfl rfl) ?_
    refine WR_val rfl (rn_move) ?_
    refine WR_nil ?_
    refine thenN ?_
    refine W_block ?_
    have l4 := hr4.lt
    refine W_loop (α := Nat) 0 (fun k => [(15, .int .i64 (k : Nat)), (14, .int .i64 (n : Int)), (13, .slice p n cp), (5, .func (.func 84) #[] #[.pointer (some ⟨g4, 0, none⟩)]), (4, .pointer (some ⟨g4, 0, none⟩))])
      (fun k w' => k ≤ n ∧ (∃ u, row w' g4 [u] 67 ∧ ownsAt w' (g4 + 1) 5 1 u (516 * k) (bv (recB (R.take k)))) ∧ (∀ j c, j < k → R[j]? = some c → numOk c.num = true) ∧ Below w.heap.size w w') (fun k => n - k)
      ⟨rfl, rfl, rfl, rfl, rfl, rfl⟩ ⟨Nat.zero_le _, ⟨_, hr4, ownsAt_nil _ _ _ _⟩, (by intro j c hj; exact absurd hj (Nat.not_lt_zero _)), hB⟩ ?_
    clear hr4 hB
    rintro k f wr ⟨hk, ⟨u, hr4, hu⟩, hall, hB⟩
    refine W_seq ?_
    refine W_region ?_
    refine WR_val rfl (rn_lss rfl rfl) ?_
    refine WR_nil ?_
    refine thenN ?_
    refine W_seq ?_
    refine W_ifp rfl (fun hlt => ?_) (fun hlt => ?_)
    ·
      refine W_skip ?_
      refine thenN ?_
      refine W_seq ?_
      refine W_block ?_
      refine W_seq ?_
      have hobt : ∃ c, R[k]? = some c := ⟨_, List.getElem?_eq_getElem (by omega)⟩
      obtain ⟨c, hc⟩ := hobt
      have hcl := hR c (List.mem_of_getElem? hc)
      have hchl := chV_len hcl
      have hp := h.below hB (Nat.le_refl _)
      have hobt := h.some (by omega)
      obtain ⟨gp, op, rfl, hgp⟩ := hobt
      have hsn : R.take (k + 1) = R.take k ++ [c] := by rw [List.take_add_one, hc]; rfl
      have hch1 := chV_one c
      have hul := fun b e => (hu.lt b e).2
      refine W_region ?_
      refine WR_val rfl (rn_indexSl (e := 112) (sz := 513) (by kernel_rfl) rfl rfl (k) (by omega) (by omega)) ?_
      refine WR_val rfl (rn_load rfl (ld_ch (h.below hB (Nat.le_refl _)) hR hc)) ?_
      refine WR_mk rfl (mk_alloc (([Value.int .i64 0]) ++ (List.replicate 512 (Value.int .u8 0))) (by kernel_rfl) (fun g7 w7 hg7 hr7 hb7 => ?_))
      have ge_hB_g7 := Nat.le_trans hB.size hg7
      have lt_g4_g7 : g4 < g7 := Nat.lt_of_lt_of_le hr4.lt hg7
      replace hr4 := hr4.new hb7
      replace hu := hu.new hb7
      replace hB := hB.acc hb7
      have hu9 := hu
      refine WR_sk rfl (sk_storeA 513 (chV c) rfl rfl hr7 (by kernel_rfl) (by first | assumption | (simp; done) | (simp [bv_length, *]; done)) (by first | assumption | (simp; done) | (simp [bv_length, *]; done) | rfl) (by first | exact bv_one _ | assumption | (simp [Value.oneCell']; done)) (fun w901 hr7 ho901 => ?_))
      replace hr4 := hr4.only ho901 (Nat.ne_of_lt lt_g4_g7)
      replace hB := ho901.below hB ge_hB_g7
      have hu8 := hu9.kpd (Kp.of_only ho901) (fun b hb e => by have h1 := hul b e; have h2 : b = g7 := (by simpa using hb); omega)
      refine WR_nil ?_
      refine thenN ?_
      refine W_seq ?_
      refine W_region ?_
      refine WR_val rfl (rn_move) ?_
      refine WR_val rfl (rn_load rfl (Ld.rowA (k := 513) hr7 (by kernel_rfl) (by kernel_rfl) (by first | (simp; done) | (simp [bv_length, *]; done) | assumption))) ?_
      have z1 := hr7.lt
      have z2 := hr4.lt
      refine WR_ent rfl (rn_callc (by kernel_rfl) rfl rfl) (put39b c hcl g4 (g4 + 1) (516 * k) u _ w901 hr4 hu8 (by omega) (by omega) (by omega)) ?_
      rintro _ w21 ⟨rfl, ⟨u2, lf, hl41, hl42, hr4, hu2⟩, hb21⟩
      replace hB := belLo hB hb21 (by omega)
      refine WR_val rfl (rn_not rfl) ?_
      refine WR_nil ?_
      refine thenN ?_
      refine W_ifnb rfl (fun hno => ?_) (fun hno => ?_)
      ·
        refine W_seq ?_
        refine W_region ?_
        refine WR_val rfl (rn_assign) ?_
        refine WR_val rfl (rn_assign) ?_
        refine WR_nil ?_
        refine thenN ?_
        refine W_ret ?_
        refine blockR ?_
        refine thenR ?_
        refine loopR ?_
        refine blockR ?_
        refine thenR ?_
        refine ret_ret [_, _] ⟨rfl, rfl, trivial⟩ ?_
        refine ⟨.inr ⟨?_, rfl⟩, hB⟩
        have hf : numOk c.num = false := by cases hx : numOk c.num with | false => rfl | true => simp [hx] at hno
        have hall2 : R.all (fun c => numOk c.num) = false := by
          rw [List.all_eq_false]
          exact ⟨c, List.mem_of_getElem? hc, by rw [hf]; simp⟩
        rw [mayR, hall2, Bool.and_false]
      ·
        have hnc : numOk c.num = true := by cases hx : numOk c.num with | true => rfl | false => simp [hx] at hno
        have hn0 : 0 ≤ c.num := (of_decide_eq_true hnc).1
        rw [hl42 hn0, ← recB_snoc, ← hsn, show 516 * k + 516 = 516 * (k + 1) by omega] at hu2
        refine W_skip ?_
        refine blockN ?_
        refine thenN ?_
        refine W_region ?_
        refine WR_val rfl (rn_add rfl rfl (Coup.w64 (by omega))) ?_
        refine WR_val rfl (rn_move) ?_
        refine WR_nil ?_
        refine loopN ⟨k + 1, by omega, ⟨by go_num, rfl, rfl, rfl, rfl, rfl⟩, by omega, ⟨_, hr4, hu2⟩, fun j d hj hd => ?_, hB⟩
        by_cases hjk : j < k
        · exact hall j d hjk hd
        · obtain rfl : j = k := by omega
          rw [hc] at hd; cases hd
          exact hnc
    ·
      have hkn : k = n := by omega
      rw [hkn, List.take_of_length_le (by omega)] at hu
      have hmay : mayR R = true := by
        rw [mayR, hn, decide_eq_true hyes, Bool.true_and, List.all_eq_true]
        intro c hc
        have hobt := List.getElem?_of_mem hc
        obtain ⟨j, hj⟩ := hobt
        exact hall j c (by have := (List.getElem?_eq_some_iff.1 hj).1; omega) hj
      have hobt := hu.form' (by omega)
      obtain ⟨g, o, c, rfl, hg1, hg2, hg3⟩ := hobt
      have hcap := hu.2
      refine W_exit ?_
      refine thenX ?_
      refine loopX ?_
      refine blockX ?_
      refine thenN ?_
      refine W_seq ?_
      refine W_region ?_
      refine WR_val rfl (rn_load rfl (Ld.row1 hr4 (by kernel_rfl) rfl)) ?_
      refine WR_val rfl (rn_assign) ?_
      refine WR_val rfl (rn_assign) ?_
      refine WR_nil ?_
      refine thenN ?_
      refine W_ret ?_
      refine ret_ret [_, _] ⟨rfl, rfl, trivial⟩ ?_
      refine ⟨.inl ⟨hmay, g, o, c, rfl, by omega, hg3, hu.sl⟩, hB⟩
end Go.Proofs.YtkkgahgpemepeaaGreat
namespace Go.Proofs.YtkkgahgpemepeaaGreat
open Go Go.RowKit Coup
def chOf (b : List UInt8) (i : Nat) : Ch := ⟨(numB ((b.drop (516 * i)).take 4) : Nat), (b.drop (516 * i + 4)).take 512⟩
def ofL (b : List UInt8) (n : Nat) : Rec := (List.range n).map (chOf b)
def ofOk (b : List UInt8) : Bool := decide (b.length % 516 = 0) && decide (1 ≤ b.length / 516 ∧ b.length / 516 ≤ 60) && (ofL b (b.length / 516)).all fun c => numOk c.num
def ofR (b : List UInt8) : Option Rec := if ofOk b then some (ofL b (b.length / 516)) else none
theorem ofL_snoc (b : List UInt8) (n : Nat) : ofL b (n + 1) = ofL b n ++ [chOf b n] := by simp [ofL, List.range_succ]
theorem ofL_len (b : List UInt8) (n : Nat) : (ofL b n).length = n := by simp [ofL]
theorem ofL_at (b : List UInt8) {n i : Nat} (h : i < n) : (ofL b n)[i]? = some (chOf b i) := by rw [ofL, List.getElem?_map, List.getElem?_range h]; rfl
theorem chOf_page {b : List UInt8} {i : Nat} (h : 516 * i + 516 ≤ b.length) : (chOf b i).page.length = 512 := by
  show ((b.drop (516 * i + 4)).take 512).length = 512
  rw [List.length_take, List.length_drop]; omega
theorem ofL_ok {b : List UInt8} {n : Nat} (h : 516 * n ≤ b.length) : chsOk (ofL b n) := fun c hc => by
  obtain ⟨i, hi, rfl⟩ := List.mem_map.1 hc
  have := List.mem_range.1 hi
  exact chOf_page (by omega)
theorem rn_buildCh {ρ : Env} {w : World} {d : Option Nat} {ty : TypeId} {pos : String} {af : Array Edge} {gd : Option (Nat × Bool)} {x y : Operand} {a : Int} {l : List UInt8} {L : List Value} (hl : l.length = 512) (hL : chV ⟨a, l⟩ = L) (hx : ev ρ x = .int .i64 a) (hy : ev ρ y = .agg (bv l).toArray) :
    (execOp (ev ρ) ⟨d, .build 112 #[(0, x), (1, y)], ty, pos, af, gd⟩).run Tryz.prog w = .ok (.value (.agg L.toArray)) w := by
  rw [← hL]
  have h := rn_build (P := Tryz.prog) (t := 112) (ρ := ρ) (w := w) (d := d) (ty := ty) (pos := pos) (af := af) (gd := gd) (k := 513) (parts := [(0, x), (1, y)]) [(0, .int .i64 a), (1, .agg (bv l).toArray)] [(0, 1), (1, 512)] (by kernel_rfl) (by kernel_rfl) (by simp [hx, hy])
    (by
      intro i hi
      rcases i with _ | _ | i
      · simp [Value.cells]
      · simp [Value.cells, bv_length, hl]
      · exfalso; simp only [List.length_cons, List.length_nil] at hi; omega) (by simp [Value.cells, bv_length, hl])
  rw [h]
  simp [Value.cells, chV]
set_option maxRecDepth 20000 in
set_option maxHeartbeats 1000000 in
theorem of13 (b : List UInt8) (p : Option Addr) (n cp : Nat) (w : World) (h : SlAt w p n 1 (bv b)) (hcp : n ≤ cp) (hn2 : n ≤ 1000000) :
    Calls Tryz.prog 70 [.slice p n cp].toArray w (Ret fun v w' => ((∃ r g o c, ofR b = some r ∧ v = .tuple #[.slice (some ⟨g, o, none⟩) r.length c, .int .i64 0] ∧ w.heap.size ≤ g ∧ r.length ≤ c ∧ SlAt w' (some ⟨g, o, none⟩) r.length 513 (chsV r)) ∨ (ofR b = none ∧ v = .tuple #[.slice none 0 0, .int .i64 4])) ∧ Below w.heap.size w w') := by
  have hB := Below.refl w.heap.size w
  have hml : maxLen = 9223372036854775807 := by decide
  have hl : b.length = n := by simpa [bv_length] using h.len
  refine calls_W (fn := Tryz.f70) (rs := [.tmp 2, .tmp 3]) (n := 51) Tryz.func70 rfl rfl Tryz.ntmps70 (by kernel_rfl) rfl ?_
  refine W_seq ?_
  refine W_region ?_
  refine WR_val rfl (rn_assign) ?_
  refine WR_val rfl (rn_assign) ?_
  refine WR_nil ?_
  refine thenN ?_
  refine W_seq ?_
  refine W_seq ?_
  refine W_region ?_
  refine WR_val rfl (rn_move) ?_
  refine WR_val rfl (rn_lenSl (e := 5) (sz := 1) (by kernel_rfl) rfl rfl) ?_
  refine WR_val rfl (rn_rem0 rfl rfl (by omega) (by omega)) ?_
  refine WR_val rfl (rn_neq rfl rfl) ?_
  refine WR_val rfl (rn_move) ?_
  refine WR_part 11 rfl (fun h0 => ?_) (fun h0 => ?_)
  ·
    refine WR_no rfl rfl ?_
    refine WR_no rfl rfl ?_
    refine WR_no rfl rfl ?_
    refine WR_no rfl rfl ?_
    refine WR_no rfl rfl ?_
    refine WR_val rfl (rn_pick_t rfl) ?_
    refine WR_nil ?_
    refine thenN ?_
    refine W_tb rfl (rfl) ?_
    refine W_seq ?_
    refine W_region ?_
    refine WR_val rfl (rn_assign) ?_
    refine WR_val rfl (rn_assign) ?_
    refine WR_nil ?_
    refine thenN ?_
    refine W_ret ?_
    refine thenR ?_
    refine ret_ret [_, _] ⟨rfl, rfl, trivial⟩ ?_
    exact ⟨.inr ⟨by rw [ofR, ofOk, hl, decide_eq_false (by omega)]; rfl, rfl⟩, hB⟩
  ·
    refine WR_yes rfl ?_
    refine WR_val rfl (rn_move) ?_
    refine WR_yes rfl ?_
    refine WR_val rfl (rn_lenSl (e := 5) (sz := 1) (by kernel_rfl) rfl rfl) ?_
    refine WR_yes rfl ?_
    refine WR_val rfl (rn_quo0 rfl rfl (by omega) (by omega)) ?_
    refine WR_yes rfl ?_
    refine WR_ent rfl (rn_call (by kernel_rfl) rfl) (need10 ((n : Int) / 516) w) ?_
    rintro _ _ ⟨rfl, rfl⟩
    refine WR_yes rfl ?_
    refine WR_val rfl (rn_eql rfl rfl) ?_
    refine WR_val rfl (rn_pick_f rfl) ?_
    refine WR_nil ?_
    refine thenN ?_
    refine W_ifp rfl (fun h1 => ?_) (fun h1 => ?_)
    ·
      refine W_seq ?_
      refine W_region ?_
      refine WR_val rfl (rn_assign) ?_
      refine WR_val rfl (rn_assign) ?_
      refine WR_nil ?_
      refine thenN ?_
      refine W_ret ?_
      refine thenR ?_
      refine ret_ret [_, _] ⟨rfl, rfl, trivial⟩ ?_
      have hno : ¬ (1 ≤ n / 516 ∧ n / 516 ≤ 60) := fun hc => by have := needW_pos hc; rw [show ((n / 516 : Nat) : Int) = (n : Int) / 516 by omega] at this; omega
      exact ⟨.inr ⟨by rw [ofR, ofOk, hl, decide_eq_false hno]; simp, rfl⟩, hB⟩
    ·
      have hyes : 1 ≤ n / 516 ∧ n / 516 ≤ 60 := by
        by_cases hc : 1 ≤ n / 516 ∧ n / 516 ≤ 60
        · exact hc
        · have := needW_none hc
          rw [show ((n / 516 : Nat) : Int) = (n : Int) / 516 by omega] at this
          exact absurd this h1
      have hob : ∃ m, n = 516 * m := ⟨n / 516, by omega⟩
      obtain ⟨m, hm⟩ := hob
      have hmm : n / 516 = m := by omega
      rw [hmm] at hyes
      refine W_skip ?_
      refine thenN ?_
      refine W_seq ?_
      refine W_region ?_
      refine WR_val rfl (rn_assign) ?_
      refine WR_nil ?_
      refine thenN ?_
      refine W_seq ?_
      refine W_seq ?_
      refine W_region ?_
      refine WR_val rfl (rn_assign) ?_
      refine WR_nil ?_
      refine thenN ?_
      refine W_block ?_
      refine W_loop (α := Nat × Value) (0, .slice none 0 0) (fun k => [(5, .int .i64 ((516 * k.1 : Nat) : Int)), (4, k.2), (0, .slice p n cp)])
        (fun k w' => k.1 ≤ m ∧ ownsAt w' w.heap.size 112 513 k.2 k.1 (chsV (ofL b k.1)) ∧ (∀ j, j < k.1 → numOk (chOf b j).num = true) ∧ Below w.heap.size w w') (fun k => m - k.1)
        ⟨rfl, rfl, rfl, rfl⟩ ⟨Nat.zero_le _, ownsAt_nil _ _ _ _, (by intro j hj; exact absurd hj (Nat.not_lt_zero _)), hB⟩ ?_
      clear hB
      rintro ⟨k, u⟩ f wr ⟨hk, hu, hall, hB⟩
      dsimp only at hk hu hall ⊢
      refine W_seq ?_
      refine W_seq ?_
      refine W_region ?_
      refine WR_val rfl (rn_move) ?_
      refine WR_val rfl (rn_move) ?_
      refine WR_val rfl (rn_lenSl (e := 5) (sz := 1) (by kernel_rfl) rfl rfl) ?_
      refine WR_val rfl (rn_lss rfl rfl) ?_
      refine WR_nil ?_
      refine thenN ?_
      refine W_ifp rfl (fun hlt => ?_) (fun hlt => ?_)
      ·
        refine W_skip ?_
        refine thenN ?_
        refine W_seq ?_
        refine W_block ?_
        refine W_seq ?_
        have hs := h.below hB (Nat.le_refl _)
        have hobt := h.some (by omega)
        obtain ⟨gp, op, rfl, hgp⟩ := hobt
        have hs4 := hs.subB (516 * k) 4 (by omega)
        have hcp2 := chOf_page (b := b) (i := k) (by omega)
        have hobt : ∃ x, numB ((b.drop (516 * k)).take 4) = x := ⟨_, rfl⟩
        obtain ⟨x, hx⟩ := hobt
        have hx4 : x < 4294967296 := by rw [← hx]; exact numB_lt_of _ 4 (by simp; omega)
        have hnu := fun c => number42 (some ⟨gp, op + 516 * k, none⟩) 4 c _ wr hs4 (by omega)
        simp only [hx] at hnu
        refine W_region ?_
        refine WR_val rfl (rn_move) ?_
        refine WR_val rfl (rn_move) ?_
        refine WR_val rfl (rn_move) ?_
        refine WR_val rfl (rn_add rfl rfl (Coup.w64 (by omega))) ?_
        refine WR_val rfl (rn_move) ?_
        refine WR_val rfl (rn_add rfl rfl (Coup.w64 (by omega))) ?_
        refine WR_val rfl (rn_sliceSl1' (e := 5) (516 * k) (516 * k + 4) (516 * k + 4) (4) (by kernel_rfl) rfl ⟨_, _, rfl, by omega⟩ ⟨_, _, rfl, by omega⟩ ⟨_, _, rfl, by omega⟩ (by simp) (by omega) (by omega) (by omega) (by omega) (by omega)) ?_
        refine WR_ent rfl (rn_call (by kernel_rfl) rfl) (hnu _) ?_
        rintro _ _ ⟨rfl, rfl⟩
        refine WR_val rfl (rn_assign) ?_
        refine WR_nil ?_
        refine thenN ?_
        refine W_seq ?_
        refine W_seq ?_
        refine W_region ?_
        refine WR_val rfl (rn_move) ?_
        refine WR_val rfl (rn_geq rfl rfl) ?_
        refine WR_nil ?_
        refine thenN ?_
        refine W_ifp rfl (fun hbig => ?_) (fun hbig => ?_)
        ·
          refine W_seq ?_
          refine W_region ?_
          refine WR_val rfl (rn_assign) ?_
          refine WR_val rfl (rn_assign) ?_
          refine WR_nil ?_
          refine thenN ?_
          refine W_ret ?_
          refine thenR ?_
          refine blockR ?_
          refine thenR ?_
          refine loopR ?_
          refine blockR ?_
          refine thenR ?_
          refine ret_ret [_, _] ⟨rfl, rfl, trivial⟩ ?_
          have hno : ¬ (numOk (chOf b k).num = true) := fun hc => by
            have h1 := (of_decide_eq_true hc).2
            have h2 : (chOf b k).num = (x : Int) := by rw [← hx]; rfl
            omega
          have hof : ofR b = none := by
            have ha : (ofL b (b.length / 516)).all (fun c => numOk c.num) = false := by
              rw [List.all_eq_false]
              exact ⟨chOf b k, List.mem_of_getElem? (ofL_at b (n := b.length / 516) (i := k) (by omega)), hno⟩
            rw [ofR, ofOk, ha, Bool.and_false]; rfl
          exact ⟨.inr ⟨hof, rfl⟩, hB⟩
        ·
          have hnk : numOk (chOf b k).num = true := by
            have h2 : (chOf b k).num = (x : Int) := by rw [← hx]; rfl
            rw [numOk, h2]
            exact decide_eq_true (by omega)
          have hpg : ((bv b).drop (516 * k + 4)).take 512 = bv (chOf b k).page := by rw [← bv_drop, ← bv_take]; rfl
          have hpl : (chOf b k).page.length = 512 := hcp2
          have hchc : chV ⟨(x : Int), (chOf b k).page⟩ = chV (chOf b k) := by rw [← hx]; rfl
          have hld : Ld Tryz.prog wr 109 ⟨gp, op + (516 * k + 4), none⟩ (.agg (bv (chOf b k).page).toArray) := by
            have h9 := Ld.slN (P := Tryz.prog) (t := 109) (j := 516 * k + 4) (k := 512) (h.below hB (Nat.le_refl _)) (by kernel_rfl) (by kernel_rfl) (by rw [bv_length]; omega)
            rw [hpg] at h9
            exact h9
          have hofs := ofL_snoc b k
          have hob : ∃ C, chOf b k = C := ⟨_, rfl⟩
          obtain ⟨C, hC⟩ := hob
          rw [hC] at hofs hld hpl hchc hnk
          have hchl := chV_len hpl
          have hch1 := chV_one C
          refine W_skip ?_
          refine thenN ?_
          refine W_region ?_
          refine WR_val rfl (rn_move) ?_
          refine WR_val rfl (rn_move) ?_
          refine WR_val rfl (rn_conv (k := .i64) (by kernel_rfl) (by kernel_rfl) rfl (show IntKind.i64.wrap (x : Int) = (x : Int) by rw [w64 (by omega)])) ?_
          refine WR_val rfl (rn_move) ?_
          refine WR_val rfl (rn_move) ?_
          refine WR_val rfl (rn_add rfl rfl (Coup.w64 (by omega))) ?_
          refine WR_val rfl (rn_move) ?_
          refine WR_val rfl (rn_add rfl rfl (Coup.w64 (by omega))) ?_
          refine WR_val rfl (rn_move) ?_
          refine WR_val rfl (rn_add rfl rfl (Coup.w64 (by omega))) ?_
          refine WR_val rfl (rn_sliceSl1' (e := 5) (516 * k + 4) (516 * k + 516) (516 * k + 516) (512) (by kernel_rfl) rfl ⟨_, _, rfl, by omega⟩ ⟨_, _, rfl, by omega⟩ ⟨_, _, rfl, by omega⟩ (by simp) (by omega) (by omega) (by omega) (by omega) (by omega)) ?_
          refine WR_val rfl (rn_arrayAt (n := 512) (e := 5) (sz := 1) (by kernel_rfl) rfl (by omega)) ?_
          refine WR_val rfl (rn_load rfl (hld)) ?_
          refine WR_val rfl (rn_buildCh hpl hchc rfl rfl) ?_
          refine WR_mk rfl (mk_one (e := 112) (.agg (chV C).toArray) (chV C) (([Value.int .i64 0]) ++ (List.replicate 512 (Value.int .u8 0))) 513 (by kernel_rfl) (by kernel_rfl) rfl rfl (by first | rfl | (simp; done) | (simp [bv_length, *]; done)) ⟨by decide, by decide⟩ (fun g48 w48 hg48 hr48 hb48 => ?_))
          have ge_hB_g48 := Nat.le_trans hB.size hg48
          replace hu := hu.new hb48
          replace hB := hB.acc hb48
          have hs48 := hr48.slA (m := 1) (sz := 513) hchl (by omega)
          have sz_hB_49 := hB.size
          refine WR_mk rfl (mk_append (e := 112) (sz := 513) (bytes := 520) (z := .agg (([Value.int .i64 0]) ++ (List.replicate 512 (Value.int .u8 0))).toArray) (by kernel_rfl) rfl (by kernel_rfl) rfl (by decide) rfl hu rfl hs48 hch1 (by unfold maxLen; omega) (by omega) (fun hm0 => by omega) (fun v49 w49 hv49 hgr49 hfr49 => ?_))
          replace hB := hB.own hu hgr49 (by omega)
          refine WR_val rfl (rn_assign) ?_
          refine WR_nil ?_
          refine blockN ?_
          refine thenN ?_
          refine W_region ?_
          refine WR_val rfl (rn_move) ?_
          refine WR_val rfl (rn_add rfl rfl (Coup.w64 (by omega))) ?_
          refine WR_val rfl (rn_assign) ?_
          refine WR_nil ?_
          rw [← chsV_snoc, ← hofs] at hv49
          refine loopN ⟨(k + 1, v49), by omega, ⟨by go_num, rfl, rfl, rfl⟩, by omega, hv49, fun j hj => ?_, hB⟩
          by_cases hjk : j < k
          · exact hall j hjk
          · obtain rfl : j = k := by omega
            rw [hC]; exact hnk
      ·
        have hkm : k = m := by omega
        subst hkm
        have hof : ofR b = some (ofL b k) := by
          have ha : (ofL b k).all (fun c => numOk c.num) = true := by
            rw [List.all_eq_true]
            intro c hc
            obtain ⟨j, hj, rfl⟩ := List.mem_map.1 hc
            exact hall j (List.mem_range.1 hj)
          rw [ofR, ofOk, hl, hmm, ha, decide_eq_true (by omega : n % 516 = 0), decide_eq_true hyes]; rfl
        have hlen := ofL_len b k
        have hobt := hu.form' (by omega)
        obtain ⟨g, o, c, rfl, hg1, hg2, hg3⟩ := hobt
        refine W_exit ?_
        refine thenX ?_
        refine loopX ?_
        refine blockX ?_
        refine thenN ?_
        refine W_seq ?_
        refine W_region ?_
        refine WR_val rfl (rn_move) ?_
        refine WR_val rfl (rn_assign) ?_
        refine WR_val rfl (rn_assign) ?_
        refine WR_nil ?_
        refine thenN ?_
        refine W_ret ?_
        refine ret_ret [_, _] ⟨rfl, rfl, trivial⟩ ?_
        exact ⟨.inl ⟨_, g, o, c, hof, by rw [hlen]; rfl, hg1, by rw [hlen]; exact hg3, by rw [hlen]; exact hu.sl⟩, hB⟩
end Go.Proofs.YtkkgahgpemepeaaGreat
namespace Coup
open Go Go.RowKit
section
variable {P : Program} {ρ : Env} {w : World} {d : Option Nat} {ty : TypeId} {pos : String} {af : Array Edge} {gd : Option (Nat × Bool)} {K : Value → World → Prop}
theorem mk_copyS {dT sT e : Nat} {x y : Operand} {dLen dCap : Nat} (cs : List UInt8) (hu : P.underlying dT = some (.slice e)) (hsz : sizeIs P e 1 = true) (g off : Nat) (hd : ev ρ x = .slice (some ⟨g, off, none⟩) dLen dCap) (hs : ev ρ y = strOf cs)
    {l : List Value} {t : Nat} (hr : row w g l t) (hle : cs.length ≤ dLen) (hfit : off + cs.length ≤ l.length)
    (h : ∀ w', row w' g (splice l off (bv cs)) t → Only g w w' → K (goInt cs.length) w') : Mk P ρ w ⟨d, .call ⟨.builtin .copy, #[x, y], #[dT, sT]⟩, ty, pos, af, gd⟩ K := by
  have hsize : ByteArray.size ⟨cs.toArray⟩ = cs.length := by simp [ByteArray.size]
  have hrun := Go.Lib.run_copy_row_string (P := P) w dT sT ty e g off dLen dCap ⟨cs.toArray⟩ l.toArray t hu (sizeIs_map hsz) hr (by rw [hsize]; exact hle) (by rw [hsize]; simpa using hfit)
  rw [hsize] at hrun
  have hc : (l.toArray.toList.take off ++ Go.Lib.byteCells (ByteArray.data ⟨cs.toArray⟩).toList ++ l.toArray.toList.drop (off + cs.length)) = splice l off (bv cs) := by
    rw [splice, bv_length, List.append_assoc]
    simp [Go.Lib.byteCells, bv, byteV]
  rw [hc] at hrun
  refine ⟨_, _, ?_, h _ (by simpa [row] using setRow_heap w g _ _ t _ hr) (Only.setRow _)⟩
  simp only [strOf] at hs
  simp [execOp, resolve, invoke, builtin, hd, hs, hrun, Result.andThen]
end
end Coup
namespace Go.Proofs.YtkkgahgpemepeaaGreat
open Go Go.RowKit Coup
def magic : List UInt8 := [67, 80, 76, 71]
def headB (c s : Nat) : List UInt8 := magic ++ (beB 8 c ++ (beB 8 s ++ zerosB 108))
theorem headB_len (c s : Nat) : (headB c s).length = 128 := by simp [headB, magic, beB_length, zerosB]
def hdF (c s i j : Nat) : UInt8 := if j < 4 then magic.getD j 0 else if j < 12 then (if j - 4 < i then (beB 8 c).getD (j - 4) 0 else 0) else if j < 20 then (if j - 12 < i then (beB 8 s).getD (j - 12) 0 else 0) else 0
def hdL (c s i : Nat) : List UInt8 := (List.range 128).map (hdF c s i)
theorem hdL_get (c s i j : Nat) : (hdL c s i)[j]? = if j < 128 then some (hdF c s i j) else none := by
  rw [hdL, List.getElem?_map]
  by_cases h : j < 128
  · rw [List.getElem?_range h, if_pos h]; rfl
  · rw [List.getElem?_eq_none (by rw [List.length_range]; omega), if_neg h]; rfl
theorem hdL_len (c s i : Nat) : (hdL c s i).length = 128 := by simp [hdL]
theorem getD_be {x j : Nat} (h : j < 8) : (beB 8 x)[j]? = some ((beB 8 x).getD j 0) := by
  rw [List.getD_eq_getElem?_getD, List.getElem?_eq_getElem (by rw [beB_length]; exact h)]; rfl
theorem hdL_end (c s : Nat) : hdL c s 8 = headB c s := by
  refine List.ext_getElem? fun j => ?_
  rw [hdL_get]
  unfold headB hdF
  by_cases h1 : j < 4
  · rw [if_pos (by omega), if_pos h1, List.getElem?_append_left (by simpa [magic] using h1)]
    match j, h1 with
    | 0, _ => rfl
    | 1, _ => rfl
    | 2, _ => rfl
    | 3, _ => rfl
  · rw [List.getElem?_append_right (by simp [magic]; omega), show magic.length = 4 from rfl, if_neg h1]
    by_cases h2 : j < 12
    · rw [if_pos (by omega), if_pos h2, if_pos (by omega), List.getElem?_append_left (by rw [beB_length]; omega), getD_be (by omega)]
    · rw [if_neg h2, List.getElem?_append_right (by rw [beB_length]; omega), beB_length, show j - 4 - 8 = j - 12 by omega]
      by_cases h3 : j < 20
      · rw [if_pos (by omega), if_pos h3, if_pos (by omega), List.getElem?_append_left (by rw [beB_length]; omega), getD_be (by omega)]
      · rw [if_neg h3, List.getElem?_append_right (by rw [beB_length]; omega), beB_length]
        by_cases h4 : j < 128
        · rw [if_pos h4, zerosB, List.getElem?_replicate, if_pos (by omega)]
        · rw [if_neg h4, zerosB, List.getElem?_replicate, if_neg (by omega)]
theorem hdL_start (c s : Nat) : splice (List.replicate 128 (Value.int .u8 0)) 0 (bv magic) = bv (hdL c s 0) := by
  have e : splice (List.replicate 128 (Value.int .u8 0)) 0 (bv magic) = bv (magic ++ zerosB 124) := by
    simp only [splice, List.take_zero, List.nil_append, Nat.zero_add, bv_length, bv_append, bv_zeros]
    rw [show magic.length = 4 from rfl, List.drop_replicate]; rfl
  rw [e]
  congr 1
theorem hdL_step (c s i : Nat) (h : i < 8) : ((hdL c s i).set (4 + i) ((beB 8 c).getD i 0)).set (12 + i) ((beB 8 s).getD i 0) = hdL c s (i + 1) := by
  refine List.ext_getElem? fun j => ?_
  rw [List.getElem?_set, List.length_set, hdL_len, List.getElem?_set, hdL_len, hdL_get, hdL_get]
  unfold hdF
  by_cases h1 : 12 + i = j
  · subst h1
    rw [if_pos rfl, if_pos (by omega), if_pos (by omega), if_neg (by omega), if_neg (by omega), if_pos (by omega), if_pos (by omega), Nat.add_sub_cancel_left]
  · rw [if_neg h1]
    by_cases h2 : 4 + i = j
    · subst h2
      rw [if_pos rfl, if_pos (by omega), if_pos (by omega), if_neg (by omega), if_pos (by omega), if_pos (by omega), Nat.add_sub_cancel_left]
    · rw [if_neg h2]
      by_cases h3 : j < 128
      · rw [if_pos h3, if_pos h3]
        congr 1
        by_cases h4 : j < 4
        · rw [if_pos h4, if_pos h4]
        · rw [if_neg h4, if_neg h4]
          by_cases h5 : j < 12
          · rw [if_pos h5, if_pos h5]
            by_cases h6 : j - 4 < i
            · rw [if_pos h6, if_pos (by omega)]
            · rw [if_neg h6, if_neg (by omega)]
          · rw [if_neg h5, if_neg h5]
            by_cases h7 : j < 20
            · rw [if_pos h7, if_pos h7]
              by_cases h6 : j - 12 < i
              · rw [if_pos h6, if_pos (by omega)]
              · rw [if_neg h6, if_neg (by omega)]
            · rw [if_neg h7, if_neg h7]
      · rw [if_neg h3, if_neg h3]
theorem be_byte {x i : Nat} (h : i < 8) (s : Int) (hs : s = ((56 - 8 * i : Nat) : Int)) : IntKind.u8.wrap ((x : Int) / 2 ^ (56 - 8 * i)) = (((beB 8 x).getD i 0).toNat : Int) := by
  have h1 := shr_byte x (8 - 1 - i)
  rw [List.getD_eq_getElem?_getD, beB_get 8 x i h]
  rw [show 56 - 8 * i = 8 * (8 - 1 - i) by omega, IntKind.wrap_u8]
  injection h1
theorem set_bv (l : List UInt8) (i : Nat) (b : UInt8) : (bv l).set i (.int .u8 (b.toNat : Int)) = bv (l.set i b) := by simp [bv, List.map_set, byteV]
set_option maxRecDepth 20000 in
set_option maxHeartbeats 1000000 in
theorem sector72 (c s : Nat) (w : World) (hc : c < 18446744073709551616) (hs : s < 18446744073709551616) :
    Calls Tryz.prog 68 [.agg #[.int .u64 c, .int .u64 s]].toArray w (Ret fun v w' => v = .agg (bv (headB c s)).toArray ∧ Below w.heap.size w w') := by
  have hB := Below.refl w.heap.size w
  refine calls_W (fn := Tryz.f68) (rs := [.cell 2 45]) (n := 31) Tryz.func68 rfl rfl Tryz.ntmps68 (by kernel_rfl) rfl ?_
  refine W_seq ?_
  refine W_region ?_
  refine WR_mk rfl (mk_box ([.int .u64 c, .int .u64 s]) rfl (fun g1 w1 hg1 hr1 hb1 => ?_))
  have ge_hB_g1 := Nat.le_trans hB.size hg1
  replace hB := hB.acc hb1
  refine WR_mk rfl (mk_alloc (List.replicate 128 (Value.int .u8 0)) (by kernel_rfl) (fun g2 w2 hg2 hr2 hb2 => ?_))
  have ge_hB_g2 := Nat.le_trans hB.size hg2
  have lt_g1_g2 : g1 < g2 := Nat.lt_of_lt_of_le hr1.lt hg2
  replace hr1 := hr1.new hb2
  replace hB := hB.acc hb2
  refine WR_nil ?_
  refine thenN ?_
  refine W_seq ?_
  refine W_region ?_
  refine WR_val rfl (rn_sliceAr1' (e := 5) (n := 128) (0) (128) (128) (128) (by kernel_rfl) rfl rfl rfl rfl (by simp) (by omega) (by omega) (by omega) (by omega) (by omega)) ?_
  refine WR_mk rfl (mk_copyS (e := 5) magic (by kernel_rfl) (by kernel_rfl) g2 0 rfl rfl hr2 (by decide) (by simp [magic]) (fun w5 hr2 ho5 => ?_))
  replace hr1 := hr1.only ho5 (Nat.ne_of_lt lt_g1_g2)
  replace hB := ho5.below hB ge_hB_g2
  rw [hdL_start c s] at hr2
  refine WR_nil ?_
  refine thenN ?_
  refine W_seq ?_
  refine W_seq ?_
  refine W_region ?_
  refine WR_val rfl (rn_move) ?_
  refine WR_nil ?_
  refine thenN ?_
  refine W_block ?_
  refine W_loop (α := Nat) 0 (fun i => [(6, .int .i64 (i : Nat)), (1, .pointer (some ⟨g1, 0, none⟩)), (2, .pointer (some ⟨g2, 0, none⟩))])
    (fun i w' => i ≤ 8 ∧ row w' g1 [.int .u64 c, .int .u64 s] 77 ∧ row w' g2 (bv (hdL c s i)) 45 ∧ Below w.heap.size w w') (fun i => 8 - i)
    ⟨rfl, rfl, rfl, rfl⟩ ⟨Nat.zero_le _, hr1, hr2, hB⟩ ?_
  clear hr1 hr2 hB
  rintro i f wr ⟨hi, hr1, hr2, hB⟩
  have hne : g1 ≠ g2 := by omega
  have hll : (bv (hdL c s i)).length = 128 := by rw [bv_length]; exact hdL_len _ _ _
  refine W_seq ?_
  refine W_region ?_
  refine WR_val rfl (rn_lss rfl rfl) ?_
  refine WR_nil ?_
  refine thenN ?_
  refine W_seq ?_
  refine W_ifp rfl (fun hlt => ?_) (fun hlt => ?_)
  ·
    refine W_skip ?_
    refine thenN ?_
    refine W_seq ?_
    refine W_block ?_
    refine W_seq ?_
    refine W_region ?_
    refine WR_val rfl (rn_move) ?_
    refine WR_val rfl (rn_assign) ?_
    refine WR_nil ?_
    refine thenN ?_
    have hob : ∃ L, hdL c s i = L := ⟨_, rfl⟩
    obtain ⟨L, hL⟩ := hob
    have hbc := be_byte (x := c) (i := i) (by omega) _ rfl
    have hbs := be_byte (x := s) (i := i) (by omega) _ rfl
    have hst := hdL_step c s i (by omega)
    have hLl : L.length = 128 := by rw [← hL]; exact hdL_len _ _ _
    rw [hL] at hr2 hll hst
    refine W_draw' [g2] (by kernel_rfl) ?_
    intro w901 hb901 hS901
    replace hr1 := hr1.new hb901
    replace hr2 := hr2.new hb901
    replace hB := hB.acc hb901
    have hr1_d901 := hr1
    have hr2_d901 := hr2
    have hB_d901 := hB
    refine WA_take 0 (by kernel_rfl) rfl (fun _ _ => rn_move) ?_
    refine WA_take 1 (by kernel_rfl) rfl (fun _ _ => rn_add rfl rfl (Coup.w64 (by omega))) ?_
    refine WA_take 2 (by kernel_rfl) rfl (fun _ _ => rn_move) ?_
    refine WA_take 3 (by kernel_rfl) rfl (fun _ _ => rn_add rfl rfl (Coup.w64 (by omega))) ?_
    refine WA_take 4 (by kernel_rfl) rfl (fun _ _ => rn_fieldAddr (off := 0) (by kernel_rfl) rfl) ?_
    refine WA_take 5 (by kernel_rfl) rfl (fun w' hS' => rn_load rfl (Ld.row1 (hr1_d901.kpd hS' (by first | (simp; done) | (simp; omega) | (simp [*]; done) | exact notLL (Or.inl (by omega)) | exact notLL (Or.inr (by simp)) | exact fun g hm => Nat.le_trans (by omega) (inLL hm).1 | (intro b o e; cases e; exact notLL (Or.inl (by omega))) | (intro b hm; have := (hu.lt b (Option.mem_toList.1 hm)).1; omega) | (intro b o e; cases e; intro hm; have := (hu.lt _ (Option.mem_toList.1 hm)).1; omega))) (by kernel_rfl) rfl)) ?_
    refine WA_take 6 (by kernel_rfl) rfl (fun _ _ => rn_move) ?_
    refine WA_take 7 (by kernel_rfl) rfl (fun _ _ => rn_mul rfl rfl (Coup.w64 (by omega))) ?_
    refine WA_take 8 (by kernel_rfl) rfl (fun _ _ => rn_sub rfl rfl (Coup.w64 (by omega))) ?_
    refine WA_take 9 (by kernel_rfl) rfl (fun _ _ => rn_shr rfl rfl (by omega) (shrN (56 - 8 * i) (by omega) (by omega))) ?_
    refine WA_take 10 (by kernel_rfl) rfl (fun _ _ => rn_conv (k := .u8) (by kernel_rfl) (by kernel_rfl) rfl hbc) ?_
    refine WA_take 11 (by kernel_rfl) rfl (fun _ _ => rn_fieldAddr (off := 1) (by kernel_rfl) rfl) ?_
    refine WA_take 12 (by kernel_rfl) rfl (fun w' hS' => rn_load rfl (Ld.row1 (hr1_d901.kpd hS' (by first | (simp; done) | (simp; omega) | (simp [*]; done) | exact notLL (Or.inl (by omega)) | exact notLL (Or.inr (by simp)) | exact fun g hm => Nat.le_trans (by omega) (inLL hm).1 | (intro b o e; cases e; exact notLL (Or.inl (by omega))) | (intro b hm; have := (hu.lt b (Option.mem_toList.1 hm)).1; omega) | (intro b o e; cases e; intro hm; have := (hu.lt _ (Option.mem_toList.1 hm)).1; omega))) (by kernel_rfl) rfl)) ?_
    refine WA_take 13 (by kernel_rfl) rfl (fun _ _ => rn_move) ?_
    refine WA_take 14 (by kernel_rfl) rfl (fun _ _ => rn_mul rfl rfl (Coup.w64 (by omega))) ?_
    refine WA_take 15 (by kernel_rfl) rfl (fun _ _ => rn_sub rfl rfl (Coup.w64 (by omega))) ?_
    refine WA_take 16 (by kernel_rfl) rfl (fun _ _ => rn_shr rfl rfl (by omega) (shrN (56 - 8 * i) (by omega) (by omega))) ?_
    refine WA_take 17 (by kernel_rfl) rfl (fun _ _ => rn_conv (k := .u8) (by kernel_rfl) (by kernel_rfl) rfl hbs) ?_
    refine WA_take 18 (by kernel_rfl) rfl (fun _ _ => rn_indexAr1 (e := 5) (m := 128) (by kernel_rfl) rfl rfl (4 + i) (by omega) (by omega)) ?_
    refine WA_one 19 (by kernel_rfl) ?_
    refine WO_sk rfl rfl (sk_store1 rfl rfl rfl rfl hr2 (by kernel_rfl) (by first | (simp only [List.length_replicate]; omega) | (simp only [iv_length]; omega) | (simp only [bv_length, List.length_set]; omega) | simp) (fun w903 hr2 ho903 => ?_))
    have hS902 := hS901.add1 ho903 (by first | (left; omega) | (right; simp; done) | (right; simp; omega))
    refine ⟨hS902, ?_⟩
    replace hr1 := hr1.only ho903 (Nat.ne_of_lt lt_g1_g2)
    replace hB := ho903.below hB ge_hB_g2
    refine WA_take 20 (by kernel_rfl) rfl (fun _ _ => rn_indexAr1 (e := 5) (m := 128) (by kernel_rfl) rfl rfl (12 + i) (by omega) (by omega)) ?_
    refine WA_one 21 (by kernel_rfl) ?_
    refine WO_sk rfl rfl (sk_store1 rfl rfl rfl rfl hr2 (by kernel_rfl) (by first | (simp only [List.length_replicate]; omega) | (simp only [iv_length]; omega) | (simp only [bv_length, List.length_set]; omega) | simp) (fun w905 hr2 ho905 => ?_))
    have hS904 := hS902.add1 ho905 (by first | (left; omega) | (right; simp; done) | (right; simp; omega))
    refine ⟨hS904, ?_⟩
    replace hr1 := hr1.only ho905 (Nat.ne_of_lt lt_g1_g2)
    replace hB := ho905.below hB ge_hB_g2
    refine WA_done (by kernel_rfl) ?_
    refine blockN ?_
    refine thenN ?_
    refine W_region ?_
    refine WR_val rfl (rn_add rfl rfl (Coup.w64 (by omega))) ?_
    refine WR_val rfl (rn_move) ?_
    refine WR_nil ?_
    have hq : row w905 g2 (((bv L).set (0 + (4 + i)) (.int .u8 (((beB 8 c).getD i 0).toNat : Int))).set (0 + (12 + i)) (.int .u8 (((beB 8 s).getD i 0).toNat : Int))) 45 := hr2
    rw [Nat.zero_add, Nat.zero_add, set_bv, set_bv, hst] at hq
    refine loopN ⟨i + 1, by omega, ⟨by go_num, rfl, rfl, rfl⟩, by omega, hr1, hq, hB⟩
  ·
    have h8 : i = 8 := by omega
    subst h8
    rw [hdL_end] at hr2
    rw [hdL_end] at hll
    have hob : ∃ L, headB c s = L := ⟨_, rfl⟩
    obtain ⟨L, hL⟩ := hob
    rw [hL] at hr2 hll
    rw [hL]
    refine W_exit ?_
    refine thenX ?_
    refine loopX ?_
    refine blockX ?_
    refine thenN ?_
    refine W_seq ?_
    refine W_region ?_
    refine WR_val rfl (rn_load rfl (Ld.rowA (k := 128) hr2 (by kernel_rfl) (by kernel_rfl) (by first | (simp; done) | (simp [bv_length, *]; done) | assumption))) ?_
    refine WR_sk rfl (sk_storeA 128 (bv L) rfl rfl hr2 (by kernel_rfl) (by first | assumption | (simp; done) | (simp [bv_length, *]; done)) (by first | assumption | (simp; done) | (simp [bv_length, *]; done) | rfl) (by first | exact bv_one _ | assumption | (simp [Value.oneCell']; done)) (fun w906 hr2 ho906 => ?_))
    replace hr1 := hr1.only ho906 (Nat.ne_of_lt lt_g1_g2)
    replace hB := ho906.below hB ge_hB_g2
    refine WR_nil ?_
    refine thenN ?_
    refine W_ret ?_
    refine ret_ret [_] ⟨⟨_, rfl, Ld.rowA (k := 128) hr2 (by kernel_rfl) (by kernel_rfl) (by first | (simp; done) | (simp [bv_length, *]; done) | assumption)⟩, trivial⟩ ?_
    exact ⟨rfl, hB⟩
end Go.Proofs.YtkkgahgpemepeaaGreat
namespace Go.Proofs.YtkkgahgpemepeaaGreat
open Go Go.RowKit Coup
def hdC (s : List UInt8) : Nat := numB ((s.drop 4).take 8)
def hdS (s : List UInt8) : Nat := numB ((s.drop 12).take 8)
def hdIs (s : List UInt8) : Bool := decide (tornB s zeroS = headB (hdC s) (hdS s)) && decide (1 ≤ hdS s) && decide (hdS s ≤ hdC s) && decide (hdC s ≤ 4611686018427387904)
theorem torn23w (a b : List UInt8) (ha : a.length = 128) (hb : b.length = 128) (w : World) : Calls Tryz.prog 67 [.agg (bv a).toArray, .agg (bv b).toArray].toArray w (Ret fun v w' => v = .agg (bv (tornB a b)).toArray ∧ Below w.heap.size w w') := calls_ret (torn23 a b ha hb w)
set_option maxRecDepth 20000 in
set_option maxHeartbeats 1000000 in
theorem headOf51 (s : List UInt8) (w : World) (hs : s.length = 128) :
    Calls Tryz.prog 36 [.agg (bv s).toArray].toArray w (Ret fun v w' => v = .tuple #[.agg #[.int .u64 (hdC s), .int .u64 (hdS s)], .bool (hdIs s)] ∧ Below w.heap.size w w') := by
  have hB := Below.refl w.heap.size w
  have hml : maxLen = 9223372036854775807 := by decide
  have hsl : (bv s).length = 128 := by rw [bv_length]; exact hs
  have hc8 : hdC s < 18446744073709551616 := numB_lt_of _ 8 (by simp; omega)
  have hs8 : hdS s < 18446744073709551616 := numB_lt_of _ 8 (by simp; omega)
  obtain ⟨Z, hzz, hzb, hzl⟩ := zeroSQ
  refine calls_W (fn := Tryz.f36) (rs := [.cell 2 77, .tmp 3]) (n := 36) Tryz.func36 rfl rfl Tryz.ntmps36 (by kernel_rfl) rfl ?_
  refine W_seq ?_
  refine W_region ?_
  refine WR_mk rfl (mk_box ((bv s)) rfl (fun g1 w1 hg1 hr1 hb1 => ?_))
  have ge_hB_g1 := Nat.le_trans hB.size hg1
  replace hB := hB.acc hb1
  refine WR_mk rfl (mk_alloc ([Value.int .u64 0, Value.int .u64 0]) (by kernel_rfl) (fun g2 w2 hg2 hr2 hb2 => ?_))
  have ge_hB_g2 := Nat.le_trans hB.size hg2
  have lt_g1_g2 : g1 < g2 := Nat.lt_of_lt_of_le hr1.lt hg2
  replace hr1 := hr1.new hb2
  replace hB := hB.acc hb2
  refine WR_val rfl (rn_assign) ?_
  refine WR_nil ?_
  refine thenN ?_
  refine W_seq ?_
  refine W_draw' [] (by kernel_rfl) ?_
  intro w901 hb901 hS901
  replace hr1 := hr1.new hb901
  replace hr2 := hr2.new hb901
  replace hB := hB.acc hb901
  have hr1_d901 := hr1
  have hr2_d901 := hr2
  have hB_d901 := hB
  refine WA_take 0 (by kernel_rfl) rfl (fun _ _ => rn_sliceAr1' (e := 5) (n := 128) (4) (12) (128) (8) (by kernel_rfl) rfl ⟨_, _, rfl, rfl⟩ ⟨_, _, rfl, rfl⟩ rfl (by simp) (by omega) (by omega) (by omega) (by omega) (by omega)) ?_
  refine WA_call 1 (by kernel_rfl) rfl (fun _ => rn_call (by kernel_rfl) rfl) (fun w' hS' => number42 _ 8 _ _ w' ((hr1_d901.kpd hS' (by first | (simp; done) | (simp; omega) | (simp [*]; done) | exact notLL (Or.inl (by omega)) | exact notLL (Or.inr (by simp)) | exact fun g hm => Nat.le_trans (by omega) (inLL hm).1 | (intro b o e; cases e; exact notLL (Or.inl (by omega))) | (intro b hm; have := (hu.lt b (Option.mem_toList.1 hm)).1; omega) | (intro b o e; cases e; intro hm; have := (hu.lt _ (Option.mem_toList.1 hm)).1; omega))).slB 4 8 (by omega) (by omega)) (by omega)) ?_
  refine WA_take 2 (by kernel_rfl) rfl (fun _ _ => rn_sliceAr1' (e := 5) (n := 128) (12) (20) (128) (8) (by kernel_rfl) rfl ⟨_, _, rfl, rfl⟩ ⟨_, _, rfl, rfl⟩ rfl (by simp) (by omega) (by omega) (by omega) (by omega) (by omega)) ?_
  refine WA_call 3 (by kernel_rfl) rfl (fun _ => rn_call (by kernel_rfl) rfl) (fun w' hS' => number42 _ 8 _ _ w' ((hr1_d901.kpd hS' (by first | (simp; done) | (simp; omega) | (simp [*]; done) | exact notLL (Or.inl (by omega)) | exact notLL (Or.inr (by simp)) | exact fun g hm => Nat.le_trans (by omega) (inLL hm).1 | (intro b o e; cases e; exact notLL (Or.inl (by omega))) | (intro b hm; have := (hu.lt b (Option.mem_toList.1 hm)).1; omega) | (intro b o e; cases e; intro hm; have := (hu.lt _ (Option.mem_toList.1 hm)).1; omega))).slB 12 8 (by omega) (by omega)) (by omega)) ?_
  refine WA_take 4 (by kernel_rfl) rfl (fun _ _ => rn_pair (k0 := .u64) (k1 := .u64) (by kernel_rfl) (by kernel_rfl) rfl rfl) ?_
  refine WA_one 5 (by kernel_rfl) ?_
  refine WO_mk rfl rfl (mk_alloc ([Value.int .u64 0, Value.int .u64 0]) (by kernel_rfl) (fun g4 w4 hg4 hr4 hb4 => ?_))
  have hS902 := hS901.add0 hb4
  refine ⟨hS902, ?_⟩
  have ge_hS901_g4 := Nat.le_trans hS901.size hg4
  have ge_hB_g4 := Nat.le_trans hB.size hg4
  have lt_g1_g4 : g1 < g4 := Nat.lt_of_lt_of_le hr1.lt hg4
  have lt_g2_g4 : g2 < g4 := Nat.lt_of_lt_of_le hr2.lt hg4
  replace hr1 := hr1.new hb4
  replace hr2 := hr2.new hb4
  replace hB := hB.acc hb4
  refine WA_one 6 (by kernel_rfl) ?_
  refine WO_sk rfl rfl (sk_storeA 2 ([.int .u64 (hdC s), .int .u64 (hdS s)]) rfl rfl hr4 (by kernel_rfl) (by first | assumption | (simp; done) | (simp [bv_length, *]; done)) (by first | assumption | (simp; done) | (simp [bv_length, *]; done) | rfl) (by first | exact bv_one _ | assumption | (simp [Value.oneCell']; done)) (fun w904 hr4 ho904 => ?_))
  have hS903 := hS902.add1 ho904 (by first | (left; omega) | (right; simp; done) | (right; simp; omega))
  refine ⟨hS903, ?_⟩
  replace hr1 := hr1.only ho904 (Nat.ne_of_lt lt_g1_g4)
  replace hr2 := hr2.only ho904 (Nat.ne_of_lt lt_g2_g4)
  replace hB := ho904.below hB ge_hB_g4
  refine WA_done (by kernel_rfl) ?_
  refine thenN ?_
  refine W_seq ?_
  refine W_draw' [] (by kernel_rfl) ?_
  intro w905 hb905 hS905
  replace hr1 := hr1.new hb905
  replace hr2 := hr2.new hb905
  replace hr4 := hr4.new hb905
  replace hB := hB.acc hb905
  have hr1_d905 := hr1
  have hr2_d905 := hr2
  have hr4_d905 := hr4
  have hB_d905 := hB
  refine WA_take 0 (by kernel_rfl) rfl (fun w' hS' => rn_load rfl (Ld.rowA (k := 128) (hr1_d905.kpd hS' (by first | (simp; done) | (simp; omega) | (simp [*]; done) | exact notLL (Or.inl (by omega)) | exact notLL (Or.inr (by simp)) | exact fun g hm => Nat.le_trans (by omega) (inLL hm).1 | (intro b o e; cases e; exact notLL (Or.inl (by omega))) | (intro b hm; have := (hu.lt b (Option.mem_toList.1 hm)).1; omega) | (intro b o e; cases e; intro hm; have := (hu.lt _ (Option.mem_toList.1 hm)).1; omega))) (by kernel_rfl) (by kernel_rfl) (by first | (simp; done) | (simp [bv_length, *]; done) | assumption))) ?_
  refine WA_take 1 (by kernel_rfl) rfl (fun _ _ => rn_zeroed (bv Z) (by rw [← hzb]; kernel_rfl)) ?_
  refine WA_take 3 (by kernel_rfl) rfl (fun w' hS' => rn_load rfl (Ld.rowA (k := 2) (hr4_d905.kpd hS' (by first | (simp; done) | (simp; omega) | (simp [*]; done) | exact notLL (Or.inl (by omega)) | exact notLL (Or.inr (by simp)) | exact fun g hm => Nat.le_trans (by omega) (inLL hm).1 | (intro b o e; cases e; exact notLL (Or.inl (by omega))) | (intro b hm; have := (hu.lt b (Option.mem_toList.1 hm)).1; omega) | (intro b o e; cases e; intro hm; have := (hu.lt _ (Option.mem_toList.1 hm)).1; omega))) (by kernel_rfl) (by kernel_rfl) (by first | (simp; done) | (simp [bv_length, *]; done) | assumption))) ?_
  refine WA_one 2 (by kernel_rfl) ?_
  have hZl : Z.length = 128 := by rw [← bv_length]; exact hzl
  have hT := fun w' => torn23w s Z hs hZl w'
  have hTl := tornB_length s Z hs hZl
  have hSc := fun w' => sector72 (hdC s) (hdS s) w' hc8 hs8
  have hSl := headB_len (hdC s) (hdS s)
  have hob : ∃ T, tornB s Z = T := ⟨_, rfl⟩
  obtain ⟨T, hTe⟩ := hob
  have hob : ∃ H, headB (hdC s) (hdS s) = H := ⟨_, rfl⟩
  obtain ⟨H, hHe⟩ := hob
  rw [hTe] at hT hTl
  rw [hHe] at hSc hSl
  have hie : hdIs s = (decide (T = H) && decide (1 ≤ hdS s) && decide (hdS s ≤ hdC s) && decide (hdC s ≤ 4611686018427387904)) := by rw [hdIs, hzz, hTe, hHe]
  refine WO_ent rfl rfl (rn_call (by kernel_rfl) rfl) (hT w905) ?_
  rintro _ w13 ⟨rfl, hb13⟩
  have hS906 := hS905.add0 hb13
  refine ⟨hS906, ?_⟩
  replace hr1 := hr1.new hb13
  replace hr2 := hr2.new hb13
  replace hr4 := hr4.new hb13
  replace hB := hB.acc hb13
  refine WA_one 4 (by kernel_rfl) ?_
  refine WO_ent rfl rfl (rn_call (by kernel_rfl) rfl) (hSc w13) ?_
  rintro _ w15 ⟨rfl, hb15⟩
  have hS907 := hS906.add0 hb15
  refine ⟨hS907, ?_⟩
  replace hr1 := hr1.new hb15
  replace hr2 := hr2.new hb15
  replace hr4 := hr4.new hb15
  replace hB := hB.acc hb15
  refine WA_take 5 (by kernel_rfl) rfl (fun _ _ => rn_eqlA (n := 128) (by kernel_rfl) rfl rfl hTl hSl) ?_
  refine WA_take 6 (by kernel_rfl) rfl (fun _ _ => rn_move) ?_
  refine WA_part 17 rfl (fun hq1 => ?_) (fun hq1 => ?_)
  ·
    refine WA_take 7 (by kernel_rfl) rfl (fun _ _ => rn_fieldAddr (off := 1) (by kernel_rfl) rfl) ?_
    refine WA_take 8 (by kernel_rfl) rfl (fun w' hS' => rn_load rfl (Ld.row1 (hr4_d905.kpd hS' (by first | (simp; done) | (simp; omega) | (simp [*]; done) | exact notLL (Or.inl (by omega)) | exact notLL (Or.inr (by simp)) | exact fun g hm => Nat.le_trans (by omega) (inLL hm).1 | (intro b o e; cases e; exact notLL (Or.inl (by omega))) | (intro b hm; have := (hu.lt b (Option.mem_toList.1 hm)).1; omega) | (intro b o e; cases e; intro hm; have := (hu.lt _ (Option.mem_toList.1 hm)).1; omega))) (by kernel_rfl) rfl)) ?_
    refine WA_take 9 (by kernel_rfl) rfl (fun _ _ => rn_geq rfl rfl) ?_
    refine WA_take 10 (by kernel_rfl) rfl (fun _ _ => rn_pick_t rfl) ?_
    refine WA_take 11 (by kernel_rfl) rfl (fun _ _ => rn_move) ?_
    refine WA_part 22 rfl (fun hq2 => ?_) (fun hq2 => ?_)
    ·
      refine WA_take 12 (by kernel_rfl) rfl (fun _ _ => rn_fieldAddr (off := 1) (by kernel_rfl) rfl) ?_
      refine WA_take 13 (by kernel_rfl) rfl (fun w' hS' => rn_load rfl (Ld.row1 (hr4_d905.kpd hS' (by first | (simp; done) | (simp; omega) | (simp [*]; done) | exact notLL (Or.inl (by omega)) | exact notLL (Or.inr (by simp)) | exact fun g hm => Nat.le_trans (by omega) (inLL hm).1 | (intro b o e; cases e; exact notLL (Or.inl (by omega))) | (intro b hm; have := (hu.lt b (Option.mem_toList.1 hm)).1; omega) | (intro b o e; cases e; intro hm; have := (hu.lt _ (Option.mem_toList.1 hm)).1; omega))) (by kernel_rfl) rfl)) ?_
      refine WA_take 14 (by kernel_rfl) rfl (fun _ _ => rn_fieldAddr (off := 0) (by kernel_rfl) rfl) ?_
      refine WA_take 15 (by kernel_rfl) rfl (fun w' hS' => rn_load rfl (Ld.row1 (hr4_d905.kpd hS' (by first | (simp; done) | (simp; omega) | (simp [*]; done) | exact notLL (Or.inl (by omega)) | exact notLL (Or.inr (by simp)) | exact fun g hm => Nat.le_trans (by omega) (inLL hm).1 | (intro b o e; cases e; exact notLL (Or.inl (by omega))) | (intro b hm; have := (hu.lt b (Option.mem_toList.1 hm)).1; omega) | (intro b o e; cases e; intro hm; have := (hu.lt _ (Option.mem_toList.1 hm)).1; omega))) (by kernel_rfl) rfl)) ?_
      refine WA_take 16 (by kernel_rfl) rfl (fun _ _ => rn_leq rfl rfl) ?_
      refine WA_take 17 (by kernel_rfl) rfl (fun _ _ => rn_pick_t rfl) ?_
      refine WA_take 18 (by kernel_rfl) rfl (fun _ _ => rn_move) ?_
      refine WA_part 29 rfl (fun hq3 => ?_) (fun hq3 => ?_)
      ·
        refine WA_take 19 (by kernel_rfl) rfl (fun _ _ => rn_fieldAddr (off := 0) (by kernel_rfl) rfl) ?_
        refine WA_take 20 (by kernel_rfl) rfl (fun w' hS' => rn_load rfl (Ld.row1 (hr4_d905.kpd hS' (by first | (simp; done) | (simp; omega) | (simp [*]; done) | exact notLL (Or.inl (by omega)) | exact notLL (Or.inr (by simp)) | exact fun g hm => Nat.le_trans (by omega) (inLL hm).1 | (intro b o e; cases e; exact notLL (Or.inl (by omega))) | (intro b hm; have := (hu.lt b (Option.mem_toList.1 hm)).1; omega) | (intro b o e; cases e; intro hm; have := (hu.lt _ (Option.mem_toList.1 hm)).1; omega))) (by kernel_rfl) rfl)) ?_
        refine WA_take 21 (by kernel_rfl) rfl (fun _ _ => rn_leq rfl rfl) ?_
        refine WA_take 22 (by kernel_rfl) rfl (fun _ _ => rn_pick_t rfl) ?_
        refine WA_take 23 (by kernel_rfl) rfl (fun _ _ => rn_assign) ?_
        refine WA_done (by kernel_rfl) ?_
        refine thenN ?_
        refine W_seq ?_
        refine W_region ?_
        refine WR_val rfl (rn_load rfl (Ld.rowA (k := 2) hr4 (by kernel_rfl) (by kernel_rfl) (by first | (simp; done) | (simp [bv_length, *]; done) | assumption))) ?_
        refine WR_val rfl (rn_move) ?_
        refine WR_sk rfl (sk_storeA 2 ([.int .u64 (hdC s), .int .u64 (hdS s)]) rfl rfl hr2 (by kernel_rfl) (by first | assumption | (simp; done) | (simp [bv_length, *]; done)) (by first | assumption | (simp; done) | (simp [bv_length, *]; done) | rfl) (by first | exact bv_one _ | assumption | (simp [Value.oneCell']; done)) (fun w908 hr2 ho908 => ?_))
        replace hr1 := hr1.only ho908 (Nat.ne_of_lt lt_g1_g2)
        replace hr4 := hr4.only ho908 (Nat.ne_of_gt lt_g2_g4)
        replace hB := ho908.below hB ge_hB_g2
        refine WR_val rfl (rn_assign) ?_
        refine WR_nil ?_
        refine thenN ?_
        refine W_ret ?_
        refine ret_ret [_, _] ⟨⟨_, rfl, Ld.rowA (k := 2) hr2 (by kernel_rfl) (by kernel_rfl) (by first | (simp; done) | (simp [bv_length, *]; done) | assumption)⟩, rfl, trivial⟩ ?_
        refine ⟨?_, hB⟩
        rw [hie]
        rw [decide_eq_true hq1, decide_eq_true (show 1 ≤ hdS s by omega), decide_eq_true (show hdS s ≤ hdC s by omega)]
        have e : decide ((hdC s : Int) ≤ 4611686018427387904) = decide (hdC s ≤ 4611686018427387904) := by
          by_cases hq4 : hdC s ≤ 4611686018427387904
          · rw [decide_eq_true hq4, decide_eq_true (by omega)]
          · rw [decide_eq_false hq4, decide_eq_false (by omega)]
        rw [← e]
        rfl
      ·
        have hz : hdIs s = false := by rw [hie, decide_eq_false (show ¬ hdS s ≤ hdC s by omega), Bool.and_false, Bool.false_and]
        refine WA_skip 19 (by kernel_rfl) rfl ?_
        refine WA_skip 20 (by kernel_rfl) rfl ?_
        refine WA_skip 21 (by kernel_rfl) rfl ?_
        refine WA_take 22 (by kernel_rfl) rfl (fun _ _ => rn_pick_f rfl) ?_
        refine WA_take 23 (by kernel_rfl) rfl (fun _ _ => rn_assign) ?_
        refine WA_done (by kernel_rfl) ?_
        refine thenN ?_
        refine W_seq ?_
        refine W_region ?_
        refine WR_val rfl (rn_load rfl (Ld.rowA (k := 2) hr4 (by kernel_rfl) (by kernel_rfl) (by first | (simp; done) | (simp [bv_length, *]; done) | assumption))) ?_
        refine WR_val rfl (rn_move) ?_
        refine WR_sk rfl (sk_storeA 2 ([.int .u64 (hdC s), .int .u64 (hdS s)]) rfl rfl hr2 (by kernel_rfl) (by first | assumption | (simp; done) | (simp [bv_length, *]; done)) (by first | assumption | (simp; done) | (simp [bv_length, *]; done) | rfl) (by first | exact bv_one _ | assumption | (simp [Value.oneCell']; done)) (fun w909 hr2 ho909 => ?_))
        replace hr1 := hr1.only ho909 (Nat.ne_of_lt lt_g1_g2)
        replace hr4 := hr4.only ho909 (Nat.ne_of_gt lt_g2_g4)
        replace hB := ho909.below hB ge_hB_g2
        refine WR_val rfl (rn_assign) ?_
        refine WR_nil ?_
        refine thenN ?_
        refine W_ret ?_
        refine ret_ret [_, _] ⟨⟨_, rfl, Ld.rowA (k := 2) hr2 (by kernel_rfl) (by kernel_rfl) (by first | (simp; done) | (simp [bv_length, *]; done) | assumption)⟩, rfl, trivial⟩ ?_
        refine ⟨?_, hB⟩
        rw [hz]
        rfl
    ·
      have hz : hdIs s = false := by rw [hie, decide_eq_false (show ¬ 1 ≤ hdS s by omega), Bool.and_false, Bool.false_and, Bool.false_and]
      refine WA_skip 12 (by kernel_rfl) rfl ?_
      refine WA_skip 13 (by kernel_rfl) rfl ?_
      refine WA_skip 14 (by kernel_rfl) rfl ?_
      refine WA_skip 15 (by kernel_rfl) rfl ?_
      refine WA_skip 16 (by kernel_rfl) rfl ?_
      refine WA_take 17 (by kernel_rfl) rfl (fun _ _ => rn_pick_f rfl) ?_
      refine WA_take 18 (by kernel_rfl) rfl (fun _ _ => rn_move) ?_
      refine WA_skip 19 (by kernel_rfl) rfl ?_
      refine WA_skip 20 (by kernel_rfl) rfl ?_
      refine WA_skip 21 (by kernel_rfl) rfl ?_
      refine WA_take 22 (by kernel_rfl) rfl (fun _ _ => rn_pick_f rfl) ?_
      refine WA_take 23 (by kernel_rfl) rfl (fun _ _ => rn_assign) ?_
      refine WA_done (by kernel_rfl) ?_
      refine thenN ?_
      refine W_seq ?_
      refine W_region ?_
      refine WR_val rfl (rn_load rfl (Ld.rowA (k := 2) hr4 (by kernel_rfl) (by kernel_rfl) (by first | (simp; done) | (simp [bv_length, *]; done) | assumption))) ?_
      refine WR_val rfl (rn_move) ?_
      refine WR_sk rfl (sk_storeA 2 ([.int .u64 (hdC s), .int .u64 (hdS s)]) rfl rfl hr2 (by kernel_rfl) (by first | assumption | (simp; done) | (simp [bv_length, *]; done)) (by first | assumption | (simp; done) | (simp [bv_length, *]; done) | rfl) (by first | exact bv_one _ | assumption | (simp [Value.oneCell']; done)) (fun w910 hr2 ho910 => ?_))
      replace hr1 := hr1.only ho910 (Nat.ne_of_lt lt_g1_g2)
      replace hr4 := hr4.only ho910 (Nat.ne_of_gt lt_g2_g4)
      replace hB := ho910.below hB ge_hB_g2
      refine WR_val rfl (rn_assign) ?_
      refine WR_nil ?_
      refine thenN ?_
      refine W_ret ?_
      refine ret_ret [_, _] ⟨⟨_, rfl, Ld.rowA (k := 2) hr2 (by kernel_rfl) (by kernel_rfl) (by first | (simp; done) | (simp [bv_length, *]; done) | assumption)⟩, rfl, trivial⟩ ?_
      refine ⟨?_, hB⟩
      rw [hz]
      rfl
  ·
    have hz : hdIs s = false := by rw [hie, decide_eq_false hq1, Bool.false_and, Bool.false_and, Bool.false_and]
    refine WA_skip 7 (by kernel_rfl) rfl ?_
    refine WA_skip 8 (by kernel_rfl) rfl ?_
    refine WA_skip 9 (by kernel_rfl) rfl ?_
    refine WA_take 10 (by kernel_rfl) rfl (fun _ _ => rn_pick_f rfl) ?_
    refine WA_take 11 (by kernel_rfl) rfl (fun _ _ => rn_move) ?_
    refine WA_skip 12 (by kernel_rfl) rfl ?_
    refine WA_skip 13 (by kernel_rfl) rfl ?_
    refine WA_skip 14 (by kernel_rfl) rfl ?_
    refine WA_skip 15 (by kernel_rfl) rfl ?_
    refine WA_skip 16 (by kernel_rfl) rfl ?_
    refine WA_take 17 (by kernel_rfl) rfl (fun _ _ => rn_pick_f rfl) ?_
    refine WA_take 18 (by kernel_rfl) rfl (fun _ _ => rn_move) ?_
    refine WA_skip 19 (by kernel_rfl) rfl ?_
    refine WA_skip 20 (by kernel_rfl) rfl ?_
    refine WA_skip 21 (by kernel_rfl) rfl ?_
    refine WA_take 22 (by kernel_rfl) rfl (fun _ _ => rn_pick_f rfl) ?_
    refine WA_take 23 (by kernel_rfl) rfl (fun _ _ => rn_assign) ?_
    refine WA_done (by kernel_rfl) ?_
    refine thenN ?_
    refine W_seq ?_
    refine W_region ?_
    refine WR_val rfl (rn_load rfl (Ld.rowA (k := 2) hr4 (by kernel_rfl) (by kernel_rfl) (by first | (simp; done) | (simp [bv_length, *]; done) | assumption))) ?_
    refine WR_val rfl (rn_move) ?_
    refine WR_sk rfl (sk_storeA 2 ([.int .u64 (hdC s), .int .u64 (hdS s)]) rfl rfl hr2 (by kernel_rfl) (by first | assumption | (simp; done) | (simp [bv_length, *]; done)) (by first | assumption | (simp; done) | (simp [bv_length, *]; done) | rfl) (by first | exact bv_one _ | assumption | (simp [Value.oneCell']; done)) (fun w911 hr2 ho911 => ?_))
    replace hr1 := hr1.only ho911 (Nat.ne_of_lt lt_g1_g2)
    replace hr4 := hr4.only ho911 (Nat.ne_of_gt lt_g2_g4)
    replace hB := ho911.below hB ge_hB_g2
    refine WR_val rfl (rn_assign) ?_
    refine WR_nil ?_
    refine thenN ?_
    refine W_ret ?_
    refine ret_ret [_, _] ⟨⟨_, rfl, Ld.rowA (k := 2) hr2 (by kernel_rfl) (by kernel_rfl) (by first | (simp; done) | (simp [bv_length, *]; done) | assumption)⟩, rfl, trivial⟩ ?_
    refine ⟨?_, hB⟩
    rw [hz]
    rfl
end Go.Proofs.YtkkgahgpemepeaaGreat
namespace Go.Proofs.YtkkgahgpemepeaaGreat
open Go Go.RowKit Coup
def wf64 (i : Int) : Prop := -9223372036854775808 ≤ i ∧ i ≤ 9223372036854775807
def fitsN (all : Nat) (n : Int) : Bool := decide (4 ≤ n ∧ n ≤ 4000 ∧ 1 + n ≤ all)
section
variable {Y : World → List Nat → Prop} {g lo : Nat} {L : List Nat} {D : Dk} {w : World}
set_option maxRecDepth 20000 in
theorem may49 (h : Two (DZ g D) Y lo L w) (n : Int) (hn : wf64 n) : Calls Tryz.prog 34 [.pointer (some ⟨g, 0, none⟩), .int .i64 n].toArray w (Ret fun v w' => v = .int .i64 (if fitsN D.V.length n then 0 else 2) ∧ w = w') := by
  have hS := tSectors h
  have hp := (tOk h).2
  have hn8 := (tOk h).1.n
  have h1 := hn.1
  have h2 := hn.2
  refine calls_W (fn := Tryz.f34) (rs := [.tmp 4]) (n := 23) Tryz.func34 rfl rfl Tryz.ntmps34 (by kernel_rfl) rfl ?_
  refine W_seq ?_
  refine W_region ?_
  refine WR_val rfl (rn_assign) ?_
  refine WR_nil ?_
  refine thenN ?_
  refine W_seq ?_
  refine W_block ?_
  refine W_seq ?_
  refine W_region ?_
  refine WR_val rfl (rn_move) ?_
  refine WR_ent rfl (rn_call (by kernel_rfl) rfl) (hS) ?_
  rintro _ _ ⟨rfl, rfl⟩
  refine WR_val rfl (rn_eql rfl rfl) ?_
  refine WR_val rfl (rn_assign) ?_
  refine WR_nil ?_
  refine thenN ?_
  refine W_fp rfl ((by omega)) ?_
  refine W_seq ?_
  refine W_region ?_
  refine WR_val rfl (rn_move) ?_
  refine WR_val rfl (rn_lss rfl rfl) ?_
  refine WR_val rfl (rn_move) ?_
  refine WR_part 12 rfl (fun h3 => ?_) (fun h3 => ?_)
  ·
    refine WR_no rfl rfl ?_
    refine WR_no rfl rfl ?_
    refine WR_val rfl (rn_pick_t rfl) ?_
    refine WR_val rfl (rn_move) ?_
    refine WR_no rfl rfl ?_
    refine WR_no rfl rfl ?_
    refine WR_no rfl rfl ?_
    refine WR_no rfl rfl ?_
    refine WR_no rfl rfl ?_
    refine WR_val rfl (rn_pick_t rfl) ?_
    refine WR_val rfl (rn_assign) ?_
    refine WR_nil ?_
    refine thenN ?_
    refine W_tb rfl (rfl) ?_
    refine W_seq ?_
    refine W_region ?_
    refine WR_val rfl (rn_assign) ?_
    refine WR_nil ?_
    refine thenN ?_
    refine W_ret ?_
    refine blockR ?_
    refine thenR ?_
    refine ret_ret [_] ⟨rfl, trivial⟩ ?_
    have hz : fitsN D.V.length n = false := decide_eq_false (by omega)
    exact ⟨by rw [hz]; rfl, rfl⟩
  ·
    refine WR_yes rfl ?_
    refine WR_val rfl (rn_move) ?_
    refine WR_yes rfl ?_
    refine WR_val rfl (rn_gtr rfl rfl) ?_
    refine WR_val rfl (rn_pick_f rfl) ?_
    refine WR_val rfl (rn_move) ?_
    refine WR_part 16 rfl (fun h4 => ?_) (fun h4 => ?_)
    ·
      refine WR_no rfl rfl ?_
      refine WR_no rfl rfl ?_
      refine WR_no rfl rfl ?_
      refine WR_no rfl rfl ?_
      refine WR_no rfl rfl ?_
      refine WR_val rfl (rn_pick_t rfl) ?_
      refine WR_val rfl (rn_assign) ?_
      refine WR_nil ?_
      refine thenN ?_
      refine W_tb rfl (rfl) ?_
      refine W_seq ?_
      refine W_region ?_
      refine WR_val rfl (rn_assign) ?_
      refine WR_nil ?_
      refine thenN ?_
      refine W_ret ?_
      refine blockR ?_
      refine thenR ?_
      refine ret_ret [_] ⟨rfl, trivial⟩ ?_
      have hz : fitsN D.V.length n = false := decide_eq_false (by omega)
      exact ⟨by rw [hz]; rfl, rfl⟩
    ·
      refine WR_yes rfl ?_
      refine WR_val rfl (rn_move) ?_
      refine WR_yes rfl ?_
      refine WR_ent rfl (rn_call (by kernel_rfl) rfl) (hS) ?_
      rintro _ _ ⟨rfl, rfl⟩
      refine WR_yes rfl ?_
      refine WR_val rfl (rn_move) ?_
      refine WR_yes rfl ?_
      refine WR_val rfl (rn_add rfl rfl (Coup.w64 (by omega))) ?_
      refine WR_yes rfl ?_
      refine WR_val rfl (rn_lss rfl rfl) ?_
      refine WR_val rfl (rn_pick_f rfl) ?_
      refine WR_val rfl (rn_assign) ?_
      refine WR_nil ?_
      refine thenN ?_
      refine W_ifp rfl (fun h5 => ?_) (fun h5 => ?_)
      ·
        refine W_seq ?_
        refine W_region ?_
        refine WR_val rfl (rn_assign) ?_
        refine WR_nil ?_
        refine thenN ?_
        refine W_ret ?_
        refine blockR ?_
        refine thenR ?_
        refine ret_ret [_] ⟨rfl, trivial⟩ ?_
        have hz : fitsN D.V.length n = false := decide_eq_false (by omega)
        exact ⟨by rw [hz]; rfl, rfl⟩
      ·
        refine W_skip ?_
        refine blockN ?_
        refine thenN ?_
        refine W_seq ?_
        refine W_region ?_
        refine WR_val rfl (rn_assign) ?_
        refine WR_nil ?_
        refine thenN ?_
        refine W_ret ?_
        refine ret_ret [_] ⟨rfl, trivial⟩ ?_
        have hz : fitsN D.V.length n = true := decide_eq_true (by omega)
        exact ⟨by rw [hz]; rfl, rfl⟩
end
section
variable {Y : World → List Nat → Prop} [Thing Y] {g lo : Nat} {L : List Nat} {D : Dk} {w : World}
def saveD (D : Dk) (c s : Nat) : Dk := if stepOk D then flushD (writeA D 0 (headB c s)) else writeA D 0 (headB c s)
set_option maxRecDepth 20000 in
theorem save54 (h : Two (DZ g D) Y lo L w) (c s : Nat) (hc : c < 18446744073709551616) (hs : s < 18446744073709551616) (hsh : shortD D 90000) :
    Calls Tryz.prog 44 [.pointer (some ⟨g, 0, none⟩), .agg #[.int .u64 c, .int .u64 s]].toArray w (Ret fun v w' => v = .int .i64 (if stepOk D && stepOk (writeA D 0 (headB c s)) then 0 else 10) ∧ Two (DZ g (saveD D c s)) Y lo L w' ∧ LoL lo L w w') := by
  have hD := h
  have hLL := LoL.refl lo L w
  have hin : inD D 0 = true := decide_eq_true ⟨by omega, by have := (tOk h).2; omega⟩
  have hS := fun w' => sector72 c s w' hc hs
  have hHl := headB_len c s
  have hob : ∃ H, headB c s = H := ⟨_, rfl⟩
  obtain ⟨H, hH⟩ := hob
  rw [saveD, hH]
  rw [hH] at hS hHl
  refine calls_W (fn := Tryz.f44) (rs := [.tmp 4]) (n := 15) Tryz.func44 rfl rfl Tryz.ntmps44 (by kernel_rfl) rfl ?_
  refine W_seq ?_
  refine W_region ?_
  refine WR_mk rfl (mk_box ([.int .u64 c, .int .u64 s]) rfl (fun g3 w3 hg3 hr3 hb3 => ?_))
  replace hD := hD.newc hb3 hg3 hr3.lt
  replace hLL := hLL.new hb3
  refine WR_val rfl (rn_assign) ?_
  refine WR_nil ?_
  refine thenN ?_
  refine W_seq ?_
  refine W_seq ?_
  refine W_region ?_
  refine WR_val rfl (rn_move) ?_
  refine WR_val rfl (rn_load rfl (Ld.rowA (k := 2) hr3 (by kernel_rfl) (by kernel_rfl) (by first | (simp; done) | (simp [bv_length, *]; done) | assumption))) ?_
  refine WR_ent rfl (rn_call (by kernel_rfl) rfl) (hS w3) ?_
  rintro _ w8 ⟨rfl, hb8⟩
  replace hD := hD.new hb8
  replace hLL := hLL.new hb8
  replace hr3 := hr3.new hb8
  have hw := tWrite hD 0 H hHl hsh
  rw [writeE, hin, if_pos rfl] at hw
  refine WR_ent rfl (rn_call (by kernel_rfl) rfl) (hw) ?_
  rintro _ w9 ⟨rfl, hD, hb9⟩
  replace hLL := hLL.ll hb9 (by first | (intro b hb; exact hb) | (intro b hb; simp [hb]; done) | simp)
  replace hr3 := hr3.kpd hb9.kp (by first | (refine notLL ?_; left; omega) | (refine notLL ?_; right; simp; done) | (intro b o e; cases e; first | (refine notLL ?_; left; omega) | (refine notLL ?_; right; simp; done) | (refine notLL ?_; right; simp [*]; done)) | (intro b hb; refine notLL ?_; left; omega) | (intro b hb e; cases e; exact notLL (by right; simp [*]) hb))
  refine WR_val rfl (rn_assign) ?_
  refine WR_nil ?_
  refine thenN ?_
  refine W_seq ?_
  refine W_region ?_
  refine WR_val rfl (rn_move) ?_
  refine WR_val rfl (rn_neq rfl rfl) ?_
  refine WR_nil ?_
  refine thenN ?_
  refine W_ifp rfl (fun hne => ?_) (fun hne => ?_)
  ·
    refine W_seq ?_
    refine W_region ?_
    refine WR_val rfl (rn_move) ?_
    refine WR_val rfl (rn_assign) ?_
    refine WR_nil ?_
    refine thenN ?_
    refine W_ret ?_
    refine thenR ?_
    refine ret_ret [_] ⟨rfl, trivial⟩ ?_
    have hf : stepOk D = false := by cases hx : stepOk D with | false => rfl | true => simp [hx] at hne
    refine ⟨by rw [hf]; rfl, ?_, hLL⟩
    rw [hf]
    exact hD.weak (fun b hb => List.mem_cons_of_mem _ hb)
  ·
    have hf : stepOk D = true := by cases hx : stepOk D with | true => rfl | false => simp [hx] at hne
    rw [hf, if_pos rfl, Bool.true_and]
    refine W_skip ?_
    refine thenN ?_
    refine W_seq ?_
    refine W_region ?_
    refine WR_val rfl (rn_move) ?_
    refine WR_ent rfl (rn_call (by kernel_rfl) rfl) (tFlush hD) ?_
    rintro _ w14 ⟨rfl, hD, hb14⟩
    replace hLL := hLL.ll hb14 (by first | (intro b hb; exact hb) | (intro b hb; simp [hb]; done) | simp)
    replace hr3 := hr3.kpd hb14.kp (by first | (refine notLL ?_; left; omega) | (refine notLL ?_; right; simp; done) | (intro b o e; cases e; first | (refine notLL ?_; left; omega) | (refine notLL ?_; right; simp; done) | (refine notLL ?_; right; simp [*]; done)) | (intro b hb; refine notLL ?_; left; omega) | (intro b hb e; cases e; exact notLL (by right; simp [*]) hb))
    refine WR_val rfl (rn_assign) ?_
    refine WR_nil ?_
    refine thenN ?_
    refine W_ret ?_
    refine ret_ret [_] ⟨rfl, trivial⟩ ?_
    exact ⟨rfl, hD.weak (fun b hb => List.mem_cons_of_mem _ hb), hLL⟩
def zerosD (D : Dk) (m : Nat) : Dk := (List.range m).foldl (fun (D : Dk) (i : Nat) => writeA D (i : Int) zeroS) D
theorem zerosD_succ (D : Dk) (m : Nat) : zerosD D (m + 1) = writeA (zerosD D m) (m : Int) zeroS := by simp [zerosD, List.range_succ]
theorem zeros_alive {D : Dk} {k : Nat} (h : Alive D k) : ∀ m, Alive (zerosD D m) (m + k) ∧ (zerosD D m).V.length = D.V.length
  | 0 => ⟨by rw [Nat.zero_add]; exact h, rfl⟩
  | m + 1 => by
    obtain ⟨h1, h2⟩ := zeros_alive h m
    rw [zerosD_succ]
    obtain ⟨e1, e2, _⟩ := h1.writeA (m : Int) zeroS
    exact ⟨e1.weak (by omega), e2.trans h2⟩
def fmtD (D : Dk) (n : Nat) : Dk := flushD (writeA (flushD (zerosD D (1 + n))) 0 (headB 1 1))
set_option maxRecDepth 20000 in
set_option maxHeartbeats 1000000 in
theorem format26 (h : Two (DZ g D) Y lo L w) (n : Int) (hn : wf64 n) (ha : Alive D 80000) :
    Calls Tryz.prog 11 [.pointer (some ⟨g, 0, none⟩), .int .i64 n].toArray w (Ret fun v w' => v = .int .i64 (if fitsN D.V.length n then 0 else 2) ∧ Two (DZ g (if fitsN D.V.length n then fmtD D n.toNat else D)) Y lo L w' ∧ LoL lo L w w') := by
  have hD := h
  have hLL := LoL.refl lo L w
  have hM := may49 h n hn
  obtain ⟨Z, hzz, hzb, hzl⟩ := zeroSQ
  have hZl : Z.length = 128 := by rw [← bv_length]; exact hzl
  have hzs := fun m => zerosD_succ D m
  simp only [hzz] at hzs
  obtain ⟨ft, hft⟩ : ∃ ft, fitsN D.V.length n = ft := ⟨_, rfl⟩
  rw [hft] at hM ⊢
  refine calls_W (fn := Tryz.f11) (rs := [.tmp 4]) (n := 36) Tryz.func11 rfl rfl Tryz.ntmps11 (by kernel_rfl) rfl ?_
  refine W_seq ?_
  refine W_region ?_
  refine WR_val rfl (rn_assign) ?_
  refine WR_nil ?_
  refine thenN ?_
  refine W_seq ?_
  refine W_seq ?_
  refine W_region ?_
  refine WR_val rfl (rn_move) ?_
  refine WR_val rfl (rn_move) ?_
  refine WR_ent rfl (rn_call (by kernel_rfl) rfl) (hM) ?_
  rintro _ _ ⟨rfl, rfl⟩
  refine WR_val rfl (rn_assign) ?_
  refine WR_nil ?_
  refine thenN ?_
  refine W_seq ?_
  refine W_region ?_
  refine WR_val rfl (rn_move) ?_
  refine WR_val rfl (rn_neq rfl rfl) ?_
  refine WR_nil ?_
  refine thenN ?_
  refine W_ifp rfl (fun hne => ?_) (fun hne => ?_)
  ·
    refine W_seq ?_
    refine W_region ?_
    refine WR_val rfl (rn_move) ?_
    refine WR_val rfl (rn_assign) ?_
    refine WR_nil ?_
    refine thenN ?_
    refine W_ret ?_
    refine thenR ?_
    refine ret_ret [_] ⟨rfl, trivial⟩ ?_
    have hf : ft = false := by cases ft with | false => rfl | true => simp at hne
    subst hf
    exact ⟨rfl, hD, hLL⟩
  ·
    have hf : ft = true := by cases ft with | true => rfl | false => simp at hne
    subst hf
    have hfit := of_decide_eq_true hft
    have hobt : ∃ m : Nat, n = m := ⟨n.toNat, by omega⟩
    obtain ⟨m, rfl⟩ := hobt
    rw [if_pos rfl, if_pos rfl, Int.toNat_natCast]
    refine W_skip ?_
    refine thenN ?_
    refine W_seq ?_
    refine W_seq ?_
    refine W_region ?_
    refine WR_val rfl (rn_move) ?_
    refine WR_val rfl (rn_add rfl rfl (Coup.w64 (by omega))) ?_
    refine WR_val rfl (rn_move) ?_
    refine WR_nil ?_
    refine thenN ?_
    refine W_block ?_
    refine W_loop (α := Nat) 0 (fun i => [(17, .int .i64 (i : Nat)), (16, .int .i64 (1 + (m : Int))), (0, .pointer (some ⟨g, 0, none⟩))])
      (fun i w' => i ≤ 1 + m ∧ Two (DZ g (zerosD D i)) Y lo L w' ∧ LoL lo L w w') (fun i => 1 + m - i)
      ⟨rfl, rfl, rfl, rfl⟩ ⟨Nat.zero_le _, hD, hLL⟩ ?_
    clear hD hLL
    rintro i f wr ⟨hi, hD, hLL⟩
    have hal := zeros_alive ha i
    have hst := step_alive hal.1.left hal.1.dead
    refine W_seq ?_
    refine W_region ?_
    refine WR_val rfl (rn_lss rfl rfl) ?_
    refine WR_nil ?_
    refine thenN ?_
    refine W_seq ?_
    refine W_ifp rfl (fun hlt => ?_) (fun hlt => ?_)
    ·
      refine W_skip ?_
      refine thenN ?_
      refine W_seq ?_
      refine W_block ?_
      refine W_seq ?_
      refine W_region ?_
      refine WR_val rfl (rn_move) ?_
      refine WR_val rfl (rn_assign) ?_
      refine WR_nil ?_
      refine thenN ?_
      refine W_seq ?_
      refine W_region ?_
      refine WR_val rfl (rn_move) ?_
      refine WR_val rfl (rn_move) ?_
      refine WR_val rfl (rn_zeroed (bv Z) (by rw [← hzb]; kernel_rfl)) ?_
      have hw := tWrite hD (i : Int) Z hZl (short_of hal.1.short (by omega))
      have hin : inD (zerosD D i) (i : Int) = true := decide_eq_true (by omega)
      rw [writeE, hin, hst.1, if_pos rfl, if_pos rfl, ← hzs] at hw
      refine WR_ent rfl (rn_call (by kernel_rfl) rfl) (hw) ?_
      rintro _ w23 ⟨rfl, hD, hb23⟩
      replace hLL := hLL.ll hb23 (by first | (intro b hb; exact hb) | (intro b hb; simp [hb]; done) | simp)
      refine WR_val rfl (rn_assign) ?_
      refine WR_nil ?_
      refine thenN ?_
      refine W_seq ?_
      refine W_region ?_
      refine WR_val rfl (rn_move) ?_
      refine WR_val rfl (rn_neq rfl rfl) ?_
      refine WR_nil ?_
      refine thenN ?_
      refine W_fp rfl ((by omega)) ?_
      refine W_skip ?_
      refine blockN ?_
      refine thenN ?_
      refine W_region ?_
      refine WR_val rfl (rn_add rfl rfl (Coup.w64 (by omega))) ?_
      refine WR_val rfl (rn_move) ?_
      refine WR_nil ?_
      refine loopN ⟨i + 1, by omega, ⟨by go_num, rfl, rfl, rfl⟩, by omega, hD, hLL⟩
    ·
      have him : i = 1 + m := by omega
      subst him
      have hfa := flush_alive hal.1
      have hfl := flush_len (D := zerosD D (1 + m))
      have hw1 := hfa.2.writeA 0 (headB 1 1)
      have hst2 := step_alive hfa.2.left hfa.2.dead
      have hst3 := step_alive hw1.1.left hw1.1.dead
      refine W_exit ?_
      refine thenX ?_
      refine loopX ?_
      refine blockX ?_
      refine thenN ?_
      refine W_seq ?_
      refine W_seq ?_
      refine W_region ?_
      refine WR_val rfl (rn_move) ?_
      have hf := tFlush hD
      rw [hst.1, if_pos rfl] at hf
      refine WR_ent rfl (rn_call (by kernel_rfl) rfl) (hf) ?_
      rintro _ w29 ⟨rfl, hD, hb29⟩
      replace hLL := hLL.ll hb29 (by first | (intro b hb; exact hb) | (intro b hb; simp [hb]; done) | simp)
      refine WR_val rfl (rn_assign) ?_
      refine WR_nil ?_
      refine thenN ?_
      refine W_seq ?_
      refine W_region ?_
      refine WR_val rfl (rn_move) ?_
      refine WR_val rfl (rn_neq rfl rfl) ?_
      refine WR_nil ?_
      refine thenN ?_
      refine W_fp rfl ((by omega)) ?_
      refine W_skip ?_
      refine thenN ?_
      refine W_seq ?_
      refine W_region ?_
      refine WR_val rfl (rn_move) ?_
      refine WR_val rfl (rn_pair (k0 := .u64) (k1 := .u64) (by kernel_rfl) (by kernel_rfl) rfl rfl) ?_
      have hsv := save54 hD 1 1 (by omega) (by omega) (short_of hfa.2.short (by omega))
      rw [saveD, hst2.1, if_pos rfl, hst3.1] at hsv
      refine WR_ent rfl (rn_call (by kernel_rfl) rfl) (hsv) ?_
      rintro _ w35 ⟨rfl, hD, hb35⟩
      replace hLL := hLL.ll hb35 (by first | (intro b hb; exact hb) | (intro b hb; simp [hb]; done) | simp)
      refine WR_val rfl (rn_assign) ?_
      refine WR_nil ?_
      refine thenN ?_
      refine W_ret ?_
      refine ret_ret [_] ⟨rfl, trivial⟩ ?_
      exact ⟨rfl, hD, hLL⟩
end
end Go.Proofs.YtkkgahgpemepeaaGreat
namespace Go.Proofs.YtkkgahgpemepeaaGreat
open Go Go.RowKit Coup
structure Lg where
  count : Nat
  since : Nat
  size : Nat
  num : Nat
  at_ : Nat
  dead : Bool
def lgV (g : Nat) (G : Lg) : List Value := [.int .u64 (G.count : Int), .int .u64 (G.since : Int), .pointer (some ⟨g, 0, none⟩), .int .i64 (G.size : Int), .int .i64 (G.num : Int), .int .i64 (G.at_ : Int), .bool G.dead]
structure LgAt (g x : Nat) (Y : World → List Nat → Prop) (lo : Nat) (L : List Nat) (D : Dk) (G : Lg) (w : World) : Prop where
  two : Two (DZ g D) Y lo (x :: L) w
  rowx : row w x (lgV g G) 81
  ge : lo ≤ x
  ni : x ∉ L
namespace LgAt
variable {Y : World → List Nat → Prop} {g x lo gc : Nat} {L L2 M : List Nat} {D : Dk} {G : Lg} {w w' : World}
theorem lt (h : LgAt g x Y lo L D G w) : x < w.heap.size := h.rowx.lt
theorem kpd [hY : Thing Y] (h : LgAt g x Y lo L D G w) (k : Kp M w w') (hM : ∀ b ∈ M, b < lo ∨ b ∈ L) : LgAt g x Y lo L D G w' :=
  ⟨h.two.kpd k fun b hb => (hM b hb).imp id (List.mem_cons_of_mem _), h.rowx.kpd k fun hm => (hM _ hm).elim (fun hl => absurd h.ge (Nat.not_le.2 hl)) h.ni, h.ge, h.ni⟩
theorem new [hY : Thing Y] (h : LgAt g x Y lo L D G w) (hb : Below w.heap.size w w') : LgAt g x Y lo L D G w' := h.kpd (M := []) (Kp.of_below hb) (by simp)
theorem only [hY : Thing Y] (h : LgAt g x Y lo L D G w) (ho : Only gc w w') (hg : gc < lo ∨ gc ∈ L) : LgAt g x Y lo L D G w' := h.kpd (Kp.of_only ho) fun b hb => by rw [List.mem_singleton.1 hb]; exact hg
theorem weak (h : LgAt g x Y lo L D G w) (h2 : ∀ b ∈ L2, b ∈ L) : LgAt g x Y lo L2 D G w := ⟨h.two.weak fun b hb => (List.mem_cons.1 hb).elim (fun e => e ▸ List.mem_cons_self ..) fun hm => List.mem_cons_of_mem _ (h2 b hm), h.rowx, h.ge, fun hm => h.ni (h2 _ hm)⟩
theorem newc [hY : Thing Y] (h : LgAt g x Y lo L D G w) (hb : Below w.heap.size w w') (hg : w.heap.size ≤ gc) (hg' : gc < w'.heap.size) : LgAt g x Y lo (gc :: L) D G w' :=
  ⟨(h.two.newc hb hg hg').weak (L2 := x :: gc :: L) fun b hm => by
    rcases List.mem_cons.1 hm with rfl | hm
    · exact List.mem_cons_of_mem _ (List.mem_cons_self ..)
    · rcases List.mem_cons.1 hm with rfl | hm
      · exact List.mem_cons_self ..
      · exact List.mem_cons_of_mem _ (List.mem_cons_of_mem _ hm), h.rowx.new hb, h.ge, fun hm => by
    rcases List.mem_cons.1 hm with e | hm
    · have := h.lt; omega
    · exact h.ni hm⟩
theorem fst (h : LgAt g x Y lo L D G w) : Two (DZ g D) Y lo L w := h.two.weak fun _ hb => List.mem_cons_of_mem _ hb
end LgAt
section
variable {Y : World → List Nat → Prop} [Thing Y] {g x lo : Nat} {L : List Nat} {D : Dk} {G : Lg} {w : World}
def nextG (G : Lg) (s : Nat) (ok : Bool) : Lg := if ok then { G with count := G.count + 1, since := s } else { G with dead := true }
def saveE (D : Dk) (c s : Nat) : Bool := stepOk D && stepOk (writeA D 0 (headB c s))
set_option maxRecDepth 20000 in
theorem next48 (h : LgAt g x Y lo L D G w) (s : Nat) (hc : G.count + 1 < 18446744073709551616) (hs : s < 18446744073709551616) (hsh : shortD D 90000) :
    Calls Tryz.prog 38 [.pointer (some ⟨x, 0, none⟩), .int .u64 (s : Int)].toArray w (Ret fun v w' => v = .int .i64 (if saveE D (G.count + 1) s then 0 else 10) ∧ LgAt g x Y lo L (saveD D (G.count + 1) s) (nextG G s (saveE D (G.count + 1) s)) w' ∧ LoL lo L w w') := by
  obtain ⟨hD, hx, hge, hni⟩ := h
  have hLL := LoL.refl lo L w
  have hxl := hx.lt
  have hsv0 := fun (L : List Nat) (w' : World) (h : Two (DZ g D) Y lo L w') => save54 h (G.count + 1) s hc hs hsh
  obtain ⟨ok, hok⟩ : ∃ ok, saveE D (G.count + 1) s = ok := ⟨_, rfl⟩
  obtain ⟨D2, hD2⟩ : ∃ D2, saveD D (G.count + 1) s = D2 := ⟨_, rfl⟩
  rw [hok, hD2]
  unfold saveE at hok
  rw [hok, hD2] at hsv0
  obtain ⟨c, si, sz, nu, at_, de⟩ := G
  dsimp only [lgV, nextG] at *
  refine calls_W (fn := Tryz.f38) (rs := [.tmp 4]) (n := 31) Tryz.func38 rfl rfl Tryz.ntmps38 (by kernel_rfl) rfl ?_
  refine W_seq ?_
  refine W_region ?_
  refine WR_val rfl (rn_assign) ?_
  refine WR_nil ?_
  refine thenN ?_
  refine W_seq ?_
  refine W_region ?_
  refine WR_val rfl (rn_move) ?_
  refine WR_val rfl (rn_nilCheckP rfl) ?_
  refine WR_val rfl (rn_fieldAddr (off := 0) (by kernel_rfl) rfl) ?_
  refine WR_val rfl (rn_fieldAddr (off := 0) (by kernel_rfl) rfl) ?_
  refine WR_val rfl (rn_load rfl (Ld.row1 hx (by kernel_rfl) rfl)) ?_
  refine WR_val rfl (rn_add rfl rfl (wu64 (by omega))) ?_
  refine WR_val rfl (rn_move) ?_
  refine WR_val rfl (rn_pair (k0 := .u64) (k1 := .u64) (by kernel_rfl) (by kernel_rfl) rfl rfl) ?_
  refine WR_mk rfl (mk_alloc ([Value.int .u64 0, Value.int .u64 0]) (by kernel_rfl) (fun g5 w5 hg5 hr5 hb5 => ?_))
  have lt_x_g5 : x < g5 := Nat.lt_of_lt_of_le hx.lt hg5
  replace hD := hD.newc hb5 hg5 hr5.lt
  replace hx := hx.new hb5
  replace hLL := hLL.new hb5
  refine WR_sk rfl (sk_storeA 2 (_) rfl rfl hr5 (by kernel_rfl) (by first | assumption | (simp; done) | (simp [bv_length, *]; done)) (by first | assumption | (simp; done) | (simp [bv_length, *]; done) | rfl) (by first | exact bv_one _ | assumption | (simp [Value.oneCell']; done)) (fun w901 hr5 ho901 => ?_))
  replace hD := hD.only ho901 (by first | (right; simp; done) | (left; omega))
  replace hx := hx.only ho901 (Nat.ne_of_lt lt_x_g5)
  replace hLL := hLL.only ho901 (by first | omega | (right; exact ⟨by omega, by assumption⟩))
  refine WR_nil ?_
  refine thenN ?_
  refine W_seq ?_
  refine W_seq ?_
  refine W_drawL (lo) ((g5 :: x :: L)) (by kernel_rfl) ?_
  intro w902 hb902 hn902 hS902
  replace hD := hD.new hb902
  replace hx := hx.new hb902
  replace hLL := hLL.new hb902
  replace hr5 := hr5.new hb902
  have hD_d902 := hD
  have hx_d902 := hx
  have hLL_d902 := hLL
  have hr5_d902 := hr5
  refine WA_take 0 (by kernel_rfl) rfl (fun _ _ => rn_move) ?_
  refine WA_take 1 (by kernel_rfl) rfl (fun _ _ => rn_nilCheckP rfl) ?_
  refine WA_take 2 (by kernel_rfl) rfl (fun _ _ => rn_fieldAddr (off := 2) (by kernel_rfl) rfl) ?_
  refine WA_take 3 (by kernel_rfl) rfl (fun w' hS' => rn_load rfl (Ld.row1 (hx_d902.kpd hS' (by first | (simp; done) | (simp; omega) | (simp [*]; done) | exact notLL (Or.inl (by omega)) | exact notLL (Or.inr (by simp)) | exact fun g hm => Nat.le_trans (by omega) (inLL hm).1 | (intro b o e; cases e; exact notLL (Or.inl (by omega))) | (intro b hm; have := (hu.lt b (Option.mem_toList.1 hm)).1; omega) | (intro b o e; cases e; intro hm; have := (hu.lt _ (Option.mem_toList.1 hm)).1; omega))) (by kernel_rfl) rfl)) ?_
  refine WA_take 4 (by kernel_rfl) rfl (fun w' hS' => rn_load rfl (Ld.rowA (k := 2) (hr5_d902.kpd hS' (by first | (simp; done) | (simp; omega) | (simp [*]; done) | exact notLL (Or.inl (by omega)) | exact notLL (Or.inr (by simp)) | exact fun g hm => Nat.le_trans (by omega) (inLL hm).1 | (intro b o e; cases e; exact notLL (Or.inl (by omega))) | (intro b hm; have := (hu.lt b (Option.mem_toList.1 hm)).1; omega) | (intro b o e; cases e; intro hm; have := (hu.lt _ (Option.mem_toList.1 hm)).1; omega))) (by kernel_rfl) (by kernel_rfl) (by first | (simp; done) | (simp [bv_length, *]; done) | assumption))) ?_
  refine WA_one 5 (by kernel_rfl) ?_
  refine WO_ent rfl rfl (rn_call (by kernel_rfl) rfl) (hsv0 _ w902 hD) ?_
  rintro _ w20 ⟨rfl, hD, hb20⟩
  have hS903 := hS902.addLL hn902 hb20
  refine ⟨hS903, ?_⟩
  replace hx := hx.kpd hb20.kp (by first | (refine notLL ?_; left; omega) | (refine notLL ?_; right; simp; done) | (intro b o e; cases e; first | (refine notLL ?_; left; omega) | (refine notLL ?_; right; simp; done) | (refine notLL ?_; right; simp [*]; done)) | (intro b hb; refine notLL ?_; left; omega) | (intro b hb e; cases e; exact notLL (by right; simp [*]) hb))
  replace hLL := hLL.ll hb20 (by first | (intro b hb; exact hb) | (intro b hb; simp [hb]; done) | simp)
  replace hr5 := hr5.kpd hb20.kp (by first | (refine notLL ?_; left; omega) | (refine notLL ?_; right; simp; done) | (intro b o e; cases e; first | (refine notLL ?_; left; omega) | (refine notLL ?_; right; simp; done) | (refine notLL ?_; right; simp [*]; done)) | (intro b hb; refine notLL ?_; left; omega) | (intro b hb e; cases e; exact notLL (by right; simp [*]) hb))
  refine WA_take 6 (by kernel_rfl) rfl (fun _ _ => rn_assign) ?_
  refine WA_done (by kernel_rfl) ?_
  refine thenN ?_
  refine W_seq ?_
  refine W_region ?_
  refine WR_val rfl (rn_move) ?_
  refine WR_val rfl (rn_neq rfl rfl) ?_
  refine WR_nil ?_
  refine thenN ?_
  refine W_ifp rfl (fun hne => ?_) (fun hne => ?_)
  ·
    refine W_seq ?_
    refine W_region ?_
    refine WR_val rfl (rn_move) ?_
    refine WR_val rfl (rn_nilCheckP rfl) ?_
    refine WR_val rfl (rn_fieldAddr (off := 6) (by kernel_rfl) rfl) ?_
    refine WR_sk rfl (sk_store1 rfl rfl rfl rfl hx (by kernel_rfl) (by first | (simp only [List.length_replicate]; omega) | (simp only [iv_length]; omega) | (simp only [bv_length, List.length_set]; omega) | simp) (fun w904 hx ho904 => ?_))
    replace hD := hD.only ho904 (by first | (right; simp; done) | (left; omega))
    replace hLL := hLL.only ho904 (by first | omega | (right; exact ⟨by omega, by assumption⟩))
    replace hr5 := hr5.only ho904 (Nat.ne_of_gt lt_x_g5)
    refine WR_nil ?_
    refine thenN ?_
    refine W_seq ?_
    refine W_region ?_
    refine WR_val rfl (rn_move) ?_
    refine WR_val rfl (rn_assign) ?_
    refine WR_nil ?_
    refine thenN ?_
    refine W_ret ?_
    refine thenR ?_
    refine ret_ret [_] ⟨rfl, trivial⟩ ?_
    have hf : ok = false := by cases ok with | false => rfl | true => simp at hne
    subst hf
    exact ⟨rfl, ⟨hD.weak (fun b hb => List.mem_cons_of_mem _ hb), hx, hge, hni⟩, hLL⟩
  ·
    have hf : ok = true := by cases ok with | true => rfl | false => simp at hne
    subst hf
    refine W_skip ?_
    refine thenN ?_
    refine W_seq ?_
    refine W_region ?_
    refine WR_val rfl (rn_move) ?_
    refine WR_val rfl (rn_load rfl (Ld.rowA (k := 2) hr5 (by kernel_rfl) (by kernel_rfl) (by first | (simp; done) | (simp [bv_length, *]; done) | assumption))) ?_
    refine WR_val rfl (rn_nilCheckP rfl) ?_
    refine WR_val rfl (rn_fieldAddr (off := 0) (by kernel_rfl) rfl) ?_
    refine WR_sk rfl (sk_store [.int .u64 ((c : Int) + 1), .int .u64 (s : Int)] rfl rfl hx (by kernel_rfl) (by simp) (by simp [Value.oneCell']) (fun w905 hx ho905 => ?_))
    replace hD := hD.only ho905 (by first | (right; simp; done) | (left; omega))
    replace hLL := hLL.only ho905 (by first | omega | (right; exact ⟨by omega, by assumption⟩))
    replace hr5 := hr5.only ho905 (Nat.ne_of_gt lt_x_g5)
    refine WR_nil ?_
    refine thenN ?_
    refine W_seq ?_
    refine W_region ?_
    refine WR_val rfl (rn_assign) ?_
    refine WR_nil ?_
    refine thenN ?_
    refine W_ret ?_
    refine ret_ret [_] ⟨rfl, trivial⟩ ?_
    exact ⟨rfl, ⟨hD.weak (fun b hb => List.mem_cons_of_mem _ hb), hx, hge, hni⟩, hLL⟩
omit [Thing Y]
set_option maxRecDepth 20000 in
theorem ready45 (h : LgAt g x Y lo L D G w) : Calls Tryz.prog 57 [.pointer (some ⟨x, 0, none⟩)].toArray w (Ret fun v w' => v = .int .i64 (if G.dead then 10 else 0) ∧ w = w') := by
  obtain ⟨hD, hx, hge, hni⟩ := h
  obtain ⟨c, si, sz, nu, at_, de⟩ := G
  dsimp only [lgV] at *
  refine calls_W (fn := Tryz.f57) (rs := [.tmp 2]) (n := 18) Tryz.func57 rfl rfl Tryz.ntmps57 (by kernel_rfl) rfl ?_
  refine W_seq ?_
  refine W_region ?_
  refine WR_val rfl (rn_assign) ?_
  refine WR_nil ?_
  refine thenN ?_
  refine W_seq ?_
  refine W_block ?_
  refine W_seq ?_
  refine W_region ?_
  refine WR_val rfl (rn_move) ?_
  refine WR_val rfl (rn_eqlP1 (by kernel_rfl) rfl rfl) ?_
  refine WR_val rfl (rn_move) ?_
  refine WR_fb 6 rfl (rfl) ?_
  refine WR_yes rfl ?_
  refine WR_val rfl (rn_move) ?_
  refine WR_yes rfl ?_
  refine WR_val rfl (rn_nilCheckP rfl) ?_
  refine WR_yes rfl ?_
  refine WR_val rfl (rn_fieldAddr (off := 2) (by kernel_rfl) rfl) ?_
  refine WR_yes rfl ?_
  refine WR_val rfl (rn_load rfl (Ld.row1 hx (by kernel_rfl) rfl)) ?_
  refine WR_yes rfl ?_
  refine WR_val rfl (rn_eqlP1 (by kernel_rfl) rfl rfl) ?_
  refine WR_val rfl (rn_pick_f rfl) ?_
  refine WR_val rfl (rn_assign) ?_
  refine WR_nil ?_
  refine thenN ?_
  refine W_fb rfl (rfl) ?_
  refine W_seq ?_
  refine W_region ?_
  refine WR_val rfl (rn_move) ?_
  refine WR_val rfl (rn_nilCheckP rfl) ?_
  refine WR_val rfl (rn_fieldAddr (off := 6) (by kernel_rfl) rfl) ?_
  refine WR_val rfl (rn_load rfl (Ld.row1 hx (by kernel_rfl) rfl)) ?_
  refine WR_val rfl (rn_assign) ?_
  refine WR_nil ?_
  refine thenN ?_
  refine W_if rfl (fun hde => ?_) (fun hde => ?_)
  ·
    refine W_seq ?_
    refine W_region ?_
    refine WR_val rfl (rn_assign) ?_
    refine WR_nil ?_
    refine thenN ?_
    refine W_ret ?_
    refine blockR ?_
    refine thenR ?_
    refine ret_ret [_] ⟨rfl, trivial⟩ ?_
    subst hde
    exact ⟨rfl, rfl⟩
  ·
    refine W_skip ?_
    refine blockN ?_
    refine thenN ?_
    refine W_seq ?_
    refine W_region ?_
    refine WR_val rfl (rn_assign) ?_
    refine WR_nil ?_
    refine thenN ?_
    refine W_ret ?_
    refine ret_ret [_] ⟨rfl, trivial⟩ ?_
    have hf : de = false := by cases de with | false => rfl | true => cases hde
    subst hf
    exact ⟨rfl, rfl⟩
set_option maxRecDepth 20000 in
theorem room19 (h : LgAt g x Y lo L D G w) (hle : G.at_ ≤ G.size) (hsz : G.size ≤ 4000) : Calls Tryz.prog 20 [.pointer (some ⟨x, 0, none⟩)].toArray w (Ret fun v w' => v = .int .i64 ((G.size - G.at_ : Nat) : Int) ∧ Below w.heap.size w w') := by
  obtain ⟨hD, hx, hge, hni⟩ := h
  obtain ⟨c, si, sz, nu, at_, de⟩ := G
  dsimp only [lgV] at *
  have hB := Below.refl w.heap.size w
  refine calls_W (fn := Tryz.f20) (rs := [.tmp 2]) (n := 14) Tryz.func20 rfl rfl Tryz.ntmps20 (by kernel_rfl) rfl ?_
  refine W_seq ?_
  refine W_region ?_
  refine WR_val rfl (rn_assign) ?_
  refine WR_nil ?_
  refine thenN ?_
  refine W_seq ?_
  refine W_seq ?_
  refine W_region ?_
  refine WR_val rfl (rn_move) ?_
  refine WR_val rfl (rn_eqlP1 (by kernel_rfl) rfl rfl) ?_
  refine WR_nil ?_
  refine thenN ?_
  refine W_fb rfl (rfl) ?_
  refine W_skip ?_
  refine thenN ?_
  refine W_seq ?_
  refine W_draw' [] (by kernel_rfl) ?_
  intro w901 hb901 hS901
  replace hx := hx.new hb901
  replace hB := hB.acc hb901
  have hx_d901 := hx
  have hB_d901 := hB
  refine WA_take 0 (by kernel_rfl) rfl (fun _ _ => rn_move) ?_
  refine WA_take 1 (by kernel_rfl) rfl (fun _ _ => rn_nilCheckP rfl) ?_
  refine WA_take 2 (by kernel_rfl) rfl (fun _ _ => rn_fieldAddr (off := 3) (by kernel_rfl) rfl) ?_
  refine WA_take 3 (by kernel_rfl) rfl (fun w' hS' => rn_load rfl (Ld.row1 (hx_d901.kpd hS' (by first | (simp; done) | (simp; omega) | (simp [*]; done) | exact notLL (Or.inl (by omega)) | exact notLL (Or.inr (by simp)) | exact fun g hm => Nat.le_trans (by omega) (inLL hm).1 | (intro b o e; cases e; exact notLL (Or.inl (by omega))) | (intro b hm; have := (hu.lt b (Option.mem_toList.1 hm)).1; omega) | (intro b o e; cases e; intro hm; have := (hu.lt _ (Option.mem_toList.1 hm)).1; omega))) (by kernel_rfl) rfl)) ?_
  refine WA_take 4 (by kernel_rfl) rfl (fun _ _ => rn_move) ?_
  refine WA_take 5 (by kernel_rfl) rfl (fun _ _ => rn_nilCheckP rfl) ?_
  refine WA_take 6 (by kernel_rfl) rfl (fun _ _ => rn_fieldAddr (off := 5) (by kernel_rfl) rfl) ?_
  refine WA_take 7 (by kernel_rfl) rfl (fun w' hS' => rn_load rfl (Ld.row1 (hx_d901.kpd hS' (by first | (simp; done) | (simp; omega) | (simp [*]; done) | exact notLL (Or.inl (by omega)) | exact notLL (Or.inr (by simp)) | exact fun g hm => Nat.le_trans (by omega) (inLL hm).1 | (intro b o e; cases e; exact notLL (Or.inl (by omega))) | (intro b hm; have := (hu.lt b (Option.mem_toList.1 hm)).1; omega) | (intro b o e; cases e; intro hm; have := (hu.lt _ (Option.mem_toList.1 hm)).1; omega))) (by kernel_rfl) rfl)) ?_
  refine WA_take 8 (by kernel_rfl) rfl (fun _ _ => rn_sub rfl rfl (Coup.w64 (by omega))) ?_
  refine WA_take 9 (by kernel_rfl) rfl (fun _ _ => rn_assign) ?_
  refine WA_done (by kernel_rfl) ?_
  refine thenN ?_
  refine W_ret ?_
  refine ret_ret [_] ⟨rfl, trivial⟩ ?_
  have he : (sz : Int) - at_ = ((sz - at_ : Nat) : Int) := by omega
  exact ⟨by show Value.int .i64 ((sz : Int) - at_) = _; rw [he], hB⟩
set_option maxRecDepth 20000 in
theorem count20 (h : LgAt g x Y lo L D G w) : Calls Tryz.prog 17 [.pointer (some ⟨x, 0, none⟩)].toArray w (Ret fun v w' => v = .int .u64 (G.count : Int) ∧ w = w') := by
  obtain ⟨hD, hx, hge, hni⟩ := h
  obtain ⟨c, si, sz, nu, at_, de⟩ := G
  dsimp only [lgV] at *
  refine calls_W (fn := Tryz.f17) (rs := [.tmp 2]) (n := 10) Tryz.func17 rfl rfl Tryz.ntmps17 (by kernel_rfl) rfl ?_
  refine W_seq ?_
  refine W_region ?_
  refine WR_val rfl (rn_assign) ?_
  refine WR_nil ?_
  refine thenN ?_
  refine W_seq ?_
  refine W_seq ?_
  refine W_region ?_
  refine WR_val rfl (rn_move) ?_
  refine WR_val rfl (rn_eqlP1 (by kernel_rfl) rfl rfl) ?_
  refine WR_nil ?_
  refine thenN ?_
  refine W_fb rfl (rfl) ?_
  refine W_skip ?_
  refine thenN ?_
  refine W_seq ?_
  refine W_region ?_
  refine WR_val rfl (rn_move) ?_
  refine WR_val rfl (rn_nilCheckP rfl) ?_
  refine WR_val rfl (rn_fieldAddr (off := 0) (by kernel_rfl) rfl) ?_
  refine WR_val rfl (rn_fieldAddr (off := 0) (by kernel_rfl) rfl) ?_
  refine WR_val rfl (rn_load rfl (Ld.row1 hx (by kernel_rfl) rfl)) ?_
  refine WR_val rfl (rn_assign) ?_
  refine WR_nil ?_
  refine thenN ?_
  refine W_ret ?_
  refine ret_ret [_] ⟨rfl, trivial⟩ ?_
  exact ⟨rfl, rfl⟩
set_option maxRecDepth 20000 in
theorem since21 (h : LgAt g x Y lo L D G w) : Calls Tryz.prog 18 [.pointer (some ⟨x, 0, none⟩)].toArray w (Ret fun v w' => v = .int .u64 (G.since : Int) ∧ w = w') := by
  obtain ⟨hD, hx, hge, hni⟩ := h
  obtain ⟨c, si, sz, nu, at_, de⟩ := G
  dsimp only [lgV] at *
  refine calls_W (fn := Tryz.f18) (rs := [.tmp 2]) (n := 10) Tryz.func18 rfl rfl Tryz.ntmps18 (by kernel_rfl) rfl ?_
  refine W_seq ?_
  refine W_region ?_
  refine WR_val rfl (rn_assign) ?_
  refine WR_nil ?_
  refine thenN ?_
  refine W_seq ?_
  refine W_seq ?_
  refine W_region ?_
  refine WR_val rfl (rn_move) ?_
  refine WR_val rfl (rn_eqlP1 (by kernel_rfl) rfl rfl) ?_
  refine WR_nil ?_
  refine thenN ?_
  refine W_fb rfl (rfl) ?_
  refine W_skip ?_
  refine thenN ?_
  refine W_seq ?_
  refine W_region ?_
  refine WR_val rfl (rn_move) ?_
  refine WR_val rfl (rn_nilCheckP rfl) ?_
  refine WR_val rfl (rn_fieldAddr (off := 0) (by kernel_rfl) rfl) ?_
  refine WR_val rfl (rn_fieldAddr (off := 1) (by kernel_rfl) rfl) ?_
  refine WR_val rfl (rn_load rfl (Ld.row1 hx (by kernel_rfl) rfl)) ?_
  refine WR_val rfl (rn_assign) ?_
  refine WR_nil ?_
  refine thenN ?_
  refine W_ret ?_
  refine ret_ret [_] ⟨rfl, trivial⟩ ?_
  exact ⟨rfl, rfl⟩
set_option maxRecDepth 20000 in
theorem len22 (h : LgAt g x Y lo L D G w) : Calls Tryz.prog 19 [.pointer (some ⟨x, 0, none⟩)].toArray w (Ret fun v w' => v = .int .i64 (G.num : Int) ∧ w = w') := by
  obtain ⟨hD, hx, hge, hni⟩ := h
  obtain ⟨c, si, sz, nu, at_, de⟩ := G
  dsimp only [lgV] at *
  refine calls_W (fn := Tryz.f19) (rs := [.tmp 2]) (n := 9) Tryz.func19 rfl rfl Tryz.ntmps19 (by kernel_rfl) rfl ?_
  refine W_seq ?_
  refine W_region ?_
  refine WR_val rfl (rn_assign) ?_
  refine WR_nil ?_
  refine thenN ?_
  refine W_seq ?_
  refine W_seq ?_
  refine W_region ?_
  refine WR_val rfl (rn_move) ?_
  refine WR_val rfl (rn_eqlP1 (by kernel_rfl) rfl rfl) ?_
  refine WR_nil ?_
  refine thenN ?_
  refine W_fb rfl (rfl) ?_
  refine W_skip ?_
  refine thenN ?_
  refine W_seq ?_
  refine W_region ?_
  refine WR_val rfl (rn_move) ?_
  refine WR_val rfl (rn_nilCheckP rfl) ?_
  refine WR_val rfl (rn_fieldAddr (off := 4) (by kernel_rfl) rfl) ?_
  refine WR_val rfl (rn_load rfl (Ld.row1 hx (by kernel_rfl) rfl)) ?_
  refine WR_val rfl (rn_assign) ?_
  refine WR_nil ?_
  refine thenN ?_
  refine W_ret ?_
  refine ret_ret [_] ⟨rfl, trivial⟩ ?_
  exact ⟨rfl, rfl⟩
set_option maxRecDepth 20000 in
theorem dead23 (h : LgAt g x Y lo L D G w) : Calls Tryz.prog 22 [.pointer (some ⟨x, 0, none⟩)].toArray w (Ret fun v w' => v = .bool G.dead ∧ w = w') := by
  obtain ⟨hD, hx, hge, hni⟩ := h
  obtain ⟨c, si, sz, nu, at_, de⟩ := G
  dsimp only [lgV] at *
  refine calls_W (fn := Tryz.f22) (rs := [.tmp 2]) (n := 11) Tryz.func22 rfl rfl Tryz.ntmps22 (by kernel_rfl) rfl ?_
  refine W_seq ?_
  refine W_region ?_
  refine WR_val rfl (rn_assign) ?_
  refine WR_nil ?_
  refine thenN ?_
  refine W_seq ?_
  refine W_region ?_
  refine WR_val rfl (rn_move) ?_
  refine WR_val rfl (rn_neqP1 (by kernel_rfl) rfl rfl) ?_
  refine WR_val rfl (rn_move) ?_
  refine WR_tb 5 rfl (rfl) ?_
  refine WR_yes rfl ?_
  refine WR_val rfl (rn_move) ?_
  refine WR_yes rfl ?_
  refine WR_val rfl (rn_nilCheckP rfl) ?_
  refine WR_yes rfl ?_
  refine WR_val rfl (rn_fieldAddr (off := 6) (by kernel_rfl) rfl) ?_
  refine WR_yes rfl ?_
  refine WR_val rfl (rn_load rfl (Ld.row1 hx (by kernel_rfl) rfl)) ?_
  refine WR_val rfl (rn_pick_t rfl) ?_
  refine WR_val rfl (rn_assign) ?_
  refine WR_nil ?_
  refine thenN ?_
  refine W_ret ?_
  refine ret_ret [_] ⟨rfl, trivial⟩ ?_
  exact ⟨rfl, rfl⟩
end
end Go.Proofs.YtkkgahgpemepeaaGreat
namespace Go.Proofs.YtkkgahgpemepeaaGreat
open Go Go.RowKit Coup
def writesW (D : Dk) (at_ : Nat) : List Sec → Dk × Bool
  | [] => (D, true)
  | s :: l => if stepOk D then writesW (writeA D (at_ : Int) s) (at_ + 1) l else (writeA D (at_ : Int) s, false)
theorem writesW_snoc : ∀ (l : List Sec) (D : Dk) (a : Nat) (s : Sec), (writesW D a l).2 = true → writesW D a (l ++ [s]) = (writeA (writesW D a l).1 ((a + l.length : Nat) : Int) s, stepOk (writesW D a l).1)
  | [], D, a, s, _ => by
    simp only [List.nil_append, writesW, List.length_nil, Nat.add_zero]
    split
    · rename_i h; rw [h]
    · rename_i h; cases hx : stepOk D with
      | true => exact absurd hx h
      | false => rfl
  | t :: l, D, a, s, h => by
    rw [List.cons_append, writesW]
    rw [writesW] at h ⊢
    by_cases hs : stepOk D = true
    · rw [if_pos hs] at h ⊢
      rw [if_pos hs, writesW_snoc l _ _ s h, List.length_cons, show a + 1 + l.length = a + (l.length + 1) by omega]
    · rw [if_neg hs] at h; cases h
theorem writesW_bad : ∀ (l m : List Sec) (D : Dk) (a : Nat), (writesW D a l).2 = false → writesW D a (l ++ m) = writesW D a l
  | [], m, D, a, h => by cases h
  | t :: l, m, D, a, h => by
    rw [List.cons_append, writesW]
    rw [writesW] at h ⊢
    by_cases hs : stepOk D = true
    · rw [if_pos hs] at h ⊢
      rw [if_pos hs, writesW_bad l m _ _ h]
    · rw [if_neg hs, if_neg hs]
theorem writeA_len (D : Dk) (i : Int) (s : Sec) : (writeA D i s).V.length = D.V.length := by
  unfold writeA writeD
  split
  · split
    · show ((stepD D).V.set _ _).length = _
      rw [List.length_set, stepD_V]
    · rw [stepD_V]
  · rfl
theorem writeA_short {D : Dk} {k : Nat} (h : shortD D k) (i : Int) (s : Sec) : shortD (writeA D i s) (k + 1) := by
  unfold writeA writeD
  split
  · rename_i hin
    obtain ⟨m, rfl, hm⟩ := inD_nat hin
    have hsh := h.ver hm
    split
    · intro v hv
      rcases List.mem_or_eq_of_mem_set hv with e | e
      · rw [stepD_V] at e; exact Nat.le_trans (h v e) (by omega)
      · rw [e, List.length_append, List.length_singleton, Int.toNat_natCast]; omega
    · intro v hv; rw [stepD_V] at hv; exact Nat.le_trans (h v hv) (by omega)
  · exact short_of h (by omega)
theorem writesW_len : ∀ (l : List Sec) (D : Dk) (a : Nat), (writesW D a l).1.V.length = D.V.length
  | [], D, a => rfl
  | t :: l, D, a => by
    have h : (writeA D (a : Int) t).V.length = D.V.length := writeA_len _ _ _
    rw [writesW]
    split
    · rw [writesW_len l, h]
    · exact h
theorem writesW_short : ∀ (l : List Sec) (D : Dk) (a k : Nat), shortD D k → shortD (writesW D a l).1 (k + l.length)
  | [], D, a, k, h => h
  | t :: l, D, a, k, h => by
    have h1 : shortD (writeA D (a : Int) t) (k + 1) := writeA_short h _ _
    rw [writesW, List.length_cons]
    split
    · exact short_of (writesW_short l _ _ _ h1) (by omega)
    · exact short_of h1 (by omega)
def secsOf (b : List UInt8) (n : Nat) : List Sec := (List.range n).map fun i => (b.drop (128 * i)).take 128
theorem secsOf_len (b : List UInt8) (n : Nat) : (secsOf b n).length = n := by simp [secsOf]
theorem secsOf_ok {b : List UInt8} {n : Nat} (h : b.length = 128 * n) : secsOk (secsOf b n) := fun s hs => by
  obtain ⟨i, hi, rfl⟩ := List.mem_map.1 hs
  have := List.mem_range.1 hi
  rw [List.length_take, List.length_drop]; omega
theorem secsOf_snoc (b : List UInt8) (n : Nat) : secsOf b (n + 1) = secsOf b n ++ [(b.drop (128 * n)).take 128] := by simp [secsOf, List.range_succ]
theorem secsOf_flat (b : List UInt8) : ∀ n, (secsOf b n).flatten = b.take (128 * n)
  | 0 => rfl
  | n + 1 => by
    rw [secsOf_snoc, List.flatten_append, secsOf_flat b n, List.flatten_singleton, Nat.mul_succ, List.take_add]
section
variable {Y : World → List Nat → Prop} [Thing Y] {g x lo : Nat} {L : List Nat} {D : Dk} {G : Lg} {w : World}
def putW (D : Dk) (a : Nat) (R : List Sec) : Dk × Bool := if (writesW D a R).2 then (flushD (writesW D a R).1, stepOk (writesW D a R).1) else writesW D a R
set_option maxRecDepth 20000 in
set_option maxHeartbeats 1000000 in
theorem write47 (h : LgAt g x Y lo L D G w) (R : List Sec) (hR : secsOk R) (p n c : Nat) (hp : p ∈ L) (hn : R.length = n) (hrow : SlAt w (some ⟨p, 0, none⟩) n 128 (bv R.flatten)) (hfit : 1 + G.at_ + n ≤ D.V.length) (hsh : shortD D 80000) (hn2 : n ≤ 4000) :
    Calls Tryz.prog 63 [.pointer (some ⟨x, 0, none⟩), .slice (some ⟨p, 0, none⟩) n c].toArray w (Ret fun v w' => v = .int .i64 (if (putW D (1 + G.at_) R).2 then 0 else 10) ∧ LgAt g x Y lo L (putW D (1 + G.at_) R).1 G w' ∧ LoL lo L w w') := by
  obtain ⟨hD, hx, hge, hni⟩ := h
  have hLL := LoL.refl lo L w
  have hxl := hx.lt
  have hpl := hD.lt p (List.mem_cons_of_mem _ hp)
  have hVn := (tOk hD).1.n
  obtain ⟨cc, si, sz, nu, at_, de⟩ := G
  dsimp only [lgV] at *
  refine calls_W (fn := Tryz.f63) (rs := [.tmp 4]) (n := 37) Tryz.func63 rfl rfl Tryz.ntmps63 (by kernel_rfl) rfl ?_
  refine W_seq ?_
  refine W_region ?_
  refine WR_val rfl (rn_assign) ?_
  refine WR_nil ?_
  refine thenN ?_
  refine W_seq ?_
  refine W_seq ?_
  refine W_region ?_
  refine WR_val rfl (rn_move) ?_
  refine WR_val rfl (rn_lenSl (e := 45) (sz := 128) (by kernel_rfl) rfl rfl) ?_
  refine WR_val rfl (rn_move) ?_
  refine WR_nil ?_
  refine thenN ?_
  refine W_block ?_
  refine W_loop (α := Nat) 0 (fun i => [(10, .int .i64 (i : Nat)), (9, .int .i64 (n : Int)), (8, .slice (some ⟨p, 0, none⟩) n c), (0, .pointer (some ⟨x, 0, none⟩))])
    (fun i w' => i ≤ n ∧ (writesW D (1 + at_) (R.take i)).2 = true ∧ LgAt g x Y lo L (writesW D (1 + at_) (R.take i)).1 ⟨cc, si, sz, nu, at_, de⟩ w' ∧ SlAt w' (some ⟨p, 0, none⟩) n 128 (bv R.flatten) ∧ LoL lo L w w') (fun i => n - i)
    ⟨rfl, rfl, rfl, rfl, rfl⟩ ⟨Nat.zero_le _, rfl, ⟨hD, hx, hge, hni⟩, hrow, hLL⟩ ?_
  clear hD hLL hx hrow
  rintro i f wr ⟨hi, hok, ⟨hD, hx, -, -⟩, hrow, hLL⟩
  dsimp only [lgV] at hx
  have hsz := hLL.size
  have hshi := writesW_short (R.take i) D (1 + at_) 80000 hsh
  have hlni := writesW_len (R.take i) D (1 + at_)
  rw [List.length_take] at hshi
  refine W_seq ?_
  refine W_region ?_
  refine WR_val rfl (rn_lss rfl rfl) ?_
  refine WR_nil ?_
  refine thenN ?_
  refine W_seq ?_
  refine W_ifp rfl (fun hlt => ?_) (fun hlt => ?_)
  ·
    refine W_skip ?_
    refine thenN ?_
    refine W_seq ?_
    refine W_block ?_
    refine W_seq ?_
    refine W_region ?_
    have hix : ∃ s, R[i]? = some s := ⟨_, List.getElem?_eq_getElem (by omega)⟩
    obtain ⟨s, hs⟩ := hix
    have htk : R.take (i + 1) = R.take i ++ [s] := by rw [List.take_add_one, hs]; rfl
    have hsn := writesW_snoc (R.take i) D (1 + at_) s hok
    rw [← htk, List.length_take, Nat.min_eq_left (by omega)] at hsn
    have hsl : s.length = 128 := hR s (List.mem_of_getElem? hs)
    refine WR_val rfl (rn_move) ?_
    refine WR_val rfl (rn_indexSl (e := 45) (sz := 128) (by kernel_rfl) rfl rfl (i) (by omega) (by omega)) ?_
    refine WR_val rfl (rn_load rfl (ld_sec hrow hR hs)) ?_
    refine WR_mk rfl (mk_alloc (List.replicate 128 (Value.int .u8 0)) (by kernel_rfl) (fun g6 w6 hg6 hr6 hb6 => ?_))
    have lt_x_g6 : x < g6 := Nat.lt_of_lt_of_le hx.lt hg6
    replace hD := hD.newc hb6 hg6 hr6.lt
    replace hx := hx.new hb6
    replace hrow := hrow.new hb6
    replace hLL := hLL.new hb6
    refine WR_val rfl (rn_assign) ?_
    refine WR_sk rfl (sk_storeA 128 (_) rfl rfl hr6 (by kernel_rfl) (by first | assumption | (simp; done) | (simp [bv_length, *]; done)) (by first | assumption | (simp; done) | (simp [bv_length, *]; done) | rfl) (by first | exact bv_one _ | assumption | (simp [Value.oneCell']; done)) (fun w901 hr6 ho901 => ?_))
    replace hD := hD.only ho901 (by first | (right; simp; done) | (left; omega))
    replace hx := hx.only ho901 (Nat.ne_of_lt lt_x_g6)
    replace hrow := hrow.only ho901 (by omega)
    replace hLL := hLL.only ho901 (by first | omega | (right; exact ⟨by omega, by assumption⟩))
    refine WR_nil ?_
    refine thenN ?_
    refine W_seq ?_
    refine W_drawL (lo) ((g6 :: x :: L)) (by kernel_rfl) ?_
    intro w902 hb902 hn902 hS902
    replace hD := hD.new hb902
    replace hx := hx.new hb902
    replace hrow := hrow.new hb902
    replace hLL := hLL.new hb902
    replace hr6 := hr6.new hb902
    have hD_d902 := hD
    have hx_d902 := hx
    have hrow_d902 := hrow
    have hLL_d902 := hLL
    have hr6_d902 := hr6
    refine WA_take 0 (by kernel_rfl) rfl (fun _ _ => rn_move) ?_
    refine WA_take 1 (by kernel_rfl) rfl (fun _ _ => rn_nilCheckP rfl) ?_
    refine WA_take 2 (by kernel_rfl) rfl (fun _ _ => rn_fieldAddr (off := 2) (by kernel_rfl) rfl) ?_
    refine WA_take 3 (by kernel_rfl) rfl (fun w' hS' => rn_load rfl (Ld.row1 (hx_d902.kpd hS' (by first | (simp; done) | (simp; omega) | (simp [*]; done) | exact notLL (Or.inl (by omega)) | exact notLL (Or.inr (by simp)) | exact fun g hm => Nat.le_trans (by omega) (inLL hm).1 | (intro b o e; cases e; exact notLL (Or.inl (by omega))) | (intro b hm; have := (hu.lt b (Option.mem_toList.1 hm)).1; omega) | (intro b o e; cases e; intro hm; have := (hu.lt _ (Option.mem_toList.1 hm)).1; omega))) (by kernel_rfl) rfl)) ?_
    refine WA_take 4 (by kernel_rfl) rfl (fun _ _ => rn_move) ?_
    refine WA_take 5 (by kernel_rfl) rfl (fun _ _ => rn_nilCheckP rfl) ?_
    refine WA_take 6 (by kernel_rfl) rfl (fun _ _ => rn_fieldAddr (off := 5) (by kernel_rfl) rfl) ?_
    refine WA_take 7 (by kernel_rfl) rfl (fun w' hS' => rn_load rfl (Ld.row1 (hx_d902.kpd hS' (by first | (simp; done) | (simp; omega) | (simp [*]; done) | exact notLL (Or.inl (by omega)) | exact notLL (Or.inr (by simp)) | exact fun g hm => Nat.le_trans (by omega) (inLL hm).1 | (intro b o e; cases e; exact notLL (Or.inl (by omega))) | (intro b hm; have := (hu.lt b (Option.mem_toList.1 hm)).1; omega) | (intro b o e; cases e; intro hm; have := (hu.lt _ (Option.mem_toList.1 hm)).1; omega))) (by kernel_rfl) rfl)) ?_
    refine WA_take 8 (by kernel_rfl) rfl (fun _ _ => rn_add rfl rfl (Coup.w64 (by omega))) ?_
    refine WA_take 9 (by kernel_rfl) rfl (fun _ _ => rn_move) ?_
    refine WA_take 10 (by kernel_rfl) rfl (fun _ _ => rn_add rfl rfl (Coup.w64 (by omega))) ?_
    refine WA_take 11 (by kernel_rfl) rfl (fun w' hS' => rn_load rfl (Ld.rowA (k := 128) (hr6_d902.kpd hS' (by first | (simp; done) | (simp; omega) | (simp [*]; done) | exact notLL (Or.inl (by omega)) | exact notLL (Or.inr (by simp)) | exact fun g hm => Nat.le_trans (by omega) (inLL hm).1 | (intro b o e; cases e; exact notLL (Or.inl (by omega))) | (intro b hm; have := (hu.lt b (Option.mem_toList.1 hm)).1; omega) | (intro b o e; cases e; intro hm; have := (hu.lt _ (Option.mem_toList.1 hm)).1; omega))) (by kernel_rfl) (by kernel_rfl) (by first | (simp; done) | (simp [bv_length, *]; done) | assumption))) ?_
    refine WA_one 12 (by kernel_rfl) ?_
    have hw := tWrite hD ((1 + (at_ : Int)) + (i : Int)) s hsl (short_of hshi (by omega))
    refine WO_ent rfl rfl (rn_call (by kernel_rfl) rfl) (hw) ?_
    rintro _ w27 ⟨rfl, hD, hb27⟩
    have hS903 := hS902.addLL hn902 hb27
    refine ⟨hS903, ?_⟩
    replace hx := hx.kpd hb27.kp (by first | (refine notLL ?_; left; omega) | (refine notLL ?_; right; simp; done) | (intro b o e; cases e; first | (refine notLL ?_; left; omega) | (refine notLL ?_; right; simp; done) | (refine notLL ?_; right; simp [*]; done)) | (intro b hb; refine notLL ?_; left; omega) | (intro b hb e; cases e; exact notLL (by right; simp [*]) hb))
    replace hrow := hrow.kpd hb27.kp (by first | (refine notLL ?_; left; omega) | (refine notLL ?_; right; simp; done) | (intro b o e; cases e; first | (refine notLL ?_; left; omega) | (refine notLL ?_; right; simp; done) | (refine notLL ?_; right; simp [*]; done)) | (intro b hb; refine notLL ?_; left; omega) | (intro b hb e; cases e; exact notLL (by right; simp [*]) hb))
    replace hLL := hLL.ll hb27 (by first | (intro b hb; exact hb) | (intro b hb; simp [hb]; done) | simp)
    replace hr6 := hr6.kpd hb27.kp (by first | (refine notLL ?_; left; omega) | (refine notLL ?_; right; simp; done) | (intro b o e; cases e; first | (refine notLL ?_; left; omega) | (refine notLL ?_; right; simp; done) | (refine notLL ?_; right; simp [*]; done)) | (intro b hb; refine notLL ?_; left; omega) | (intro b hb e; cases e; exact notLL (by right; simp [*]) hb))
    refine WA_take 13 (by kernel_rfl) rfl (fun _ _ => rn_assign) ?_
    refine WA_done (by kernel_rfl) ?_
    refine thenN ?_
    refine W_seq ?_
    refine W_region ?_
    have hin : inD (writesW D (1 + at_) (R.take i)).1 ((1 + (at_ : Int)) + (i : Int)) = true := decide_eq_true (by omega)
    have hcast : (1 + (at_ : Int)) + (i : Int) = ((1 + at_ + i : Nat) : Int) := by omega
    rw [writeE, hin, if_pos rfl]
    rw [hcast] at hD
    refine WR_val rfl (rn_move) ?_
    refine WR_val rfl (rn_neq rfl rfl) ?_
    refine WR_nil ?_
    refine thenN ?_
    refine W_ifp rfl (fun hne => ?_) (fun hne => ?_)
    ·
      refine W_seq ?_
      refine W_region ?_
      refine WR_val rfl (rn_move) ?_
      refine WR_val rfl (rn_assign) ?_
      refine WR_nil ?_
      refine thenN ?_
      refine W_ret ?_
      refine blockR ?_
      refine thenR ?_
      refine loopR ?_
      refine blockR ?_
      refine thenR ?_
      refine ret_ret [_] ⟨rfl, trivial⟩ ?_
      have hf : stepOk (writesW D (1 + at_) (R.take i)).1 = false := by cases hq : stepOk (writesW D (1 + at_) (R.take i)).1 with | false => rfl | true => simp [hq] at hne
      rw [hf] at hsn
      have hbd := writesW_bad (R.take (i + 1)) (R.drop (i + 1)) D (1 + at_) (by rw [hsn])
      rw [List.take_append_drop, hsn] at hbd
      rw [putW, hbd]
      exact ⟨by rw [hf]; rfl, ⟨hD.weak (fun b hb => List.mem_cons_of_mem _ hb), hx, hge, hni⟩, hLL⟩
    ·
      have hf : stepOk (writesW D (1 + at_) (R.take i)).1 = true := by cases hq : stepOk (writesW D (1 + at_) (R.take i)).1 with | true => rfl | false => simp [hq] at hne
      refine W_skip ?_
      refine blockN ?_
      refine thenN ?_
      refine W_region ?_
      refine WR_val rfl (rn_add rfl rfl (Coup.w64 (by omega))) ?_
      refine WR_val rfl (rn_move) ?_
      refine WR_nil ?_
      refine loopN ⟨i + 1, by omega, ⟨by go_num, rfl, rfl, rfl, rfl⟩, by omega, by rw [hsn]; exact hf, ?_, hrow, hLL⟩
      rw [hsn]
      exact ⟨hD.weak (fun b hb => List.mem_cons_of_mem _ hb), hx, hge, hni⟩
  ·
    have hin : i = n := by omega
    subst hin
    rw [List.take_of_length_le (by omega)] at hok hD hshi hlni
    refine W_exit ?_
    refine thenX ?_
    refine loopX ?_
    refine blockX ?_
    refine thenN ?_
    refine W_seq ?_
    refine W_region ?_
    refine WR_val rfl (rn_move) ?_
    refine WR_val rfl (rn_nilCheckP rfl) ?_
    refine WR_val rfl (rn_fieldAddr (off := 2) (by kernel_rfl) rfl) ?_
    refine WR_val rfl (rn_load rfl (Ld.row1 hx (by kernel_rfl) rfl)) ?_
    refine WR_ent rfl (rn_call (by kernel_rfl) rfl) (tFlush hD) ?_
    rintro _ w36 ⟨rfl, hD, hb36⟩
    replace hx := hx.kpd hb36.kp (by first | (refine notLL ?_; left; omega) | (refine notLL ?_; right; simp; done) | (intro b o e; cases e; first | (refine notLL ?_; left; omega) | (refine notLL ?_; right; simp; done) | (refine notLL ?_; right; simp [*]; done)) | (intro b hb; refine notLL ?_; left; omega) | (intro b hb e; cases e; exact notLL (by right; simp [*]) hb))
    replace hrow := hrow.kpd hb36.kp (by first | (refine notLL ?_; left; omega) | (refine notLL ?_; right; simp; done) | (intro b o e; cases e; first | (refine notLL ?_; left; omega) | (refine notLL ?_; right; simp; done) | (refine notLL ?_; right; simp [*]; done)) | (intro b hb; refine notLL ?_; left; omega) | (intro b hb e; cases e; exact notLL (by right; simp [*]) hb))
    replace hLL := hLL.ll hb36 (by first | (intro b hb; exact hb) | (intro b hb; simp [hb]; done) | simp)
    refine WR_val rfl (rn_assign) ?_
    refine WR_nil ?_
    refine thenN ?_
    refine W_ret ?_
    refine ret_ret [_] ⟨rfl, trivial⟩ ?_
    rw [putW, hok, if_pos rfl]
    exact ⟨rfl, ⟨hD, hx, hge, hni⟩, hLL⟩
def truncG (G : Lg) : Lg := { G with count := G.count + 1, since := G.count + 1, num := 0, at_ := 0 }
set_option maxRecDepth 20000 in
theorem trunc18 (h : LgAt g x Y lo L D G w) (hc : G.count ≤ 4611686018427387904) (hsh : shortD D 90000) :
    Calls Tryz.prog 29 [.pointer (some ⟨x, 0, none⟩)].toArray w (Ret fun v w' => ∃ e : Int, v = .int .i64 e ∧ LoL lo L w w' ∧
      ((G.dead = true ∧ e = 10 ∧ LgAt g x Y lo L D G w') ∨ (G.dead = false ∧ G.count = 4611686018427387904 ∧ e = 8 ∧ LgAt g x Y lo L D G w') ∨
        (G.dead = false ∧ G.count < 4611686018427387904 ∧ saveE D (G.count + 1) (G.count + 1) = false ∧ e = 10 ∧ LgAt g x Y lo L (saveD D (G.count + 1) (G.count + 1)) { G with dead := true } w') ∨
        (G.dead = false ∧ G.count < 4611686018427387904 ∧ saveE D (G.count + 1) (G.count + 1) = true ∧ e = 0 ∧ LgAt g x Y lo L (saveD D (G.count + 1) (G.count + 1)) (truncG G) w'))) := by
  have hLL := LoL.refl lo L w
  have hrd := ready45 h
  have hG := h
  have hxl := h.lt
  obtain ⟨dd, hdd⟩ : ∃ dd, G.dead = dd := ⟨_, rfl⟩
  rw [hdd] at hrd ⊢
  refine calls_W (fn := Tryz.f29) (rs := [.tmp 2]) (n := 33) Tryz.func29 rfl rfl Tryz.ntmps29 (by kernel_rfl) rfl ?_
  refine W_seq ?_
  refine W_region ?_
  refine WR_val rfl (rn_assign) ?_
  refine WR_nil ?_
  refine thenN ?_
  refine W_seq ?_
  refine W_seq ?_
  refine W_region ?_
  refine WR_val rfl (rn_move) ?_
  refine WR_ent rfl (rn_call (by kernel_rfl) rfl) (hrd) ?_
  rintro _ _ ⟨rfl, rfl⟩
  refine WR_val rfl (rn_assign) ?_
  refine WR_nil ?_
  refine thenN ?_
  refine W_seq ?_
  refine W_region ?_
  refine WR_val rfl (rn_move) ?_
  refine WR_val rfl (rn_neq rfl rfl) ?_
  refine WR_nil ?_
  refine thenN ?_
  refine W_ifp rfl (fun hne => ?_) (fun hne => ?_)
  ·
    refine W_seq ?_
    refine W_region ?_
    refine WR_val rfl (rn_move) ?_
    refine WR_val rfl (rn_assign) ?_
    refine WR_nil ?_
    refine thenN ?_
    refine W_ret ?_
    refine thenR ?_
    refine ret_ret [_] ⟨rfl, trivial⟩ ?_
    have hf : dd = true := by cases dd with | true => rfl | false => simp at hne
    subst hf
    exact ⟨_, rfl, hLL, .inl ⟨rfl, rfl, hG⟩⟩
  ·
    have hf : dd = false := by cases dd with | false => rfl | true => simp at hne
    subst hf
    refine W_skip ?_
    refine thenN ?_
    refine W_seq ?_
    refine W_seq ?_
    refine W_region ?_
    refine WR_val rfl (rn_move) ?_
    refine WR_val rfl (rn_nilCheckP rfl) ?_
    refine WR_val rfl (rn_fieldAddr (off := 0) (by kernel_rfl) rfl) ?_
    refine WR_val rfl (rn_fieldAddr (off := 0) (by kernel_rfl) rfl) ?_
    refine WR_val rfl (rn_load rfl ((Ld.row1 hG.rowx (by kernel_rfl) rfl))) ?_
    refine WR_val rfl (rn_eql rfl rfl) ?_
    refine WR_nil ?_
    refine thenN ?_
    refine W_ifp rfl (fun he => ?_) (fun he => ?_)
    ·
      refine W_seq ?_
      refine W_region ?_
      refine WR_val rfl (rn_assign) ?_
      refine WR_nil ?_
      refine thenN ?_
      refine W_ret ?_
      refine thenR ?_
      refine ret_ret [_] ⟨rfl, trivial⟩ ?_
      exact ⟨_, rfl, hLL, .inr (.inl ⟨rfl, by omega, rfl, hG⟩)⟩
    ·
      have hcl : G.count < 4611686018427387904 := by omega
      have hobt : ∃ ok, saveE D (G.count + 1) (G.count + 1) = ok := ⟨_, rfl⟩
      obtain ⟨ok, hok⟩ := hobt
      have hnx := next48 hG (G.count + 1) (by omega) (by omega) hsh
      rw [hok] at hnx ⊢
      refine W_skip ?_
      refine thenN ?_
      refine W_seq ?_
      refine W_seq ?_
      refine W_region ?_
      refine WR_val rfl (rn_move) ?_
      refine WR_val rfl (rn_move) ?_
      refine WR_val rfl (rn_nilCheckP rfl) ?_
      refine WR_val rfl (rn_fieldAddr (off := 0) (by kernel_rfl) rfl) ?_
      refine WR_val rfl (rn_fieldAddr (off := 0) (by kernel_rfl) rfl) ?_
      refine WR_val rfl (rn_load rfl ((Ld.row1 hG.rowx (by kernel_rfl) rfl))) ?_
      refine WR_val rfl (rn_add rfl rfl (wu64 (by omega))) ?_
      refine WR_ent rfl (rn_call (by kernel_rfl) rfl) (hnx) ?_
      rintro _ w23 ⟨rfl, hG, hb23⟩
      replace hLL := hLL.ll hb23 (by first | (intro b hb; exact hb) | (intro b hb; simp [hb]; done) | simp)
      refine WR_val rfl (rn_assign) ?_
      refine WR_nil ?_
      refine thenN ?_
      refine W_seq ?_
      refine W_region ?_
      refine WR_val rfl (rn_move) ?_
      refine WR_val rfl (rn_neq rfl rfl) ?_
      refine WR_nil ?_
      refine thenN ?_
      refine W_ifp rfl (fun hn2 => ?_) (fun hn2 => ?_)
      ·
        refine W_seq ?_
        refine W_region ?_
        refine WR_val rfl (rn_move) ?_
        refine WR_val rfl (rn_assign) ?_
        refine WR_nil ?_
        refine thenN ?_
        refine W_ret ?_
        refine thenR ?_
        refine ret_ret [_] ⟨rfl, trivial⟩ ?_
        have hf : ok = false := by cases ok with | false => rfl | true => simp at hn2
        subst hf
        exact ⟨_, rfl, hLL, .inr (.inr (.inl ⟨rfl, hcl, rfl, rfl, hG⟩))⟩
      ·
        have hf : ok = true := by cases ok with | true => rfl | false => simp at hn2
        subst hf
        obtain ⟨hD, hx, hge, hni⟩ := hG
        obtain ⟨c, si, sz, nu, at_, de⟩ := G
        dsimp only [lgV, nextG] at hx hdd
        subst hdd
        rw [if_pos rfl] at hx
        dsimp only at hx
        refine W_skip ?_
        refine thenN ?_
        refine W_seq ?_
        refine W_region ?_
        refine WR_val rfl (rn_move) ?_
        refine WR_val rfl (rn_move) ?_
        refine WR_val rfl (rn_nilCheckP rfl) ?_
        refine WR_val rfl (rn_fieldAddr (off := 4) (by kernel_rfl) rfl) ?_
        refine WR_sk rfl (sk_store1 rfl rfl rfl rfl hx (by kernel_rfl) (by first | (simp only [List.length_replicate]; omega) | (simp only [iv_length]; omega) | (simp only [bv_length, List.length_set]; omega) | simp) (fun w901 hx ho901 => ?_))
        replace hLL := hLL.only ho901 (by first | omega | (right; exact ⟨by omega, by assumption⟩))
        replace hD := hD.only ho901 (by first | (right; simp; done) | (left; omega))
        refine WR_val rfl (rn_nilCheckP rfl) ?_
        refine WR_val rfl (rn_fieldAddr (off := 5) (by kernel_rfl) rfl) ?_
        refine WR_sk rfl (sk_store1 rfl rfl rfl rfl hx (by kernel_rfl) (by first | (simp only [List.length_replicate]; omega) | (simp only [iv_length]; omega) | (simp only [bv_length, List.length_set]; omega) | simp) (fun w902 hx ho902 => ?_))
        replace hLL := hLL.only ho902 (by first | omega | (right; exact ⟨by omega, by assumption⟩))
        replace hD := hD.only ho902 (by first | (right; simp; done) | (left; omega))
        refine WR_nil ?_
        refine thenN ?_
        refine W_seq ?_
        refine W_region ?_
        refine WR_val rfl (rn_assign) ?_
        refine WR_nil ?_
        refine thenN ?_
        refine W_ret ?_
        refine ret_ret [_] ⟨rfl, trivial⟩ ?_
        exact ⟨_, rfl, hLL, .inr (.inr (.inr ⟨rfl, hcl, rfl, rfl, ⟨hD, hx, hge, hni⟩⟩))⟩
end
end Go.Proofs.YtkkgahgpemepeaaGreat
namespace Go.Proofs.YtkkgahgpemepeaaGreat
open Go Go.RowKit Coup
structure LgOk (D : Dk) (G : Lg) : Prop where
  s1 : 1 ≤ G.since
  sc : G.since ≤ G.count
  cm : G.count ≤ 4611686018427387904
  sz4 : 4 ≤ G.size
  szm : G.size ≤ 4000
  at_ : G.at_ ≤ G.size
  num : G.num ≤ G.at_
  fit : 1 + G.size ≤ D.V.length
def rowW (G : Lg) (R : Rec) : List Sec := secsOf (rowB G.count G.num (recB R)) (needN (516 * R.length))
theorem rowW_len (G : Lg) (R : Rec) : (rowW G R).length = needN (516 * R.length) := secsOf_len _ _
theorem rowW_flat (G : Lg) {R : Rec} (h : chsOk R) : (rowW G R).flatten = rowB G.count G.num (recB R) ∧ secsOk (rowW G R) := by
  have hl := rowB_len G.count G.num (recB R)
  rw [recB_len h] at hl
  refine ⟨?_, secsOf_ok hl⟩
  rw [rowW, secsOf_flat, ← hl, List.take_length]
def commitR (D : Dk) (G : Lg) (R : Rec) : Int × Dk × Lg :=
  if G.dead then (10, D, G) else if mayR R = false then (2, D, G) else if G.size < G.at_ + (rowW G R).length then (8, D, G)
  else if (putW D (1 + G.at_) (rowW G R)).2 then (0, (putW D (1 + G.at_) (rowW G R)).1, { G with at_ := G.at_ + (rowW G R).length, num := G.num + 1 }) else (10, (putW D (1 + G.at_) (rowW G R)).1, { G with dead := true })
section
variable {Y : World → List Nat → Prop} [Thing Y] {g x lo : Nat} {L : List Nat} {D : Dk} {G : Lg} {w : World}
set_option maxRecDepth 20000 in
omit [Thing Y] in
theorem commit_dead (h : LgAt g x Y lo L D G w) (hd : G.dead = true) (R : Rec) (p : Option Addr) (n cp : Nat) :
    Calls Tryz.prog 33 [.pointer (some ⟨x, 0, none⟩), .slice p n cp].toArray w (Ret fun v w' => v = .int .i64 (commitR D G R).1 ∧ LgAt g x Y lo L (commitR D G R).2.1 (commitR D G R).2.2 w' ∧ LoL lo L w w') := by
  have hLL := LoL.refl lo L w
  have hrd := ready45 h
  have hG := h
  rw [hd] at hrd
  rw [commitR, hd, if_pos rfl]
  refine calls_W (fn := Tryz.f33) (rs := [.tmp 4]) (n := 72) Tryz.func33 rfl rfl Tryz.ntmps33 (by kernel_rfl) rfl ?_
  refine W_seq ?_
  refine W_region ?_
  refine WR_val rfl (rn_assign) ?_
  refine WR_nil ?_
  refine thenN ?_
  refine W_seq ?_
  refine W_seq ?_
  refine W_region ?_
  refine WR_val rfl (rn_move) ?_
  refine WR_ent rfl (rn_call (by kernel_rfl) rfl) (hrd) ?_
  rintro _ _ ⟨rfl, rfl⟩
  refine WR_val rfl (rn_assign) ?_
  refine WR_nil ?_
  refine thenN ?_
  refine W_seq ?_
  refine W_region ?_
  refine WR_val rfl (rn_move) ?_
  refine WR_val rfl (rn_neq rfl rfl) ?_
  refine WR_nil ?_
  refine thenN ?_
  refine W_tp rfl ((by simp)) ?_
  refine W_seq ?_
  refine W_region ?_
  refine WR_val rfl (rn_move) ?_
  refine WR_val rfl (rn_assign) ?_
  refine WR_nil ?_
  refine thenN ?_
  refine W_ret ?_
  refine thenR ?_
  refine ret_ret [_] ⟨rfl, trivial⟩ ?_
  exact ⟨rfl, hG, hLL⟩
set_option maxRecDepth 20000 in
theorem commit_no (h : LgAt g x Y lo L D G w) (hd : G.dead = false) (R : Rec) (hR : chsOk R) (hm : mayR R = false) (p : Option Addr) (n cp : Nat) (hs : SlAt w p n 513 (chsV R)) (hn : R.length = n) (hn2 : n ≤ 1000000) :
    Calls Tryz.prog 33 [.pointer (some ⟨x, 0, none⟩), .slice p n cp].toArray w (Ret fun v w' => v = .int .i64 (commitR D G R).1 ∧ LgAt g x Y lo L (commitR D G R).2.1 (commitR D G R).2.2 w' ∧ LoL lo L w w') := by
  have hLL := LoL.refl lo L w
  have hrd := ready45 h
  have hG := h
  have hby := (bytes9 R hR p n cp w hs hn hn2).to fun v w' (h : ((mayR R = true ∧ ∃ g o c, v = .tuple #[.slice (some ⟨g, o, none⟩) (516 * n) c, .int .i64 0] ∧ w.heap.size ≤ g ∧ 516 * n ≤ c ∧ SlAt w' (some ⟨g, o, none⟩) (516 * n) 1 (bv (recB R))) ∨ (mayR R = false ∧ v = .tuple #[.slice none 0 0, .int .i64 2])) ∧ Below w.heap.size w w') => (show v = .tuple #[.slice none 0 0, .int .i64 2] ∧ Below w.heap.size w w' from ⟨h.1.elim (fun h => by rw [hm] at h; cases h.1) fun h => h.2, h.2⟩)
  rw [hd] at hrd
  rw [commitR, hd, if_neg (by simp), if_pos hm]
  refine calls_W (fn := Tryz.f33) (rs := [.tmp 4]) (n := 72) Tryz.func33 rfl rfl Tryz.ntmps33 (by kernel_rfl) rfl ?_
  refine W_seq ?_
  refine W_region ?_
  refine WR_val rfl (rn_assign) ?_
  refine WR_nil ?_
  refine thenN ?_
  refine W_seq ?_
  refine W_seq ?_
  refine W_region ?_
  refine WR_val rfl (rn_move) ?_
  refine WR_ent rfl (rn_call (by kernel_rfl) rfl) (hrd) ?_
  rintro _ _ ⟨rfl, rfl⟩
  refine WR_val rfl (rn_assign) ?_
  refine WR_nil ?_
  refine thenN ?_
  refine W_seq ?_
  refine W_region ?_
  refine WR_val rfl (rn_move) ?_
  refine WR_val rfl (rn_neq rfl rfl) ?_
  refine WR_nil ?_
  refine thenN ?_
  refine W_fp rfl ((by simp)) ?_
  refine W_skip ?_
  refine thenN ?_
  refine W_seq ?_
  refine W_region ?_
  refine WR_val rfl (rn_move) ?_
  refine WR_ent rfl (rn_call (by kernel_rfl) rfl) (hby) ?_
  rintro _ w18 ⟨rfl, hb18⟩
  replace hG := hG.new hb18
  replace hLL := hLL.new hb18
  refine WR_val rfl (rn_move) ?_
  refine WR_val rfl (rn_extract rfl rfl) ?_
  refine WR_val rfl (rn_extract rfl rfl) ?_
  refine WR_val rfl (rn_assign) ?_
  refine WR_val rfl (rn_assign) ?_
  refine WR_nil ?_
  refine thenN ?_
  refine W_seq ?_
  refine W_block ?_
  refine W_seq ?_
  refine W_region ?_
  refine WR_val rfl (rn_move) ?_
  refine WR_val rfl (rn_neq rfl rfl) ?_
  refine WR_val rfl (rn_assign) ?_
  refine WR_nil ?_
  refine thenN ?_
  refine W_tp rfl ((by simp)) ?_
  refine W_seq ?_
  refine W_region ?_
  refine WR_val rfl (rn_move) ?_
  refine WR_val rfl (rn_assign) ?_
  refine WR_nil ?_
  refine thenN ?_
  refine W_ret ?_
  refine blockR ?_
  refine thenR ?_
  refine ret_ret [_] ⟨rfl, trivial⟩ ?_
  exact ⟨rfl, hG, hLL⟩
set_option maxRecDepth 20000 in
set_option maxHeartbeats 1000000 in
theorem commit_yes (h : LgAt g x Y lo L D G w) (hok : LgOk D G) (hsh : shortD D 80000) (hd : G.dead = false) (R : Rec) (hR : chsOk R) (hm : mayR R = true) (p : Option Addr) (n cp : Nat) (hs : SlAt w p n 513 (chsV R)) (hn : R.length = n) (hn2 : n ≤ 1000000) :
    Calls Tryz.prog 33 [.pointer (some ⟨x, 0, none⟩), .slice p n cp].toArray w (Ret fun v w' => v = .int .i64 (commitR D G R).1 ∧ LgAt g x Y lo L (commitR D G R).2.1 (commitR D G R).2.2 w' ∧ LoL lo L w w') := by
  have hLL := LoL.refl lo L w
  have hrd := ready45 h
  have hG := h
  have hby := (bytes9 R hR p n cp w hs hn hn2).to fun v w' (h : ((mayR R = true ∧ ∃ g o c, v = .tuple #[.slice (some ⟨g, o, none⟩) (516 * n) c, .int .i64 0] ∧ w.heap.size ≤ g ∧ 516 * n ≤ c ∧ SlAt w' (some ⟨g, o, none⟩) (516 * n) 1 (bv (recB R))) ∨ (mayR R = false ∧ v = .tuple #[.slice none 0 0, .int .i64 2])) ∧ Below w.heap.size w w') => (show ∃ g o c, v = .tuple #[.slice (some ⟨g, o, none⟩) (516 * n) c, .int .i64 0] ∧ w.heap.size ≤ g ∧ SlAt w' (some ⟨g, o, none⟩) (516 * n) 1 (bv (recB R)) ∧ Below w.heap.size w w' from h.1.elim (fun ⟨_, g, o, c, h1, h2, _, h3⟩ => ⟨g, o, c, h1, h2, h3, h.2⟩) fun h => by rw [hm] at h; cases h.1)
  rw [hd] at hrd
  have hn60 : 1 ≤ n ∧ n ≤ 60 := by
    have := of_decide_eq_true (Bool.and_eq_true_iff.1 hm).1
    rwa [hn] at this
  have hnw := (needW_pos hn60).1
  have hnd := (needW_pos hn60).2
  have hlen := rowW_len G R
  obtain ⟨hfl, hso⟩ := rowW_flat G hR
  have hrl := rowB_len G.count G.num (recB R)
  rw [recB_len hR, hn] at hrl
  rw [hn] at hlen
  have hN : needN (516 * n) ≤ 1000 := by unfold needN manyN; omega
  have hmt : mayT (G.count : Int) (G.num : Int) = true := by
    have h1 := hok.s1
    have h2 := hok.sc
    have h3 := hok.cm
    have h4 := hok.szm
    have h5 := hok.at_
    have h6 := hok.num
    unfold mayT
    rw [decide_eq_true (by omega), decide_eq_true (by unfold maxCount; omega), decide_eq_true (by omega), decide_eq_true (by omega)]; rfl
  have hfit := hok.fit
  have hat := hok.at_
  have hszm := hok.szm
  have hnum := hok.num
  rw [commitR, hd, if_neg (by simp), if_neg (by rw [hm]; simp), hlen]
  generalize rowW G R = RW at *
  generalize hNe : needN (516 * n) = N at *
  obtain ⟨pw, hpw⟩ : ∃ pw, putW D (1 + G.at_) RW = pw := ⟨_, rfl⟩
  rw [hpw]
  obtain ⟨D2, ok⟩ := pw
  refine calls_W (fn := Tryz.f33) (rs := [.tmp 4]) (n := 72) Tryz.func33 rfl rfl Tryz.ntmps33 (by kernel_rfl) rfl ?_
  refine W_seq ?_
  refine W_region ?_
  refine WR_val rfl (rn_assign) ?_
  refine WR_nil ?_
  refine thenN ?_
  refine W_seq ?_
  refine W_seq ?_
  refine W_region ?_
  refine WR_val rfl (rn_move) ?_
  refine WR_ent rfl (rn_call (by kernel_rfl) rfl) (hrd) ?_
  rintro _ _ ⟨rfl, rfl⟩
  refine WR_val rfl (rn_assign) ?_
  refine WR_nil ?_
  refine thenN ?_
  refine W_seq ?_
  refine W_region ?_
  refine WR_val rfl (rn_move) ?_
  refine WR_val rfl (rn_neq rfl rfl) ?_
  refine WR_nil ?_
  refine thenN ?_
  refine W_fp rfl ((by simp)) ?_
  refine W_skip ?_
  refine thenN ?_
  refine W_seq ?_
  refine W_region ?_
  refine WR_val rfl (rn_move) ?_
  refine WR_ent rfl (rn_call (by kernel_rfl) rfl) (hby) ?_
  rintro _ w18 ⟨gb, ob, cb, rfl, hgb, hbs, hb18⟩
  replace hG := hG.new hb18
  replace hLL := hLL.new hb18
  refine WR_val rfl (rn_move) ?_
  refine WR_val rfl (rn_extract rfl rfl) ?_
  refine WR_val rfl (rn_extract rfl rfl) ?_
  refine WR_val rfl (rn_assign) ?_
  refine WR_val rfl (rn_assign) ?_
  refine WR_nil ?_
  refine thenN ?_
  refine W_seq ?_
  refine W_block ?_
  refine W_seq ?_
  refine W_region ?_
  refine WR_val rfl (rn_move) ?_
  refine WR_val rfl (rn_neq rfl rfl) ?_
  refine WR_val rfl (rn_assign) ?_
  refine WR_nil ?_
  refine thenN ?_
  refine W_fp rfl ((by simp)) ?_
  refine W_seq ?_
  refine W_region ?_
  refine WR_val rfl (rn_move) ?_
  refine WR_val rfl (rn_lenSl (e := 112) (sz := 513) (by kernel_rfl) rfl rfl) ?_
  refine WR_ent rfl (rn_call (by kernel_rfl) rfl) (need10 n w18) ?_
  rintro _ _ ⟨rfl, rfl⟩
  refine WR_val rfl (rn_move) ?_
  refine WR_ent rfl (rn_call (by kernel_rfl) rfl) (room19 hG hat hszm) ?_
  rintro _ w30 ⟨rfl, hb30⟩
  replace hG := hG.new hb30
  replace hLL := hLL.new hb30
  replace hbs := hbs.new hb30
  rw [hnw]
  refine WR_val rfl (rn_gtr rfl rfl) ?_
  refine WR_val rfl (rn_assign) ?_
  refine WR_nil ?_
  refine thenN ?_
  refine W_ifp rfl (fun hgt => ?_) (fun hgt => ?_)
  ·
    refine W_seq ?_
    refine W_region ?_
    refine WR_val rfl (rn_assign) ?_
    refine WR_nil ?_
    refine thenN ?_
    refine W_ret ?_
    refine blockR ?_
    refine thenR ?_
    refine ret_ret [_] ⟨rfl, trivial⟩ ?_
    have hlt : G.size < G.at_ + N := by omega
    rw [if_pos hlt]
    exact ⟨rfl, hG, hLL⟩
  ·
    have hlt : ¬ G.size < G.at_ + N := by omega
    rw [if_neg hlt]
    refine W_skip ?_
    refine blockN ?_
    refine thenN ?_
    refine W_seq ?_
    refine W_draw' [] (by kernel_rfl) ?_
    intro w901 hb901 hS901
    replace hG := hG.new hb901
    replace hLL := hLL.new hb901
    replace hbs := hbs.new hb901
    have hG_d901 := hG
    have hLL_d901 := hLL
    have hbs_d901 := hbs
    refine WA_take 0 (by kernel_rfl) rfl (fun _ _ => rn_move) ?_
    refine WA_take 1 (by kernel_rfl) rfl (fun _ _ => rn_nilCheckP rfl) ?_
    refine WA_take 2 (by kernel_rfl) rfl (fun _ _ => rn_fieldAddr (off := 0) (by kernel_rfl) rfl) ?_
    refine WA_take 3 (by kernel_rfl) rfl (fun _ _ => rn_fieldAddr (off := 0) (by kernel_rfl) rfl) ?_
    refine WA_take 4 (by kernel_rfl) rfl (fun w' hS' => rn_load rfl ((Ld.row1 (hG_d901.kpd hS' (by first | (simp; done) | (simp; omega) | (simp [*]; done) | exact notLL (Or.inl (by omega)) | exact notLL (Or.inr (by simp)) | exact fun g hm => Nat.le_trans (by omega) (inLL hm).1 | (intro b o e; cases e; exact notLL (Or.inl (by omega))) | (intro b hm; have := (hu.lt b (Option.mem_toList.1 hm)).1; omega) | (intro b o e; cases e; intro hm; have := (hu.lt _ (Option.mem_toList.1 hm)).1; omega))).rowx (by kernel_rfl) rfl))) ?_
    refine WA_take 5 (by kernel_rfl) rfl (fun _ _ => rn_move) ?_
    refine WA_take 6 (by kernel_rfl) rfl (fun _ _ => rn_nilCheckP rfl) ?_
    refine WA_take 7 (by kernel_rfl) rfl (fun _ _ => rn_fieldAddr (off := 4) (by kernel_rfl) rfl) ?_
    refine WA_take 8 (by kernel_rfl) rfl (fun w' hS' => rn_load rfl ((Ld.row1 (hG_d901.kpd hS' (by first | (simp; done) | (simp; omega) | (simp [*]; done) | exact notLL (Or.inl (by omega)) | exact notLL (Or.inr (by simp)) | exact fun g hm => Nat.le_trans (by omega) (inLL hm).1 | (intro b o e; cases e; exact notLL (Or.inl (by omega))) | (intro b hm; have := (hu.lt b (Option.mem_toList.1 hm)).1; omega) | (intro b o e; cases e; intro hm; have := (hu.lt _ (Option.mem_toList.1 hm)).1; omega))).rowx (by kernel_rfl) rfl))) ?_
    refine WA_take 9 (by kernel_rfl) rfl (fun _ _ => rn_pair (k0 := .u64) (k1 := .i64) (by kernel_rfl) (by kernel_rfl) rfl rfl) ?_
    refine WA_take 10 (by kernel_rfl) rfl (fun _ _ => rn_move) ?_
    refine WA_one 11 (by kernel_rfl) ?_
    have hsp := split_yes G.count G.num hmt (recB R) _ (516 * n) cb w901 hbs (by omega)
    rw [hNe] at hsp
    refine WO_ent rfl rfl (rn_call (by kernel_rfl) rfl) (hsp) ?_
    rintro _ w44 ⟨gq, rfl, hgq, hrq, hb44⟩
    replace hG := hG.newc hb44 hgq hrq.lt
    have hS902 := hS901.add0 hb44
    refine ⟨hS902, ?_⟩
    replace hLL := hLL.new hb44
    refine WA_take 12 (by kernel_rfl) rfl (fun _ _ => rn_move) ?_
    refine WA_take 13 (by kernel_rfl) rfl (fun _ _ => rn_extract rfl rfl) ?_
    refine WA_take 14 (by kernel_rfl) rfl (fun _ _ => rn_extract rfl rfl) ?_
    refine WA_take 15 (by kernel_rfl) rfl (fun _ _ => rn_assign) ?_
    refine WA_take 16 (by kernel_rfl) rfl (fun _ _ => rn_assign) ?_
    refine WA_done (by kernel_rfl) ?_
    refine thenN ?_
    refine W_seq ?_
    refine W_seq ?_
    refine W_region ?_
    refine WR_val rfl (rn_move) ?_
    refine WR_val rfl (rn_move) ?_
    have hrs := hrq.slA (m := N) (sz := 128) (by rw [bv_length, hrl]; omega) (by unfold maxLen; omega)
    rw [← hfl] at hrs
    have hwr := write47 hG RW hso gq N N (List.mem_cons_self ..) hlen hrs (by omega) hsh (by omega)
    rw [hpw] at hwr
    clear hrl hNe hnw
    refine WR_ent rfl (rn_call (by kernel_rfl) rfl) (hwr) ?_
    rintro _ w49 ⟨rfl, hG, hb49⟩
    replace hLL := hLL.ll hb49 (by first | (intro b hb; exact hb) | (intro b hb; simp [hb]; done) | simp)
    refine WR_val rfl (rn_assign) ?_
    refine WR_nil ?_
    refine thenN ?_
    refine W_seq ?_
    refine W_region ?_
    obtain ⟨hD, hx, hge, hni⟩ := hG
    obtain ⟨c, si, sz, nu, at_, de⟩ := G
    dsimp only [lgV] at hx hd hnum hat hszm hfit
    subst hd
    replace hD := hD.weak (L2 := x :: L) (fun b hb => (List.mem_cons.1 hb).elim (fun e => e ▸ List.mem_cons_self ..) fun hm => List.mem_cons_of_mem _ (List.mem_cons_of_mem _ hm))
    replace hni : x ∉ L := fun hm => hni (List.mem_cons_of_mem _ hm)
    refine WR_val rfl (rn_move) ?_
    refine WR_val rfl (rn_neq rfl rfl) ?_
    refine WR_nil ?_
    refine thenN ?_
    refine W_ifp rfl (fun hne => ?_) (fun hne => ?_)
    ·
      refine W_seq ?_
      refine W_region ?_
      refine WR_val rfl (rn_move) ?_
      refine WR_val rfl (rn_nilCheckP rfl) ?_
      refine WR_val rfl (rn_fieldAddr (off := 6) (by kernel_rfl) rfl) ?_
      refine WR_sk rfl (sk_store1 rfl rfl rfl rfl hx (by kernel_rfl) (by first | (simp only [List.length_replicate]; omega) | (simp only [iv_length]; omega) | (simp only [bv_length, List.length_set]; omega) | simp) (fun w903 hx ho903 => ?_))
      replace hLL := hLL.only ho903 (by first | omega | (right; exact ⟨by omega, by assumption⟩))
      replace hD := hD.only ho903 (by first | (right; simp; done) | (left; omega))
      refine WR_nil ?_
      refine thenN ?_
      refine W_seq ?_
      refine W_region ?_
      refine WR_val rfl (rn_move) ?_
      refine WR_val rfl (rn_assign) ?_
      refine WR_nil ?_
      refine thenN ?_
      refine W_ret ?_
      refine thenR ?_
      refine ret_ret [_] ⟨rfl, trivial⟩ ?_
      have hf : ok = false := by cases ok with | false => rfl | true => simp at hne
      subst hf
      exact ⟨rfl, ⟨hD, hx, hge, hni⟩, hLL⟩
    ·
      have hf : ok = true := by cases ok with | true => rfl | false => simp at hne
      subst hf
      refine W_skip ?_
      refine thenN ?_
      refine W_seq ?_
      refine W_region ?_
      refine WR_val rfl (rn_move) ?_
      refine WR_val rfl (rn_nilCheckP rfl) ?_
      refine WR_val rfl (rn_fieldAddr (off := 5) (by kernel_rfl) rfl) ?_
      refine WR_val rfl (rn_load rfl (Ld.row1 hx (by kernel_rfl) rfl)) ?_
      refine WR_val rfl (rn_move) ?_
      refine WR_val rfl (rn_lenSl (e := 45) (sz := 128) (by kernel_rfl) rfl rfl) ?_
      refine WR_val rfl (rn_add rfl rfl (Coup.w64 (by omega))) ?_
      refine WR_val rfl (rn_nilCheckP rfl) ?_
      refine WR_val rfl (rn_fieldAddr (off := 5) (by kernel_rfl) rfl) ?_
      refine WR_sk rfl (sk_store1 rfl rfl rfl rfl hx (by kernel_rfl) (by first | (simp only [List.length_replicate]; omega) | (simp only [iv_length]; omega) | (simp only [bv_length, List.length_set]; omega) | simp) (fun w904 hx ho904 => ?_))
      replace hLL := hLL.only ho904 (by first | omega | (right; exact ⟨by omega, by assumption⟩))
      replace hD := hD.only ho904 (by first | (right; simp; done) | (left; omega))
      refine WR_nil ?_
      refine thenN ?_
      refine W_seq ?_
      refine W_region ?_
      have hx2 : row w904 x [.int .u64 (c : Int), .int .u64 (si : Int), .pointer (some ⟨g, 0, none⟩), .int .i64 (sz : Int), .int .i64 (nu : Int), .int .i64 ((at_ : Int) + (N : Int)), .bool false] 81 := hx
      replace hx := hx2
      clear hx2
      refine WR_val rfl (rn_move) ?_
      refine WR_val rfl (rn_nilCheckP rfl) ?_
      refine WR_val rfl (rn_fieldAddr (off := 4) (by kernel_rfl) rfl) ?_
      refine WR_val rfl (rn_load rfl (Ld.row1 hx (by kernel_rfl) rfl)) ?_
      refine WR_val rfl (rn_add rfl rfl (Coup.w64 (by omega))) ?_
      refine WR_val rfl (rn_nilCheckP rfl) ?_
      refine WR_val rfl (rn_fieldAddr (off := 4) (by kernel_rfl) rfl) ?_
      refine WR_sk rfl (sk_store1 rfl rfl rfl rfl hx (by kernel_rfl) (by first | (simp only [List.length_replicate]; omega) | (simp only [iv_length]; omega) | (simp only [bv_length, List.length_set]; omega) | simp) (fun w905 hx ho905 => ?_))
      replace hLL := hLL.only ho905 (by first | omega | (right; exact ⟨by omega, by assumption⟩))
      replace hD := hD.only ho905 (by first | (right; simp; done) | (left; omega))
      refine WR_nil ?_
      refine thenN ?_
      refine W_seq ?_
      refine W_region ?_
      refine WR_val rfl (rn_assign) ?_
      refine WR_nil ?_
      refine thenN ?_
      refine W_ret ?_
      refine ret_ret [_] ⟨rfl, trivial⟩ ?_
      exact ⟨rfl, ⟨hD, hx, hge, hni⟩, hLL⟩
theorem commit17 (h : LgAt g x Y lo L D G w) (hok : LgOk D G) (hsh : shortD D 80000) (R : Rec) (hR : chsOk R) (p : Option Addr) (n cp : Nat) (hs : SlAt w p n 513 (chsV R)) (hn : R.length = n) (hn2 : n ≤ 1000000) :
    Calls Tryz.prog 33 [.pointer (some ⟨x, 0, none⟩), .slice p n cp].toArray w (Ret fun v w' => v = .int .i64 (commitR D G R).1 ∧ LgAt g x Y lo L (commitR D G R).2.1 (commitR D G R).2.2 w' ∧ LoL lo L w w') := by
  cases hd : G.dead with
  | true => exact commit_dead h hd R p n cp
  | false =>
    cases hm : mayR R with
    | true => exact commit_yes h hok hsh hd R hR hm p n cp hs hn hn2
    | false => exact commit_no h hd R hR hm p n cp hs hn hn2
end
end Go.Proofs.YtkkgahgpemepeaaGreat
