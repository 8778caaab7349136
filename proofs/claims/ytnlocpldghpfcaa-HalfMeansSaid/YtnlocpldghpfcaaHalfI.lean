/- The row that sectors begin with, as the code tells it; a torn sector. -/
import Derived.Test.YtnlocpldghpfcaaHalfH
namespace Go.Proofs.Ytnlocpldghpfcaa
open Go Go.RowKit Coup

theorem half32r (p : Option Addr) (n c : Nat) (l : List UInt8) (i : Nat) (w : World) (h : SlAt w p n 128 (bv l)) (hi : i / 2 < n) (hn : n ≤ 1000000) :
    Calls Try.prog 32 [.slice p n c, .int .i64 i].toArray w (Ret fun v w' => v = .agg (bv (halfAt l i)).toArray ∧ Below w.heap.size w w') := calls_ret (half32 p n c l i w h hi hn)
theorem read31r (hb : List UInt8) (hl : hb.length = 64) (b : Bool) (hm : mayT (hCount hb) (hNum hb) = b) (w : World) :
    Calls Try.prog 31 [.agg (bv hb).toArray].toArray w (Ret fun v w' => v = .tuple #[.agg (pieceL (hCount hb) (hNum hb) (hPlace hb) (hMany hb) (hBody hb)).toArray, .bool b] ∧ Below w.heap.size w w') := by
  have := calls_ret (read31 hb hl w)
  rwa [hm] at this
theorem none30r (w : World) : Calls Try.prog 30 [].toArray w (Ret fun v w' => v = noneV ∧ Below w.heap.size w w') := calls_ret (none30 w)
theorem number33r (p : Option Addr) (n c : Nat) (l : List UInt8) (w : World) (h : SlAt w p n 1 (bv l)) (hn : n ≤ 8) : Calls Try.prog 33 [.slice p n c].toArray w (Ret fun v w' => v = .int .u64 (numB l) ∧ w = w') := calls_ret (number33 p n c l w h hn)

/-- A half is the i-th of so many, of that tag. -/
def goodH (h : List UInt8) (c nn i m : Nat) : Bool := mayT (hCount h) (hNum h) && decide (hCount h = c ∧ hNum h = nn) && decide (hPlace h = i) && decide (hMany h = m)
/-- What stands in the first halves, behind what stands ahead. -/
def bodies (l : List UInt8) (m : Nat) : List UInt8 := (List.range m).flatMap fun i => hBody (halfAt l i)
theorem bodies_succ (l : List UInt8) (m : Nat) : bodies l (m + 1) = bodies l m ++ hBody (halfAt l m) := by simp [bodies, List.range_succ]
theorem bodies_length (l : List UInt8) : ∀ m, 64 * m ≤ l.length → (bodies l m).length = 48 * m
  | 0, _ => rfl
  | m + 1, h => by rw [bodies_succ, List.length_append, bodies_length l m (by omega), hBody, List.length_drop, halfAt_length _ _ (by omega)]; omega
def joinK (l : List UInt8) (m : Nat) : Nat := numB ((bodies l m).take 4)
def joinOk (l : List UInt8) (c nn m : Nat) : Bool :=
  (List.range m).all (fun i => goodH (halfAt l i) c nn i m) && decide (joinK l m ≤ 32768) && decide (manyN (joinK l m) = m) && ((bodies l m).drop (4 + joinK l m)).all (· == 0)
/-- The first half may begin a row. -/
def joinMay (l : List UInt8) (n c nn m : Nat) : Bool := mayT c nn && decide (1 ≤ m) && decide (m ≤ 683) && decide ((m + 1) / 2 ≤ n)
def joinIs (l : List UInt8) (n : Nat) : Bool :=
  decide (0 < n) && joinMay l n (hCount (halfAt l 0)) (hNum (halfAt l 0)) (hMany (halfAt l 0)) && joinOk l (hCount (halfAt l 0)) (hNum (halfAt l 0)) (hMany (halfAt l 0))
def joinB (l : List UInt8) : List UInt8 := ((bodies l (hMany (halfAt l 0))).drop 4).take (joinK l (hMany (halfAt l 0)))
/-- What is answered. -/
def JR (l : List UInt8) (n : Nat) (w : World) (v : Value) (w' : World) : Prop :=
  Below w.heap.size w w' ∧ ((joinIs l n = false ∧ v = noneV) ∨ (joinIs l n = true ∧ ∃ sp, v = .tuple #[.agg #[.int .u64 (hCount (halfAt l 0)), .int .i64 (hNum (halfAt l 0))], .slice sp (joinB l).length (joinB l).length, .int .i64 (needN (joinB l).length : Nat), .int .i64 0] ∧
    SlAt w' sp (joinB l).length 1 (bv (joinB l))))
theorem joinK_lt (l : List UInt8) (m : Nat) : joinK l m < 4294967296 := numB_lt_of _ 4 (by simp; omega)
theorem bv_one48 (b : List UInt8) : ∀ v ∈ bv b, v.oneCell' = true := bv_one b

theorem join0 (p : Option Addr) (cp : Nat) (l : List UInt8) (w : World) : Calls Try.prog 17 [.slice p 0 cp].toArray w (Ret fun v w' => JR l 0 w v w') := by
  have hB := Below.refl w.heap.size w
  have hJ : joinIs l 0 = false := by simp [joinIs]
  refine calls_W (fn := Try.f17) (rs := [.cell 2 24, .tmp 3, .tmp 4, .tmp 5]) (n := 152) Try.func17 rfl rfl Try.ntmps17 (by kernel_rfl) rfl ?_
  refine W_seq ?_
  refine W_region ?_
  refine WR_mk rfl (mk_alloc ([.int .u64 0, .int .i64 0]) (by kernel_rfl) (fun g2 w2 hg2 hr2 hb2 => ?_))
  have ge_hB_g2 := Nat.le_trans hB.size hg2
  replace hB := hB.acc hb2
  refine WR_val rfl (rn_assign) ?_
  refine WR_val rfl (rn_assign) ?_
  refine WR_val rfl (rn_assign) ?_
  refine WR_nil ?_
  refine thenN ?_
  refine W_seq ?_
  refine W_region ?_
  refine WR_val rfl (rn_assign) ?_
  refine WR_nil ?_
  refine thenN ?_
  refine W_seq ?_
  refine W_seq ?_
  refine W_region ?_
  refine WR_val rfl (rn_move) ?_
  refine WR_val rfl (rn_lenSl (e := 48) (sz := 128) (by kernel_rfl) rfl rfl) ?_
  refine WR_val rfl (rn_eql rfl rfl) ?_
  refine WR_nil ?_
  refine thenN ?_
  refine W_tp rfl (rfl) ?_
  refine W_seq ?_
  refine W_region ?_
  refine WR_val rfl (rn_move) ?_
  refine WR_ent rfl (rn_callc (by kernel_rfl) rfl rfl) (none30r w2) ?_
  rintro _ w20 ⟨rfl, hb20⟩
  replace hr2 := hr2.new hb20
  replace hB := hB.acc hb20
  refine WR_val rfl (rn_extract rfl rfl) ?_
  refine WR_val rfl (rn_extract rfl rfl) ?_
  refine WR_val rfl (rn_extract rfl rfl) ?_
  refine WR_val rfl (rn_extract rfl rfl) ?_
  refine WR_sk rfl (sk_storeA 2 ([.int .u64 0, .int .i64 0]) rfl rfl hr2 (by kernel_rfl) (by first | assumption | (simp; done) | (simp [bv_length, *]; done)) (by first | (simp; done) | (simp [bv_length, *]; done) | rfl) (by first | exact bv_one _ | assumption | (simp [Value.oneCell']; done)) (fun w901 hr2 ho901 => ?_))
  replace hB := ho901.below hB ge_hB_g2
  refine WR_val rfl (rn_assign) ?_
  refine WR_val rfl (rn_assign) ?_
  refine WR_val rfl (rn_assign) ?_
  refine WR_nil ?_
  refine thenN ?_
  refine W_ret ?_
  refine thenR ?_
  refine ret_ret [_, _, _, _] ⟨⟨_, rfl, Ld.rowA (k := 2) hr2 (by kernel_rfl) (by kernel_rfl) (by first | (simp; done) | (simp [bv_length, *]; done))⟩, rfl, rfl, rfl, trivial⟩ ?_
  exact ⟨hB, .inl ⟨hJ, rfl⟩⟩
theorem joinF (p : Option Addr) (n cp : Nat) (l : List UInt8) (w : World) (h : SlAt w p n 128 (bv l)) (hn : n ≤ 1000000) (h0 : 0 < n) (hm : mayT (hCount (halfAt l 0)) (hNum (halfAt l 0)) = false) :
    Calls Try.prog 17 [.slice p n cp].toArray w (Ret fun v w' => JR l n w v w') := by
  have hB := Below.refl w.heap.size w
  have hl : l.length = n * 128 := by simpa [bv_length] using h.len
  have hJ : joinIs l n = false := by simp [joinIs, joinMay, hm]
  have hd : (halfAt l 0).length = 64 := halfAt_length _ _ (by omega)
  obtain ⟨L, hL⟩ : ∃ L, L = pieceL (hCount (halfAt l 0)) (hNum (halfAt l 0)) (hPlace (halfAt l 0)) (hMany (halfAt l 0)) (hBody (halfAt l 0)) := ⟨_, rfl⟩
  have hLl : L.length = 52 := by rw [hL, pieceL_length, hBody, List.length_drop, hd]
  have hone : ∀ v ∈ L, v.oneCell' = true := by rw [hL]; exact pieceL_one _ _ _ _ _
  have hC := fun w' => read31r (halfAt l 0) hd false hm w'
  rw [← hL] at hC
  clear hL
  refine calls_W (fn := Try.f17) (rs := [.cell 2 24, .tmp 3, .tmp 4, .tmp 5]) (n := 152) Try.func17 rfl rfl Try.ntmps17 (by kernel_rfl) rfl ?_
  refine W_seq ?_
  refine W_region ?_
  refine WR_mk rfl (mk_alloc ([.int .u64 0, .int .i64 0]) (by kernel_rfl) (fun g2 w2 hg2 hr2 hb2 => ?_))
  have ge_hB_g2 := Nat.le_trans hB.size hg2
  replace hB := hB.acc hb2
  refine WR_val rfl (rn_assign) ?_
  refine WR_val rfl (rn_assign) ?_
  refine WR_val rfl (rn_assign) ?_
  refine WR_nil ?_
  refine thenN ?_
  refine W_seq ?_
  refine W_region ?_
  refine WR_val rfl (rn_assign) ?_
  refine WR_nil ?_
  refine thenN ?_
  refine W_seq ?_
  refine W_seq ?_
  refine W_region ?_
  refine WR_val rfl (rn_move) ?_
  refine WR_val rfl (rn_lenSl (e := 48) (sz := 128) (by kernel_rfl) rfl rfl) ?_
  refine WR_val rfl (rn_eql rfl rfl) ?_
  refine WR_nil ?_
  refine thenN ?_
  refine W_fp rfl ((by omega)) ?_
  refine W_skip ?_
  refine thenN ?_
  refine W_seq ?_
  refine W_region ?_
  refine WR_val rfl (rn_move) ?_
  refine WR_ent rfl (rn_call (by kernel_rfl) rfl) (half32r p n cp l 0 w2 (h.below hB (Nat.le_refl _)) (by omega) hn) ?_
  rintro _ w27 ⟨rfl, hb27⟩
  replace hr2 := hr2.new hb27
  replace hB := hB.acc hb27
  refine WR_ent rfl (rn_call (by kernel_rfl) rfl) (hC w27) ?_
  rintro _ w28 ⟨rfl, hb28⟩
  replace hr2 := hr2.new hb28
  replace hB := hB.acc hb28
  refine WR_val rfl (rn_move) ?_
  refine WR_val rfl (rn_extract rfl rfl) ?_
  refine WR_val rfl (rn_extract rfl rfl) ?_
  refine WR_mk rfl (mk_alloc (pieceL 0 0 0 0 (zerosB 48)) (by kernel_rfl) (fun g7 w7 hg7 hr7 hb7 => ?_))
  have ge_hB_g7 := Nat.le_trans hB.size hg7
  have lt_g2_g7 : g2 < g7 := Nat.lt_of_lt_of_le hr2.lt hg7
  replace hr2 := hr2.new hb7
  replace hB := hB.acc hb7
  refine WR_sk rfl (sk_storeA 52 (L) rfl rfl hr7 (by kernel_rfl) (by first | assumption | (simp; done) | (simp [bv_length, *]; done)) (by first | (simp; done) | (simp [bv_length, *]; done) | rfl) (by first | exact bv_one _ | assumption | (simp [Value.oneCell']; done)) (fun w901 hr7 ho901 => ?_))
  replace hr2 := hr2.only ho901 (Nat.ne_of_lt lt_g2_g7)
  replace hB := ho901.below hB ge_hB_g7
  refine WR_val rfl (rn_assign) ?_
  refine WR_nil ?_
  refine thenN ?_
  refine W_seq ?_
  refine W_seq ?_
  refine W_region ?_
  refine WR_val rfl (rn_move) ?_
  refine WR_val rfl (rn_not rfl) ?_
  refine WR_val rfl (rn_move) ?_
  refine WR_tnb 33 rfl (rfl) ?_
  refine WR_no rfl rfl ?_
  refine WR_no rfl rfl ?_
  refine WR_no rfl rfl ?_
  refine WR_val rfl (rn_pick_t rfl) ?_
  refine WR_val rfl (rn_move) ?_
  refine WR_no rfl rfl ?_
  refine WR_no rfl rfl ?_
  refine WR_no rfl rfl ?_
  refine WR_val rfl (rn_pick_t rfl) ?_
  refine WR_val rfl (rn_move) ?_
  refine WR_no rfl rfl ?_
  refine WR_no rfl rfl ?_
  refine WR_no rfl rfl ?_
  refine WR_no rfl rfl ?_
  refine WR_no rfl rfl ?_
  refine WR_no rfl rfl ?_
  refine WR_no rfl rfl ?_
  refine WR_val rfl (rn_pick_t rfl) ?_
  refine WR_nil ?_
  refine thenN ?_
  refine W_t rfl ?_
  refine W_seq ?_
  refine W_region ?_
  refine WR_val rfl (rn_move) ?_
  refine WR_ent rfl (rn_callc (by kernel_rfl) rfl rfl) (none30r w901) ?_
  rintro _ w53 ⟨rfl, hb53⟩
  replace hr2 := hr2.new hb53
  replace hr7 := hr7.new hb53
  replace hB := hB.acc hb53
  refine WR_val rfl (rn_extract rfl rfl) ?_
  refine WR_val rfl (rn_extract rfl rfl) ?_
  refine WR_val rfl (rn_extract rfl rfl) ?_
  refine WR_val rfl (rn_extract rfl rfl) ?_
  refine WR_sk rfl (sk_storeA 2 ([.int .u64 0, .int .i64 0]) rfl rfl hr2 (by kernel_rfl) (by first | assumption | (simp; done) | (simp [bv_length, *]; done)) (by first | (simp; done) | (simp [bv_length, *]; done) | rfl) (by first | exact bv_one _ | assumption | (simp [Value.oneCell']; done)) (fun w902 hr2 ho902 => ?_))
  replace hr7 := hr7.only ho902 (Nat.ne_of_gt lt_g2_g7)
  replace hB := ho902.below hB ge_hB_g2
  refine WR_val rfl (rn_assign) ?_
  refine WR_val rfl (rn_assign) ?_
  refine WR_val rfl (rn_assign) ?_
  refine WR_nil ?_
  refine thenN ?_
  refine W_ret ?_
  refine thenR ?_
  refine ret_ret [_, _, _, _] ⟨⟨_, rfl, Ld.rowA (k := 2) hr2 (by kernel_rfl) (by kernel_rfl) (by first | (simp; done) | (simp [bv_length, *]; done))⟩, rfl, rfl, rfl, trivial⟩ ?_
  exact ⟨hB, .inl ⟨hJ, rfl⟩⟩
theorem joinOk_bad {l : List UInt8} {c nn m i : Nat} (hi : i < m) (h : goodH (halfAt l i) c nn i m = false) : joinOk l c nn m = false := by
  have : (List.range m).all (fun i => goodH (halfAt l i) c nn i m) = false := List.all_eq_false.2 ⟨i, List.mem_range.2 hi, by simp [h]⟩
  simp [joinOk, this]

set_option maxHeartbeats 2000000 in
theorem joinT (p : Option Addr) (n cp : Nat) (l : List UInt8) (w : World) (h : SlAt w p n 128 (bv l)) (hn : n ≤ 1000000) (h0 : 0 < n) (hm : mayT (hCount (halfAt l 0)) (hNum (halfAt l 0)) = true) :
    Calls Try.prog 17 [.slice p n cp].toArray w (Ret fun v w' => JR l n w v w') := by
  have hB := Below.refl w.heap.size w
  have hl : l.length = n * 128 := by simpa [bv_length] using h.len
  have hd : (halfAt l 0).length = 64 := halfAt_length _ _ (by omega)
  obtain ⟨L, hL⟩ : ∃ L, L = pieceL (hCount (halfAt l 0)) (hNum (halfAt l 0)) (hPlace (halfAt l 0)) (hMany (halfAt l 0)) (hBody (halfAt l 0)) := ⟨_, rfl⟩
  have hLl : L.length = 52 := by rw [hL, pieceL_length, hBody, List.length_drop, hd]
  have hone : ∀ v ∈ L, v.oneCell' = true := by rw [hL]; exact pieceL_one _ _ _ _ _
  have hC := fun w' => read31r (halfAt l 0) hd true hm w'
  have e0 : L[0]? = some (.int .u64 (hCount (halfAt l 0))) := by rw [hL]; rfl
  have e1 : L[1]? = some (.int .i64 (hNum (halfAt l 0))) := by rw [hL]; rfl
  have e3 : L[3]? = some (.int .i64 (hMany (halfAt l 0))) := by rw [hL]; rfl
  have hJR : ∀ v w', JR l n w v w' = (Below w.heap.size w w' ∧ ((joinIs l n = false ∧ v = noneV) ∨ (joinIs l n = true ∧ ∃ sp, v = .tuple #[.agg #[.int .u64 (hCount (halfAt l 0)), .int .i64 (hNum (halfAt l 0))], .slice sp (joinB l).length (joinB l).length, .int .i64 (needN (joinB l).length : Nat), .int .i64 0] ∧
    SlAt w' sp (joinB l).length 1 (bv (joinB l))))) := fun _ _ => rfl
  have hJI : joinIs l n = (decide (0 < n) && (mayT (hCount (halfAt l 0)) (hNum (halfAt l 0)) && decide (1 ≤ hMany (halfAt l 0)) && decide (hMany (halfAt l 0) ≤ 683) && decide ((hMany (halfAt l 0) + 1) / 2 ≤ n)) && joinOk l (hCount (halfAt l 0)) (hNum (halfAt l 0)) (hMany (halfAt l 0))) := rfl
  have hJB : joinB l = ((bodies l (hMany (halfAt l 0))).drop 4).take (joinK l (hMany (halfAt l 0))) := rfl
  have hmb : hMany (halfAt l 0) < 65536 := numB_lt_of _ 2 (by simp; omega)
  simp only [hJR]
  clear hJR
  rw [← hL] at hC
  clear hL
  generalize hCount (halfAt l 0) = c at *
  generalize hNum (halfAt l 0) = nn at *
  generalize hMany (halfAt l 0) = m at *
  generalize joinIs l n = J at *
  generalize joinB l = JB at *
  have hJF : joinOk l c nn m = false → J = false := by intro q; rw [hJI, q, Bool.and_false]
  refine calls_W (fn := Try.f17) (rs := [.cell 2 24, .tmp 3, .tmp 4, .tmp 5]) (n := 152) Try.func17 rfl rfl Try.ntmps17 (by kernel_rfl) rfl ?_
  refine W_seq ?_
  refine W_region ?_
  refine WR_mk rfl (mk_alloc ([.int .u64 0, .int .i64 0]) (by kernel_rfl) (fun g2 w2 hg2 hr2 hb2 => ?_))
  have ge_hB_g2 := Nat.le_trans hB.size hg2
  replace hB := hB.acc hb2
  refine WR_val rfl (rn_assign) ?_
  refine WR_val rfl (rn_assign) ?_
  refine WR_val rfl (rn_assign) ?_
  refine WR_nil ?_
  refine thenN ?_
  refine W_seq ?_
  refine W_region ?_
  refine WR_val rfl (rn_assign) ?_
  refine WR_nil ?_
  refine thenN ?_
  refine W_seq ?_
  refine W_seq ?_
  refine W_region ?_
  refine WR_val rfl (rn_move) ?_
  refine WR_val rfl (rn_lenSl (e := 48) (sz := 128) (by kernel_rfl) rfl rfl) ?_
  refine WR_val rfl (rn_eql rfl rfl) ?_
  refine WR_nil ?_
  refine thenN ?_
  refine W_fp rfl ((by omega)) ?_
  refine W_skip ?_
  refine thenN ?_
  refine W_seq ?_
  refine W_region ?_
  refine WR_val rfl (rn_move) ?_
  refine WR_ent rfl (rn_call (by kernel_rfl) rfl) (half32r p n cp l 0 w2 (h.below hB (Nat.le_refl _)) (by omega) hn) ?_
  rintro _ w27 ⟨rfl, hb27⟩
  replace hr2 := hr2.new hb27
  replace hB := hB.acc hb27
  refine WR_ent rfl (rn_call (by kernel_rfl) rfl) (hC w27) ?_
  rintro _ w28 ⟨rfl, hb28⟩
  replace hr2 := hr2.new hb28
  replace hB := hB.acc hb28
  refine WR_val rfl (rn_move) ?_
  refine WR_val rfl (rn_extract rfl rfl) ?_
  refine WR_val rfl (rn_extract rfl rfl) ?_
  refine WR_mk rfl (mk_alloc (pieceL 0 0 0 0 (zerosB 48)) (by kernel_rfl) (fun g7 w7 hg7 hr7 hb7 => ?_))
  have ge_hB_g7 := Nat.le_trans hB.size hg7
  have lt_g2_g7 : g2 < g7 := Nat.lt_of_lt_of_le hr2.lt hg7
  replace hr2 := hr2.new hb7
  replace hB := hB.acc hb7
  refine WR_sk rfl (sk_storeA 52 (L) rfl rfl hr7 (by kernel_rfl) (by first | assumption | (simp; done) | (simp [bv_length, *]; done)) (by first | (simp; done) | (simp [bv_length, *]; done) | rfl) (by first | exact bv_one _ | assumption | (simp [Value.oneCell']; done)) (fun w901 hr7 ho901 => ?_))
  replace hr2 := hr2.only ho901 (Nat.ne_of_lt lt_g2_g7)
  replace hB := ho901.below hB ge_hB_g7
  refine WR_val rfl (rn_assign) ?_
  refine WR_nil ?_
  refine thenN ?_
  refine W_seq ?_
  refine W_seq ?_
  refine W_region ?_
  refine WR_val rfl (rn_move) ?_
  refine WR_val rfl (rn_not rfl) ?_
  refine WR_val rfl (rn_move) ?_
  refine WR_fnb 33 rfl (rfl) ?_
  refine WR_yes rfl ?_
  refine WR_val rfl (rn_fieldAddr (off := 3) (by kernel_rfl) rfl) ?_
  refine WR_yes rfl ?_
  refine WR_val rfl (rn_load rfl (Ld.row1 hr7 (by kernel_rfl) e3)) ?_
  refine WR_yes rfl ?_
  refine WR_val rfl (rn_lss rfl rfl) ?_
  refine WR_val rfl (rn_pick_f rfl) ?_
  refine WR_val rfl (rn_move) ?_
  refine WR_part 38 rfl (fun hc1 => ?_) (fun hc1 => ?_)
  ·
    refine WR_no rfl rfl ?_
    refine WR_no rfl rfl ?_
    refine WR_no rfl rfl ?_
    refine WR_val rfl (rn_pick_t rfl) ?_
    refine WR_val rfl (rn_move) ?_
    refine WR_no rfl rfl ?_
    refine WR_no rfl rfl ?_
    refine WR_no rfl rfl ?_
    refine WR_no rfl rfl ?_
    refine WR_no rfl rfl ?_
    refine WR_no rfl rfl ?_
    refine WR_no rfl rfl ?_
    refine WR_val rfl (rn_pick_t rfl) ?_
    refine WR_nil ?_
    refine thenN ?_
    refine W_t rfl ?_
    refine W_seq ?_
    refine W_region ?_
    refine WR_val rfl (rn_move) ?_
    refine WR_ent rfl (rn_callc (by kernel_rfl) rfl rfl) (none30r w901) ?_
    rintro _ w53 ⟨rfl, hb53⟩
    replace hr2 := hr2.new hb53
    replace hr7 := hr7.new hb53
    replace hB := hB.acc hb53
    refine WR_val rfl (rn_extract rfl rfl) ?_
    refine WR_val rfl (rn_extract rfl rfl) ?_
    refine WR_val rfl (rn_extract rfl rfl) ?_
    refine WR_val rfl (rn_extract rfl rfl) ?_
    refine WR_sk rfl (sk_storeA 2 ([.int .u64 0, .int .i64 0]) rfl rfl hr2 (by kernel_rfl) (by first | assumption | (simp; done) | (simp [bv_length, *]; done)) (by first | (simp; done) | (simp [bv_length, *]; done) | rfl) (by first | exact bv_one _ | assumption | (simp [Value.oneCell']; done)) (fun w902 hr2 ho902 => ?_))
    replace hr7 := hr7.only ho902 (Nat.ne_of_gt lt_g2_g7)
    replace hB := ho902.below hB ge_hB_g2
    refine WR_val rfl (rn_assign) ?_
    refine WR_val rfl (rn_assign) ?_
    refine WR_val rfl (rn_assign) ?_
    refine WR_nil ?_
    refine thenN ?_
    refine W_ret ?_
    refine thenR ?_
    refine ret_ret [_, _, _, _] ⟨⟨_, rfl, Ld.rowA (k := 2) hr2 (by kernel_rfl) (by kernel_rfl) (by first | (simp; done) | (simp [bv_length, *]; done))⟩, rfl, rfl, rfl, trivial⟩ ?_
    · refine ⟨hB, .inl ⟨?_, rfl⟩⟩
      rw [hJI, show decide (1 ≤ m) = false from decide_eq_false (by omega)]
      simp
  ·
    refine WR_yes rfl ?_
    refine WR_val rfl (rn_fieldAddr (off := 3) (by kernel_rfl) rfl) ?_
    refine WR_yes rfl ?_
    refine WR_val rfl (rn_load rfl (Ld.row1 hr7 (by kernel_rfl) e3)) ?_
    refine WR_yes rfl ?_
    refine WR_val rfl (rn_gtr rfl rfl) ?_
    refine WR_val rfl (rn_pick_f rfl) ?_
    refine WR_val rfl (rn_move) ?_
    refine WR_part 43 rfl (fun hc2 => ?_) (fun hc2 => ?_)
    ·
      refine WR_no rfl rfl ?_
      refine WR_no rfl rfl ?_
      refine WR_no rfl rfl ?_
      refine WR_no rfl rfl ?_
      refine WR_no rfl rfl ?_
      refine WR_no rfl rfl ?_
      refine WR_no rfl rfl ?_
      refine WR_val rfl (rn_pick_t rfl) ?_
      refine WR_nil ?_
      refine thenN ?_
      refine W_t rfl ?_
      refine W_seq ?_
      refine W_region ?_
      refine WR_val rfl (rn_move) ?_
      refine WR_ent rfl (rn_callc (by kernel_rfl) rfl rfl) (none30r w901) ?_
      rintro _ w53 ⟨rfl, hb53⟩
      replace hr2 := hr2.new hb53
      replace hr7 := hr7.new hb53
      replace hB := hB.acc hb53
      refine WR_val rfl (rn_extract rfl rfl) ?_
      refine WR_val rfl (rn_extract rfl rfl) ?_
      refine WR_val rfl (rn_extract rfl rfl) ?_
      refine WR_val rfl (rn_extract rfl rfl) ?_
      refine WR_sk rfl (sk_storeA 2 ([.int .u64 0, .int .i64 0]) rfl rfl hr2 (by kernel_rfl) (by first | assumption | (simp; done) | (simp [bv_length, *]; done)) (by first | (simp; done) | (simp [bv_length, *]; done) | rfl) (by first | exact bv_one _ | assumption | (simp [Value.oneCell']; done)) (fun w903 hr2 ho903 => ?_))
      replace hr7 := hr7.only ho903 (Nat.ne_of_gt lt_g2_g7)
      replace hB := ho903.below hB ge_hB_g2
      refine WR_val rfl (rn_assign) ?_
      refine WR_val rfl (rn_assign) ?_
      refine WR_val rfl (rn_assign) ?_
      refine WR_nil ?_
      refine thenN ?_
      refine W_ret ?_
      refine thenR ?_
      refine ret_ret [_, _, _, _] ⟨⟨_, rfl, Ld.rowA (k := 2) hr2 (by kernel_rfl) (by kernel_rfl) (by first | (simp; done) | (simp [bv_length, *]; done))⟩, rfl, rfl, rfl, trivial⟩ ?_
      · refine ⟨hB, .inl ⟨?_, rfl⟩⟩
        rw [hJI, show decide (m ≤ 683) = false from decide_eq_false (by omega)]
        simp
    ·
      refine WR_yes rfl ?_
      refine WR_val rfl (rn_fieldAddr (off := 3) (by kernel_rfl) rfl) ?_
      refine WR_yes rfl ?_
      refine WR_val rfl (rn_load rfl (Ld.row1 hr7 (by kernel_rfl) e3)) ?_
      refine WR_yes rfl ?_
      refine WR_val rfl (rn_add rfl rfl (w64 (by omega))) ?_
      refine WR_yes rfl ?_
      refine WR_val rfl (rn_quo0 rfl rfl (by omega) (by omega)) ?_
      refine WR_yes rfl ?_
      refine WR_val rfl (rn_move) ?_
      refine WR_yes rfl ?_
      refine WR_val rfl (rn_lenSl (e := 48) (sz := 128) (by kernel_rfl) rfl rfl) ?_
      refine WR_yes rfl ?_
      refine WR_val rfl (rn_gtr rfl rfl) ?_
      refine WR_val rfl (rn_pick_f rfl) ?_
      refine WR_nil ?_
      refine thenN ?_
      refine W_ifp rfl (fun hc3 => ?_) (fun hc3 => ?_)
      ·
        refine W_seq ?_
        refine W_region ?_
        refine WR_val rfl (rn_move) ?_
        refine WR_ent rfl (rn_callc (by kernel_rfl) rfl rfl) (none30r w901) ?_
        rintro _ w53 ⟨rfl, hb53⟩
        replace hr2 := hr2.new hb53
        replace hr7 := hr7.new hb53
        replace hB := hB.acc hb53
        refine WR_val rfl (rn_extract rfl rfl) ?_
        refine WR_val rfl (rn_extract rfl rfl) ?_
        refine WR_val rfl (rn_extract rfl rfl) ?_
        refine WR_val rfl (rn_extract rfl rfl) ?_
        refine WR_sk rfl (sk_storeA 2 ([.int .u64 0, .int .i64 0]) rfl rfl hr2 (by kernel_rfl) (by first | assumption | (simp; done) | (simp [bv_length, *]; done)) (by first | (simp; done) | (simp [bv_length, *]; done) | rfl) (by first | exact bv_one _ | assumption | (simp [Value.oneCell']; done)) (fun w904 hr2 ho904 => ?_))
        replace hr7 := hr7.only ho904 (Nat.ne_of_gt lt_g2_g7)
        replace hB := ho904.below hB ge_hB_g2
        refine WR_val rfl (rn_assign) ?_
        refine WR_val rfl (rn_assign) ?_
        refine WR_val rfl (rn_assign) ?_
        refine WR_nil ?_
        refine thenN ?_
        refine W_ret ?_
        refine thenR ?_
        refine ret_ret [_, _, _, _] ⟨⟨_, rfl, Ld.rowA (k := 2) hr2 (by kernel_rfl) (by kernel_rfl) (by first | (simp; done) | (simp [bv_length, *]; done))⟩, rfl, rfl, rfl, trivial⟩ ?_
        · refine ⟨hB, .inl ⟨?_, rfl⟩⟩
          rw [hJI, show decide ((m + 1) / 2 ≤ n) = false from decide_eq_false (by omega)]
          simp
      ·
        refine W_skip ?_
        refine thenN ?_
        refine W_seq ?_
        refine W_region ?_
        refine WR_val rfl (rn_assign) ?_
        refine WR_nil ?_
        refine thenN ?_
        refine W_seq ?_
        refine W_seq ?_
        refine W_region ?_
        refine WR_val rfl (rn_fieldAddr (off := 3) (by kernel_rfl) rfl) ?_
        refine WR_val rfl (rn_load rfl (Ld.row1 hr7 (by kernel_rfl) e3)) ?_
        refine WR_val rfl (rn_move) ?_
        refine WR_nil ?_
        refine thenN ?_
        refine W_block ?_
        have q7 := hr7.lt
        have q2 := hr2.lt
        refine W_loop (α := Nat × Value) (0, .slice none 0 0) (fun k => [(60, .int .i64 (k.1 : Nat)), (9, k.2), (59, .int .i64 m), (0, .slice p n cp), (6, .func (.func 30) #[] #[]), (7, .pointer (some ⟨g7, 0, none⟩)), (2, .pointer (some ⟨g2, 0, none⟩))])
          (fun k w' => k.1 ≤ m ∧ (∀ j, j < k.1 → goodH (halfAt l j) c nn j m = true) ∧ ownsAt w' w901.heap.size 5 1 k.2 (48 * k.1) (bv (bodies l k.1)) ∧ row w' g7 L 61 ∧ row w' g2 [.int .u64 0, .int .i64 0] 24 ∧ Below w.heap.size w w' ∧ w901.heap.size ≤ w'.heap.size) (fun k => m - k.1)
          ⟨rfl, rfl, rfl, rfl, rfl, rfl, rfl, rfl⟩ ⟨Nat.zero_le _, (by intro j hj; exact absurd hj (Nat.not_lt_zero _)), ownsAt_nil _ _ _ _, hr7, hr2, hB, Nat.le_refl _⟩ ?_
        rintro ⟨k, v9⟩ f wr ⟨hk, hgood, hv9, hr7, hr2, hBr, hsr⟩
        simp only at hk hgood hv9
        have hBi := Below.refl wr.heap.size wr
        have hszr := hBr.size
        by_cases hlt : k < m
        · have hdk : (halfAt l k).length = 64 := halfAt_length _ _ (by omega)
          obtain ⟨LK, hLK⟩ : ∃ L, L = pieceL (hCount (halfAt l k)) (hNum (halfAt l k)) (hPlace (halfAt l k)) (hMany (halfAt l k)) (hBody (halfAt l k)) := ⟨_, rfl⟩
          have hLKl : LK.length = 52 := by rw [hLK, pieceL_length, hBody, List.length_drop, hdk]
          have honek : ∀ v ∈ LK, v.oneCell' = true := by rw [hLK]; exact pieceL_one _ _ _ _ _
          have hCK := fun b (hb : mayT (hCount (halfAt l k)) (hNum (halfAt l k)) = b) w' => read31r (halfAt l k) hdk b hb w'
          have k0 : LK[0]? = some (.int .u64 (hCount (halfAt l k))) := by rw [hLK]; rfl
          have k1 : LK[1]? = some (.int .i64 (hNum (halfAt l k))) := by rw [hLK]; rfl
          have k2 : LK[2]? = some (.int .i64 (hPlace (halfAt l k))) := by rw [hLK]; rfl
          have k3 : LK[3]? = some (.int .i64 (hMany (halfAt l k))) := by rw [hLK]; rfl
          have hkb : (LK.drop 4).take (48 * 1) = bv (hBody (halfAt l k)) := by
            rw [hLK]
            exact List.take_of_length_le (by show (bv (hBody (halfAt l k))).length ≤ _; rw [bv_length, hBody, List.length_drop, hdk]; omega)
          have hGB : goodH (halfAt l k) c nn k m = (mayT (hCount (halfAt l k)) (hNum (halfAt l k)) && decide (hCount (halfAt l k) = c ∧ hNum (halfAt l k) = nn) && decide (hPlace (halfAt l k) = k) && decide (hMany (halfAt l k) = m)) := rfl
          have hbs := bodies_succ l k
          have hbl : (hBody (halfAt l k)).length = 48 := by rw [hBody, List.length_drop, hdk]
          rw [← hLK] at hCK
          clear hLK
          generalize hCount (halfAt l k) = c' at *
          generalize hNum (halfAt l k) = n' at *
          generalize hPlace (halfAt l k) = p' at *
          generalize hMany (halfAt l k) = m' at *
          have hbad : goodH (halfAt l k) c nn k m = false → J = false := fun q => hJF (joinOk_bad hlt q)
          rcases hmk : mayT (c' : Int) n' with _ | _
          · skip
            refine W_seq ?_
            refine W_region ?_
            refine WR_val rfl (rn_lss rfl rfl) ?_
            refine WR_nil ?_
            refine thenN ?_
            refine W_seq ?_
            refine W_tp rfl ((by omega)) ?_
            refine W_skip ?_
            refine thenN ?_
            refine W_seq ?_
            refine W_block ?_
            refine W_seq ?_
            refine W_region ?_
            refine WR_val rfl (rn_move) ?_
            refine WR_val rfl (rn_assign) ?_
            refine WR_nil ?_
            refine thenN ?_
            refine W_seq ?_
            refine W_region ?_
            refine WR_val rfl (rn_move) ?_
            refine WR_val rfl (rn_move) ?_
            refine WR_ent rfl (rn_call (by kernel_rfl) rfl) (half32r p n cp l k wr ((h.below hBr (Nat.le_refl _)).below hBi (Nat.le_refl _)) (by omega) hn) ?_
            rintro _ w66 ⟨rfl, hb66⟩
            replace hBr := hBr.acc hb66
            replace hBi := hBi.acc hb66
            refine WR_ent rfl (rn_call (by kernel_rfl) rfl) (hCK _ hmk w66) ?_
            rintro _ w67 ⟨rfl, hb67⟩
            replace hBr := hBr.acc hb67
            replace hBi := hBi.acc hb67
            refine WR_val rfl (rn_move) ?_
            refine WR_val rfl (rn_extract rfl rfl) ?_
            refine WR_val rfl (rn_extract rfl rfl) ?_
            refine WR_mk rfl (mk_alloc (pieceL 0 0 0 0 (zerosB 48)) (by kernel_rfl) (fun g11 w11 hg11 hr11 hb11 => ?_))
            have ge_hBr_g11 := Nat.le_trans hBr.size hg11
            have ge_hBi_g11 := Nat.le_trans hBi.size hg11
            replace hBr := hBr.acc hb11
            replace hBi := hBi.acc hb11
            refine WR_sk rfl (sk_storeA 52 (LK) rfl rfl hr11 (by kernel_rfl) (by first | assumption | (simp; done) | (simp [bv_length, *]; done)) (by first | (simp; done) | (simp [bv_length, *]; done) | rfl) (by first | exact bv_one _ | assumption | (simp [Value.oneCell']; done)) (fun w905 hr11 ho905 => ?_))
            replace hBr := ho905.below hBr ge_hBr_g11
            replace hBi := ho905.below hBi ge_hBi_g11
            refine WR_val rfl (rn_assign) ?_
            refine WR_nil ?_
            refine thenN ?_
            refine W_seq ?_
            refine W_seq ?_
            refine W_region ?_
            refine WR_val rfl (rn_move) ?_
            refine WR_val rfl (rn_not rfl) ?_
            refine WR_val rfl (rn_move) ?_
            refine WR_tnb 72 rfl (rfl) ?_
            refine WR_no rfl rfl ?_
            refine WR_no rfl rfl ?_
            refine WR_no rfl rfl ?_
            refine WR_no rfl rfl ?_
            refine WR_no rfl rfl ?_
            refine WR_val rfl (rn_pick_t rfl) ?_
            refine WR_val rfl (rn_move) ?_
            refine WR_no rfl rfl ?_
            refine WR_no rfl rfl ?_
            refine WR_no rfl rfl ?_
            refine WR_no rfl rfl ?_
            refine WR_val rfl (rn_pick_t rfl) ?_
            refine WR_val rfl (rn_move) ?_
            refine WR_no rfl rfl ?_
            refine WR_no rfl rfl ?_
            refine WR_no rfl rfl ?_
            refine WR_no rfl rfl ?_
            refine WR_no rfl rfl ?_
            refine WR_val rfl (rn_pick_t rfl) ?_
            refine WR_nil ?_
            refine thenN ?_
            refine W_t rfl ?_
            refine W_seq ?_
            refine W_region ?_
            refine WR_val rfl (rn_move) ?_
            refine WR_ent rfl (rn_callc (by kernel_rfl) rfl rfl) (none30r w905) ?_
            rintro _ w93 ⟨rfl, hb93⟩
            replace hr11 := hr11.new hb93
            replace hBr := hBr.acc hb93
            replace hBi := hBi.acc hb93
            refine WR_val rfl (rn_extract rfl rfl) ?_
            refine WR_val rfl (rn_extract rfl rfl) ?_
            refine WR_val rfl (rn_extract rfl rfl) ?_
            refine WR_val rfl (rn_extract rfl rfl) ?_
            have hr2 := hr2.new hBi
            have hBs := hBi.size
            refine WR_sk rfl (sk_storeA 2 ([.int .u64 0, .int .i64 0]) rfl rfl hr2 (by kernel_rfl) (by first | assumption | (simp; done) | (simp [bv_length, *]; done)) (by first | (simp; done) | (simp [bv_length, *]; done) | rfl) (by first | exact bv_one _ | assumption | (simp [Value.oneCell']; done)) (fun w906 hr2 ho906 => ?_))
            replace hr11 := hr11.only ho906 (by omega)
            replace hBr := ho906.below hBr (by omega)
            refine WR_val rfl (rn_assign) ?_
            refine WR_val rfl (rn_assign) ?_
            refine WR_val rfl (rn_assign) ?_
            refine WR_nil ?_
            refine thenN ?_
            refine W_ret ?_
            refine thenR ?_
            refine blockR ?_
            refine thenR ?_
            refine loopR ?_
            refine blockR ?_
            refine thenR ?_
            refine ret_ret [_, _, _, _] ⟨⟨_, rfl, Ld.rowA (k := 2) hr2 (by kernel_rfl) (by kernel_rfl) (by first | (simp; done) | (simp [bv_length, *]; done))⟩, rfl, rfl, rfl, trivial⟩ ?_
            exact ⟨hBr, .inl ⟨hbad (by rw [hGB, hmk]; rfl), rfl⟩⟩
          · skip
            refine W_seq ?_
            refine W_region ?_
            refine WR_val rfl (rn_lss rfl rfl) ?_
            refine WR_nil ?_
            refine thenN ?_
            refine W_seq ?_
            refine W_tp rfl ((by omega)) ?_
            refine W_skip ?_
            refine thenN ?_
            refine W_seq ?_
            refine W_block ?_
            refine W_seq ?_
            refine W_region ?_
            refine WR_val rfl (rn_move) ?_
            refine WR_val rfl (rn_assign) ?_
            refine WR_nil ?_
            refine thenN ?_
            refine W_seq ?_
            refine W_region ?_
            refine WR_val rfl (rn_move) ?_
            refine WR_val rfl (rn_move) ?_
            refine WR_ent rfl (rn_call (by kernel_rfl) rfl) (half32r p n cp l k wr ((h.below hBr (Nat.le_refl _)).below hBi (Nat.le_refl _)) (by omega) hn) ?_
            rintro _ w66 ⟨rfl, hb66⟩
            replace hBr := hBr.acc hb66
            replace hBi := hBi.acc hb66
            refine WR_ent rfl (rn_call (by kernel_rfl) rfl) (hCK _ hmk w66) ?_
            rintro _ w67 ⟨rfl, hb67⟩
            replace hBr := hBr.acc hb67
            replace hBi := hBi.acc hb67
            refine WR_val rfl (rn_move) ?_
            refine WR_val rfl (rn_extract rfl rfl) ?_
            refine WR_val rfl (rn_extract rfl rfl) ?_
            refine WR_mk rfl (mk_alloc (pieceL 0 0 0 0 (zerosB 48)) (by kernel_rfl) (fun g11 w11 hg11 hr11 hb11 => ?_))
            have ge_hBr_g11 := Nat.le_trans hBr.size hg11
            have ge_hBi_g11 := Nat.le_trans hBi.size hg11
            replace hBr := hBr.acc hb11
            replace hBi := hBi.acc hb11
            refine WR_sk rfl (sk_storeA 52 (LK) rfl rfl hr11 (by kernel_rfl) (by first | assumption | (simp; done) | (simp [bv_length, *]; done)) (by first | (simp; done) | (simp [bv_length, *]; done) | rfl) (by first | exact bv_one _ | assumption | (simp [Value.oneCell']; done)) (fun w907 hr11 ho907 => ?_))
            replace hBr := ho907.below hBr ge_hBr_g11
            replace hBi := ho907.below hBi ge_hBi_g11
            refine WR_val rfl (rn_assign) ?_
            refine WR_nil ?_
            refine thenN ?_
            refine W_seq ?_
            refine W_seq ?_
            refine W_region ?_
            refine WR_val rfl (rn_move) ?_
            refine WR_val rfl (rn_not rfl) ?_
            refine WR_val rfl (rn_move) ?_
            refine WR_fnb 72 rfl (rfl) ?_
            refine WR_yes rfl ?_
            refine WR_val rfl (rn_fieldAddr (off := 0) (by kernel_rfl) rfl) ?_
            refine WR_yes rfl ?_
            refine WR_val rfl (rn_load rfl (Ld.rng (hr11.range 0 [.int .u64 c', .int .i64 n'] (two_cells k0 k1)) (by kernel_rfl) (by kernel_rfl))) ?_
            refine WR_yes rfl ?_
            refine WR_val rfl (rn_fieldAddr (off := 0) (by kernel_rfl) rfl) ?_
            refine WR_yes rfl ?_
            refine WR_val rfl (rn_load rfl (Ld.rng ((hr7.new hBi).range 0 [.int .u64 c, .int .i64 nn] (two_cells e0 e1)) (by kernel_rfl) (by kernel_rfl))) ?_
            refine WR_yes rfl ?_
            refine WR_val rfl (rn_neqP (k0 := .u64) (k1 := .i64) (by kernel_rfl) rfl rfl) ?_
            refine WR_val rfl (rn_pick_f rfl) ?_
            refine WR_val rfl (rn_move) ?_
            refine WR_partb 79 rfl (fun hq1 => ?_) (fun hq1 => ?_)
            ·
              refine WR_no rfl rfl ?_
              refine WR_no rfl rfl ?_
              refine WR_no rfl rfl ?_
              refine WR_no rfl rfl ?_
              refine WR_val rfl (rn_pick_t rfl) ?_
              refine WR_val rfl (rn_move) ?_
              refine WR_no rfl rfl ?_
              refine WR_no rfl rfl ?_
              refine WR_no rfl rfl ?_
              refine WR_no rfl rfl ?_
              refine WR_no rfl rfl ?_
              refine WR_val rfl (rn_pick_t rfl) ?_
              refine WR_nil ?_
              refine thenN ?_
              refine W_t rfl ?_
              refine W_seq ?_
              refine W_region ?_
              refine WR_val rfl (rn_move) ?_
              refine WR_ent rfl (rn_callc (by kernel_rfl) rfl rfl) (none30r w907) ?_
              rintro _ w93 ⟨rfl, hb93⟩
              replace hr11 := hr11.new hb93
              replace hBr := hBr.acc hb93
              replace hBi := hBi.acc hb93
              refine WR_val rfl (rn_extract rfl rfl) ?_
              refine WR_val rfl (rn_extract rfl rfl) ?_
              refine WR_val rfl (rn_extract rfl rfl) ?_
              refine WR_val rfl (rn_extract rfl rfl) ?_
              have hr2 := hr2.new hBi
              have hBs := hBi.size
              refine WR_sk rfl (sk_storeA 2 ([.int .u64 0, .int .i64 0]) rfl rfl hr2 (by kernel_rfl) (by first | assumption | (simp; done) | (simp [bv_length, *]; done)) (by first | (simp; done) | (simp [bv_length, *]; done) | rfl) (by first | exact bv_one _ | assumption | (simp [Value.oneCell']; done)) (fun w908 hr2 ho908 => ?_))
              replace hr11 := hr11.only ho908 (by omega)
              replace hBr := ho908.below hBr (by omega)
              refine WR_val rfl (rn_assign) ?_
              refine WR_val rfl (rn_assign) ?_
              refine WR_val rfl (rn_assign) ?_
              refine WR_nil ?_
              refine thenN ?_
              refine W_ret ?_
              refine thenR ?_
              refine blockR ?_
              refine thenR ?_
              refine loopR ?_
              refine blockR ?_
              refine thenR ?_
              refine ret_ret [_, _, _, _] ⟨⟨_, rfl, Ld.rowA (k := 2) hr2 (by kernel_rfl) (by kernel_rfl) (by first | (simp; done) | (simp [bv_length, *]; done))⟩, rfl, rfl, rfl, trivial⟩ ?_
              · simp only [Bool.not_eq_true', decide_eq_false_iff_not] at hq1
                exact ⟨hBr, .inl ⟨hbad (by rw [hGB, hmk, show decide (c' = c ∧ n' = nn) = false from decide_eq_false (by omega)]; rfl), rfl⟩⟩
            ·
              simp only [Bool.not_eq_false', decide_eq_true_eq] at hq1
              refine WR_yes rfl ?_
              refine WR_val rfl (rn_fieldAddr (off := 2) (by kernel_rfl) rfl) ?_
              refine WR_yes rfl ?_
              refine WR_val rfl (rn_load rfl (Ld.row1 hr11 (by kernel_rfl) k2)) ?_
              refine WR_yes rfl ?_
              refine WR_val rfl (rn_move) ?_
              refine WR_yes rfl ?_
              refine WR_val rfl (rn_neq rfl rfl) ?_
              refine WR_val rfl (rn_pick_f rfl) ?_
              refine WR_val rfl (rn_move) ?_
              refine WR_part 85 rfl (fun hq2 => ?_) (fun hq2 => ?_)
              ·
                refine WR_no rfl rfl ?_
                refine WR_no rfl rfl ?_
                refine WR_no rfl rfl ?_
                refine WR_no rfl rfl ?_
                refine WR_no rfl rfl ?_
                refine WR_val rfl (rn_pick_t rfl) ?_
                refine WR_nil ?_
                refine thenN ?_
                refine W_t rfl ?_
                refine W_seq ?_
                refine W_region ?_
                refine WR_val rfl (rn_move) ?_
                refine WR_ent rfl (rn_callc (by kernel_rfl) rfl rfl) (none30r w907) ?_
                rintro _ w93 ⟨rfl, hb93⟩
                replace hr11 := hr11.new hb93
                replace hBr := hBr.acc hb93
                replace hBi := hBi.acc hb93
                refine WR_val rfl (rn_extract rfl rfl) ?_
                refine WR_val rfl (rn_extract rfl rfl) ?_
                refine WR_val rfl (rn_extract rfl rfl) ?_
                refine WR_val rfl (rn_extract rfl rfl) ?_
                have hr2 := hr2.new hBi
                have hBs := hBi.size
                refine WR_sk rfl (sk_storeA 2 ([.int .u64 0, .int .i64 0]) rfl rfl hr2 (by kernel_rfl) (by first | assumption | (simp; done) | (simp [bv_length, *]; done)) (by first | (simp; done) | (simp [bv_length, *]; done) | rfl) (by first | exact bv_one _ | assumption | (simp [Value.oneCell']; done)) (fun w909 hr2 ho909 => ?_))
                replace hr11 := hr11.only ho909 (by omega)
                replace hBr := ho909.below hBr (by omega)
                refine WR_val rfl (rn_assign) ?_
                refine WR_val rfl (rn_assign) ?_
                refine WR_val rfl (rn_assign) ?_
                refine WR_nil ?_
                refine thenN ?_
                refine W_ret ?_
                refine thenR ?_
                refine blockR ?_
                refine thenR ?_
                refine loopR ?_
                refine blockR ?_
                refine thenR ?_
                refine ret_ret [_, _, _, _] ⟨⟨_, rfl, Ld.rowA (k := 2) hr2 (by kernel_rfl) (by kernel_rfl) (by first | (simp; done) | (simp [bv_length, *]; done))⟩, rfl, rfl, rfl, trivial⟩ ?_
                · exact ⟨hBr, .inl ⟨hbad (by rw [hGB, show decide (p' = k) = false from decide_eq_false (by omega), Bool.and_false]; rfl), rfl⟩⟩
              ·
                refine WR_yes rfl ?_
                refine WR_val rfl (rn_fieldAddr (off := 3) (by kernel_rfl) rfl) ?_
                refine WR_yes rfl ?_
                refine WR_val rfl (rn_load rfl (Ld.row1 hr11 (by kernel_rfl) k3)) ?_
                refine WR_yes rfl ?_
                refine WR_val rfl (rn_fieldAddr (off := 3) (by kernel_rfl) rfl) ?_
                refine WR_yes rfl ?_
                refine WR_val rfl (rn_load rfl (Ld.row1 (hr7.new hBi) (by kernel_rfl) e3)) ?_
                refine WR_yes rfl ?_
                refine WR_val rfl (rn_neq rfl rfl) ?_
                refine WR_val rfl (rn_pick_f rfl) ?_
                refine WR_nil ?_
                refine thenN ?_
                refine W_ifp rfl (fun hq3 => ?_) (fun hq3 => ?_)
                ·
                  refine W_seq ?_
                  refine W_region ?_
                  refine WR_val rfl (rn_move) ?_
                  refine WR_ent rfl (rn_callc (by kernel_rfl) rfl rfl) (none30r w907) ?_
                  rintro _ w93 ⟨rfl, hb93⟩
                  replace hr11 := hr11.new hb93
                  replace hBr := hBr.acc hb93
                  replace hBi := hBi.acc hb93
                  refine WR_val rfl (rn_extract rfl rfl) ?_
                  refine WR_val rfl (rn_extract rfl rfl) ?_
                  refine WR_val rfl (rn_extract rfl rfl) ?_
                  refine WR_val rfl (rn_extract rfl rfl) ?_
                  have hr2 := hr2.new hBi
                  have hBs := hBi.size
                  refine WR_sk rfl (sk_storeA 2 ([.int .u64 0, .int .i64 0]) rfl rfl hr2 (by kernel_rfl) (by first | assumption | (simp; done) | (simp [bv_length, *]; done)) (by first | (simp; done) | (simp [bv_length, *]; done) | rfl) (by first | exact bv_one _ | assumption | (simp [Value.oneCell']; done)) (fun w910 hr2 ho910 => ?_))
                  replace hr11 := hr11.only ho910 (by omega)
                  replace hBr := ho910.below hBr (by omega)
                  refine WR_val rfl (rn_assign) ?_
                  refine WR_val rfl (rn_assign) ?_
                  refine WR_val rfl (rn_assign) ?_
                  refine WR_nil ?_
                  refine thenN ?_
                  refine W_ret ?_
                  refine thenR ?_
                  refine blockR ?_
                  refine thenR ?_
                  refine loopR ?_
                  refine blockR ?_
                  refine thenR ?_
                  refine ret_ret [_, _, _, _] ⟨⟨_, rfl, Ld.rowA (k := 2) hr2 (by kernel_rfl) (by kernel_rfl) (by first | (simp; done) | (simp [bv_length, *]; done))⟩, rfl, rfl, rfl, trivial⟩ ?_
                  · exact ⟨hBr, .inl ⟨hbad (by rw [hGB, show decide (m' = m) = false from decide_eq_false (by omega), Bool.and_false]), rfl⟩⟩
                ·
                  refine W_skip ?_
                  refine thenN ?_
                  refine W_region ?_
                  refine WR_val rfl (rn_move) ?_
                  refine WR_val rfl (rn_fieldAddr (off := 4) (by kernel_rfl) rfl) ?_
                  refine WR_val rfl (rn_sliceAr1' (e := 5) (0) (48) (48) (48) (by kernel_rfl) rfl rfl rfl rfl (by simp) (by omega) (by omega) (by omega) (by omega) (by omega)) ?_
                  have hs100 := hr11.sl (m := 48) (sz := 1) 4 (by omega) (by unfold maxLen; omega)
                  rw [hkb] at hs100
                  have hv9 := hv9.new hBi
                  have hr7 := hr7.new hBi
                  have hr2 := hr2.new hBi
                  have hBs := hBi.size
                  have sz_hBr_101 := hBr.size
                  refine WR_mk rfl (mk_append (e := 5) (sz := 1) (bytes := 1) (z := Value.int .u8 0) (by kernel_rfl) rfl (by kernel_rfl) rfl (by decide) rfl hv9 rfl hs100 (bv_one _) (by unfold maxLen; omega) (by omega) (fun hm0 => by omega) (fun v101 w101 hv101 hgr101 hfr101 => ?_))
                  replace hr7 := hr7.own hv9 hgr101 (by omega)
                  replace hr2 := hr2.own hv9 hgr101 (by omega)
                  replace hBr := hBr.own hv9 hgr101 (by omega)
                  refine WR_val rfl (rn_assign) ?_
                  refine WR_nil ?_
                  refine blockN ?_
                  refine thenN ?_
                  refine W_region ?_
                  refine WR_val rfl (rn_add rfl rfl (Coup.w64 (by omega))) ?_
                  refine WR_val rfl (rn_move) ?_
                  refine WR_nil ?_
                  refine loopN ⟨(k + 1, v101), by simp only; omega, ⟨rfl, by go_num, rfl, rfl, rfl, rfl, rfl, rfl⟩, by simp only; omega, ?_, ?_, hr7, hr2, hBr, by have := hgr101.size; omega⟩
                  · intro j hj
                    rcases Nat.lt_or_ge j k with hj' | hj'
                    · exact hgood j hj'
                    · obtain rfl : j = k := by simp only at hj; omega
                      rw [hGB, hmk, decide_eq_true (by omega : c' = c ∧ n' = nn), decide_eq_true (by omega : p' = j), decide_eq_true (by omega : m' = m)]; rfl
                  · simp only
                    rw [hbs, bv_append, show 48 * (k + 1) = 48 * k + 48 by omega]
                    exact hv101
        · obtain rfl : k = m := by omega
          obtain ⟨g9, o9, c9, rfl, b9, l9, hc9⟩ := hv9.form' (by omega)
          have hx9 := hv9.sl
          have hbl := bodies_length l k (by omega)
          obtain ⟨Z, hZ⟩ : ∃ Z, Z = (bodies l k).drop (4 + joinK l k) := ⟨_, rfl⟩
          have hK := joinK_lt l k
          have hJ2 : J = (decide (joinK l k ≤ 32768) && decide (manyN (joinK l k) = k) && Z.all (· == 0)) := by
            rw [hJI, hm, decide_eq_true h0, decide_eq_true (by omega : 1 ≤ k), decide_eq_true (by omega : k ≤ 683), decide_eq_true (by omega : (k + 1) / 2 ≤ n), joinOk, ← hZ, List.all_eq_true.2 (fun j hj => hgood j (List.mem_range.1 hj))]
            simp only [Bool.true_and]
          have hx4 : SlAt wr (some ⟨g9, o9 + 0, none⟩) 4 1 (bv ((bodies l k).take 4)) := by
            have := hx9.subB 0 4 (by omega)
            rwa [List.drop_zero] at this
          have hN : ∀ q c w', SlAt w' q 4 1 (bv ((bodies l k).take 4)) → Calls Try.prog 33 [.slice q 4 c].toArray w' (Ret fun v w2 => v = .int .u64 (joinK l k) ∧ w' = w2) := fun q c w' hs => number33r q 4 c _ w' hs (by omega)
          clear hJI hJF
          generalize joinK l k = K at *
          refine W_seq ?_
          refine W_region ?_
          refine WR_val rfl (rn_lss rfl rfl) ?_
          refine WR_nil ?_
          refine thenN ?_
          refine W_seq ?_
          refine W_fp rfl ((by omega)) ?_
          refine W_exit ?_
          refine thenX ?_
          refine loopX ?_
          refine blockX ?_
          refine thenN ?_
          refine W_seq ?_
          refine W_region ?_
          refine WR_val rfl (rn_move) ?_
          refine WR_val rfl (rn_sliceSl1' (e := 5) (0) (4) (4) (4) (by kernel_rfl) rfl rfl ⟨_, _, rfl, rfl⟩ ⟨_, _, rfl, rfl⟩ (by simp) (by omega) (by omega) (by omega) (by omega) (by omega)) ?_
          refine WR_ent rfl (rn_call (by kernel_rfl) rfl) (hN _ _ wr hx4) ?_
          rintro _ _ ⟨rfl, rfl⟩
          refine WR_val rfl (rn_conv (k := .i64) (by kernel_rfl) (by kernel_rfl) rfl (w64 (by omega))) ?_
          refine WR_val rfl (rn_assign) ?_
          refine WR_nil ?_
          refine thenN ?_
          refine W_seq ?_
          refine W_seq ?_
          refine W_draw' [] (by kernel_rfl) ?_
          intro w911 hb911 hS911
          replace hr2 := hr2.new hb911
          replace hr7 := hr7.new hb911
          replace hx9 := hx9.new hb911
          replace hBr := hBr.acc hb911
          have hr2_d911 := hr2
          have hr7_d911 := hr7
          have hx9_d911 := hx9
          have hBr_d911 := hBr
          refine WA_take 0 (by kernel_rfl) rfl (fun _ _ => rn_move) ?_
          refine WA_take 1 (by kernel_rfl) rfl (fun _ _ => rn_gtr rfl rfl) ?_
          refine WA_take 2 (by kernel_rfl) rfl (fun _ _ => rn_move) ?_
          refine WA_part 109 rfl (fun hk1 => ?_) (fun hk1 => ?_)
          ·
            refine WA_skip 3 (by kernel_rfl) rfl ?_
            refine WA_skip 5 (by kernel_rfl) rfl ?_
            refine WA_skip 6 (by kernel_rfl) rfl ?_
            refine WA_skip 4 (by kernel_rfl) rfl ?_
            refine WA_skip 7 (by kernel_rfl) rfl ?_
            refine WA_take 8 (by kernel_rfl) rfl (fun _ _ => rn_pick_t rfl) ?_
            refine WA_done (by kernel_rfl) ?_
            refine thenN ?_
            refine W_t rfl ?_
            refine W_seq ?_
            refine W_region ?_
            refine WR_val rfl (rn_move) ?_
            refine WR_ent rfl (rn_callc (by kernel_rfl) rfl rfl) (none30r w911) ?_
            rintro _ w117 ⟨rfl, hb117⟩
            replace hr2 := hr2.new hb117
            replace hr7 := hr7.new hb117
            replace hx9 := hx9.new hb117
            replace hBr := hBr.acc hb117
            refine WR_val rfl (rn_extract rfl rfl) ?_
            refine WR_val rfl (rn_extract rfl rfl) ?_
            refine WR_val rfl (rn_extract rfl rfl) ?_
            refine WR_val rfl (rn_extract rfl rfl) ?_
            refine WR_sk rfl (sk_storeA 2 ([.int .u64 0, .int .i64 0]) rfl rfl hr2 (by kernel_rfl) (by first | assumption | (simp; done) | (simp [bv_length, *]; done)) (by first | (simp; done) | (simp [bv_length, *]; done) | rfl) (by first | exact bv_one _ | assumption | (simp [Value.oneCell']; done)) (fun w912 hr2 ho912 => ?_))
            replace hr7 := hr7.only ho912 (Nat.ne_of_gt lt_g2_g7)
            replace hx9 := hx9.only ho912 (by omega)
            replace hBr := ho912.below hBr (by omega)
            refine WR_val rfl (rn_assign) ?_
            refine WR_val rfl (rn_assign) ?_
            refine WR_val rfl (rn_assign) ?_
            refine WR_nil ?_
            refine thenN ?_
            refine W_ret ?_
            refine thenR ?_
            refine ret_ret [_, _, _, _] ⟨⟨_, rfl, Ld.rowA (k := 2) hr2 (by kernel_rfl) (by kernel_rfl) (by first | (simp; done) | (simp [bv_length, *]; done))⟩, rfl, rfl, rfl, trivial⟩ ?_
            · exact ⟨hBr, .inl ⟨by rw [hJ2, decide_eq_false (by omega)]; rfl, rfl⟩⟩
          ·
            refine WA_take 3 (by kernel_rfl) rfl (fun _ _ => rn_move) ?_
            refine WA_call 4 (by kernel_rfl) rfl (fun _ => rn_call (by kernel_rfl) rfl) (fun w' hS' => halves26r K (by omega) w') ?_
            refine WA_take 5 (by kernel_rfl) rfl (fun _ _ => rn_fieldAddr (off := 3) (by kernel_rfl) rfl) ?_
            refine WA_take 6 (by kernel_rfl) rfl (fun w' hS' => rn_load rfl (Ld.row1 (hr7_d911.kpd hS' (by first | (simp; done) | (simp; omega))) (by kernel_rfl) e3)) ?_
            refine WA_take 7 (by kernel_rfl) rfl (fun _ _ => rn_neq rfl rfl) ?_
            refine WA_take 8 (by kernel_rfl) rfl (fun _ _ => rn_pick_f rfl) ?_
            refine WA_done (by kernel_rfl) ?_
            refine thenN ?_
            refine W_ifp rfl (fun hk2 => ?_) (fun hk2 => ?_)
            ·
              refine W_seq ?_
              refine W_region ?_
              refine WR_val rfl (rn_move) ?_
              refine WR_ent rfl (rn_callc (by kernel_rfl) rfl rfl) (none30r w911) ?_
              rintro _ w117 ⟨rfl, hb117⟩
              replace hr2 := hr2.new hb117
              replace hr7 := hr7.new hb117
              replace hx9 := hx9.new hb117
              replace hBr := hBr.acc hb117
              refine WR_val rfl (rn_extract rfl rfl) ?_
              refine WR_val rfl (rn_extract rfl rfl) ?_
              refine WR_val rfl (rn_extract rfl rfl) ?_
              refine WR_val rfl (rn_extract rfl rfl) ?_
              refine WR_sk rfl (sk_storeA 2 ([.int .u64 0, .int .i64 0]) rfl rfl hr2 (by kernel_rfl) (by first | assumption | (simp; done) | (simp [bv_length, *]; done)) (by first | (simp; done) | (simp [bv_length, *]; done) | rfl) (by first | exact bv_one _ | assumption | (simp [Value.oneCell']; done)) (fun w913 hr2 ho913 => ?_))
              replace hr7 := hr7.only ho913 (Nat.ne_of_gt lt_g2_g7)
              replace hx9 := hx9.only ho913 (by omega)
              replace hBr := ho913.below hBr (by omega)
              refine WR_val rfl (rn_assign) ?_
              refine WR_val rfl (rn_assign) ?_
              refine WR_val rfl (rn_assign) ?_
              refine WR_nil ?_
              refine thenN ?_
              refine W_ret ?_
              refine thenR ?_
              refine ret_ret [_, _, _, _] ⟨⟨_, rfl, Ld.rowA (k := 2) hr2 (by kernel_rfl) (by kernel_rfl) (by first | (simp; done) | (simp [bv_length, *]; done))⟩, rfl, rfl, rfl, trivial⟩ ?_
              · exact ⟨hBr, .inl ⟨by rw [hJ2, decide_eq_false (by omega : ¬ manyN K = k), Bool.and_false]; rfl, rfl⟩⟩
            ·
              have hmk : manyN K = k := by omega
              have hmle := manyN_le K
              rw [hmk] at hmle
              refine W_skip ?_
              refine thenN ?_
              refine W_seq ?_
              refine W_seq ?_
              refine W_region ?_
              refine WR_val rfl (rn_move) ?_
              refine WR_val rfl (rn_move) ?_
              refine WR_val rfl (rn_add rfl rfl (w64 (by omega))) ?_
              refine WR_val rfl (rn_sliceSl (e := 5) (sz := 1) (4 + K) (_) (_) (by kernel_rfl) rfl ⟨_, _, rfl, by omega⟩ rfl rfl (by simp) (by omega) (by omega) (by omega)) ?_
              refine WR_val rfl (rn_lenSl (e := 5) (sz := 1) (by kernel_rfl) rfl rfl) ?_
              refine WR_val rfl (rn_move) ?_
              refine WR_nil ?_
              refine thenN ?_
              refine W_block ?_
              have hZl : Z.length = 48 * k - (4 + K) := by rw [hZ, List.length_drop, hbl]
              obtain ⟨oA, hA, hz9⟩ : ∃ oA, (if c9 = 4 + K then some (⟨g9, o9, none⟩ : Addr) else Option.map (fun x : Addr => x.add ((4 + K) * 1)) (some (⟨g9, o9, none⟩ : Addr))) = some ⟨g9, oA, none⟩ ∧ SlAt w911 (some ⟨g9, oA, none⟩) (48 * k - (4 + K)) 1 (bv Z) := by
                by_cases hq : c9 = 4 + K
                · refine ⟨o9, if_pos hq, by rw [bv_length, hZl, Nat.mul_one], by unfold maxLen; omega, fun q => by omega⟩
                · refine ⟨o9 + (4 + K) * 1, by rw [if_neg hq, Option.map_some, Addr.add_lit], ?_⟩
                  have := hx9.subB (4 + K) (48 * k - (4 + K)) (by omega)
                  rw [← hZ, List.take_of_length_le (by omega)] at this
                  rw [Nat.mul_one]; exact this
              refine W_loop (α := Nat) 0 (fun i => [(127, .int .i64 (i : Nat)), (126, .int .i64 ((48 * k - (4 + K) : Nat) : Int)), (125, .slice (some ⟨g9, oA, none⟩) (48 * k - (4 + K)) (c9 - (4 + K))), (9, .slice (some ⟨g9, o9, none⟩) (48 * k) c9), (13, .int .i64 K), (6, .func (.func 30) #[] #[]), (7, .pointer (some ⟨g7, 0, none⟩)), (2, .pointer (some ⟨g2, 0, none⟩))])
                (fun i w' => i ≤ 48 * k - (4 + K) ∧ (∀ j, j < i → Z[j]? = some 0) ∧ w' = w911) (fun i => 48 * k - (4 + K) - i)
                ⟨rfl, rfl, by rw [← hA]; rfl, rfl, rfl, rfl, rfl, rfl, rfl⟩ ⟨Nat.zero_le _, (by intro j hj; exact absurd hj (Nat.not_lt_zero _)), rfl⟩ ?_
              rintro i f2 wz ⟨hi, hzero, rfl⟩
              refine W_seq ?_
              refine W_region ?_
              refine WR_val rfl (rn_lss rfl rfl) ?_
              refine WR_nil ?_
              refine thenN ?_
              refine W_seq ?_
              refine W_ifp rfl (fun hlt2 => ?_) (fun hlt2 => ?_)
              ·
                refine W_skip ?_
                refine thenN ?_
                refine W_seq ?_
                refine W_block ?_
                refine W_seq ?_
                refine W_region ?_
                have hobt : ∃ z, Z[i]? = some z := ⟨_, List.getElem?_eq_getElem (by omega)⟩
                obtain ⟨z, hz⟩ := hobt
                refine WR_val rfl (rn_indexSl1 (e := 5) (by kernel_rfl) rfl rfl (i) (by omega) (by omega)) ?_
                refine WR_val rfl (rn_load rfl (Ld.sl1 hz9 (by kernel_rfl) (v := byteV z) (by rw [bv_get, hz]; rfl))) ?_
                refine WR_val rfl (rn_assign) ?_
                refine WR_nil ?_
                refine thenN ?_
                refine W_seq ?_
                refine W_region ?_
                refine WR_val rfl (rn_move) ?_
                refine WR_val rfl (rn_neq rfl rfl) ?_
                refine WR_nil ?_
                refine thenN ?_
                refine W_ifp rfl (fun hnz => ?_) (fun hnz => ?_)
                ·
                  refine W_seq ?_
                  refine W_region ?_
                  refine WR_val rfl (rn_move) ?_
                  refine WR_ent rfl (rn_callc (by kernel_rfl) rfl rfl) (none30r wz) ?_
                  rintro _ w134 ⟨rfl, hb134⟩
                  replace hr2 := hr2.new hb134
                  replace hr7 := hr7.new hb134
                  replace hx9 := hx9.new hb134
                  replace hBr := hBr.acc hb134
                  refine WR_val rfl (rn_extract rfl rfl) ?_
                  refine WR_val rfl (rn_extract rfl rfl) ?_
                  refine WR_val rfl (rn_extract rfl rfl) ?_
                  refine WR_val rfl (rn_extract rfl rfl) ?_
                  refine WR_sk rfl (sk_storeA 2 ([.int .u64 0, .int .i64 0]) rfl rfl hr2 (by kernel_rfl) (by first | assumption | (simp; done) | (simp [bv_length, *]; done)) (by first | (simp; done) | (simp [bv_length, *]; done) | rfl) (by first | exact bv_one _ | assumption | (simp [Value.oneCell']; done)) (fun w914 hr2 ho914 => ?_))
                  replace hr7 := hr7.only ho914 (Nat.ne_of_gt lt_g2_g7)
                  replace hx9 := hx9.only ho914 (by omega)
                  replace hBr := ho914.below hBr (by omega)
                  refine WR_val rfl (rn_assign) ?_
                  refine WR_val rfl (rn_assign) ?_
                  refine WR_val rfl (rn_assign) ?_
                  refine WR_nil ?_
                  refine thenN ?_
                  refine W_ret ?_
                  refine blockR ?_
                  refine thenR ?_
                  refine loopR ?_
                  refine blockR ?_
                  refine thenR ?_
                  refine ret_ret [_, _, _, _] ⟨⟨_, rfl, Ld.rowA (k := 2) hr2 (by kernel_rfl) (by kernel_rfl) (by first | (simp; done) | (simp [bv_length, *]; done))⟩, rfl, rfl, rfl, trivial⟩ ?_
                  · refine ⟨hBr, .inl ⟨?_, rfl⟩⟩
                    have : Z.all (· == 0) = false := List.all_eq_false.2 ⟨z, List.mem_of_getElem? hz, by
                      intro q
                      have q' : z = 0 := by simpa using q
                      exact hnz (by rw [q']; rfl)⟩
                    rw [hJ2, this, Bool.and_false]
                ·
                  refine W_skip ?_
                  refine blockN ?_
                  refine thenN ?_
                  refine W_region ?_
                  refine WR_val rfl (rn_add rfl rfl (Coup.w64 (by omega))) ?_
                  refine WR_val rfl (rn_move) ?_
                  refine WR_nil ?_
                  have hz0 : z = 0 := by
                    exact UInt8.toNat_inj.1 (by show z.toNat = 0; omega)
                  refine loopN ⟨i + 1, by omega, ⟨rfl, rfl, rfl, rfl, rfl, rfl, rfl, rfl, rfl⟩, by omega, ?_, rfl⟩
                  intro j hj
                  rcases Nat.lt_or_ge j i with hj' | hj'
                  · exact hzero j hj'
                  · obtain rfl : j = i := by omega
                    rw [hz, hz0]
              ·
                have hJt : J = true := by
                  have : Z.all (· == 0) = true := List.all_eq_true.2 fun x hx => by
                    obtain ⟨j, hj⟩ := List.mem_iff_getElem?.1 hx
                    have := hzero j (by have := (List.getElem?_eq_some_iff.1 hj).1; omega)
                    rw [hj] at this
                    simpa using this
                  rw [hJ2, this, decide_eq_true hmk, decide_eq_true (by omega)]; rfl
                have hJl : JB.length = K := by rw [hJB, List.length_take, List.length_drop, hbl]; omega
                obtain ⟨oC, hC, hzc⟩ : ∃ oC, (if 4 + K = 4 then some (⟨g9, o9, none⟩ : Addr) else Option.map (fun x : Addr => x.add (4 * 1)) (some (⟨g9, o9, none⟩ : Addr))) = some ⟨g9, oC, none⟩ ∧ ∀ w', SlAt w' (some ⟨g9, o9, none⟩) (48 * k) 1 (bv (bodies l k)) → SlAt w' (some ⟨g9, oC, none⟩) K 1 (bv JB) := by
                  by_cases hq : 4 + K = 4
                  · refine ⟨o9, if_pos hq, fun w' _ => ⟨by rw [bv_length, hJl, Nat.mul_one], by unfold maxLen; omega, fun q => by omega⟩⟩
                  · refine ⟨o9 + 4 * 1, by rw [if_neg hq, Option.map_some, Addr.add_lit], fun w' hw => ?_⟩
                    have := hw.subB 4 K (by omega)
                    rwa [← hJB] at this
                refine W_exit ?_
                refine thenX ?_
                refine loopX ?_
                refine blockX ?_
                refine thenN ?_
                refine W_seq ?_
                refine W_draw' [g2] (by kernel_rfl) ?_
                intro w915 hb915 hS915
                replace hr2 := hr2.new hb915
                replace hr7 := hr7.new hb915
                replace hx9 := hx9.new hb915
                replace hBr := hBr.acc hb915
                have hr2_d915 := hr2
                have hr7_d915 := hr7
                have hx9_d915 := hx9
                have hBr_d915 := hBr
                refine WA_take 0 (by kernel_rfl) rfl (fun _ _ => rn_fieldAddr (off := 0) (by kernel_rfl) rfl) ?_
                refine WA_take 1 (by kernel_rfl) rfl (fun w' hS' => rn_load rfl (Ld.rng ((hr7_d915.kpd hS' (by first | (simp; done) | (simp; omega))).range 0 [.int .u64 c, .int .i64 nn] (two_cells e0 e1)) (by kernel_rfl) (by kernel_rfl))) ?_
                refine WA_take 2 (by kernel_rfl) rfl (fun _ _ => rn_move) ?_
                refine WA_take 3 (by kernel_rfl) rfl (fun _ _ => rn_move) ?_
                refine WA_take 4 (by kernel_rfl) rfl (fun _ _ => rn_add rfl rfl (w64 (by omega))) ?_
                refine WA_take 5 (by kernel_rfl) rfl (fun _ _ => rn_move) ?_
                refine WA_take 6 (by kernel_rfl) rfl (fun _ _ => rn_add rfl rfl (w64 (by omega))) ?_
                refine WA_take 7 (by kernel_rfl) rfl (fun _ _ => rn_sliceSl (e := 5) (sz := 1) (4) (4 + K) (4 + K) (by kernel_rfl) rfl ⟨_, _, rfl, rfl⟩ ⟨_, _, rfl, by omega⟩ ⟨_, _, rfl, by omega⟩ (by simp) (by omega) (by omega) (by omega)) ?_
                refine WA_take 8 (by kernel_rfl) rfl (fun _ _ => rn_fieldAddr (off := 3) (by kernel_rfl) rfl) ?_
                refine WA_take 9 (by kernel_rfl) rfl (fun w' hS' => rn_load rfl (Ld.row1 (hr7_d915.kpd hS' (by first | (simp; done) | (simp; omega))) (by kernel_rfl) e3)) ?_
                refine WA_take 10 (by kernel_rfl) rfl (fun _ _ => rn_add rfl rfl (w64 (by omega))) ?_
                refine WA_take 11 (by kernel_rfl) rfl (fun _ _ => rn_quo0 rfl rfl (by omega) (by omega)) ?_
                refine WA_one 12 (by kernel_rfl) ?_
                refine WO_sk rfl rfl (sk_storeA 2 ([.int .u64 c, .int .i64 nn]) rfl rfl hr2 (by kernel_rfl) (by first | assumption | (simp; done) | (simp [bv_length, *]; done)) (by first | (simp; done) | (simp [bv_length, *]; done) | rfl) (by first | exact bv_one _ | assumption | (simp [Value.oneCell']; done)) (fun w917 hr2 ho917 => ?_))
                have hS916 := hS915.add1 ho917 (by first | (left; omega) | (right; simp; done) | (right; simp; omega))
                refine ⟨hS916, ?_⟩
                replace hr7 := hr7.only ho917 (Nat.ne_of_gt lt_g2_g7)
                replace hx9 := hx9.only ho917 (by omega)
                replace hBr := ho917.below hBr (by omega)
                refine WA_take 13 (by kernel_rfl) rfl (fun _ _ => rn_assign) ?_
                refine WA_take 14 (by kernel_rfl) rfl (fun _ _ => rn_assign) ?_
                refine WA_take 15 (by kernel_rfl) rfl (fun _ _ => rn_assign) ?_
                refine WA_done (by kernel_rfl) ?_
                refine thenN ?_
                refine W_ret ?_
                refine ret_ret [_, _, _, _] ⟨⟨_, rfl, Ld.rowA (k := 2) hr2 (by kernel_rfl) (by kernel_rfl) (by first | (simp; done) | (simp [bv_length, *]; done))⟩, rfl, rfl, rfl, trivial⟩ ?_
                refine ⟨hBr, .inr ⟨hJt, some ⟨g9, oC, none⟩, ?_, by rw [hJl]; exact hzc _ hx9⟩⟩
                have e : Value.tuple #[.agg #[.int .u64 c, .int .i64 nn], .slice (if 4 + K = 4 then some (⟨g9, o9, none⟩ : Addr) else Option.map (fun x : Addr => x.add (4 * 1)) (some (⟨g9, o9, none⟩ : Addr))) (4 + K - 4) (4 + K - 4), .int .i64 (((k : Int) + 1) / 2), .int .i64 0] =
                    .tuple #[.agg #[.int .u64 c, .int .i64 nn], .slice (some ⟨g9, oC, none⟩) JB.length JB.length, .int .i64 (needN JB.length : Nat), .int .i64 0] := by
                  rw [hC, hJl, needN, hmk, Nat.add_sub_cancel_left]; rfl
                exact e
end Go.Proofs.Ytnlocpldghpfcaa
